/-
  CLOSED RUNS ARE RUNS OF THE EXECUTOR: operations. Generic: no program in sight. An own text.
-/
import Derived.Test.YtcgehmlhafjfkaaGreatDoorSx32
namespace Go.Sx

theorem nav_c {r : SV} : ∀ {p : List Step} {v : SV} {K : SV → Rt} {K' : SV → Prop}, navC v p K = some r → (∀ s, K s = some r → K' s) → nav v p K'
  | [], v, K, K', hk, h => by
    simp only [navC, nav, frc_eq] at hk ⊢
    exact h _ hk
  | .fld i off :: p, v, K, K', hk, h => by
    simp only [navC, nav] at hk ⊢
    split at hk
    case h_2 => cases hk
    split at hk
    case h_2 => cases hk
    rename_i e1
    split at hk
    case h_2 => cases hk
    rename_i e2
    simp only [e1, e2]
    exact nav_c hk h
  | .idx i sz :: p, v, K, K', hk, h => by
    simp only [navC, nav] at hk ⊢
    split at hk
    case h_2 => cases hk
    split at hk
    case h_2 => cases hk
    rename_i e1
    simp only [e1]
    exact idx_c hk fun s hs => nav_c hs h

theorem upd_c {r : SV} {x : SV} : ∀ {p : List Step} {v : SV} {K : SV → Rt} {K' : SV → Prop}, updC v x p K = some r → (∀ s, K s = some r → K' s) → upd v x p K'
  | [], v, K, K', hk, h => by
    simp only [updC, upd, frc_eq] at hk ⊢
    split at hk
    case h_2 => cases hk
    rename_i e1
    simp only [e1]
    exact h _ hk
  | .fld i off :: p, v, K, K', hk, h => by
    simp only [updC, upd] at hk ⊢
    split at hk
    case h_2 => cases hk
    split at hk
    case h_2 => cases hk
    rename_i e1
    split at hk
    case h_2 => cases hk
    rename_i e2
    simp only [e1, e2]
    refine upd_c hk fun s hs => ?_
    rw [frcL_eq] at hs ⊢
    exact h _ hs
  | .idx i sz :: p, v, K, K', hk, h => by
    simp only [updC, upd] at hk ⊢
    split at hk
    case h_2 => cases hk
    split at hk
    case h_2 => cases hk
    rename_i e1
    simp only [e1]
    exact idx_c hk fun s hs => upd_c hs fun s' hs' => h _ hs'

mutual
theorem frz_c {r : SV} {h : Heap} : ∀ {d : Nat} {v : SV} {ns : List Nat} {K : SV → List Nat → Rt} {K' : SV → List Nat → Prop}, frzC h d v ns K = some r → (∀ s ns, K s ns = some r → K' s ns) → frz h d v ns K'
  | 0, _, _, _, _, hk, _ => by simp only [frzC] at hk; cases hk
  | d + 1, v, ns, K, K', hk, g => by
    cases v with
    | ptr b p =>
      simp only [frzC, frz] at hk ⊢
      split at hk
      case h_2 => cases hk
      rename_i e1
      simp only [e1]
      exact nav_c hk fun s hs => frz_c hs fun s' ns' h' => g _ _ h'
    | osl b sz =>
      simp only [frzC, frz] at hk ⊢
      split at hk
      case h_2 => cases hk
      rename_i e1
      simp only [e1]
      split at hk
      case h_2 => cases hk
      rename_i e2
      simp only [e2]
      exact g _ _ hk
    | agg fs => simp only [frzC, frz] at hk ⊢; exact frzL_c hk fun s' ns' h' => g _ _ h'
    | tup fs => simp only [frzC, frz] at hk ⊢; exact frzL_c hk fun s' ns' h' => g _ _ h'
    | fn f fs => simp only [frzC, frz] at hk ⊢; exact frzL_c hk fun s' ns' h' => g _ _ h'
    | yld b => simp only [frzC] at hk; cases hk
    | _ => simp only [frzC, frz, frc_eq] at hk ⊢; exact g _ _ hk
theorem frzL_c {r : SV} {h : Heap} : ∀ {d : Nat} {v : List SV} {ns : List Nat} {K : List SV → List Nat → Rt} {K' : List SV → List Nat → Prop}, frzLC h d v ns K = some r → (∀ s ns, K s ns = some r → K' s ns) → frzL h d v ns K'
  | 0, _, _, _, _, hk, _ => by simp only [frzLC] at hk; cases hk
  | d + 1, [], ns, K, K', hk, g => by simp only [frzLC, frzL] at hk ⊢; exact g _ _ hk
  | d + 1, v :: r, ns, K, K', hk, g => by
    simp only [frzLC, frzL] at hk ⊢
    exact frz_c hk fun s ns h1 => frzL_c h1 fun s' ns' h' => g _ _ h'
end

theorem sol_c {r : SV} {v : SV} {K : SV → Rt} {K' : SV → Prop} (hk : solC v K = some r) (h : ∀ s, K s = some r → K' s) : solid v K' := by
  cases v <;> simp only [solC, solid, frc_eq] at hk ⊢ <;> first | cases hk | exact h _ hk

section
variable {E : Env} {sl : Slots} {h : Heap} {n : Nat}
theorem bin_c {r : SV} {op : BinOp} {T : TypeId} {x y : SV} {K : SV → Rt} {K' : SV → Prop} (hk : binC E op T x y K = some r) (h : ∀ s, K s = some r → K' s) : binX E op T x y K' := by
  unfold binC at hk
  unfold binX
  simp only [frI_eq, frB_eq, frStr_eq] at hk
  split at hk <;> simp only at hk ⊢ <;> (try cases hk)
  all_goals first
    | exact h _ hk
    | exact side_c hk fun hk => arith_c hk fun r hr => h _ hr
    | exact side_c hk fun hk => h _ hk
    | (split at hk
       case h_2 => cases hk
       rename_i e; simp only [e]
       first | exact h _ hk | exact arith_c hk fun r hr => h _ hr | exact side_c hk fun hk => arith_c hk fun r hr => h _ hr | exact side_c hk fun hk => h _ hk)

theorem bnd_c {r : SV} {lo hi : Option Operand} {m : Nat} {K : Int → Int → Rt} {K' : Int → Int → Prop} (hk : bndC E sl lo hi m K = some r) (h : ∀ a b, K a b = some r → K' a b) : bnds E sl lo hi m K' := by
  unfold bndC at hk
  unfold bnds
  split at hk
  · split at hk
    · exact h _ _ hk
    · split at hk
      · rename_i e; simp only [e]; exact side_c hk fun hk => h _ _ hk
      · cases hk
  · split at hk
    · rename_i e1
      split at hk
      · simp only [e1]; exact side_c hk fun hk => h _ _ hk
      · split at hk
        · rename_i e2; simp only [e1, e2]; exact side_c hk fun hk => h _ _ hk
        · cases hk
    · cases hk

theorem row_c {r : SV} {v : SV} {K : Option (Nat × List SV) → Rt} {K' : Option (Nat × List SV) → Prop} (hk : rowC h v K = some r) (g : ∀ s, K s = some r → K' s) : rows h v K' := by
  cases v <;> simp only [rowC, rows] at hk ⊢ <;> first
    | (cases hk; done)
    | exact g _ hk
    | (split at hk
       case h_2 => cases hk
       rename_i e; simp only [e]; exact g _ hk)

theorem fil_c {r : SV} : ∀ {l : List (Nat × Operand)} {vs : List SV} {K : List SV → Rt} {K' : List SV → Prop}, filC E sl l vs K = some r → (∀ s, K s = some r → K' s) → fillF E sl l vs K'
  | [], vs, K, K', hk, g => by simp only [filC, fillF, frcL_eq] at hk ⊢; exact g _ hk
  | (i, x) :: r, vs, K, K', hk, g => by
    simp only [filC, fillF] at hk ⊢
    split at hk
    case h_2 => cases hk
    rename_i e1
    simp only [e1]
    refine sol_c hk fun v hv => ?_
    split at hv
    case h_2 => cases hv
    rename_i e2
    simp only [e2]
    exact fil_c hv g
theorem sols_c {r : SV} {sz : Nat} : ∀ {l : List (Nat × Operand)} {K : List SV → Rt} {K' : List SV → Prop}, solsC E sl sz l K = some r → (∀ s, K s = some r → K' s) → solids E sl sz l K'
  | [], K, K', hk, g => by simp only [solsC, solids] at hk ⊢; exact g _ hk
  | (i, x) :: r, K, K', hk, g => by
    simp only [solsC, solids] at hk ⊢
    refine sol_c hk fun v hv => ?_
    split at hv
    case h_2 => cases hv
    rename_i e2
    simp only [e2]
    exact sols_c hv fun s hs => g _ hs

theorem stoV_c {r : SV} {b : Nat} {v : SV} {p : List Step} {u : SV} {K : KC} {K' : KE} (hk : stoVC h b v p u K = some r) (g : ∀ a b c, K a b c = some r → K' a b c) : storeV h b v p u K' := by
  unfold stoVC at hk
  unfold storeV
  split at hk
  · rename_i e; simp only [e]; exact upd_c hk fun s hs => g _ _ _ hs
  · rename_i e; simp only [e]
    refine frz_c hk fun s ns hs => ?_
    split at hs
    case h_2 => cases hs
    rename_i e1; simp only [e1]
    exact upd_c hs fun s hs => g _ _ _ hs
theorem stoR_c {r : SV} {b sz : Nat} {xs : List SV} {p : List Step} {u : SV} {K : KC} {K' : KE} (hk : stoRC h b sz xs p u K = some r) (g : ∀ a b c, K a b c = some r → K' a b c) : storeR h b sz xs p u K' := by
  unfold stoRC at hk
  unfold storeR
  refine frz_c hk fun s ns hs => ?_
  split at hs
  case h_2 => cases hs
  rename_i e1
  split at hs
  case h_2 => cases hs
  rename_i e2
  simp only [e1, e2]
  exact idx_c hs fun s hs => upd_c hs fun s hs => g _ _ _ hs

theorem shp_c {r : SV} {d : TD} {b : Bool} {K : Rt} {p : Prop} (hk : (match d, b with
    | .other, _ => none
    | .strct _, true | .arr .., true => K
    | .strct _, false | .arr .., false => none
    | _, false => K
    | _, true => none) = some r) (g : K = some r → p) : shp d b p := by
  cases d <;> cases b <;> first | exact g hk | exact absurd hk (by simp)
end
end Go.Sx
