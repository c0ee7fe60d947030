/-
  WHAT AN OPERATION YIELDS IS ONE RESULT. Generic: no program in sight. An own text.
-/
import Derived.Test.YtcgehmlhafjfkaaGreatDoorSx21
namespace Go.Sx
open Go.RowKit (Below)

theorem idx_pf {xs : List SV} {i : Int} {K : SV → Prop} (h : IdxVC xs i K) : ∃ s, K s ∧ ∀ K', K' s → IdxVC xs i K' := by
  unfold IdxVC at h
  obtain ⟨s, h0, h1, k⟩ := h
  exact ⟨s, k, fun K' k' => idx_some h0 h1 k'⟩
theorem byte_pf {xs : List UInt8} {i : Int} {K : UInt8 → Prop} (h : ByteVC xs i K) : ∃ s, K s ∧ ∀ K', K' s → ByteVC xs i K' := by
  unfold ByteVC at h
  obtain ⟨s, h0, h1, k⟩ := h
  exact ⟨s, k, fun K' k' => by unfold ByteVC; exact ⟨s, h0, h1, k'⟩⟩
theorem arith_pf {q : IntKind} {e : Int} {K : Int → Prop} (h : ArithVC q e K) : ∃ r, K r ∧ ∀ K', K' r → ArithVC q e K' := by
  unfold ArithVC at h
  obtain ⟨r, h0, k⟩ := h
  exact ⟨r, k, fun K' k' => by unfold ArithVC; exact ⟨r, h0, k'⟩⟩
theorem side_pf {p : Prop} {K : Prop} (h : SideVC p K) : p ∧ K := by unfold SideVC at h; exact h
theorem call_pf {E : Env} {f : FuncId} {args : List SV} {K : SV → Prop} (h : CallVC E f args K) : ∃ r, K r ∧ ∀ K', K' r → CallVC E f args K' := by
  unfold CallVC at h
  obtain ⟨r, h0, k⟩ := h
  exact ⟨r, k, fun K' k' => by unfold CallVC; exact ⟨r, h0, k'⟩⟩

theorem nav_pf : ∀ {p : List Step} {v : SV} {K : SV → Prop}, nav v p K → ∃ s, K s ∧ ∀ K', K' s → nav v p K'
  | [], v, K, h => by
    simp only [nav, frc_eq] at h ⊢
    exact ⟨v, h, fun K' k => k⟩
  | .fld i off :: p, v, K, h => by
    simp only [nav] at h
    split at h
    case h_2 => exact h.elim
    rename_i fs
    split at h
    case h_2 => exact h.elim
    rename_i e1
    split at h
    case h_2 => exact h.elim
    rename_i s e2
    obtain ⟨r, k, g⟩ := nav_pf h
    exact ⟨r, k, fun K' k' => by simp only [nav, e1, e2]; exact g K' k'⟩
  | .idx i sz :: p, v, K, h => by
    simp only [nav] at h
    split at h
    case h_2 => exact h.elim
    rename_i n sz' xs
    split at h
    case h_2 => exact h.elim
    rename_i e1
    obtain ⟨s, k1, g1⟩ := idx_pf h
    obtain ⟨r, k, g⟩ := nav_pf k1
    exact ⟨r, k, fun K' k' => by simp only [nav, e1]; exact g1 _ (g K' k')⟩

theorem upd_pf {x : SV} : ∀ {p : List Step} {v : SV} {K : SV → Prop}, upd v x p K → ∃ s, K s ∧ ∀ K', K' s → upd v x p K'
  | [], v, K, h => by
    simp only [upd] at h
    split at h
    case h_2 => exact h.elim
    rename_i e1
    rw [frc_eq] at h
    exact ⟨x, h, fun K' k => by simp only [upd, e1, frc_eq]; exact k⟩
  | .fld i off :: p, v, K, h => by
    simp only [upd] at h
    split at h
    case h_2 => exact h.elim
    rename_i fs
    split at h
    case h_2 => exact h.elim
    rename_i e1
    split at h
    case h_2 => exact h.elim
    rename_i s e2
    obtain ⟨r, k, g⟩ := upd_pf h
    rw [frcL_eq] at k
    exact ⟨_, k, fun K' k' => by simp only [upd, e1, e2]; exact g _ (by rw [frcL_eq]; exact k')⟩
  | .idx i sz :: p, v, K, h => by
    simp only [upd] at h
    split at h
    case h_2 => exact h.elim
    rename_i n sz' xs
    split at h
    case h_2 => exact h.elim
    rename_i e1
    obtain ⟨s, k1, g1⟩ := idx_pf h
    obtain ⟨r, k, g⟩ := upd_pf k1
    exact ⟨_, k, fun K' k' => by simp only [upd, e1]; exact g1 _ (g _ k')⟩

theorem solid_pf {v : SV} {K : SV → Prop} (h : solid v K) : K v ∧ ∀ K', K' v → solid v K' := by
  cases v <;> first | exact h.elim | exact ⟨h, fun _ k => k⟩

mutual
theorem frz_pf {h : Heap} : ∀ {d : Nat} {v : SV} {ns : List Nat} {K : SV → List Nat → Prop}, frz h d v ns K → ∃ v' ns', K v' ns' ∧ ∀ K', K' v' ns' → frz h d v ns K'
  | 0, _, _, _, hk => by simp only [frz] at hk
  | d + 1, v, ns, K, hk => by
    simp only [frz] at hk
    split at hk
    · rename_i b p
      split at hk
      case h_2 => exact hk.elim
      rename_i own u e1
      obtain ⟨s, k1, g1⟩ := nav_pf hk
      obtain ⟨v', ns', k2, g2⟩ := frz_pf k1
      exact ⟨_, _, k2, fun K' k' => by simp only [frz, e1]; exact g1 _ (g2 _ k')⟩
    · rename_i b sz
      split at hk
      case h_2 => exact hk.elim
      rename_i own sz' xs e1
      split at hk
      case h_2 => exact hk.elim
      rename_i e2
      exact ⟨_, _, hk, fun K' k' => by simp only [frz, e1, e2]; exact k'⟩
    · obtain ⟨v', ns', k2, g2⟩ := frzL_pf hk
      exact ⟨_, _, k2, fun K' k' => by simp only [frz]; exact g2 _ k'⟩
    · obtain ⟨v', ns', k2, g2⟩ := frzL_pf hk
      exact ⟨_, _, k2, fun K' k' => by simp only [frz]; exact g2 _ k'⟩
    · obtain ⟨v', ns', k2, g2⟩ := frzL_pf hk
      exact ⟨_, _, k2, fun K' k' => by simp only [frz]; exact g2 _ k'⟩
    · exact hk.elim
    · rename_i h1 h2 h3 h4 h5 h6
      rw [frc_eq] at hk
      refine ⟨v, ns, hk, fun K' k' => ?_⟩
      cases v <;> first | (simp only [frz]; exact k') | exact absurd rfl (h1 _ _) | exact absurd rfl (h2 _ _) | exact absurd rfl (h3 _) | exact absurd rfl (h4 _) | exact absurd rfl (h5 _ _) | exact absurd rfl (h6 _)
theorem frzL_pf {h : Heap} : ∀ {d : Nat} {l : List SV} {ns : List Nat} {K : List SV → List Nat → Prop}, frzL h d l ns K → ∃ l' ns', K l' ns' ∧ ∀ K', K' l' ns' → frzL h d l ns K'
  | 0, _, _, _, hk => by simp only [frzL] at hk
  | d + 1, [], ns, K, hk => by
    simp only [frzL] at hk
    exact ⟨_, _, hk, fun K' k' => by simp only [frzL]; exact k'⟩
  | d + 1, v :: r, ns, K, hk => by
    simp only [frzL] at hk
    obtain ⟨v', ns', k1, g1⟩ := frz_pf hk
    obtain ⟨l', ns2, k2, g2⟩ := frzL_pf k1
    exact ⟨_, _, k2, fun K' k' => by simp only [frzL]; exact g1 _ (g2 _ k')⟩
end

theorem binX_pf {E : Env} {op : BinOp} {T : TypeId} {x y : SV} {K : SV → Prop} (h : binX E op T x y K) : ∃ v, K v ∧ ∀ K', K' v → binX E op T x y K' := by
  unfold binX at h
  split at h <;> first
    | exact h.elim
    | (split at h
       case h_2 => exact h.elim
       rename_i e1
       first
        | (obtain ⟨r, k, g⟩ := arith_pf h; exact ⟨_, k, fun K' k' => by simp only [binX, e1]; exact g _ k'⟩)
        | (obtain ⟨p, h⟩ := side_pf h; obtain ⟨r, k, g⟩ := arith_pf h; exact ⟨_, k, fun K' k' => by simp only [binX, e1]; exact side p (g _ k')⟩)
        | (obtain ⟨p, h⟩ := side_pf h; exact ⟨_, h, fun K' k' => by simp only [binX, e1]; exact side p k'⟩)
        | exact ⟨_, h, fun K' k' => by simp only [binX, e1]; exact k'⟩)
    | (obtain ⟨p, h⟩ := side_pf h; obtain ⟨r, k, g⟩ := arith_pf h; exact ⟨_, k, fun K' k' => by simp only [binX]; exact side p (g _ k')⟩)
    | (obtain ⟨p, h⟩ := side_pf h; exact ⟨_, h, fun K' k' => by simp only [binX]; exact side p k'⟩)
    | (split at h
       · rename_i b e1; exact ⟨_, h, fun K' k' => by simp only [binX, e1]; exact k'⟩
       · exact h.elim)

theorem bnds_pf {E : Env} {sl : Slots} {lo hi : Option Operand} {n : Nat} {K : Int → Int → Prop} (h : bnds E sl lo hi n K) : ∃ l r, K l r ∧ ∀ K', K' l r → bnds E sl lo hi n K' := by
  unfold bnds at h
  split at h
  · split at h
    · exact ⟨_, _, h, fun K' k => by simp only [bnds]; exact k⟩
    · split at h
      · rename_i e; obtain ⟨p, h⟩ := side_pf h; exact ⟨_, _, h, fun K' k => by simp only [bnds, e]; exact side p k⟩
      · exact h.elim
  · split at h
    · rename_i e1
      split at h
      · obtain ⟨p, h⟩ := side_pf h; exact ⟨_, _, h, fun K' k => by simp only [bnds, e1]; exact side p k⟩
      · split at h
        · rename_i e; obtain ⟨p, h⟩ := side_pf h; exact ⟨_, _, h, fun K' k => by simp only [bnds, e1, e]; exact side p k⟩
        · exact h.elim
    · exact h.elim

theorem rows_pf {h : Heap} {v : SV} {K : Option (Nat × List SV) → Prop} (hk : rows h v K) : ∃ o, K o ∧ ∀ K', K' o → rows h v K' := by
  unfold rows at hk
  split at hk
  · exact ⟨_, hk, fun K' k => by simp only [rows]; exact k⟩
  · split at hk
    · rename_i e; exact ⟨_, hk, fun K' k => by simp only [rows, e]; exact k⟩
    · exact hk.elim
  · exact ⟨_, hk, fun K' k => by simp only [rows]; exact k⟩
  · exact ⟨_, hk, fun K' k => by simp only [rows]; exact k⟩
  · exact hk.elim

theorem fillF_pf {E : Env} {sl : Slots} : ∀ {l : List (Nat × Operand)} {vs : List SV} {K : List SV → Prop}, fillF E sl l vs K → ∃ r, K r ∧ ∀ K', K' r → fillF E sl l vs K'
  | [], vs, K, h => by
    simp only [fillF, frcL_eq] at h ⊢
    exact ⟨_, h, fun K' k => k⟩
  | (i, x) :: r, vs, K, h => by
    simp only [fillF] at h
    split at h
    case h_2 => exact h.elim
    rename_i z e1
    obtain ⟨k1, g1⟩ := solid_pf h
    split at k1
    case h_2 => exact k1.elim
    rename_i e2
    obtain ⟨s, k2, g2⟩ := fillF_pf k1
    exact ⟨_, k2, fun K' k' => by simp only [fillF, e1]; exact g1 _ (by simp only [e2]; exact g2 _ k')⟩

theorem solids_pf {E : Env} {sl : Slots} {sz : Nat} : ∀ {l : List (Nat × Operand)} {K : List SV → Prop}, solids E sl sz l K → ∃ r, K r ∧ ∀ K', K' r → solids E sl sz l K'
  | [], K, h => by
    simp only [solids] at h ⊢
    exact ⟨_, h, fun K' k => k⟩
  | (i, x) :: r, K, h => by
    simp only [solids] at h
    obtain ⟨k1, g1⟩ := solid_pf h
    split at k1
    case h_2 => exact k1.elim
    rename_i e2
    obtain ⟨s, k2, g2⟩ := solids_pf k1
    exact ⟨_, k2, fun K' k' => by simp only [solids]; exact g1 _ (by simp only [e2]; exact g2 _ k')⟩

theorem storeV_pf {h : Heap} {b : Nat} {v : SV} {p : List Step} {u : SV} {K : KE} (hk : storeV h b v p u K) : ∃ v' ns ea, K v' ns ea ∧ ∀ K', K' v' ns ea → storeV h b v p u K' := by
  unfold storeV at hk
  split at hk
  · rename_i e1
    obtain ⟨s, k, g⟩ := upd_pf hk
    exact ⟨_, _, _, k, fun K' k' => by simp only [storeV, e1]; exact g _ k'⟩
  · rename_i e1
    obtain ⟨u', ns, k1, g1⟩ := frz_pf hk
    split at k1
    case h_2 => exact k1.elim
    rename_i e2
    obtain ⟨s, k, g⟩ := upd_pf k1
    exact ⟨_, _, _, k, fun K' k' => by simp only [storeV, e1]; exact g1 _ (by simp only [e2]; exact g _ k')⟩

theorem storeR_pf {h : Heap} {b sz : Nat} {xs : List SV} {p : List Step} {u : SV} {K : KE} (hk : storeR h b sz xs p u K) : ∃ v' ns ea, K v' ns ea ∧ ∀ K', K' v' ns ea → storeR h b sz xs p u K' := by
  unfold storeR at hk
  obtain ⟨u', ns, k1, g1⟩ := frz_pf hk
  split at k1
  case h_2 => exact k1.elim
  rename_i e1 e2
  split at k1
  case h_2 => exact k1.elim
  rename_i e3
  obtain ⟨s, k2, g2⟩ := idx_pf k1
  obtain ⟨s2, k3, g3⟩ := upd_pf k2
  exact ⟨_, _, _, k3, fun K' k' => by unfold storeR; exact g1 _ (by simp only [e2, e3]; exact g2 _ (g3 _ k'))⟩
end Go.Sx
