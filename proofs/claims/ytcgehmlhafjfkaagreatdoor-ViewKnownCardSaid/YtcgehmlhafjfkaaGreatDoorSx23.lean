/-
  WHAT AN OPERATION YIELDS IS ONE RESULT: all operations. Generic: no program in sight. An own text.
-/
import Derived.Test.YtcgehmlhafjfkaaGreatDoorSx22
namespace Go.Sx
open Go.RowKit (Below)

def OpR (E : Env) (sl : Slots) (h : Heap) (n : Nat) (o : Op) (v : SV) (ns : List Nat) (ea : EA) : Prop := ∀ K : KE, K v ns ea → opE E sl h n o K

def shp (d : TD) (b : Bool) (p : Prop) : Prop :=
  match d, b with
  | .other, _ => False
  | .strct _, true | .arr .., true => p
  | .strct _, false | .arr .., false => False
  | _, false => p
  | _, true => False
theorem shp_pf {d : TD} {b : Bool} {p : Prop} (h : shp d b p) : p ∧ ∀ q : Prop, q → shp d b q := by
  cases d <;> cases b <;> first | exact h.elim | exact ⟨h, fun _ k => k⟩

section
variable {E : Env} {sl : Slots} {h : Heap} {n : Nat} {K : KE}

theorem pf_leaf {v : SV} {ns : List Nat} {ea : EA} {o : Op} (k : K v ns ea) (g : ∀ K : KE, K v ns ea → opE E sl h n o K) : ∃ v ns ea, K v ns ea ∧ OpR E sl h n o v ns ea := ⟨v, ns, ea, k, g⟩

theorem opE_pf {o : Op} (hk : opE E sl h n o K) : ∃ v ns ea, K v ns ea ∧ OpR E sl h n o v ns ea := by
  cases o with
  | move x => simp only [opE, frc_eq] at hk; exact pf_leaf hk fun K' k => by simp only [opE, frc_eq]; exact k
  | assign x => simp only [opE, frc_eq] at hk; exact pf_leaf hk fun K' k => by simp only [opE, frc_eq]; exact k
  | pick c a b =>
    simp only [opE, frc_eq] at hk
    split at hk
    · rename_i e; exact pf_leaf hk fun K' k => by simp only [opE, frc_eq, e]; exact k
    · rename_i e; exact pf_leaf hk fun K' k => by simp only [opE, frc_eq, e]; exact k
    · exact hk.elim
  | alloc T =>
    simp only [opE] at hk
    obtain ⟨k, g⟩ := solid_pf hk
    exact pf_leaf k fun K' k => by simp only [opE]; exact g _ k
  | box T x =>
    simp only [opE] at hk
    obtain ⟨k, g⟩ := solid_pf hk
    exact pf_leaf k fun K' k => by simp only [opE]; exact g _ k
  | build T ps =>
    simp only [opE] at hk
    split at hk
    · rename_i e1 e2
      split at hk
      case h_2 => exact hk.elim
      rename_i e3
      obtain ⟨r, k, g⟩ := fillF_pf hk
      exact pf_leaf k fun K' k => by simp only [opE, e1, e2, e3]; exact g _ k
    · rename_i e1 e2
      split at hk
      case h_2 => exact hk.elim
      rename_i e3 e4
      obtain ⟨r, k, g⟩ := fillF_pf hk
      obtain ⟨l', ns', k2, g2⟩ := frzL_pf k
      exact pf_leaf k2 fun K' k => by simp only [opE, e1, e2, e3, e4]; exact g _ (g2 _ k)
    · exact hk.elim
  | buildSlice T len ps =>
    simp only [opE] at hk
    split at hk
    case h_2 => exact hk.elim
    rename_i e0
    split at hk
    · exact hk.elim
    · rename_i e1 e2 e3 e4
      obtain ⟨r, k, g⟩ := solids_pf hk
      obtain ⟨l', ns', k2, g2⟩ := frzL_pf k
      exact pf_leaf k2 fun K' k => by simp only [opE, e0, e1, e2, e3]; exact g _ (g2 _ k)
    · rename_i e1 e2 e3 e4
      obtain ⟨k, g0⟩ := solid_pf hk
      split at k
      case h_2 => exact k.elim
      rename_i e5
      obtain ⟨r, k, g⟩ := fillF_pf k
      obtain ⟨l', ns', k2, g2⟩ := frzL_pf k
      exact pf_leaf k2 fun K' k => by simp only [opE, e0, e1, e2, e3]; exact g0 _ (by simp only [e5]; exact g _ (g2 _ k))
    · exact hk.elim
  | nilCheck x =>
    simp only [opE] at hk
    split at hk <;> first | exact hk.elim | (rename_i e; exact pf_leaf hk fun K' k => by simp only [opE, e]; exact k)
  | fieldAddr T x f =>
    simp only [opE] at hk
    split at hk
    case h_2 => exact hk.elim
    rename_i e1
    split at hk
    case h_2 => exact hk.elim
    rename_i e2
    split at hk
    case h_2 => exact hk.elim
    rename_i e3
    split at hk
    · rename_i e4; exact pf_leaf hk fun K' k => by simp only [opE, e1, e2, e3, e4]; exact k
    · rename_i e4
      obtain ⟨s, k, g⟩ := nav_pf hk
      exact pf_leaf k fun K' k => by simp only [opE, e1, e2, e3, e4]; exact g _ k
    · exact hk.elim
  | field T x f =>
    simp only [opE] at hk
    split at hk
    case h_2 => exact hk.elim
    rename_i e1
    split at hk
    case h_2 => exact hk.elim
    rename_i e2
    obtain ⟨s, k, g⟩ := nav_pf hk
    split at k
    case h_2 => exact k.elim
    rename_i e3
    obtain ⟨k, g'⟩ := shp_pf (p := K s [] .nil) k
    exact pf_leaf k fun K' k => by simp only [opE, e1, e2]; exact g _ (by simp only [e3]; exact g' _ k)
  | load T x =>
    simp only [opE] at hk
    split at hk
    · rename_i e1
      split at hk
      · rename_i e2
        obtain ⟨s, k, g⟩ := nav_pf hk
        split at k
        case h_2 => exact k.elim
        rename_i e3
        obtain ⟨k, g'⟩ := shp_pf (p := K s [] .nil) k
        exact pf_leaf k fun K' k => by simp only [opE, e1, e2]; exact g _ (by simp only [e3]; exact g' _ k)
      · rename_i e2
        split at hk
        · exact hk.elim
        · obtain ⟨s, k, g⟩ := nav_pf hk
          split at k
          case h_2 => exact k.elim
          rename_i e3
          obtain ⟨k, g'⟩ := shp_pf (p := K s [] .nil) k
          exact pf_leaf k fun K' k => by simp only [opE, e1, e2]; exact g _ (by simp only [e3]; exact g' _ k)
      · exact hk.elim
    · rename_i e1
      rw [frc_eq] at hk
      split at hk
      case h_2 => exact hk.elim
      rename_i e3
      obtain ⟨k, g'⟩ := shp_pf (p := K _ [] .nil) hk
      exact pf_leaf k fun K' k => by simp only [opE, e1, frc_eq]; (simp only [e3]); exact g' _ k
    · exact hk.elim
  | store T x y =>
    simp only [opE] at hk
    split at hk
    case h_2 => exact hk.elim
    rename_i e1 e2
    split at hk
    · rename_i e3
      obtain ⟨k, g⟩ := solid_pf hk
      split at k
      case h_2 => exact k.elim
      rename_i e4
      obtain ⟨v', ns', ea', k2, g2⟩ := storeV_pf k
      exact pf_leaf k2 fun K' k => by simp only [opE, e1, e2, e3]; exact g _ (by simp only [e4]; exact g2 _ k)
    · rename_i e3
      obtain ⟨k, g⟩ := solid_pf hk
      split at k
      case h_2 => exact k.elim
      rename_i e4
      obtain ⟨v', ns', ea', k2, g2⟩ := storeR_pf k
      exact pf_leaf k2 fun K' k => by simp only [opE, e1, e2, e3]; exact g _ (by simp only [e4]; exact g2 _ k)
    · exact hk.elim
  | indexAddr T x i =>
    simp only [opE] at hk
    split at hk
    case h_2 => exact hk.elim
    rename_i e1
    split at hk
    · rename_i e2
      split at hk
      · rename_i e3
        split at hk
        case h_2 => exact hk.elim
        rename_i e4 e5
        obtain ⟨s, k, g⟩ := idx_pf hk
        exact pf_leaf k fun K' k => by simp only [opE, e1, e2, e3, e4, e5]; exact g _ k
      · rename_i e3
        split at hk
        case h_2 => exact hk.elim
        rename_i e4 e5
        obtain ⟨p, k⟩ := side_pf hk
        exact pf_leaf k fun K' k => by simp only [opE, e1, e2, e3, e4, e5]; exact side p k
      · exact hk.elim
    · rename_i e2
      split at hk
      · rename_i e3 e4
        obtain ⟨p, k⟩ := side_pf hk
        exact pf_leaf k fun K' k => by simp only [opE, e1, e2, e3, e4]; exact side p k
      · rename_i e3 e4
        obtain ⟨p, k⟩ := side_pf hk
        obtain ⟨s, k2, g⟩ := nav_pf k
        exact pf_leaf k2 fun K' k => by simp only [opE, e1, e2, e3, e4]; exact side p (g _ k)
      · exact hk.elim
    · exact hk.elim
  | index T x i =>
    simp only [opE] at hk
    split at hk
    · rename_i e1 e2 e3
      obtain ⟨s, k, g⟩ := byte_pf hk
      exact pf_leaf k fun K' k => by simp only [opE, e1, e2, e3]; exact g _ k
    · rename_i e1 e2 e3
      split at hk
      case h_2 => exact hk.elim
      rename_i e4
      obtain ⟨s, k, g⟩ := idx_pf hk
      split at k
      case h_2 => exact k.elim
      rename_i e5
      obtain ⟨k, g'⟩ := shp_pf (p := K s [] .nil) k
      exact pf_leaf k fun K' k => by simp only [opE, e1, e2, e3, e4]; exact g _ (by simp only [e5]; exact g' _ k)
    · exact hk.elim
  | binOp op T x y T' =>
    simp only [opE] at hk
    obtain ⟨s, k, g⟩ := binX_pf hk
    exact pf_leaf k fun K' k => by simp only [opE]; exact g _ k
  | unOp op T x =>
    cases op with
    | not =>
      simp only [opE] at hk
      split at hk <;> first | exact hk.elim | (rename_i e; exact pf_leaf hk fun K' k => by simp only [opE, e]; exact k)
    | neg =>
      simp only [opE] at hk
      split at hk
      case h_2 => exact hk.elim
      rename_i e
      obtain ⟨s, k, g⟩ := arith_pf hk
      exact pf_leaf k fun K' k => by simp only [opE, e]; exact g _ k
    | _ => exact hk.elim
  | convert S T x =>
    simp only [opE] at hk
    cases eS : (lkT E.tt S).d <;> simp only [eS] at hk <;> first | exact hk.elim | skip
    all_goals
      split at hk
      · exact hk.elim
      · rename_i e0 e1 _
        obtain ⟨s, k, g⟩ := arith_pf hk
        exact pf_leaf k fun K' k => by simp only [opE, eS, e0, e1]; exact g _ k
      · rename_i e0 e1 _
        exact pf_leaf hk fun K' k => by simp only [opE, eS, e0, e1]; exact k
      · exact hk.elim
  | extract x i =>
    simp only [opE] at hk
    split at hk
    case h_2 => exact hk.elim
    rename_i e1
    split at hk
    case h_2 => exact hk.elim
    rename_i e2
    rw [frc_eq] at hk
    exact pf_leaf hk fun K' k => by simp only [opE, e1, e2, frc_eq]; exact k
  | makeFunc f fst caps =>
    cases f with
    | func f =>
      simp only [opE, frcL_eq] at hk
      split at hk
      case h_2 => exact hk.elim
      rename_i e1
      split at hk
      case h_2 => exact hk.elim
      rename_i e2
      exact pf_leaf hk fun K' k => by simp only [opE, frcL_eq, e1, e2]; exact k
    | _ => exact hk.elim
  | slice T x lo hi mx =>
    simp only [opE] at hk
    split at hk
    · exact hk.elim
    split at hk
    · rename_i e1
      split at hk
      case h_2 => exact hk.elim
      rename_i e2
      obtain ⟨l, r, k, g⟩ := bnds_pf hk
      exact pf_leaf k fun K' k => by simp only [opE, e1, e2]; exact g _ k
    · rename_i e1
      split at hk
      case h_2 => exact hk.elim
      rename_i e2
      split at hk
      case h_2 => exact hk.elim
      rename_i e3
      obtain ⟨l, r, k, g⟩ := bnds_pf hk
      exact pf_leaf k fun K' k => by simp only [opE, e1, e2, e3]; exact g _ k
    · rename_i e1
      split at hk
      case h_2 => exact hk.elim
      rename_i e2
      split at hk
      case h_2 => exact hk.elim
      rename_i e3
      split at hk
      case h_2 => exact hk.elim
      rename_i e4
      obtain ⟨l, r, k, g⟩ := bnds_pf hk
      exact pf_leaf k fun K' k => by simp only [opE, e1, e2, e3, e4]; exact g _ k
    · rename_i q1 q2 q3
      split at hk
      case h_2 => exact hk.elim
      rename_i e2
      obtain ⟨u, ns, k1, g1⟩ := frz_pf hk
      split at k1
      case h_2 => exact k1.elim
      split at k1
      case h_2 => exact k1.elim
      rename_i e3
      obtain ⟨l, r, k, g⟩ := bnds_pf k1
      refine pf_leaf k fun K' k => ?_
      simp only [opE]
      generalize hx : ev E sl x = xv at q1 q2 q3 g1
      cases xv <;> first | exact (q1 _ rfl).elim | exact (q2 _ _ rfl).elim | exact (q3 _ _ rfl).elim | (simp only [e2]; exact g1 _ (by simp only [e3]; exact g _ k))
  | makeSlice T x y =>
    simp only [opE] at hk
    split at hk
    case h_2 => exact hk.elim
    rename_i e1 e2 e3
    obtain ⟨k, g⟩ := solid_pf hk
    split at k
    case h_2 => exact k.elim
    rename_i e4 e5
    obtain ⟨p, k⟩ := side_pf k
    exact pf_leaf k fun K' k => by simp only [opE, e1, e2, e3]; exact g _ (by simp only [e4, e5]; exact side p k)
  | call cl =>
    simp only [opE] at hk
    split at hk
    · rename_i e0
      split at hk
      case h_2 => exact hk.elim
      rename_i e1 e2
      split at hk
      · rename_i e3 e4; exact pf_leaf hk fun K' k => by simp only [opE, e0, e1, e2, e3, e4]; exact k
      · rename_i e3 e4; exact pf_leaf hk fun K' k => by simp only [opE, e0, e1, e2, e3, e4]; exact k
      · rename_i e3 e4; exact pf_leaf hk fun K' k => by simp only [opE, e0, e1, e2, e3, e4]; exact k
      · rename_i e3 e4; exact pf_leaf hk fun K' k => by simp only [opE, e0, e1, e2, e3, e4]; exact k
      · rename_i e3 e4
        split at hk
        case h_2 => exact hk.elim
        rename_i e5
        exact pf_leaf hk fun K' k => by simp only [opE, e0, e1, e2, e3, e4, e5]; exact k
      · exact hk.elim
    · rename_i e0
      split at hk
      case h_2 => exact hk.elim
      rename_i e1 e2
      split at hk
      case h_2 => exact hk.elim
      rename_i e3
      obtain ⟨o, k, g⟩ := rows_pf hk
      split at k
      · split at k
        case h_2 => exact k.elim
        rename_i e4 e5 e6 e7
        split at k
        · rename_i e8
          split at k
          case h_2 => exact k.elim
          rename_i e9
          split at k
          case h_2 => exact k.elim
          rename_i e10
          obtain ⟨p, k⟩ := side_pf k
          exact pf_leaf k fun K' k => by simp only [opE, e0, e1, e2, e3]; exact g _ (by simp only [e4, e5, e6, e7, e8, e9, e10]; exact side p k)
        · rename_i e8
          obtain ⟨p, k⟩ := side_pf k
          exact pf_leaf k fun K' k => by simp only [opE, e0, e1, e2, e3]; exact g _ (by simp only [e4, e5, e6, e7, e8]; exact side p k)
        · rename_i e8
          obtain ⟨p, k⟩ := side_pf k
          exact pf_leaf k fun K' k => by simp only [opE, e0, e1, e2, e3]; exact g _ (by simp only [e4, e5, e6, e7, e8]; exact side p k)
        · exact k.elim
      · split at k
        · rename_i e4 e5
          split at k
          case h_2 => exact k.elim
          rename_i e6
          exact pf_leaf k fun K' k => by simp only [opE, e0, e1, e2, e3]; exact g _ (by simp only [e4, e5, e6]; exact k)
        · rename_i e4 e5
          exact pf_leaf k fun K' k => by simp only [opE, e0, e1, e2, e3]; exact g _ (by simp only [e4, e5]; exact k)
        · rename_i e4 e5
          exact pf_leaf k fun K' k => by simp only [opE, e0, e1, e2, e3]; exact g _ (by simp only [e4, e5]; exact k)
        · rename_i e4 e5
          exact pf_leaf k fun K' k => by simp only [opE, e0, e1, e2, e3]; exact g _ (by simp only [e4, e5]; exact k)
        · exact k.elim
    · rename_i e0
      split at hk
      case h_2 => exact hk.elim
      rename_i e1
      split at hk
      case h_2 => exact hk.elim
      rename_i e2 e3
      split at hk
      case h_2 => exact hk.elim
      rename_i e4
      exact pf_leaf hk fun K' k => by simp only [opE, e0, e1, e2, e3, e4]; exact k
    · rename_i e0
      split at hk
      case h_2 => exact hk.elim
      rename_i e1
      split at hk
      case h_2 => exact hk.elim
      rename_i e2 e3
      split at hk
      case h_2 => exact hk.elim
      rename_i e4
      exact pf_leaf hk fun K' k => by simp only [opE, e0, e1, e2, e3, e4]; exact k
    · rename_i e0
      split at hk
      case h_2 => exact hk.elim
      rename_i e1
      split at hk
      · rename_i ei
        split at hk
        case h_2 => exact hk.elim
        rename_i e2
        obtain ⟨k, g⟩ := solid_pf hk
        exact pf_leaf k fun K' k => by simp only [opE, e0, e1, ei, e2]; exact g _ k
      rename_i ei
      rw [frcL_eq] at hk
      split at hk
      case h_2 => exact hk.elim
      rename_i e2
      obtain ⟨l1, ns1, k1, g1⟩ := frzL_pf hk
      obtain ⟨l2, ns2, k2, g2⟩ := frzL_pf k1
      obtain ⟨r, k3, g3⟩ := call_pf k2
      rw [frc_eq] at k3
      split at k3
      · exact pf_leaf k3 fun K' k => by simp only [opE, e0, e1, ei, frcL_eq, e2]; exact g1 _ (g2 _ (g3 _ (by rw [frc_eq]; exact k)))
      · split at k3
        · rename_i hne _ e4
          refine pf_leaf k3 fun K' k => ?_
          simp only [opE, e0, e1, ei, frcL_eq, e2]
          refine g1 _ (g2 _ (g3 _ ?_))
          rw [frc_eq]
          split
          · first | exact (hne rfl).elim | (rename_i h0; exact (hne h0).elim)
          · simp only [e4]; exact k
        · rename_i hne _ e4
          refine pf_leaf k3 fun K' k => ?_
          simp only [opE, e0, e1, ei, frcL_eq, e2]
          refine g1 _ (g2 _ (g3 _ ?_))
          rw [frc_eq]
          split
          · first | exact (hne rfl).elim | (rename_i h0; exact (hne h0).elim)
          · simp only [e4]; exact k
    · exact hk.elim
  | _ => exact hk.elim
end
end Go.Sx
