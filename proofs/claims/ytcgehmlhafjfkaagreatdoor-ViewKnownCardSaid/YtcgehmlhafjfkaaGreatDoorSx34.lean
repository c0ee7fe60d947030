/-
  CLOSED RUNS ARE RUNS OF THE EXECUTOR: all operations. Generic: no program in sight. An own text.
-/
import Derived.Test.YtcgehmlhafjfkaaGreatDoorSx33
namespace Go.Sx

section
variable {E : Env} {sl : Slots} {h : Heap} {n : Nat}
theorem op_c {r : SV} {CR : FuncId → List SV → Rt} (hCR : ∀ f args r, CR f args = some r → Ret E f args r) {o : Op} {K : KC} {K' : KE} (hk : opC E CR sl h n o K = some r) (g : ∀ a b c, K a b c = some r → K' a b c) : opE E sl h n o K' := by
  cases o with
  | move x => simp only [opC, opE, frc_eq] at hk ⊢; exact g _ _ _ hk
  | assign x => simp only [opC, opE, frc_eq] at hk ⊢; exact g _ _ _ hk
  | pick c a b =>
    simp only [opC, opE, frc_eq] at hk ⊢
    split at hk
    · rename_i e; simp only [e]; exact g _ _ _ hk
    · rename_i e; simp only [e]; exact g _ _ _ hk
    · cases hk
  | alloc T => simp only [opC, opE] at hk ⊢; exact sol_c hk fun s hs => g _ _ _ hs
  | box T x => simp only [opC, opE] at hk ⊢; exact sol_c hk fun s hs => g _ _ _ hs
  | build T ps =>
    simp only [opC, opE] at hk ⊢
    split at hk
    · rename_i e1 e2
      split at hk
      case h_2 => cases hk
      rename_i e3
      simp only [e1, e2, e3]
      exact fil_c hk fun s hs => g _ _ _ hs
    · rename_i e1 e2
      split at hk
      case h_2 => cases hk
      rename_i e3 e4
      simp only [e1, e2, e3, e4]
      exact fil_c hk fun s hs => frzL_c hs fun s ns hs => g _ _ _ hs
    · cases hk
  | buildSlice T len ps =>
    simp only [opC, opE] at hk ⊢
    split at hk
    case h_2 => cases hk
    rename_i e0
    split at hk
    · cases hk
    · rename_i e1 e2 e3 e4
      simp only [e0, e1, e2, e3]
      exact sols_c hk fun s hs => frzL_c hs fun s ns hs => g _ _ _ hs
    · rename_i e1 e2 e3 e4
      simp only [e0, e1, e2, e3]
      refine sol_c hk fun v hv => ?_
      split at hv
      case h_2 => cases hv
      rename_i e5
      simp only [e5]
      exact fil_c hv fun s hs => frzL_c hs fun s ns hs => g _ _ _ hs
    · cases hk
  | nilCheck x =>
    simp only [opC, opE] at hk ⊢
    split at hk <;> first | (cases hk; done) | (rename_i e; simp only [e]; exact g _ _ _ hk)
  | fieldAddr T x f =>
    simp only [opC, opE] at hk ⊢
    split at hk
    case h_2 => cases hk
    rename_i e1
    split at hk
    case h_2 => cases hk
    rename_i e2
    split at hk
    case h_2 => cases hk
    rename_i e3
    split at hk
    · rename_i e4; simp only [e1, e2, e3, e4]; exact g _ _ _ hk
    · rename_i e4; simp only [e1, e2, e3, e4]; exact nav_c hk fun s hs => g _ _ _ hs
    · cases hk
  | field T x f =>
    simp only [opC, opE] at hk ⊢
    split at hk
    case h_2 => cases hk
    rename_i e1
    split at hk
    case h_2 => cases hk
    rename_i e2
    simp only [e1, e2]
    refine nav_c hk fun s hs => ?_
    split at hs
    case h_2 => cases hs
    rename_i e3
    simp only [e3]
    exact shp_c hs fun hs => g _ _ _ hs
  | load T x =>
    simp only [opC, opE] at hk ⊢
    split at hk
    · rename_i e1
      split at hk
      · rename_i e2
        simp only [e1, e2]
        refine nav_c hk fun s hs => ?_
        split at hs
        case h_2 => cases hs
        rename_i e3
        simp only [e3]
        exact shp_c hs fun hs => g _ _ _ hs
      · rename_i e2
        split at hk
        · cases hk
        · simp only [e1, e2]
          refine nav_c hk fun s hs => ?_
          split at hs
          case h_2 => cases hs
          rename_i e3
          simp only [e3]
          exact shp_c hs fun hs => g _ _ _ hs
      · cases hk
    · rename_i e1
      simp only [e1]
      rw [frc_eq] at hk ⊢
      split at hk
      case h_2 => cases hk
      rename_i e3
      simp only [e3]
      exact shp_c hk fun hs => g _ _ _ hs
    · cases hk
  | store T x y =>
    simp only [opC, opE] at hk ⊢
    split at hk
    case h_2 => cases hk
    rename_i e1 e2
    split at hk
    · rename_i e3
      simp only [e1, e2, e3]
      refine sol_c hk fun s hs => ?_
      split at hs
      case h_2 => cases hs
      rename_i e4
      simp only [e4]
      exact stoV_c hs g
    · rename_i e3
      simp only [e1, e2, e3]
      refine sol_c hk fun s hs => ?_
      split at hs
      case h_2 => cases hs
      rename_i e4
      simp only [e4]
      exact stoR_c hs g
    · cases hk
  | indexAddr T x i =>
    simp only [opC, opE, frN_eq] at hk ⊢
    split at hk
    case h_2 => cases hk
    rename_i e1
    split at hk
    · rename_i e2
      split at hk
      · rename_i e3
        split at hk
        case h_2 => cases hk
        rename_i e4 e5
        simp only [e1, e2, e3, e4, e5]
        exact idx_c hk fun s hs => g _ _ _ hs
      · rename_i e3
        split at hk
        case h_2 => cases hk
        rename_i e4 e5
        simp only [e1, e2, e3, e4, e5]
        exact side_c hk fun hs => g _ _ _ hs
      · cases hk
    · rename_i e2
      split at hk
      · rename_i e3 e4
        simp only [e1, e2, e3, e4]
        exact side_c hk fun hs => g _ _ _ hs
      · rename_i e3 e4
        simp only [e1, e2, e3, e4]
        exact side_c hk fun hs => nav_c hs fun s hs => g _ _ _ hs
      · cases hk
    · cases hk
  | index T x i =>
    simp only [opC, opE, frI_eq] at hk ⊢
    split at hk
    · rename_i e1 e2 e3
      simp only [e1, e2, e3]
      exact byte_c hk fun s hs => g _ _ _ hs
    · rename_i e1 e2 e3
      split at hk
      case h_2 => cases hk
      rename_i e4
      simp only [e1, e2, e3, e4]
      refine idx_c hk fun s hs => ?_
      split at hs
      case h_2 => cases hs
      rename_i e5
      simp only [e5]
      exact shp_c hs fun hs => g _ _ _ hs
    · cases hk
  | binOp op T x y T' => simp only [opC, opE] at hk ⊢; exact bin_c hk fun s hs => g _ _ _ hs
  | unOp op T x =>
    cases op <;> simp only [opC, opE, frB_eq] at hk ⊢ <;> (try cases hk)
    all_goals (split at hk <;> first | (cases hk; done) | (rename_i e; simp only [e]; exact g _ _ _ hk) | (rename_i e; simp only [e]; exact arith_c hk fun r hr => g _ _ _ hr))
  | convert S T x =>
    simp only [opC, opE] at hk ⊢
    split at hk
    · cases hk
    · rename_i e1 e2 e3
      simp only [e1, e2]
      generalize (lkT E.tt S).d = dS at e3 ⊢
      cases dS <;> first | exact absurd rfl e3 | exact arith_c hk fun r hr => g _ _ _ hr
    · rename_i e1 e2 e3
      simp only [e1, e2]
      generalize (lkT E.tt S).d = dS at e3 ⊢
      cases dS <;> first | exact absurd rfl e3 | exact g _ _ _ hk
    · cases hk
  | extract x i =>
    simp only [opC, opE] at hk ⊢
    split at hk
    case h_2 => cases hk
    rename_i e1
    split at hk
    case h_2 => cases hk
    rename_i e2
    simp only [e1, e2]
    rw [frc_eq] at hk ⊢
    exact g _ _ _ hk
  | makeFunc f fst caps =>
    cases f <;> simp only [opC, opE] at hk ⊢ <;> (try cases hk)
    split at hk
    case h_2 => cases hk
    rename_i e1
    simp only [e1]
    rw [frcL_eq] at hk ⊢
    split at hk
    case h_2 => cases hk
    rename_i e2
    simp only [e2]
    exact g _ _ _ hk
  | slice T x lo hi mx =>
    simp only [opC, opE, frStr_eq, frV_eq] at hk ⊢
    split at hk
    · cases hk
    split at hk
    · rename_i e1
      split at hk
      case h_2 => cases hk
      rename_i e2
      simp only [e1, e2]
      exact bnd_c hk fun a b hs => g _ _ _ hs
    · rename_i e1
      split at hk
      case h_2 => cases hk
      rename_i e2
      split at hk
      case h_2 => cases hk
      rename_i e3
      simp only [e1, e2, e3]
      exact bnd_c hk fun a b hs => g _ _ _ hs
    · rename_i e1
      split at hk
      case h_2 => cases hk
      rename_i e2
      split at hk
      case h_2 => cases hk
      rename_i e3
      split at hk
      case h_2 => cases hk
      rename_i e4
      simp only [e1, e2, e3, e4]
      exact bnd_c hk fun a b hs => g _ _ _ hs
    · rename_i e1 e2 e3
      split at hk
      case h_2 => cases hk
      rename_i e4
      simp only [e4]
      refine frz_c hk fun u ns hs => ?_
      split at hs
      case h_2 => cases hs
      split at hs
      case h_2 => cases hs
      rename_i e5
      simp only [e5]
      exact bnd_c hs fun a b hs => g _ _ _ hs
  | makeSlice T l c =>
    simp only [opC, opE, frV_eq] at hk ⊢
    split at hk
    case h_2 => cases hk
    rename_i e1 e2 e3
    simp only [e1, e2, e3]
    refine sol_c hk fun s hs => ?_
    split at hs
    case h_2 => cases hs
    rename_i e4 e5
    simp only [e4, e5]
    exact side_c hs fun hs => g _ _ _ hs
  | call c =>
    simp only [opC, opE, frI_eq, frV_eq] at hk ⊢
    split at hk
    · rename_i e0
      simp only [e0]
      split at hk
      case h_2 => cases hk
      rename_i e1 e2
      simp only [e1, e2]
      split at hk <;> (try (cases hk; done))
      · rename_i e3 e4; simp only [e3, e4]; exact g _ _ _ hk
      · rename_i e3 e4; simp only [e3, e4]; exact g _ _ _ hk
      · rename_i e3 e4; simp only [e3, e4]; exact g _ _ _ hk
      · rename_i e3 e4; simp only [e3, e4]; exact g _ _ _ hk
      · rename_i e3 e4
        simp only [e3, e4]
        split at hk
        case h_2 => cases hk
        rename_i e5
        simp only [e5]; exact g _ _ _ hk
    · rename_i e0
      simp only [e0]
      split at hk
      case h_2 => cases hk
      rename_i e1 e2
      simp only [e1, e2]
      split at hk
      case h_2 => cases hk
      rename_i e3
      simp only [e3]
      refine row_c hk fun o hs => ?_
      split at hs
      · split at hs
        case h_2 => cases hs
        rename_i q1 q2 q3 q4
        simp only [q1, q2, q3, q4]
        split at hs
        · rename_i q5
          simp only [q5]
          split at hs
          case h_2 => cases hs
          rename_i q6
          simp only [q6]
          split at hs
          case h_2 => cases hs
          rename_i q7
          simp only [q7]
          exact side_c hs fun hs => g _ _ _ hs
        · rename_i q5; simp only [q5]; exact side_c hs fun hs => g _ _ _ hs
        · rename_i q5; simp only [q5]; exact side_c hs fun hs => g _ _ _ hs
        · cases hs
      · split at hs
        · rename_i q1 q2
          simp only [q1, q2]
          split at hs
          case h_2 => cases hs
          rename_i q3
          simp only [q3]
          exact g _ _ _ hs
        · rename_i q1 q2; simp only [q1, q2]; exact g _ _ _ hs
        · rename_i q1 q2; simp only [q1, q2]; exact g _ _ _ hs
        · rename_i q1 q2; simp only [q1, q2]; exact g _ _ _ hs
        · cases hs
    · rename_i e0
      simp only [e0]
      split at hk
      case h_2 => cases hk
      rename_i e1
      simp only [e1]
      split at hk
      case h_2 => cases hk
      rename_i e2 e3
      simp only [e2, e3]
      split at hk
      case h_2 => cases hk
      rename_i e4
      simp only [e4]
      exact g _ _ _ hk
    · rename_i e0
      simp only [e0]
      split at hk
      case h_2 => cases hk
      rename_i e1
      simp only [e1]
      split at hk
      case h_2 => cases hk
      rename_i e2 e3
      simp only [e2, e3]
      split at hk
      case h_2 => cases hk
      rename_i e4
      simp only [e4]
      exact g _ _ _ hk
    · rename_i e0
      simp only [e0]
      split at hk
      case h_2 => cases hk
      rename_i e1
      simp only [e1]
      split at hk
      · rename_i e2
        simp only [e2]
        split at hk
        case h_2 => cases hk
        rename_i e3
        simp only [e3]
        exact sol_c hk fun s hs => g _ _ _ hs
      · rename_i e2
        simp only [e2]
        rw [frcL_eq] at hk ⊢
        split at hk
        case h_2 => cases hk
        rename_i e3
        simp only [e3]
        refine frzL_c hk fun as ns hs => frzL_c hs fun caps ns hs => ?_
        split at hs
        case h_2 => cases hs
        rename_i r' e4
        refine call (hCR _ _ _ e4) ?_
        rw [frc_eq] at hs ⊢
        split at hs
        · exact g _ _ _ hs
        · split at hs
          · rename_i e5; simp only [e5]; exact g _ _ _ hs
          · rename_i e5; simp only [e5]; exact g _ _ _ hs
    · cases hk
  | _ => simp only [opC] at hk; cases hk
end
end Go.Sx
