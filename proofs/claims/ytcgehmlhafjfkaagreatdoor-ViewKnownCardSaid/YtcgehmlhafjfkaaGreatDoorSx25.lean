/-
  AN OPERATION SEES ITS OPERANDS' SLOTS, AND OF THE HEAP WHAT ITS NAMES REACH: all operations. Generic: no program in sight. An own text.
-/
import Derived.Test.YtcgehmlhafjfkaaGreatDoorSx24
namespace Go.Sx
open Go.RowKit (Below)

theorem nmdL_set {p : Nat → Prop} : ∀ {l : List SV} {i : Nat} {s : SV}, nmdL p l → s.nmd p → nmdL p (l.set i s)
  | [], _, _, _, _ => trivial
  | v :: r, 0, s, h, k => ⟨k, h.2⟩
  | v :: r, i + 1, s, h, k => ⟨h.1, nmdL_set h.2 k⟩
theorem nmdL_of {p : Nat → Prop} : ∀ {l : List SV}, (∀ x ∈ l, x.nmd p) → nmdL p l
  | [], _ => trivial
  | v :: r, h => ⟨h v (by simp), nmdL_of fun x hx => h x (by simp [hx])⟩

/-- the operands that are read -/
def opnds : Op → List Operand
  | .move x | .assign x | .box _ x | .load _ x | .nilCheck x | .unOp _ _ x | .convert _ _ x | .fieldAddr _ x _ | .field _ x _ | .extract x _ => [x]
  | .pick c a b => [c, a, b]
  | .build _ ps | .buildSlice _ _ ps => ps.toList.map (·.2)
  | .store _ a v | .binOp _ _ a v _ | .indexAddr _ a v | .index _ a v | .makeSlice _ a v => [a, v]
  | .makeFunc _ _ c => c.toList
  | .slice _ x l h _ => x :: (l.toList ++ h.toList)
  | .call c => (match c.callee with | .value f => [f] | _ => []) ++ c.args.toList
  | _ => []

section
variable {E : Env} {sl sl' : Slots} {h : Heap} {n : Nat} {K : KE}

theorem map_ev {l : List Operand} (e : ∀ x ∈ l, ev E sl x = ev E sl' x) : l.map (ev E sl) = l.map (ev E sl') := List.map_congr_left e
theorem fillF_slots : ∀ {l : List (Nat × Operand)} {vs : List SV} {K : List SV → Prop}, (∀ x ∈ l.map (·.2), ev E sl x = ev E sl' x) → fillF E sl l vs K → fillF E sl' l vs K
  | [], vs, K, _, h => by simpa only [fillF] using h
  | (i, x) :: r, vs, K, e, h => by
    simp only [fillF] at h ⊢
    rw [← e x (by simp)]
    split at h
    case h_2 => exact h.elim
    obtain ⟨k1, g1⟩ := solid_pf h
    refine g1 _ ?_
    split at k1
    case h_2 => exact k1.elim
    exact fillF_slots (fun y hy => e y (by simp at hy ⊢; exact .inr hy)) k1
theorem solids_slots {sz : Nat} : ∀ {l : List (Nat × Operand)} {K : List SV → Prop}, (∀ x ∈ l.map (·.2), ev E sl x = ev E sl' x) → solids E sl sz l K → solids E sl' sz l K
  | [], K, _, h => by simpa only [solids] using h
  | (i, x) :: r, K, e, h => by
    simp only [solids] at h ⊢
    rw [← e x (by simp)]
    obtain ⟨k1, g1⟩ := solid_pf h
    refine g1 _ ?_
    split at k1
    case h_2 => exact k1.elim
    exact solids_slots (fun y hy => e y (by simp at hy ⊢; exact .inr hy)) k1
theorem bnds_slots {lo hi : Option Operand} {m : Nat} {K : Int → Int → Prop} (e : ∀ x ∈ lo.toList ++ hi.toList, ev E sl x = ev E sl' x) (h : bnds E sl lo hi m K) : bnds E sl' lo hi m K := by
  cases lo with
  | none =>
    cases hi with
    | none => exact h
    | some b => simp only [bnds] at h ⊢; rw [← e b (by simp)]; exact h
  | some a =>
    cases hi with
    | none => simp only [bnds] at h ⊢; rw [← e a (by simp)]; exact h
    | some b => simp only [bnds] at h ⊢; rw [← e a (by simp), ← e b (by simp)]; exact h

theorem opE_slots {o : Op} (e : ∀ x ∈ opnds o, ev E sl x = ev E sl' x) (hk : opE E sl h n o K) : opE E sl' h n o K := by
  cases o with
  | move x | assign x | box T x | load T x | nilCheck x | convert S T x | fieldAddr T x f | field T x f | extract x i =>
    simp only [opE] at hk ⊢; rw [← e x (by simp [opnds])]; exact hk
  | unOp op T x =>
    cases op with
    | not | neg => simp only [opE] at hk ⊢; rw [← e x (by simp [opnds])]; exact hk
    | _ => exact hk.elim
  | pick c a b => simp only [opE] at hk ⊢; rw [← e c (by simp [opnds]), ← e a (by simp [opnds]), ← e b (by simp [opnds])]; exact hk
  | store T x y | binOp op T x y T' | indexAddr T x y | index T x y | makeSlice T x y =>
    simp only [opE] at hk ⊢; rw [← e x (by simp [opnds]), ← e y (by simp [opnds])]; exact hk
  | alloc T => exact hk
  | build T ps =>
    simp only [opE] at hk ⊢
    split at hk
    · split at hk
      case h_2 => exact hk.elim
      exact fillF_slots e hk
    · split at hk
      case h_2 => exact hk.elim
      exact fillF_slots e hk
    · exact hk.elim
  | buildSlice T len ps =>
    simp only [opE] at hk ⊢
    split at hk
    case h_2 => exact hk.elim
    split at hk
    · exact hk.elim
    · exact solids_slots e hk
    · obtain ⟨k, g0⟩ := solid_pf hk
      refine g0 _ ?_
      split at k
      case h_2 => exact k.elim
      exact fillF_slots e k
    · exact hk.elim
  | makeFunc f fst caps =>
    cases f with
    | func f =>
      simp only [opE] at hk ⊢
      rw [← map_ev (E := E) (sl := sl) (sl' := sl') (l := caps.toList) e]; exact hk
    | _ => exact hk.elim
  | slice T x lo hi mx =>
    simp only [opE] at hk ⊢
    rw [← e x (by simp [opnds])]
    have eb : ∀ y ∈ lo.toList ++ hi.toList, ev E sl y = ev E sl' y := fun y hy => e y (by simp only [opnds, List.mem_cons]; exact .inr hy)
    split at hk
    · exact hk.elim
    split at hk
    · split at hk
      case h_2 => exact hk.elim
      exact bnds_slots eb hk
    · split at hk
      case h_2 => exact hk.elim
      split at hk
      case h_2 => exact hk.elim
      exact bnds_slots eb hk
    · split at hk
      case h_2 => exact hk.elim
      split at hk
      case h_2 => exact hk.elim
      split at hk
      case h_2 => exact hk.elim
      exact bnds_slots eb hk
    · split at hk
      case h_2 => exact hk.elim
      obtain ⟨u, ns, k1, g1⟩ := frz_pf hk
      refine g1 _ ?_
      split at k1
      case h_2 => exact k1.elim
      split at k1
      case h_2 => exact k1.elim
      rename_i e3

      exact bnds_slots eb k1
  | call cl =>
    obtain ⟨callee, args, ats⟩ := cl
    cases callee with
    | builtin b =>
      have ea : ∀ x ∈ args.toList, ev E sl x = ev E sl' x := fun x hx => e x (by simp only [opnds, List.nil_append]; exact hx)
      cases b with
      | len =>
        simp only [opE] at hk ⊢
        split at hk
        case h_2 => exact hk.elim
        rename_i x T h1 h2
        rw [← ea x (by rw [h1]; simp)]; exact hk
      | append =>
        simp only [opE] at hk ⊢
        split at hk
        case h_2 => exact hk.elim
        rename_i x y T T' h1 h2
        rw [← ea x (by rw [h1]; simp), ← ea y (by rw [h1]; simp)]; exact hk
      | min | max =>
        simp only [opE] at hk ⊢
        split at hk
        case h_2 => exact hk.elim
        rename_i x y h1
        rw [← ea x (by rw [h1]; simp), ← ea y (by rw [h1]; simp)]; exact hk
      | _ => exact hk.elim
    | value f =>
      have ea : ∀ x ∈ args.toList, ev E sl x = ev E sl' x := fun x hx => e x (by simp only [opnds, List.singleton_append, List.mem_cons]; exact .inr hx)
      simp only [opE] at hk ⊢
      rw [← e f (by simp [opnds]), ← map_ev (E := E) (sl := sl) (sl' := sl') (l := args.toList) ea]
      split at hk
      case h_2 => exact hk.elim
      split at hk
      · rename_i ei

        split at hk
        case h_2 => exact hk.elim
        rename_i x h1 _
        rw [← ea x (by rw [h1]; simp)]; exact hk
      · rename_i ei
        exact hk
    | invoke => exact hk.elim
  | _ => exact hk.elim

/-- an operation that writes into a block that is there -/
def wr : Op → Bool
  | .store .. => true
  | .call c => match c.callee with | .builtin .append => true | _ => false
  | _ => false

theorem frc_nmd {S : Nat → Prop} {v : SV} {K : SV → Prop} : frc v K ↔ K v := by rw [frc_eq]
theorem fillF_nmd {S : Nat → Prop} : ∀ {l : List (Nat × Operand)} {vs : List SV} {K : List SV → Prop}, (∀ x ∈ l.map (·.2), (ev E sl x).nmd S) → nmdL S vs → fillF E sl l vs K → fillF E sl l vs fun r => nmdL S r ∧ K r
  | [], vs, K, _, hv, h => by simp only [fillF, frcL_eq] at h ⊢; exact ⟨hv, h⟩
  | (i, x) :: r, vs, K, e, hv, h => by
    simp only [fillF] at h ⊢
    split at h
    case h_2 => exact h.elim
    obtain ⟨k1, g1⟩ := solid_pf h
    refine g1 _ ?_
    split at k1
    case h_2 => exact k1.elim
    refine fillF_nmd (fun y hy => e y (by simp at hy ⊢; exact .inr hy)) ?_ k1
    exact nmdL_set hv (e x (by simp))
theorem solids_nmd {S : Nat → Prop} {sz : Nat} : ∀ {l : List (Nat × Operand)} {K : List SV → Prop}, (∀ x ∈ l.map (·.2), (ev E sl x).nmd S) → solids E sl sz l K → solids E sl sz l fun r => nmdL S r ∧ K r
  | [], K, _, h => by simp only [solids] at h ⊢; exact ⟨trivial, h⟩
  | (i, x) :: r, K, e, h => by
    simp only [solids] at h ⊢
    obtain ⟨k1, g1⟩ := solid_pf h
    refine g1 _ ?_
    split at k1
    case h_2 => exact k1.elim
    obtain ⟨l, ⟨q1, q2⟩, q3⟩ := solids_pf (solids_nmd (fun y hy => e y (by simp at hy ⊢; exact .inr hy)) k1)
    exact q3 _ ⟨⟨e x (by simp), q1⟩, q2⟩

theorem storeV_heap {S : Nat → Prop} {h' : Heap} (e : HS S h h') {b : Nat} {v : SV} {p : List Step} {u : SV} {K : KE} (hu : u.nmd S) (hk : storeV h b v p u K) : storeV h' b v p u K := by
  unfold storeV at hk ⊢
  split at hk
  · exact hk
  · exact frz_heap e hu hk
theorem storeR_heap {S : Nat → Prop} {h' : Heap} (e : HS S h h') {b sz : Nat} {xs : List SV} {p : List Step} {u : SV} {K : KE} (hu : u.nmd S) (hk : storeR h b sz xs p u K) : storeR h' b sz xs p u K := by
  unfold storeR at hk ⊢
  exact frz_heap e hu hk
theorem rows_heap {S : Nat → Prop} {h' : Heap} (e : HS S h h') {v : SV} {K : Option (Nat × List SV) → Prop} (hu : v.nmd S) (hk : rows h v K) : rows h' v K := by
  unfold rows at hk ⊢
  split at hk
  · exact hk
  · split at hk
    case h_2 => exact hk.elim
    rename_i e1
    obtain ⟨o', e2⟩ := e.row_eq hu e1
    simp only [e2]; exact hk
  · exact hk
  · exact hk
  · exact hk.elim

theorem nmdL_rep {S : Nat → Prop} {v : SV} (h : v.nmd S) : ∀ n, nmdL S (List.replicate n v)
  | 0 => trivial
  | n + 1 => ⟨h, nmdL_rep h n⟩

theorem opE_heap {S : Nat → Prop} {h' : Heap} {o : Op} (e : HS S h h') (hot : wr o = true → ∀ b, S b → lkB h b = lkB h' b) (hz : ∀ T, (lkT E.tt T).zero.nmd S) (hn : ∀ x ∈ opnds o, (ev E sl x).nmd S) (hk : opE E sl h n o K) : opE E sl h' n o K := by
  cases o with
  | build T ps =>
    simp only [opE] at hk ⊢
    split at hk
    · exact hk
    · rename_i hz' 
      split at hk
      case h_2 => exact hk.elim
      rename_i e1 e2
      have hzz := hz T
      rw [hz'] at hzz
      obtain ⟨r, ⟨q1, q2⟩, q3⟩ := fillF_pf (fillF_nmd hn hzz hk)
      exact q3 _ (frzL_heap e q1 q2)
    · exact hk.elim
  | buildSlice T len ps =>
    simp only [opE] at hk ⊢
    split at hk
    case h_2 => exact hk.elim
    split at hk
    · exact hk.elim
    · obtain ⟨r, ⟨q1, q2⟩, q3⟩ := solids_pf (solids_nmd hn hk)
      exact q3 _ (frzL_heap e q1 q2)
    · obtain ⟨k, g0⟩ := solid_pf hk
      refine g0 _ ?_
      split at k
      case h_2 => exact k.elim
      obtain ⟨r, ⟨q1, q2⟩, q3⟩ := fillF_pf (fillF_nmd hn (nmdL_rep (hz _) _) k)
      exact q3 _ (frzL_heap e q1 q2)
    · exact hk.elim
  | load T x =>
    have hx := hn x (by simp [opnds])
    simp only [opE] at hk ⊢
    split at hk
    · rename_i b p e1
      rw [e1] at hx
      split at hk
      · rename_i e2
        obtain ⟨o', e3⟩ := e.var_eq hx e2
        simp only [e3]; exact hk
      · rename_i e2
        obtain ⟨o', e3⟩ := e.row_eq hx e2
        simp only [e3]; exact hk
      · exact hk.elim
    · exact hk
    · exact hk.elim
  | store T x y =>
    have hx := hn x (by simp [opnds])
    have hy := hn y (by simp [opnds])
    have hh := hot rfl
    simp only [opE] at hk ⊢
    split at hk
    case h_2 => exact hk.elim
    rename_i b p e1 e2
    rw [e2] at hx
    rw [← hh b hx]
    split at hk
    · obtain ⟨k, g⟩ := solid_pf hk
      refine g _ ?_
      split at k
      case h_2 => exact k.elim
      exact storeV_heap e hy k
    · obtain ⟨k, g⟩ := solid_pf hk
      refine g _ ?_
      split at k
      case h_2 => exact k.elim
      exact storeR_heap e hy k
    · exact hk.elim
  | indexAddr T x i =>
    have hx := hn x (by simp [opnds])
    simp only [opE] at hk ⊢
    split at hk
    case h_2 => exact hk.elim
    split at hk
    · split at hk
      · exact hk
      · rename_i b sz e3
        rw [e3] at hx
        split at hk
        case h_2 => exact hk.elim
        rename_i e4 e5
        obtain ⟨o', e6⟩ := e.row_eq hx e4
        simp only [e6, e5]; exact hk
      · exact hk.elim
    · exact hk
    · exact hk.elim
  | slice T x lo hi mx =>
    have hx := hn x (by simp [opnds])
    simp only [opE] at hk ⊢
    split at hk
    · exact hk.elim
    split at hk
    · exact hk
    · exact hk
    · rename_i b sz e1
      rw [e1] at hx
      split at hk
      case h_2 => exact hk.elim
      rename_i e2
      obtain ⟨o', e3⟩ := e.row_eq hx e2
      simp only [e3]; exact hk
    · split at hk
      case h_2 => exact hk.elim
      exact frz_heap e hx hk
  | call cl =>
    obtain ⟨callee, args, ats⟩ := cl
    cases callee with
    | builtin b =>
      have ea : ∀ x ∈ args.toList, (ev E sl x).nmd S := fun x hx => hn x (by simp only [opnds, List.nil_append]; exact hx)
      cases b with
      | len =>
        simp only [opE] at hk ⊢
        split at hk
        case h_2 => exact hk.elim
        rename_i x T h1 h2
        have hx := ea x (by rw [h1]; simp)
        split at hk <;> first | exact hk.elim | exact hk | skip
        rename_i e3 e4
        rw [e4] at hx
        split at hk
        case h_2 => exact hk.elim
        rename_i e5
        obtain ⟨o', e6⟩ := e.row_eq hx e5
        simp only [e6]; exact hk
      | append =>
        have hh := hot rfl
        simp only [opE] at hk ⊢
        split at hk
        case h_2 => exact hk.elim
        rename_i x y T T' h1 h2
        have hx := ea x (by rw [h1]; simp)
        have hy := ea y (by rw [h1]; simp)
        split at hk
        case h_2 => exact hk.elim
        obtain ⟨o, k, g⟩ := rows_pf (rows_heap e hy hk)
        refine g _ ?_
        split at k
        · split at k
          case h_2 => exact k.elim
          split at k
          · rename_i e8
            rw [e8] at hx
            simp only [← hh _ hx]; exact k
          · exact k
          · exact k
          · exact k.elim
        · split at k
          · rename_i e8
            rw [e8] at hx
            simp only [← hh _ hx]; exact k
          · exact k
          · exact k
          · exact k
          · exact k.elim
      | _ => exact hk
    | value f =>
      have hf := hn f (by simp [opnds])
      have hargs : nmdL S (args.toList.map (ev E sl)) := nmdL_map fun x hx => hn x (by simp only [opnds, List.singleton_append, List.mem_cons]; exact .inr hx)
      simp only [opE, frcL_eq] at hk ⊢
      split at hk
      case h_2 => exact hk.elim
      rename_i f caps e1
      rw [e1] at hf
      split at hk
      · rename_i ei
        exact hk
      rename_i ei

      split at hk
      case h_2 => exact hk.elim
      obtain ⟨l1, ns1, k1, g1⟩ := frzL_pf (frzL_heap e hargs hk)
      exact g1 _ (frzL_heap e hf k1)
    | invoke => exact hk.elim
  | unOp op T x => cases op <;> exact hk
  | makeFunc f fst caps => cases f <;> exact hk
  | _ => exact hk
end
end Go.Sx
