/-
  AN OPERATION SEES ITS OPERANDS' SLOTS, AND OF THE HEAP WHAT ITS NAMES REACH: all operations. Generic: no program in sight. An own text.
  WHAT KIND OF RESULT AN OPERATION YIELDS. Generic: no program in sight. An own text.
  TWO OPERATIONS THAT DO NOT MEET CHANGE PLACES. Generic: no program in sight. An own text.
  A REGION THAT DRAWS ITS ORDER ENDS AS THE ORDER OF THE TEXT DOES. Generic: no program in sight. An own text.
  A STORE TO A VARIABLE THAT THE REGION ITSELF MADE, AND AN OPERATION THAT CANNOT SEE IT. Generic: no program in sight. An own text.
  A STORE TO A VARIABLE THAT THE REGION ITSELF MADE CHANGES PLACES WITH WHAT CANNOT SEE IT. Generic: no program in sight. An own text.
  AN APPEND CHANGES PLACES WITH WHAT HAS NO NAMES. Generic: no program in sight. An own text.
  A REGION THAT DRAWS ITS ORDER: any order that is drawn ends as the order of the text does. Generic: no program in sight. An own text.
  CALLS WITH THE CALLER'S BLOCKS IN THE CALLEE'S HANDS: in place; by a contract. Generic: no program in sight. An own text.
  A FUNCTION THAT WRITES THROUGH A POINTER: its contract. Generic: no program in sight. An own text.
  CLOSED RUNS: the executor as a program that the kernel runs. Generic: no program in sight. An own text.
  CLOSED RUNS ARE RUNS OF THE EXECUTOR: operations. Generic: no program in sight. An own text.
  CLOSED RUNS ARE RUNS OF THE EXECUTOR: all operations. Generic: no program in sight. An own text.
-/
import Derived.Test.YtbhkopbgjnpcpaaGreatDoorA2
import Derived.Orders
namespace Go.Sx
open Go.RowKit (Below)
theorem nmdL_set {p : Nat → Prop} : ∀ {l : List SV} {i : Nat} {s : SV}, nmdL p l → s.nmd p → nmdL p (l.set i s)
 | [], _, _, _, _ => trivial
 | v :: r, 0, s, h, k => ⟨k, h.2⟩
 | v :: r, i + 1, s, h, k => ⟨h.1, nmdL_set h.2 k⟩
def opnds : Op → List Operand
 | .move x | .assign x | .box _ x | .load _ x | .nilCheck x | .unOp _ _ x | .convert _ _ x | .fieldAddr _ x _ | .field _ x _ | .extract x _ => [x]
 | .pick c a b => [c, a, b]
 | .build _ ps | .buildSlice _ _ ps => ps.toList.map (·.2)
 | .store _ a v | .binOp _ _ a v _ | .indexAddr _ a v | .index _ a v | .makeSlice _ a v | .lookup _ a v _ => [a, v]
 | .mapUpdate _ a k v => [a, k, v]
 | .makeFunc _ _ c => c.toList
 | .slice _ x l h _ => x :: (l.toList ++ h.toList)
 | .call c => (match c.callee with | .value f => [f] | _ => []) ++ c.args.toList
 | _ => []
section
variable {E : Env} {sl sl' : Slots} {h : Heap} {n : Nat} {K : KE}
theorem map_ev {l : List Operand} (e : ∀ x ∈ l, ev E sl x = ev E sl' x) : l.map (ev E sl) = l.map (ev E sl') := List.map_congr_left e
theorem fillF_slots : ∀ {l : List (Nat × Operand)} {vs : List SV} {K : List SV → Prop}, (∀ x ∈ l.map (·.2), ev E sl x = ev E sl' x) → fillF E sl l vs K → fillF E sl' l vs K
 | [], vs, K, _, h => by simpa only [fillF] using h
 | (i, x) :: r, vs, K, e, h => by
   simp only [fillF] at h ⊢
   rw [← e x (by simp)]
   split at h
   case h_2 => cases h
   obtain ⟨k1, g1⟩ := solid_pf h
   refine g1 _ ?_
   split at k1
   case h_2 => cases k1
   exact fillF_slots (fun y hy => e y (by simp at hy ⊢; exact .inr hy)) k1
theorem solids_slots {sz : Nat} : ∀ {l : List (Nat × Operand)} {K : List SV → Prop}, (∀ x ∈ l.map (·.2), ev E sl x = ev E sl' x) → solids E sl sz l K → solids E sl' sz l K
 | [], K, _, h => by simpa only [solids] using h
 | (i, x) :: r, K, e, h => by
   simp only [solids] at h ⊢
   rw [← e x (by simp)]
   obtain ⟨k1, g1⟩ := solid_pf h
   refine g1 _ ?_
   split at k1
   case h_2 => cases k1
   exact solids_slots (fun y hy => e y (by simp at hy ⊢; exact .inr hy)) k1
theorem bnds_slots {lo hi : Option Operand} {m : Nat} {K : Int → Int → Prop} (e : ∀ x ∈ lo.toList ++ hi.toList, ev E sl x = ev E sl' x) (h : bnds E sl lo hi m K) : bnds E sl' lo hi m K := by
 cases lo with
 | none =>
   cases hi with
   | none => exact h
   | some b => simp only [bnds] at h ⊢; rw [← e b (by simp)]; exact h
 | some a =>
   cases hi with
   | none => simp only [bnds] at h ⊢; rw [← e a (by simp)]; exact h
   | some b => simp only [bnds] at h ⊢; rw [← e a (by simp), ← e b (by simp)]; exact h
theorem opE_slots {o : Op} (e : ∀ x ∈ opnds o, ev E sl x = ev E sl' x) (hk : opE E sl h n o K) : opE E sl' h n o K := by
 cases o with
 | move x | assign x | box T x | load T x | nilCheck x | convert S T x | fieldAddr T x f | field T x f | extract x i =>
   simp only [opE] at hk ⊢; rw [← e x (by simp [opnds])]; exact hk
 | unOp op T x =>
   cases op with
   | not | neg => simp only [opE] at hk ⊢; rw [← e x (by simp [opnds])]; exact hk
   | _ => cases hk
 | pick c a b => simp only [opE] at hk ⊢; rw [← e c (by simp [opnds]), ← e a (by simp [opnds]), ← e b (by simp [opnds])]; exact hk
 | makeMap T r => cases r <;> exact hk
 | mapUpdate T x y z => simp only [opE] at hk ⊢; rw [← e x (by simp [opnds]), ← e y (by simp [opnds]), ← e z (by simp [opnds])]; exact hk
 | store T x y | binOp op T x y T' | indexAddr T x y | index T x y | makeSlice T x y | lookup T x y b =>
   simp only [opE] at hk ⊢; rw [← e x (by simp [opnds]), ← e y (by simp [opnds])]; exact hk
 | alloc T => exact hk
 | build T ps =>
   simp only [opE] at hk ⊢
   split at hk
   · split at hk
     case h_2 => cases hk
     exact fillF_slots e hk
   · split at hk
     case h_2 => cases hk
     exact fillF_slots e hk
   · cases hk
 | buildSlice T len ps =>
   simp only [opE] at hk ⊢
   split at hk
   case h_2 => cases hk
   split at hk
   · cases hk
   · exact solids_slots e hk
   · obtain ⟨k, g0⟩ := solid_pf hk
     refine g0 _ ?_
     split at k
     case h_2 => cases k
     exact fillF_slots e k
   · cases hk
 | makeFunc f fst caps =>
   cases f with
   | func f =>
     simp only [opE] at hk ⊢
     rw [← map_ev (E := E) (sl := sl) (sl' := sl') (l := caps.toList) e]; exact hk
   | _ => cases hk
 | slice T x lo hi mx =>
   simp only [opE] at hk ⊢
   rw [← e x (by simp [opnds])]
   have eb : ∀ y ∈ lo.toList ++ hi.toList, ev E sl y = ev E sl' y := fun y hy => e y (by simp only [opnds, List.mem_cons]; exact .inr hy)
   split at hk
   · cases hk
   split at hk
   · split at hk
     case h_2 => cases hk
     exact bnds_slots eb hk
   · split at hk
     case h_2 => cases hk
     split at hk
     case h_2 => cases hk
     exact bnds_slots eb hk
   · split at hk
     case h_2 => cases hk
     split at hk
     case h_2 => cases hk
     split at hk
     case h_2 => cases hk
     exact bnds_slots eb hk
   · split at hk
     case h_2 => cases hk
     obtain ⟨u, ns, k1, g1⟩ := frz_pf hk
     refine g1 _ ?_
     split at k1
     case h_2 => cases k1
     split at k1
     case h_2 => cases k1
     rename_i e3
     exact bnds_slots eb k1
 | call cl =>
   obtain ⟨callee, args, ats⟩ := cl
   cases callee with
   | builtin b =>
     have ea : ∀ x ∈ args.toList, ev E sl x = ev E sl' x := fun x hx => e x (by simp only [opnds, List.nil_append]; exact hx)
     cases b with
     | len =>
       simp only [opE] at hk ⊢
       split at hk
       case h_2 => cases hk
       rename_i x T h1 h2
       rw [← ea x (by rw [h1]; simp)]; exact hk
     | append =>
       simp only [opE] at hk ⊢
       split at hk
       case h_2 => cases hk
       rename_i x y T T' h1 h2
       rw [← ea x (by rw [h1]; simp), ← ea y (by rw [h1]; simp)]; exact hk
     | min | max =>
       simp only [opE] at hk ⊢
       split at hk
       case h_2 => cases hk
       rename_i x y h1
       rw [← ea x (by rw [h1]; simp), ← ea y (by rw [h1]; simp)]; exact hk
     | _ => cases hk
   | value f =>
     have ea : ∀ x ∈ args.toList, ev E sl x = ev E sl' x := fun x hx => e x (by simp only [opnds, List.singleton_append, List.mem_cons]; exact .inr hx)
     simp only [opE] at hk ⊢
     rw [← e f (by simp [opnds]), ← map_ev (E := E) (sl := sl) (sl' := sl') (l := args.toList) ea]
     split at hk
     case h_2 => cases hk
     split at hk
     · rename_i ei
       split at hk
       case h_2 => cases hk
       rename_i x h1 _
       rw [← ea x (by rw [h1]; simp)]; exact hk
     · rename_i ei
       exact hk
   | invoke => cases hk
 | _ => cases hk
def wr : Op → Bool
 | .store .. | .lookup .. | .mapUpdate .. => true
 | .call c => match c.callee with | .builtin .append => true | _ => false
 | _ => false
theorem fillF_nmd {S : Nat → Prop} : ∀ {l : List (Nat × Operand)} {vs : List SV} {K : List SV → Prop}, (∀ x ∈ l.map (·.2), (ev E sl x).nmd S) → nmdL S vs → fillF E sl l vs K → fillF E sl l vs fun r => nmdL S r ∧ K r
 | [], vs, K, _, hv, h => by simp only [fillF, frcL_eq] at h ⊢; exact ⟨hv, h⟩
 | (i, x) :: r, vs, K, e, hv, h => by
   simp only [fillF] at h ⊢
   split at h
   case h_2 => cases h
   obtain ⟨k1, g1⟩ := solid_pf h
   refine g1 _ ?_
   split at k1
   case h_2 => cases k1
   refine fillF_nmd (fun y hy => e y (by simp at hy ⊢; exact .inr hy)) ?_ k1
   exact nmdL_set hv (e x (by simp))
theorem solids_nmd {S : Nat → Prop} {sz : Nat} : ∀ {l : List (Nat × Operand)} {K : List SV → Prop}, (∀ x ∈ l.map (·.2), (ev E sl x).nmd S) → solids E sl sz l K → solids E sl sz l fun r => nmdL S r ∧ K r
 | [], K, _, h => by simp only [solids] at h ⊢; exact ⟨trivial, h⟩
 | (i, x) :: r, K, e, h => by
   simp only [solids] at h ⊢
   obtain ⟨k1, g1⟩ := solid_pf h
   refine g1 _ ?_
   split at k1
   case h_2 => cases k1
   obtain ⟨l, ⟨q1, q2⟩, q3⟩ := solids_pf (solids_nmd (fun y hy => e y (by simp at hy ⊢; exact .inr hy)) k1)
   exact q3 _ ⟨⟨e x (by simp), q1⟩, q2⟩
theorem storeV_heap {S : Nat → Prop} {h' : Heap} (e : HS S h h') {b : Nat} {v : SV} {p : List Step} {u : SV} {K : KE} (hu : u.nmd S) (hk : storeV h b v p u K) : storeV h' b v p u K := by
 unfold storeV at hk ⊢
 split at hk
 · exact hk
 · exact frz_heap e hu hk
theorem storeR_heap {S : Nat → Prop} {h' : Heap} (e : HS S h h') {b sz : Nat} {xs : List SV} {p : List Step} {u : SV} {K : KE} (hu : u.nmd S) (hk : storeR h b sz xs p u K) : storeR h' b sz xs p u K := by
 unfold storeR at hk ⊢
 exact frz_heap e hu hk
theorem rows_heap {S : Nat → Prop} {h' : Heap} (e : HS S h h') {v : SV} {K : Option (Nat × List SV) → Prop} (hu : v.nmd S) (hk : rows h v K) : rows h' v K := by
 unfold rows at hk ⊢
 split at hk
 · exact hk
 · split at hk
   case h_2 => cases hk
   rename_i e1
   obtain ⟨o', e2⟩ := e.row_eq hu e1
   simp only [e2]; exact hk
 · exact hk
 · exact hk
 · cases hk
theorem nmdL_rep {S : Nat → Prop} {v : SV} (h : v.nmd S) : ∀ n, nmdL S (List.replicate n v)
 | 0 => trivial
 | n + 1 => ⟨h, nmdL_rep h n⟩
theorem opE_heap {S : Nat → Prop} {h' : Heap} {o : Op} (e : HS S h h') (hot : wr o = true → ∀ b, S b → lkB h b = lkB h' b) (hz : ∀ T, (lkT E.tt T).zero.nmd S) (hn : ∀ x ∈ opnds o, (ev E sl x).nmd S) (hk : opE E sl h n o K) : opE E sl h' n o K := by
 cases o with
 | makeMap T r => cases r <;> exact hk
 | lookup T x y b =>
   have hx := hn x (by simp [opnds])
   simp only [opE] at hk ⊢
   split at hk
   case h_2 => cases hk
   rename_i e1 e2
   rw [e2] at hx
   rw [← hot rfl _ hx]
   exact hk
 | mapUpdate T x y z =>
   have hx := hn x (by simp [opnds])
   simp only [opE] at hk ⊢
   split at hk
   case h_2 => cases hk
   rename_i e1 e2
   rw [e2] at hx
   rw [← hot rfl _ hx]
   exact hk
 | build T ps =>
   simp only [opE] at hk ⊢
   split at hk
   · exact hk
   · rename_i hz' 
     split at hk
     case h_2 => cases hk
     rename_i e1 e2
     have hzz := hz T
     rw [hz'] at hzz
     obtain ⟨r, ⟨q1, q2⟩, q3⟩ := fillF_pf (fillF_nmd hn hzz hk)
     exact q3 _ (frzL_heap e q1 q2)
   · cases hk
 | buildSlice T len ps =>
   simp only [opE] at hk ⊢
   split at hk
   case h_2 => cases hk
   split at hk
   · cases hk
   · obtain ⟨r, ⟨q1, q2⟩, q3⟩ := solids_pf (solids_nmd hn hk)
     exact q3 _ (frzL_heap e q1 q2)
   · obtain ⟨k, g0⟩ := solid_pf hk
     refine g0 _ ?_
     split at k
     case h_2 => cases k
     obtain ⟨r, ⟨q1, q2⟩, q3⟩ := fillF_pf (fillF_nmd hn (nmdL_rep (hz _) _) k)
     exact q3 _ (frzL_heap e q1 q2)
   · cases hk
 | load T x =>
   have hx := hn x (by simp [opnds])
   simp only [opE] at hk ⊢
   split at hk
   · rename_i b p e1
     rw [e1] at hx
     split at hk
     · rename_i e2
       obtain ⟨o', e3⟩ := e.var_eq hx e2
       simp only [e3]; exact hk
     · rename_i e2
       obtain ⟨o', e3⟩ := e.row_eq hx e2
       simp only [e3]; exact hk
     · cases hk
   · exact hk
   · cases hk
 | store T x y =>
   have hx := hn x (by simp [opnds])
   have hy := hn y (by simp [opnds])
   have hh := hot rfl
   simp only [opE] at hk ⊢
   split at hk
   case h_2 => cases hk
   rename_i b p e1 e2
   rw [e2] at hx
   rw [← hh b hx]
   split at hk
   · obtain ⟨k, g⟩ := solid_pf hk
     refine g _ ?_
     split at k
     case h_2 => cases k
     exact storeV_heap e hy k
   · obtain ⟨k, g⟩ := solid_pf hk
     refine g _ ?_
     split at k
     case h_2 => cases k
     exact storeR_heap e hy k
   · cases hk
 | indexAddr T x i =>
   have hx := hn x (by simp [opnds])
   simp only [opE] at hk ⊢
   split at hk
   case h_2 => cases hk
   split at hk
   · split at hk
     · exact hk
     · rename_i b sz e3
       rw [e3] at hx
       split at hk
       case h_2 => cases hk
       rename_i e4 e5
       obtain ⟨o', e6⟩ := e.row_eq hx e4
       simp only [e6, e5]; exact hk
     · cases hk
   · exact hk
   · cases hk
 | slice T x lo hi mx =>
   have hx := hn x (by simp [opnds])
   simp only [opE] at hk ⊢
   split at hk
   · cases hk
   split at hk
   · exact hk
   · exact hk
   · rename_i b sz e1
     rw [e1] at hx
     split at hk
     case h_2 => cases hk
     rename_i e2
     obtain ⟨o', e3⟩ := e.row_eq hx e2
     simp only [e3]; exact hk
   · split at hk
     case h_2 => cases hk
     exact frz_heap e hx hk
 | call cl =>
   obtain ⟨callee, args, ats⟩ := cl
   cases callee with
   | builtin b =>
     have ea : ∀ x ∈ args.toList, (ev E sl x).nmd S := fun x hx => hn x (by simp only [opnds, List.nil_append]; exact hx)
     cases b with
     | len =>
       simp only [opE] at hk ⊢
       split at hk
       case h_2 => cases hk
       rename_i x T h1 h2
       have hx := ea x (by rw [h1]; simp)
       split at hk <;> first | exact hk.elim | exact hk | skip
       rename_i e3 e4
       rw [e4] at hx
       split at hk
       case h_2 => cases hk
       rename_i e5
       obtain ⟨o', e6⟩ := e.row_eq hx e5
       simp only [e6]; exact hk
     | append =>
       have hh := hot rfl
       simp only [opE] at hk ⊢
       split at hk
       case h_2 => cases hk
       rename_i x y T T' h1 h2
       have hx := ea x (by rw [h1]; simp)
       have hy := ea y (by rw [h1]; simp)
       split at hk
       case h_2 => cases hk
       obtain ⟨o, k, g⟩ := rows_pf (rows_heap e hy hk)
       refine g _ ?_
       split at k
       · split at k
         case h_2 => cases k
         split at k
         · rename_i e8
           rw [e8] at hx
           simp only [← hh _ hx]; exact k
         · exact k
         · exact k
         · cases k
       · split at k
         · rename_i e8
           rw [e8] at hx
           simp only [← hh _ hx]; exact k
         · exact k
         · exact k
         · exact k
         · cases k
     | _ => exact hk
   | value f =>
     have hf := hn f (by simp [opnds])
     have hargs : nmdL S (args.toList.map (ev E sl)) := nmdL_map fun x hx => hn x (by simp only [opnds, List.singleton_append, List.mem_cons]; exact .inr hx)
     simp only [opE, frcL_eq] at hk ⊢
     split at hk
     case h_2 => cases hk
     rename_i f caps e1
     rw [e1] at hf
     split at hk
     · rename_i ei
       exact hk
     rename_i ei
     split at hk
     case h_2 => cases hk
     obtain ⟨l1, ns1, k1, g1⟩ := frzL_pf (frzL_heap e hargs hk)
     exact g1 _ (frzL_heap e hf k1)
   | invoke => cases hk
 | unOp op T x => cases op <;> exact hk
 | makeFunc f fst caps => cases f <;> exact hk
 | _ => exact hk
end
def kind : Op → Nat
 | .move _ | .assign _ | .pick .. | .binOp .. | .unOp .. | .convert .. | .extract .. | .makeFunc .. | .field .. | .fieldAddr .. | .nilCheck _ | .index .. => 0
 | .alloc _ | .box .. | .makeMap .. => 1
 | .load .. | .indexAddr .. | .slice .. | .buildSlice .. | .build .. | .makeSlice .. => 2
 | .call c => match c.callee with
   | .builtin .min | .builtin .max => 0
   | .builtin .len | .value _ => 2
   | .builtin .append => 4
   | _ => 5
 | .store .. => 3
 | _ => 5
def KindOK (S : Nat → Prop) (o : Op) (ns : List Nat) (ea : EA) : Prop :=
 match kind o with
 | 0 => ns = [] ∧ ea = .nil
 | 1 => ns = [] ∧ (ea = .nil ∨ ∃ k, ea = .new k)
 | 2 => ea = .nil ∨ ∃ k, ea = .new k
 | 3 => (ns = [] ∧ ea = .nil) ∨ ∃ b k, ea = .set b k ∧ S b
 | _ => True
mutual
theorem frz_ns {S : Nat → Prop} {h : Heap} (e : HS S h h) : ∀ {d : Nat} {v : SV} {ns : List Nat} {K : SV → List Nat → Prop}, v.nmd S → (∀ b ∈ ns, S b) → frz h d v ns K → frz h d v ns fun v ns => (∀ b ∈ ns, S b) ∧ K v ns
 | 0, _, _, _, _, _, hk => by simp only [frz] at hk
 | d + 1, v, ns, K, hv, hns, hk => by
   simp only [frz] at hk
   split at hk
   · rename_i b p
     split at hk
     case h_2 => cases hk
     rename_i own u e1
     obtain ⟨s', ⟨q0, q1⟩, q2⟩ := nav_pf (nav_nmd (e.var b hv _ _ e1) hk)
     simp only [frz, e1]
     refine q2 _ (frz_ns e q0 ?_ q1)
     intro x hx
     rcases List.mem_cons.1 hx with rfl | hx
     · exact hv
     · exact hns x hx
   · rename_i b sz
     split at hk
     case h_2 => cases hk
     rename_i own sz' xs e1
     split at hk
     case h_2 => cases hk
     rename_i e2
     simp only [frz, e1, e2]
     refine ⟨?_, hk⟩
     intro x hx
     rcases List.mem_cons.1 hx with rfl | hx
     · exact hv
     · exact hns x hx
   · simp only [frz]; exact frzL_ns e hv hns hk
   · simp only [frz]; exact frzL_ns e hv hns hk
   · simp only [frz]; exact frzL_ns e hv hns hk
   · simp only [frz]; exact frzL_ns e hv hns hk
   · cases hk
   · cases hk
   · cases hk
   · rename_i h1 h2 h3 h4 h5 h5b h6 h7 h8
     rw [frc_eq] at hk
     cases v <;> first | (simp only [frz]; exact ⟨hns, hk⟩) | exact absurd rfl (h1 _ _) | exact absurd rfl (h2 _ _) | exact absurd rfl (h3 _) | exact absurd rfl (h4 _) | exact absurd rfl (h5 _ _) | exact absurd rfl (h5b _ _) | exact absurd rfl (h6 _) | exact absurd rfl (h7 _) | exact absurd rfl (h8 _ _ _)
theorem frzL_ns {S : Nat → Prop} {h : Heap} (e : HS S h h) : ∀ {d : Nat} {l : List SV} {ns : List Nat} {K : List SV → List Nat → Prop}, nmdL S l → (∀ b ∈ ns, S b) → frzL h d l ns K → frzL h d l ns fun l ns => (∀ b ∈ ns, S b) ∧ K l ns
 | 0, _, _, _, _, _, hk => by simp only [frzL] at hk
 | d + 1, [], ns, K, _, hns, hk => by simp only [frzL] at hk ⊢; exact ⟨hns, hk⟩
 | d + 1, v :: r, ns, K, hv, hns, hk => by
   simp only [frzL] at hk ⊢
   obtain ⟨v', ns', ⟨q0, q1⟩, g1⟩ := frz_pf (frz_ns e hv.1 hns hk)
   exact g1 _ (frzL_ns e hv.2 q0 q1)
end
section
variable {E : Env} {sl : Slots} {h : Heap} {n : Nat} {K : KE}
def Fct (S : Nat → Prop) (o : Op) (K : KE) : KE := fun v ns ea => ((∀ b ∈ ns, S b) ∧ KindOK S o ns ea) ∧ K v ns ea
theorem fct_nil {S : Nat → Prop} {o : Op} (hk : kind o = 0 ∨ kind o = 2) : (∀ b ∈ ([] : List Nat), S b) ∧ KindOK S o [] .nil := by
 refine ⟨fun b hb => by simp at hb, ?_⟩
 unfold KindOK
 rcases hk with hk | hk <;> rw [hk]
 · exact ⟨rfl, rfl⟩
 · exact .inl rfl
theorem fct_rd {S : Nat → Prop} {o : Op} {ns : List Nat} (hk : kind o = 2) (hn : ∀ b ∈ ns, S b) : (∀ b ∈ ns, S b) ∧ KindOK S o ns .nil := by
 refine ⟨hn, ?_⟩
 unfold KindOK
 rw [hk]
 exact .inl rfl
theorem opE_facts {S : Nat → Prop} {o : Op} (e : HS S h h) (hz : ∀ T, (lkT E.tt T).zero.nmd S) (hn : ∀ x ∈ opnds o, (ev E sl x).nmd S) (hk : opE E sl h n o K) : opE E sl h n o (Fct S o K) := by
 cases o with
 | move x | assign x => simp only [opE, frc_eq] at hk ⊢; exact ⟨fct_nil (.inl rfl), hk⟩
 | pick c a b =>
   simp only [opE, frc_eq] at hk ⊢
   split at hk <;> first | exact hk.elim | exact ⟨fct_nil (.inl rfl), hk⟩
 | makeMap T r =>
   cases r with
   | some r => simp only [opE] at hk
   | none =>
     simp only [opE] at hk ⊢
     exact ⟨⟨by simp, rfl, .inr ⟨_, rfl⟩⟩, hk⟩
 | lookup T x y b =>
   simp only [opE] at hk ⊢
   split at hk
   case h_2 => cases hk
   split at hk
   case h_2 => cases hk
   obtain ⟨k, g0⟩ := solid_pf hk
   refine g0 _ ?_
   split at k
   case h_2 => cases k
   rename_i e4
   rcases findK_pf k with ⟨k2, g2⟩ | ⟨j, v, k2, g2⟩
   · obtain ⟨k3, g3⟩ := solid_pf k2
     refine g2 _ _ (g3 _ ?_)
     cases b <;> exact ⟨⟨by simp, trivial⟩, k3⟩
   · refine g2 _ _ ?_
     cases b <;> exact ⟨⟨by simp, trivial⟩, k2⟩
 | mapUpdate T x y z =>
   simp only [opE] at hk ⊢
   split at hk
   case h_2 => cases hk
   split at hk
   case h_2 => cases hk
   obtain ⟨k, g0⟩ := solid_pf hk
   refine g0 _ ?_
   obtain ⟨k, g1⟩ := solid_pf k
   refine g1 _ ?_
   split at k
   case h_2 => cases k
   rcases findK_pf k with ⟨k2, g2⟩ | ⟨j, v, k2, g2⟩
   · exact g2 _ _ ⟨⟨by simp, trivial⟩, k2⟩
   · rcases sameT_pf k2 with ⟨k3, g3⟩ | ⟨k3, g3⟩ <;> exact g2 _ _ (g3 _ _ ⟨⟨by simp, trivial⟩, k3⟩)
 | alloc T =>
   simp only [opE] at hk ⊢
   obtain ⟨k, g⟩ := solid_pf hk
   exact g _ ⟨⟨by simp, rfl, .inr ⟨_, rfl⟩⟩, k⟩
 | box T x =>
   simp only [opE] at hk ⊢
   obtain ⟨k, g⟩ := solid_pf hk
   exact g _ ⟨⟨by simp, rfl, .inr ⟨_, rfl⟩⟩, k⟩
 | build T ps =>
   simp only [opE] at hk ⊢
   split at hk
   · split at hk
     case h_2 => cases hk
     obtain ⟨r, k, g⟩ := fillF_pf hk
     exact g _ ⟨fct_nil (.inr rfl), k⟩
   · rename_i hz'
     split at hk
     case h_2 => cases hk
     rename_i e1 e2
     have hzz := hz T
     rw [hz'] at hzz
     obtain ⟨r, ⟨q1, q2⟩, q3⟩ := fillF_pf (fillF_nmd hn hzz hk)
     obtain ⟨l', ns', ⟨r1, r2⟩, r3⟩ := frzL_pf (frzL_ns e q1 (by simp) q2)
     exact q3 _ (r3 _ ⟨fct_rd rfl r1, r2⟩)
   · cases hk
 | buildSlice T len ps =>
   simp only [opE] at hk ⊢
   split at hk
   case h_2 => cases hk
   split at hk
   · cases hk
   · obtain ⟨r, ⟨q1, q2⟩, q3⟩ := solids_pf (solids_nmd hn hk)
     obtain ⟨l', ns', ⟨r1, r2⟩, r3⟩ := frzL_pf (frzL_ns e q1 (by simp) q2)
     exact q3 _ (r3 _ ⟨⟨r1, .inr ⟨_, rfl⟩⟩, r2⟩)
   · obtain ⟨k, g0⟩ := solid_pf hk
     refine g0 _ ?_
     split at k
     case h_2 => cases k
     obtain ⟨r, ⟨q1, q2⟩, q3⟩ := fillF_pf (fillF_nmd hn (nmdL_rep (hz _) _) k)
     obtain ⟨l', ns', ⟨r1, r2⟩, r3⟩ := frzL_pf (frzL_ns e q1 (by simp) q2)
     exact q3 _ (r3 _ ⟨⟨r1, .inr ⟨_, rfl⟩⟩, r2⟩)
   · cases hk
 | nilCheck x =>
   simp only [opE] at hk ⊢
   split at hk <;> first | exact hk.elim | exact ⟨fct_nil (.inl rfl), hk⟩
 | fieldAddr T x f =>
   simp only [opE] at hk ⊢
   split at hk
   case h_2 => cases hk
   split at hk
   case h_2 => cases hk
   split at hk
   case h_2 => cases hk
   split at hk
   · exact ⟨fct_nil (.inl rfl), hk⟩
   · obtain ⟨s, k, g⟩ := nav_pf hk
     exact g _ ⟨fct_nil (.inl rfl), k⟩
   · cases hk
 | field T x f =>
   simp only [opE] at hk ⊢
   split at hk
   case h_2 => cases hk
   split at hk
   case h_2 => cases hk
   obtain ⟨s, k, g⟩ := nav_pf hk
   refine g _ ?_
   split at k
   case h_2 => cases k
   obtain ⟨k, g'⟩ := shp_pf (p := K s [] .nil) k
   exact g' _ ⟨fct_nil (.inl rfl), k⟩
 | load T x =>
   simp only [opE] at hk ⊢
   split at hk
   · split at hk
     · obtain ⟨s, k, g⟩ := nav_pf hk
       refine g _ ?_
       split at k
       case h_2 => cases k
       obtain ⟨k, g'⟩ := shp_pf (p := K s [] .nil) k
       exact g' _ ⟨fct_nil (.inr rfl), k⟩
     · split at hk
       · cases hk
       · obtain ⟨s, k, g⟩ := nav_pf hk
         refine g _ ?_
         split at k
         case h_2 => cases k
         obtain ⟨k, g'⟩ := shp_pf (p := K s [] .nil) k
         exact g' _ ⟨fct_nil (.inr rfl), k⟩
     · cases hk
   · rw [frc_eq] at hk ⊢
     split at hk
     case h_2 => cases hk
     obtain ⟨k, g'⟩ := shp_pf (p := K _ [] .nil) hk
     exact g' _ ⟨fct_nil (.inr rfl), k⟩
   · cases hk
 | store T x y =>
   have hx := hn x (by simp [opnds])
   have hy := hn y (by simp [opnds])
   simp only [opE] at hk ⊢
   split at hk
   case h_2 => cases hk
   rename_i b p e1 e2
   rw [e2] at hx
   split at hk
   · obtain ⟨k, g⟩ := solid_pf hk
     refine g _ ?_
     split at k
     case h_2 => cases k
     unfold storeV at k ⊢
     split at k
     · obtain ⟨s, k, g⟩ := upd_pf k
       exact g _ ⟨⟨by simp, .inr ⟨_, _, rfl, hx⟩⟩, k⟩
     · obtain ⟨l', ns', ⟨r1, r2⟩, r3⟩ := frz_pf (frz_ns e hy (by simp) k)
       refine r3 _ ?_
       split at r2
       case h_2 => cases r2
       obtain ⟨s, k, g⟩ := upd_pf r2
       exact g _ ⟨⟨r1, .inr ⟨_, _, rfl, hx⟩⟩, k⟩
   · obtain ⟨k, g⟩ := solid_pf hk
     refine g _ ?_
     split at k
     case h_2 => cases k
     unfold storeR at k ⊢
     obtain ⟨l', ns', ⟨r1, r2⟩, r3⟩ := frz_pf (frz_ns e hy (by simp) k)
     refine r3 _ ?_
     split at r2
     case h_2 => cases r2
     rename_i e1
     split at r2
     case h_2 => cases r2
     rename_i e2
     obtain ⟨s, k, g⟩ := idx_pf r2
     obtain ⟨s', k2, g2⟩ := upd_pf k
     exact g _ (g2 _ ⟨⟨r1, .inr ⟨_, _, rfl, hx⟩⟩, k2⟩)
   · cases hk
 | indexAddr T x i =>
   simp only [opE] at hk ⊢
   split at hk
   case h_2 => cases hk
   split at hk
   · split at hk
     · split at hk
       case h_2 => cases hk
       obtain ⟨s, k, g⟩ := idx_pf hk
       exact g _ ⟨fct_nil (.inr rfl), k⟩
     · split at hk
       case h_2 => cases hk
       obtain ⟨p, k⟩ := side_pf hk
       exact side p ⟨fct_nil (.inr rfl), k⟩
     · cases hk
   · split at hk
     · obtain ⟨p, k⟩ := side_pf hk
       exact side p ⟨fct_nil (.inr rfl), k⟩
     · obtain ⟨p, k⟩ := side_pf hk
       obtain ⟨s, k2, g⟩ := nav_pf k
       exact side p (g _ ⟨fct_nil (.inr rfl), k2⟩)
     · cases hk
   · cases hk
 | index T x i =>
   simp only [opE] at hk ⊢
   split at hk
   · obtain ⟨s, k, g⟩ := byte_pf hk
     exact g _ ⟨fct_nil (.inl rfl), k⟩
   · rename_i e1 e2 e3
     split at hk
     case h_2 => cases hk
     rename_i e4
     obtain ⟨s, k, g⟩ := idx_pf hk
     try simp only [e4]
     refine g _ ?_
     split at k
     case h_2 => cases k
     rename_i e5
     try simp only [e5]
     obtain ⟨k, g'⟩ := shp_pf (p := K s [] .nil) k
     exact g' _ ⟨fct_nil (.inl rfl), k⟩
   · cases hk
 | binOp op T x y T' =>
   simp only [opE] at hk ⊢
   obtain ⟨s, k, g⟩ := binX_pf hk
   exact g _ ⟨fct_nil (.inl rfl), k⟩
 | unOp op T x =>
   cases op with
   | not =>
     simp only [opE] at hk ⊢
     split at hk <;> first | exact hk.elim | exact ⟨fct_nil (.inl rfl), hk⟩
   | neg =>
     simp only [opE] at hk ⊢
     split at hk
     case h_2 => cases hk
     obtain ⟨s, k, g⟩ := arith_pf hk
     exact g _ ⟨fct_nil (.inl rfl), k⟩
   | _ => cases hk
 | convert S' T x =>
   simp only [opE] at hk ⊢
   cases eS : (lkT E.tt S').d <;> simp only [eS] at hk ⊢ <;> first | exact hk.elim | skip
   all_goals
    split at hk
    · cases hk
    · obtain ⟨s, k, g⟩ := arith_pf hk
      exact g _ ⟨fct_nil (.inl rfl), k⟩
    · exact ⟨fct_nil (.inl rfl), hk⟩
    · exact ⟨fct_nil (.inl rfl), hk⟩
    · cases hk
 | extract x i =>
   simp only [opE] at hk ⊢
   split at hk
   case h_2 => cases hk
   split at hk
   case h_2 => cases hk
   rw [frc_eq] at hk ⊢
   exact ⟨fct_nil (.inl rfl), hk⟩
 | makeFunc f fst caps =>
   cases f with
   | func f =>
     simp only [opE, frcL_eq] at hk ⊢
     split at hk
     case h_2 => cases hk
     split at hk
     case h_2 => cases hk
     exact ⟨fct_nil (.inl rfl), hk⟩
   | _ => cases hk
 | slice T x lo hi mx =>
   have hx := hn x (by simp [opnds])
   simp only [opE] at hk ⊢
   split at hk
   · cases hk
   split at hk
   · split at hk
     case h_2 => cases hk
     obtain ⟨l, r, k, g⟩ := bnds_pf hk
     exact g _ ⟨fct_nil (.inr rfl), k⟩
   · split at hk
     case h_2 => cases hk
     split at hk
     case h_2 => cases hk
     obtain ⟨l, r, k, g⟩ := bnds_pf hk
     exact g _ ⟨fct_nil (.inr rfl), k⟩
   · rename_i b sz e1
     rw [e1] at hx
     split at hk
     case h_2 => cases hk
     split at hk
     case h_2 => cases hk
     split at hk
     case h_2 => cases hk
     obtain ⟨l, r, k, g⟩ := bnds_pf hk
     exact g _ ⟨fct_rd rfl (by intro c hc; simp at hc; subst hc; exact hx), k⟩
   · split at hk
     case h_2 => cases hk
     obtain ⟨u, ns, ⟨r1, k1⟩, g1⟩ := frz_pf (frz_ns e hx (by simp) hk)
     refine g1 _ ?_
     split at k1
     case h_2 => cases k1
     split at k1
     case h_2 => cases k1
     rename_i e3
     obtain ⟨l, r, k, g⟩ := bnds_pf k1
     exact g _ ⟨fct_rd rfl r1, k⟩
 | makeSlice T x y =>
   simp only [opE] at hk ⊢
   split at hk
   case h_2 => cases hk
   obtain ⟨k, g⟩ := solid_pf hk
   refine g _ ?_
   split at k
   case h_2 => cases k
   obtain ⟨p, k⟩ := side_pf k
   exact side p ⟨⟨by simp, .inr ⟨_, rfl⟩⟩, k⟩
 | call cl =>
   obtain ⟨callee, args, ats⟩ := cl
   cases callee with
   | builtin b =>
     cases b with
     | len =>
       simp only [opE] at hk ⊢
       split at hk
       case h_2 => cases hk
       split at hk
       · exact ⟨fct_nil (.inr rfl), hk⟩
       · exact ⟨fct_nil (.inr rfl), hk⟩
       · exact ⟨fct_nil (.inr rfl), hk⟩
       · exact ⟨fct_nil (.inr rfl), hk⟩
       · split at hk
         case h_2 => cases hk
         exact ⟨fct_nil (.inr rfl), hk⟩
       · cases hk
     | append =>
       simp only [opE] at hk ⊢
       split at hk
       case h_2 => cases hk
       split at hk
       case h_2 => cases hk
       obtain ⟨o, k, g⟩ := rows_pf hk
       refine g _ ?_
       have hA : ∀ ea, (∀ b ∈ ([] : List Nat), S b) ∧ KindOK S (.call ⟨.builtin .append, args, ats⟩) [] ea := fun ea => ⟨by simp, trivial⟩
       split at k
       · split at k
         case h_2 => cases k
         split at k
         · split at k
           case h_2 => cases k
           split at k
           case h_2 => cases k
           obtain ⟨p, k⟩ := side_pf k
           exact side p ⟨hA _, k⟩
         · obtain ⟨p, k⟩ := side_pf k
           exact side p ⟨hA _, k⟩
         · obtain ⟨p, k⟩ := side_pf k
           exact side p ⟨hA _, k⟩
         · cases k
       · split at k
         · split at k
           case h_2 => cases k
           exact ⟨hA _, k⟩
         · exact ⟨hA _, k⟩
         · exact ⟨hA _, k⟩
         · exact ⟨hA _, k⟩
         · cases k
     | min | max =>
       simp only [opE] at hk ⊢
       split at hk
       case h_2 => cases hk
       split at hk
       case h_2 => cases hk
       split at hk
       case h_2 => cases hk
       exact ⟨fct_nil (.inl rfl), hk⟩
     | _ => cases hk
   | value f =>
     have hf := hn f (by simp [opnds])
     have hargs : nmdL S (args.toList.map (ev E sl)) := nmdL_map fun x hx => hn x (by simp only [opnds, List.singleton_append, List.mem_cons]; exact .inr hx)
     simp only [opE, frcL_eq] at hk ⊢
     split at hk
     case h_2 => cases hk
     rename_i f caps e1
     rw [e1] at hf
     split at hk
     · split at hk
       case h_2 => cases hk
       obtain ⟨k, g⟩ := solid_pf hk
       exact g _ ⟨fct_nil (.inr rfl), k⟩
     split at hk
     case h_2 => cases hk
     obtain ⟨l1, ns1, ⟨r1, k1⟩, g1⟩ := frzL_pf (frzL_ns e hargs (by simp) hk)
     obtain ⟨l2, ns2, ⟨r2, k2⟩, g2⟩ := frzL_pf (frzL_ns e hf r1 k1)
     obtain ⟨r, k3, g3⟩ := call_pf k2
     refine g1 _ (g2 _ (g3 _ ?_))
     rw [frc_eq] at k3 ⊢
     split at k3
     · exact ⟨fct_nil (.inr rfl), k3⟩
     · split at k3
       · exact ⟨fct_nil (.inr rfl), k3⟩
       · exact ⟨fct_rd rfl r2, k3⟩
   | invoke => cases hk
 | _ => cases hk
theorem opE_still {o : Op} {h' : Heap} (hd : kind o = 0 ∨ kind o = 1) (hk : opE E sl h n o K) : opE E sl h' n o K := by
 cases o with
 | call cl =>
   obtain ⟨callee, args, ats⟩ := cl
   cases callee with
   | builtin b => cases b <;> first | exact hk | (simp [kind] at hd; done)
   | _ => simp [kind] at hd
 | unOp op T x => cases op <;> exact hk
 | makeFunc f fst caps => cases f <;> exact hk
 | makeMap T r => cases r <;> exact hk
 | _ => first | exact hk | (simp [kind] at hd; done)
end
open Go.RowKit (Below)
def slotOf : Operand → Option Nat
 | .tmp t => some t
 | _ => none
def opSlots (o : Oper) : List Nat := (opnds o.op).filterMap slotOf
def gslot (all : List Oper) (o : Oper) : Option Nat := match o.guard with
 | none => none
 | some (j, _) => match all[j]? with
   | some o' => o'.dst
   | none => none
def B : Option Bool → SV
 | some true => .tru
 | some false => .fls
 | none => und
def isB (v : SV) (t : Option Bool) : Prop := v = B t ∨ ∃ b, t = some b ∧ v = .bool b
theorem isB_uniq {v : SV} {t u : Option Bool} (h : isB v t) (k : isB v u) : t = u := by
 rcases h with rfl | ⟨b, rfl, rfl⟩
 · rcases k with k | ⟨b, rfl, k⟩
   · cases t with
     | none => cases u with
       | none => rfl
       | some u => cases u <;> cases k
     | some t => cases u with
       | none => cases t <;> cases k
       | some u => cases t <;> cases u <;> first | rfl | cases k
   · cases t with
     | none => cases k
     | some t => cases t <;> cases k
 · rcases k with k | ⟨b', rfl, k⟩
   · cases u with
     | none => cases k
     | some u => cases u <;> cases k
   · cases k; rfl
structure Out where
 g : Option (Nat × Option Bool)
 v : SV
 ns : List Nat
 ea : EA
def refS (g : Option (Nat × Option Bool)) (sl : Slots) : Slots := match g with
 | none => sl
 | some (d, t) => (d, B t) :: sl
def Out.sl (x : Out) (o : Oper) (s : Slots) : Slots := putS o.dst x.v (refS x.g s)
def Out.hp (x : Out) (h : Heap) (m : Nat) : Heap := hE x.ns x.ea h m
def Inv (K : Slots → Heap → Prop) : Prop := ∀ sl h sl' h', (∀ t, lk sl t = lk sl' t) → (∀ b, lkB h b = lkB h' b) → K sl h → K sl' h'
structure Wf (E : Env) (F : Nat → Prop) (sl : Slots) (h : Heap) : Prop where
 ev : ∀ x, (ev E sl x).nmd fun b => ¬ F b
 hs : HS (fun b => ¬ F b) h h
 z : ∀ T, (lkT E.tt T).zero.nmd fun b => ¬ F b
 hb : ∀ b, F b → lkB h b = none
theorem zero_nmd {E : Env} (ok : EnvOK E) (S : Nat → Prop) (T : TypeId) : (lkT E.tt T).zero.nmd S := by
 by_cases hz : (lkT E.tt T).zero = .any
 · rw [hz]; trivial
 · obtain ⟨i, _, _, _, h4⟩ := (ok.tz T hz).info
   obtain ⟨z, _, hr⟩ := h4 hz
   refine nmd_mono (fun b hb => absurd rfl hb) _ (rel_nmd (relV_rel (hr default (fun _ => False))))
theorem DenF.wf {c : Cx} (ok : EnvOK c.E) {N : Nat} {sl : Slots} {h : Heap} {F : Nat → Prop} {a : Act} {w : World} (D : DenF c N sl h F a w) : Wf c.E F sl h := by
 obtain ⟨β, Y, m, hs, _, _⟩ := D
 have hF : ∀ b, β b ≠ none → ¬ F b := fun b hb hf => hb (m.fresh b hf)
 refine ⟨fun x => nmd_mono hF _ (rel_nmd (ev_ok m hs x)), ⟨fun _ _ => rfl, fun b hb o v hv => ?_⟩, zero_nmd ok _, fun b hb => ?_⟩
 · obtain ⟨l, h1, h2⟩ := m.blk b _ hv
   obtain ⟨cs, ty, lo, hi, _, _, h3, _⟩ := h2
   exact nmd_mono hF _ (relP_nmd _ _ _ h3)
 · cases hk : lkB h b with
   | none => rfl
   | some k =>
     obtain ⟨l, h1, _⟩ := m.blk b k hk
     rw [m.fresh b hb] at h1; cases h1
inductive GO (E : Env) (all : List Oper) (o : Oper) (sl : Slots) (h : Heap) (m : Nat) : Out → Prop
 | plain {v ns ea} : o.guard = none → OpR E sl h m o.op v ns ea → GO E all o sl h m ⟨none, v, ns, ea⟩
 | yes {v ns ea j t d} : o.guard = some (j, t) → gslot all o = some d → isB (lk sl d) (some t) → OpR E ((d, B (some t)) :: sl) h m o.op v ns ea → GO E all o sl h m ⟨some (d, some t), v, ns, ea⟩
 | no {j t d t'} : o.guard = some (j, t) → gslot all o = some d → t' ≠ some t → isB (lk sl d) t' → GO E all o sl h m ⟨some (d, t'), und, [], .nil⟩
theorem nmd_all {v : SV} : v.nmd fun _ => True := by
 have : ∀ (v : SV), v.nmd fun _ => True := by
  intro v
  induction v using SV.rec (motive_2 := fun l => nmdL (fun _ => True) l) with
  | nil => trivial
  | cons v r h1 h2 => exact ⟨h1, h2⟩
  | _ => first | trivial | assumption
 exact this v
theorem noapp {E : Env} {sl : Slots} {h : Heap} {m : Nat} {o : Op} (hk : kind o ≤ 3) {v : SV} {ns : List Nat} {ea : EA} (r : OpR E sl h m o v ns ea) : ∀ b k, ea ≠ .app b k := by
 have hs : HS (fun _ => True) h h := ⟨fun _ _ => rfl, fun _ _ _ _ _ => nmd_all⟩
 have := opE_facts (S := fun _ => True) hs (fun _ => nmd_all) (fun _ _ => nmd_all) (r (fun v' ns' ea' => ea' = ea) rfl)
 obtain ⟨v', ns', ea', ⟨⟨_, k1⟩, rfl⟩, _⟩ := opE_pf this
 unfold KindOK at k1
 rintro b k rfl
 have : kind o = 0 ∨ kind o = 1 ∨ kind o = 2 ∨ kind o = 3 := by omega
 rcases this with h | h | h | h <;> rw [h] at k1 <;> simp at k1
theorem lk_B {sl : Slots} {d : Nat} {t : Option Bool} (h : lk sl d = B t) (u : Nat) : lk sl u = lk ((d, B t) :: sl) u := by
 simp only [lk]
 cases hb : Nat.beq d u with
 | true => have := beq_of hb; subst this; exact h
 | false => rfl
theorem killE_no {ea : EA} {sl : Slots} (h : ∀ b k, ea ≠ .app b k) : killE ea sl = sl := by
 cases ea <;> first | rfl | exact absurd rfl (h _ _)
section
variable {E : Env} {all : List Oper} {o : Oper} {sl sl' : Slots} {h h' : Heap} {m : Nat} {K : Slots → Heap → Prop}
theorem ev_lk (e : ∀ t, lk sl t = lk sl' t) (x : Operand) : ev E sl x = ev E sl' x := by
 cases x <;> first | rfl | (simp only [ev]; rw [e])
theorem opX_in {s : Slots} {v : SV} {ns : List Nat} {ea : EA} (hk : kind o.op ≤ 3) (r : OpR E s h m o.op v ns ea) (k : K (putS o.dst v s) (hE ns ea h m)) : opX E o s h m K := by
 unfold opX
 refine r _ (app_iff.2 ?_)
 rw [killE_no (noapp hk r)]
 exact k
theorem opX_out {s : Slots} (hk : kind o.op ≤ 3) (k : opX E o s h m K) : ∃ v ns ea, OpR E s h m o.op v ns ea ∧ K (putS o.dst v s) (hE ns ea h m) := by
 unfold opX at k
 obtain ⟨v, ns, ea, k1, k2⟩ := opE_pf k
 have := app_iff.1 k1
 rw [killE_no (noapp hk k2)] at this
 exact ⟨v, ns, ea, k2, this⟩
theorem gslot_of {j : Nat} {t : Bool} {o' : Oper} {d : Nat} (h1 : o.guard = some (j, t)) (h2 : all[j]? = some o') (h3 : o'.dst = some d) : gslot all o = some d := by
 unfold gslot
 simp only [h1, h2]
 exact h3
theorem gopX_out (hk : kind o.op ≤ 3) (inv : Inv K) (k : gopX E all o sl h m K) : ∃ x, GO E all o sl h m x ∧ K (x.sl o sl) (x.hp h m) := by
 unfold gopX grd at k
 have hskip : ∀ s : Slots, (match o.dst with | some d => K ((d, und) :: s) h | none => K s h) → K (putS o.dst und s) h := by
  intro s hs
  cases hd : o.dst <;> rw [hd] at hs <;> exact hs
 split at k
 · rename_i hg
   obtain ⟨v, ns, ea, r, k⟩ := opX_out hk k
   exact ⟨_, .plain hg r, k⟩
 · rename_i j want hg
   split at k
   case h_2 => cases k
   rename_i o' hj
   split at k
   case h_2 => cases k
   rename_i d hd
   have hgs := gslot_of hg hj hd
   have yes : ∀ s : Slots, (∀ u, lk s u = lk ((d, B (some want)) :: sl) u) → isB (lk sl d) (some want) → opX E o s h m K → ∃ x, GO E all o sl h m x ∧ K (x.sl o sl) (x.hp h m) := by
    intro s es hb ho
    obtain ⟨v, ns, ea, r, k⟩ := opX_out hk ho
    refine ⟨_, .yes hg hgs hb (v := v) (ns := ns) (ea := ea) (fun K' k' => opE_slots (fun x _ => ev_lk es x) (r K' k')), ?_⟩
    refine inv _ _ _ _ (fun u => ?_) (fun _ => rfl) k
    simp only [Out.sl, refS, lk_put]
    split
    · rfl
    · exact es u
   have no : ∀ (t' : Option Bool) (s : Slots), t' ≠ some want → (∀ u, lk s u = lk ((d, B t') :: sl) u) → isB (lk sl d) t' → (match o.dst with | some d => K ((d, und) :: s) h | none => K s h) → ∃ x, GO E all o sl h m x ∧ K (x.sl o sl) (x.hp h m) := by
    intro t' s ht es hb ho
    refine ⟨_, .no hg hgs ht hb, ?_⟩
    refine inv _ _ _ _ (fun u => ?_) (fun _ => rfl) (hskip s ho)
    simp only [Out.sl, refS, lk_put]
    split
    · rfl
    · exact es u
   split at k
   · rename_i hl
     cases want with
     | true => exact yes sl (lk_B (t := some true) hl) (.inl hl) k
     | false => exact no (some true) sl (by simp) (lk_B (t := some true) hl) (.inl hl) k
   · rename_i hl
     cases want with
     | true => exact no (some false) sl (by simp) (lk_B (t := some false) hl) (.inl hl) k
     | false => exact yes sl (lk_B (t := some false) hl) (.inl hl) k
   · rename_i b hl
     cases want with
     | true =>
       cases b with
       | true => exact yes _ (fun _ => rfl) (.inr ⟨_, rfl, hl⟩) (k.1 rfl)
       | false => exact no (some false) _ (by simp) (fun _ => rfl) (.inr ⟨_, rfl, hl⟩) (k.2 rfl)
     | false =>
       cases b with
       | true => exact no (some true) _ (by simp) (fun _ => rfl) (.inr ⟨_, rfl, hl⟩) (k.2 rfl)
       | false => exact yes _ (fun _ => rfl) (.inr ⟨_, rfl, hl⟩) (k.1 rfl)
   · rename_i hl
     exact no none sl (by simp) (lk_B (t := none) hl) (.inl hl) k
   · cases k
theorem gslot_inv {d : Nat} {j : Nat} {t : Bool} (hg : o.guard = some (j, t)) (h : gslot all o = some d) : ∃ o', all[j]? = some o' ∧ o'.dst = some d := by
 unfold gslot at h
 simp only [hg] at h
 split at h
 · rename_i o' ho; exact ⟨o', ho, h⟩
 · cases h
theorem gopX_in (hk : kind o.op ≤ 3) (inv : Inv K) {x : Out} (g : GO E all o sl h m x) (k : K (x.sl o sl) (x.hp h m)) : gopX E all o sl h m K := by
 unfold gopX grd
 cases g with
 | plain hg r =>
   simp only [hg]
   exact opX_in hk r k
 | @yes v ns ea j t d hg hgs hb r =>
   obtain ⟨o', hj, hd⟩ := gslot_inv hg hgs
   simp only [hg, hj, hd]
   have run : ∀ s : Slots, (∀ u, lk ((d, B (some t)) :: sl) u = lk s u) → opX E o s h m K := fun s es => by
    refine opX_in hk (fun K' k' => opE_slots (fun x _ => ev_lk es x) (r K' k')) (inv _ _ _ _ (fun u => ?_) (fun _ => rfl) k)
    simp only [Out.sl, refS, lk_put]
    split
    · rfl
    · exact es u
   rcases hb with hb | ⟨b, he, hb⟩
   · rw [hb]
     cases t <;> exact run sl fun u => (lk_B hb u).symm
   · cases he
     rw [hb]
     cases t with
     | true => exact ⟨fun _ => run _ fun _ => rfl, fun e => by cases e⟩
     | false => exact ⟨fun _ => run _ fun _ => rfl, fun e => by cases e⟩
 | @no j t d t' hg hgs ht hb =>
   obtain ⟨o', hj, hd⟩ := gslot_inv hg hgs
   simp only [hg, hj, hd]
   have run : ∀ s : Slots, (∀ u, lk ((d, B t') :: sl) u = lk s u) → (match o.dst with | some d => K ((d, und) :: s) h | none => K s h) := fun s es => by
    have : K (putS o.dst und s) h := by
     refine inv _ _ _ _ (fun u => ?_) (fun _ => rfl) k
     simp only [Out.sl, refS, lk_put]
     split
     · rfl
     · exact es u
    cases hd : o.dst <;> rw [hd] at this <;> exact this
   rcases hb with hb | ⟨b, he, hb⟩
   · rw [hb]
     cases t' with
     | none => exact run sl fun u => (lk_B hb u).symm
     | some t' => cases t <;> cases t' <;> first | exact absurd rfl ht | exact run sl fun u => (lk_B hb u).symm
   · cases he
     rw [hb]
     cases t <;> cases b <;> first
      | exact absurd rfl ht
      | exact ⟨fun e => (by cases e), fun _ => run _ fun _ => rfl⟩
theorem mem_opSlots {x : Operand} {t : Nat} (hx : x ∈ opnds o.op) (ht : x = .tmp t) : t ∈ opSlots o := by
 subst ht
 exact List.mem_filterMap.2 ⟨_, hx, rfl⟩
theorem ev_opSlots (e : ∀ t ∈ opSlots o, lk sl t = lk sl' t) : ∀ x ∈ opnds o.op, ev E sl x = ev E sl' x := by
 intro x hx
 cases x with
 | tmp t => simp only [ev]; rw [e t (mem_opSlots hx rfl)]
 | _ => rfl
theorem GO.slots {x : Out} (g : GO E all o sl h m x) (e : ∀ t ∈ opSlots o, lk sl t = lk sl' t) (eg : ∀ d, gslot all o = some d → ∀ t, isB (lk sl d) t → isB (lk sl' d) t) : GO E all o sl' h m x := by
 cases g with
 | plain hg r => exact .plain hg fun K' k' => opE_slots (ev_opSlots e) (r K' k')
 | yes hg hgs hb r =>
   refine .yes hg hgs (eg _ hgs _ hb) fun K' k' => opE_slots (ev_opSlots (o := o) fun u hu => ?_) (r K' k')
   simp only [lk]
   split
   · rfl
   · exact e u hu
 | no hg hgs ht hb => exact .no hg hgs ht (eg _ hgs _ hb)
theorem ev_ref {S : Nat → Prop} {d : Nat} {t : Option Bool} (hn : ∀ x, (ev E sl x).nmd S) (x : Operand) : (ev E ((d, B t) :: sl) x).nmd S := by
 cases x with
 | tmp u =>
   have := hn (.tmp u)
   simp only [ev, lk] at this ⊢
   split at this
   · split
     · cases t with
       | none => trivial
       | some t => cases t <;> trivial
     · exact this
   · trivial
 | const v => exact hn (.const v)
 | global g => exact hn (.global g)
 | func f => exact hn (.func f)
theorem GO.heap {S : Nat → Prop} {x : Out} (g : GO E all o sl h m x) (e : HS S h h') (hot : wr o.op = true → ∀ b, S b → lkB h b = lkB h' b) (hz : ∀ T, (lkT E.tt T).zero.nmd S) (hn : ∀ x, (ev E sl x).nmd S) : GO E all o sl h' m x := by
 cases g with
 | plain hg r => exact .plain hg fun K' k' => opE_heap e hot hz (fun x _ => hn x) (r K' k')
 | yes hg hgs hb r => exact .yes hg hgs hb fun K' k' => opE_heap e hot hz (fun x _ => ev_ref hn x) (r K' k')
 | no hg hgs ht hb => exact .no hg hgs ht hb
theorem GO.still {x : Out} (g : GO E all o sl h m x) (hk : kind o.op = 0 ∨ kind o.op = 1) : GO E all o sl h' m x := by
 cases g with
 | plain hg r => exact .plain hg fun K' k' => opE_still hk (r K' k')
 | yes hg hgs hb r => exact .yes hg hgs hb fun K' k' => opE_still hk (r K' k')
 | no hg hgs ht hb => exact .no hg hgs ht hb
theorem OpR_facts {S : Nat → Prop} {op : Op} {v : SV} {ns : List Nat} {ea : EA} (r : OpR E sl h m op v ns ea) (e : HS S h h) (hz : ∀ T, (lkT E.tt T).zero.nmd S) (hn : ∀ x, (ev E sl x).nmd S) : (∀ b ∈ ns, S b) ∧ KindOK S op ns ea := by
 have := opE_facts e hz (fun x _ => hn x) (r (fun v' ns' ea' => ns' = ns ∧ ea' = ea) ⟨rfl, rfl⟩)
 obtain ⟨v', ns', ea', ⟨k1, rfl, rfl⟩, _⟩ := opE_pf this
 exact k1
theorem GO.facts {F : Nat → Prop} {x : Out} (g : GO E all o sl h m x) (hk : kind o.op ≤ 3) (wf : Wf E F sl h) : (∀ b ∈ x.ns, ¬ F b) ∧ KindOK (fun b => ¬ F b) o.op x.ns x.ea := by
 cases g with
 | plain hg r => exact OpR_facts r wf.hs wf.z wf.ev
 | yes hg hgs hb r => exact OpR_facts r wf.hs wf.z (ev_ref wf.ev)
 | no hg hgs ht hb =>
   refine ⟨by simp, ?_⟩
   unfold KindOK
   have : kind o.op = 0 ∨ kind o.op = 1 ∨ kind o.op = 2 ∨ kind o.op = 3 := by omega
   rcases this with h | h | h | h <;> simp [h]
theorem cold_cold (k : Blk) : k.cold.cold = k.cold := by cases k <;> rfl
theorem lkB_ice_eq : ∀ (ns : List Nat) (h : Heap) (b : Nat), lkB (iceB ns h) b = if b ∈ ns then (lkB h b).map Blk.cold else lkB h b
 | [], h, b => by simp [iceB]
 | b0 :: ns, h, b => by
   simp only [iceB]
   cases hb : lkB h b0 with
   | none =>
     simp only
     rw [lkB_ice_eq ns h b]
     by_cases e : b = b0
     · subst e; simp [hb]
     · simp [e]
   | some k0 =>
     simp only
     rw [lkB_ice_eq ns _ b, lkB_stB hb]
     by_cases e : b = b0
     · subst e
       simp only [hb, if_true, List.mem_cons, true_or, Option.map_some]
       split
       · rw [cold_cold]
       · rfl
     · simp [e]
theorem cold_ice {ns : List Nat} {b : Nat} : (lkB (iceB ns h) b).map Blk.cold = (lkB h b).map Blk.cold := by
 rw [lkB_ice_eq]
 split
 · cases lkB h b <;> simp [cold_cold]
 · rfl
theorem lkB_new {k : Blk} {b : Nat} : lkB ((m, k) :: h) b = if b = m then some k else lkB h b := by
 rw [lkB_cons]
 by_cases e : m = b
 · subst e; simp
 · rw [if_neg e, if_neg (Ne.symm e)]
theorem hE_cold {F : Nat → Prop} {ns : List Nat} {ea : EA} (hea : ea = .nil ∨ ∃ k, ea = .new k) (hm : F m) {b : Nat} (hb : ¬ F b) : (lkB (hE ns ea h m) b).map Blk.cold = (lkB h b).map Blk.cold := by
 rcases hea with rfl | ⟨k, rfl⟩
 · exact cold_ice
 · simp only [hE]
   rw [lkB_new, if_neg (by rintro rfl; exact hb hm)]
   exact cold_ice
theorem hE_hot {F : Nat → Prop} {ea : EA} (hea : ea = .nil ∨ ∃ k, ea = .new k) (hm : F m) {b : Nat} (hb : ¬ F b) : lkB (hE [] ea h m) b = lkB h b := by
 rcases hea with rfl | ⟨k, rfl⟩
 · rfl
 · simp only [hE]
   rw [lkB_new, if_neg (by rintro rfl; exact hb hm)]
   rfl
theorem HS.of_cold {S : Nat → Prop} (e : ∀ b, S b → (lkB h' b).map Blk.cold = (lkB h b).map Blk.cold) (k : HS S h h) : HS S h h' ∧ HS S h' h := by
 refine ⟨⟨fun b hb => (e b hb).symm, k.var⟩, ⟨e, fun b hb o v hv => ?_⟩⟩
 have := e b hb
 rw [hv] at this
 cases hh : lkB h b with
 | none => rw [hh] at this; cases this
 | some k' =>
   rw [hh] at this
   cases k' <;> simp [Blk.cold, Blk.dead] at this
   subst this
   exact k.var b hb _ _ hh
end
def kindsOK (a b : Nat) : Bool := (Nat.ble a 1 && Nat.ble b 3) || (Nat.ble b 1 && Nat.ble a 3) || (Nat.ble a 2 && Nat.ble b 2)
theorem kindsOK_spec {a b : Nat} (h : kindsOK a b = true) : (a ≤ 1 ∧ b ≤ 3) ∨ (b ≤ 1 ∧ a ≤ 3) ∨ (a ≤ 2 ∧ b ≤ 2) := by
 unfold kindsOK at h
 simp only [Bool.or_eq_true, Bool.and_eq_true, Nat.ble_eq] at h
 omega
def apartD (x : Option Nat) (l : List Nat) (g : Option Nat) : Bool := match x with
 | none => true
 | some d => match memb d l with
   | true => false
   | false => match g with
     | none => true
     | some e => !(Nat.beq d e)
theorem memb_iff {x : Nat} {l : List Nat} (h : memb x l = false) : x ∉ l := by
 intro hx
 exact memb_false h x hx rfl
theorem apartD_spec {x : Option Nat} {l : List Nat} {g : Option Nat} (h : apartD x l g = true) {d : Nat} (hx : x = some d) : d ∉ l ∧ g ≠ some d := by
 subst hx
 unfold apartD at h
 simp only at h
 split at h
 · cases h
 · rename_i hm
   refine ⟨memb_iff hm, ?_⟩
   rintro rfl
   simp at h
def indep (all : List Oper) (x y : Oper) : Bool :=
 match kindsOK (kind x.op) (kind y.op), apartD x.dst (opSlots y) (gslot all y), apartD y.dst (opSlots x) (gslot all x) with
 | true, true, true => (match apartD (gslot all x) (opSlots y) none, apartD (gslot all y) (opSlots x) none, apartD x.dst [] y.dst with
   | true, true, true => true
   | _, _, _ => false)
 | _, _, _ => false
open Go.RowKit (Below)
section
variable {E : Env} {all : List Oper}
theorem indep_spec {x y : Oper} (h : indep all x y = true) : ((kind x.op ≤ 1 ∧ kind y.op ≤ 3) ∨ (kind y.op ≤ 1 ∧ kind x.op ≤ 3) ∨ (kind x.op ≤ 2 ∧ kind y.op ≤ 2)) ∧
 (∀ d, x.dst = some d → d ∉ opSlots y ∧ gslot all y ≠ some d) ∧ (∀ d, y.dst = some d → d ∉ opSlots x ∧ gslot all x ≠ some d) ∧
 (∀ d, gslot all x = some d → d ∉ opSlots y) ∧ (∀ d, gslot all y = some d → d ∉ opSlots x) ∧ (∀ d, x.dst = some d → y.dst ≠ some d) := by
 unfold indep at h
 split at h
 case h_2 => cases h
 rename_i h1 h2 h3
 split at h
 case h_2 => cases h
 rename_i h4 h5 h6
 exact ⟨kindsOK_spec h1, fun d hd => apartD_spec h2 hd, fun d hd => apartD_spec h3 hd, fun d hd => (apartD_spec h4 hd).1, fun d hd => (apartD_spec h5 hd).1, fun d hd => (apartD_spec h6 hd).2⟩
theorem GO.gs {o : Oper} {sl : Slots} {h : Heap} {m : Nat} {x : Out} (g : GO E all o sl h m x) : x.g.map Prod.fst = gslot all o ∧ ∀ d t, x.g = some (d, t) → isB (lk sl d) t := by
 cases g with
 | plain hg r => exact ⟨by unfold gslot; rw [hg]; rfl, fun d t e => by cases e⟩
 | yes hg hgs hb r => exact ⟨hgs.symm, fun d t e => by cases e; exact hb⟩
 | no hg hgs ht hb => exact ⟨hgs.symm, fun d t e => by cases e; exact hb⟩
theorem lk_refS {g : Option (Nat × Option Bool)} {sl : Slots} {u : Nat} (h : ∀ d t, g = some (d, t) → d ≠ u) : lk (refS g sl) u = lk sl u := by
 cases g with
 | none => rfl
 | some p =>
   obtain ⟨d, t⟩ := p
   simp only [refS, lk]
   rw [beq_false (h d t rfl)]
theorem lk_refS_eq {d : Nat} {t : Option Bool} {sl : Slots} : lk (refS (some (d, t)) sl) d = B t := by simp [refS, lk]
theorem lk_sl {x : Out} {o : Oper} {sl : Slots} {u : Nat} : lk (x.sl o sl) u = if o.dst = some u then x.v else lk (refS x.g sl) u := by
 simp only [Out.sl, lk_put]
theorem sl_far {x : Out} {o : Oper} {sl : Slots} {h : Heap} {m : Nat} (g : GO E all o sl h m x) {u : Nat} (h1 : o.dst ≠ some u) (h2 : gslot all o ≠ some u) : lk (x.sl o sl) u = lk sl u := by
 rw [lk_sl, if_neg h1]
 refine lk_refS fun d t e => ?_
 rintro rfl
 have := g.gs.1
 rw [e] at this
 exact h2 this.symm
theorem gopX_inv {o : Oper} {m : Nat} {K : Slots → Heap → Prop} (inv : Inv K) : Inv fun sl h => gopX E all o sl h m K := by
 intro sl h sl' h' es eh k
 have hop : ∀ s s' : Slots, (∀ t, lk s t = lk s' t) → opX E o s h m K → opX E o s' h' m K := by
  intro s s' es k
  unfold opX at k ⊢
  obtain ⟨v, ns, ea, k1, k2⟩ := opE_pf k
  have hs : HS (fun _ => True) h h' := ⟨fun b _ => by rw [eh], fun _ _ _ _ _ => nmd_all⟩
  refine opE_heap hs (fun _ b _ => eh b) (fun _ => nmd_all) (fun _ _ => nmd_all) (opE_slots (fun x _ => ev_lk es x) (k2 _ ?_))
  refine app_iff.2 (inv _ _ _ _ (fun t => ?_) (fun b => ?_) (app_iff.1 k1))
  · rw [lk_put, lk_put, lk_killE, lk_killE, es]
  · have hice : ∀ b, lkB (iceB ns h) b = lkB (iceB ns h') b := fun b => by rw [lkB_ice_eq, lkB_ice_eq, eh]
    have hst : ∀ (g g' : Heap) (c : Nat) (k : Blk), (∀ b, lkB g b = lkB g' b) → ∀ b, lkB (stB g c k) b = lkB (stB g' c k) b := by
     intro g g' c k hg b
     cases hc : lkB g c with
     | none =>
       have stn : ∀ (g : Heap), lkB g c = none → stB g c k = g := by
        intro g
        induction g with
        | nil => intro _; rfl
        | cons p r ih =>
          obtain ⟨i, v⟩ := p
          intro hn
          simp only [lkB] at hn
          cases hb : Nat.beq i c with
          | true => rw [hb] at hn; cases hn
          | false => rw [hb] at hn; simp only [stB, hb]; rw [ih hn]
       rw [stn g hc, stn g' (by rw [← hg, hc])]; exact hg b
     | some k0 => rw [lkB_stB hc, lkB_stB (h := g') (by rw [← hg, hc]), hg]
    cases ea with
    | nil => exact hice b
    | new k => simp only [hE]; rw [lkB_new, lkB_new, hice]
    | set c k => exact hst _ _ _ _ hice b
    | app c k => exact hst _ _ _ _ (fun b => by rw [lkB_killH, lkB_killH, hice]) b
 have hskip : ∀ s s' : Slots, (∀ t, lk s t = lk s' t) → (match o.dst with | some d => K ((d, und) :: s) h | none => K s h) → (match o.dst with | some d => K ((d, und) :: s') h' | none => K s' h') := by
  intro s s' es k
  cases hd : o.dst <;> rw [hd] at k
  · exact inv _ _ _ _ es eh k
  · refine inv _ _ _ _ (fun t => ?_) eh k
    simp only [lk]; split
    · rfl
    · exact es t
 have hcons : ∀ (d : Nat) (v : SV) (t : Nat), lk ((d, v) :: sl) t = lk ((d, v) :: sl') t := fun d v t => by simp only [lk]; rw [es]
 simp only [gopX, grd] at k ⊢
 split at k
 · exact hop _ _ es k
 · split at k
   case h_2 => cases k
   split at k
   case h_2 => cases k
   rw [← es]
   split at k
   · split at k
     · exact hop _ _ es k
     · exact hskip _ _ es k
   · split at k
     · exact hskip _ _ es k
     · exact hop _ _ es k
   · split at k
     · exact ⟨fun e => hop _ _ (hcons _ _) (k.1 e), fun e => hskip _ _ (hcons _ _) (k.2 e)⟩
     · exact ⟨fun e => hop _ _ (hcons _ _) (k.1 e), fun e => hskip _ _ (hcons _ _) (k.2 e)⟩
   · exact hskip _ _ es k
   · cases k
theorem kind_wr {o : Op} (h : kind o ≤ 2) : wr o = false := by
 unfold kind at h
 unfold wr
 split at h <;> first | rfl | omega | skip
 split at h <;> simp_all
theorem swapG {x y : Oper} {mx my : Nat} {sl : Slots} {h : Heap} {K : Slots → Heap → Prop} (inv : Inv K) (kx : kind x.op ≤ 3) (ky : kind y.op ≤ 3)
 (i1 : ∀ d, x.dst = some d → d ∉ opSlots y ∧ gslot all y ≠ some d) (i2 : ∀ d, y.dst = some d → d ∉ opSlots x ∧ gslot all x ≠ some d)
 (i3 : ∀ d, gslot all x = some d → d ∉ opSlots y) (i4 : ∀ d, gslot all y = some d → d ∉ opSlots x) (i5 : ∀ d, x.dst = some d → y.dst ≠ some d)
 (ha : ∀ X Y, GO E all x sl h mx X → GO E all y sl (X.hp h mx) my Y → GO E all y sl h my Y)
 (hb : ∀ X Y, GO E all x sl h mx X → GO E all y sl h my Y → GO E all x sl (Y.hp h my) mx X)
 (hc : ∀ X Y, GO E all x sl h mx X → GO E all y sl h my Y → ∀ b, lkB (Y.hp (X.hp h mx) my) b = lkB (X.hp (Y.hp h my) mx) b)
 (k : gopX E all x sl h mx fun sl h => gopX E all y sl h my K) : gopX E all y sl h my fun sl h => gopX E all x sl h mx K := by
 obtain ⟨X, gx, k1⟩ := gopX_out kx (gopX_inv inv) k
 obtain ⟨Y, gy1, k2⟩ := gopX_out ky inv k1
 have gyS : GO E all y sl (X.hp h mx) my Y := by
  refine gy1.slots (fun t ht => sl_far gx (fun e => (i1 t e).1 ht) (fun e => i3 t e ht)) fun d hd t hb => ?_
  have h1 : x.dst ≠ some d := fun e => (i1 d e).2 hd
  rw [lk_sl, if_neg h1] at hb
  cases hg : X.g with
  | none => rw [hg] at hb; exact hb
  | some p =>
    obtain ⟨d', t'⟩ := p
    rw [hg] at hb
    by_cases e : d' = d
    · subst e
      rw [lk_refS_eq] at hb
      have := isB_uniq (t := t') (.inl rfl) hb
      subst this
      exact gx.gs.2 _ _ hg
    · rw [lk_refS fun d2 t2 e2 => by cases e2; exact e] at hb; exact hb
 have gy : GO E all y sl h my Y := ha X Y gx gyS
 have gxH : GO E all x sl (Y.hp h my) mx X := hb X Y gx gy
 have gx2 : GO E all x (Y.sl y sl) (Y.hp h my) mx X := by
  refine gxH.slots (fun t ht => (sl_far gy (fun e => (i2 t e).1 ht) (fun e => i4 t e ht)).symm) fun d hd t hb => ?_
  have h1 : y.dst ≠ some d := fun e => (i2 d e).2 hd
  rw [lk_sl, if_neg h1]
  cases hg : Y.g with
  | none => exact hb
  | some p =>
    obtain ⟨d', t'⟩ := p
    by_cases e : d' = d
    · subst e
      rw [lk_refS_eq]
      have := isB_uniq (gy.gs.2 _ _ hg) hb
      subst this
      exact .inl rfl
    · rw [lk_refS fun d2 t2 e2 => by cases e2; exact e]; exact hb
 refine gopX_in ky (gopX_inv inv) gy (gopX_in kx inv gx2 (inv _ _ _ _ (fun u => ?_) (fun b => ?_) k2))
 · -- the slots
   rw [lk_sl, lk_sl]
   by_cases hy : y.dst = some u
   · have hx : x.dst ≠ some u := fun e => i5 u e hy
     rw [if_pos hy, if_neg hx]
     have : ∀ d t, X.g = some (d, t) → d ≠ u := by
      rintro d t e rfl
      have := gx.gs.1
      rw [e] at this
      exact (i2 d hy).2 this.symm
     rw [lk_refS this, lk_sl, if_pos hy]
   · rw [if_neg hy]
     by_cases hx : x.dst = some u
     · rw [if_pos hx]
       have : ∀ d t, Y.g = some (d, t) → d ≠ u := by
        rintro d t e rfl
        have := gy.gs.1
        rw [e] at this
        exact (i1 d hx).2 this.symm
       rw [lk_refS this, lk_sl, if_pos hx]
     · rw [if_neg hx]
       have hxs : ∀ s, lk (X.sl x s) u = lk (refS X.g s) u := fun s => by rw [lk_sl, if_neg hx]
       have hys : ∀ s, lk (Y.sl y s) u = lk (refS Y.g s) u := fun s => by rw [lk_sl, if_neg hy]
       by_cases ex : ∃ t, X.g = some (u, t)
       · obtain ⟨t, ex⟩ := ex
         rw [ex, lk_refS_eq]
         by_cases ey : ∃ t, Y.g = some (u, t)
         · obtain ⟨t', ey⟩ := ey
           rw [ey, lk_refS_eq, isB_uniq (gy.gs.2 _ _ ey) (gx.gs.2 _ _ ex)]
         · rw [lk_refS (g := Y.g) (fun d t e h => ey ⟨t, by rw [e, h]⟩), hxs, ex, lk_refS_eq]
       · rw [lk_refS (g := X.g) (fun d t e h => ex ⟨t, by rw [e, h]⟩), hys]
         by_cases ey : ∃ t, Y.g = some (u, t)
         · obtain ⟨t, ey⟩ := ey
           rw [ey, lk_refS_eq, lk_refS_eq]
         · rw [lk_refS (g := Y.g) (fun d t e h => ey ⟨t, by rw [e, h]⟩), lk_refS (g := Y.g) (fun d t e h => ey ⟨t, by rw [e, h]⟩), hxs, lk_refS (g := X.g) (fun d t e h => ex ⟨t, by rw [e, h]⟩)]
 · exact hc X Y gx gy b
theorem swap {x y : Oper} {mx my : Nat} {F : Nat → Prop} {sl : Slots} {h : Heap} {K : Slots → Heap → Prop} (inv : Inv K) (wf : Wf E F sl h) (Fx : F mx) (Fy : F my) (hxy : mx ≠ my) (hi : indep all x y = true)
 (k : gopX E all x sl h mx fun sl h => gopX E all y sl h my K) : gopX E all y sl h my fun sl h => gopX E all x sl h mx K := by
 obtain ⟨hk, i1, i2, i3, i4, i5⟩ := indep_spec hi
 have kx : kind x.op ≤ 3 := by omega
 have ky : kind y.op ≤ 3 := by omega
 refine swapG inv kx ky i1 i2 i3 i4 i5 (fun X Y gx gyS => ?_) (fun X Y gx gy => ?_) (fun X Y gx gy b => ?_) k
 · obtain ⟨nx, fx⟩ := gx.facts kx wf
   rcases hk with ⟨h1, h2⟩ | ⟨h1, h2⟩ | ⟨h1, h2⟩
   · -- x reads nothing
     have hea : X.ns = [] ∧ (X.ea = .nil ∨ ∃ k, X.ea = .new k) := by
      unfold KindOK at fx
      have : kind x.op = 0 ∨ kind x.op = 1 := by omega
      rcases this with e | e <;> rw [e] at fx
      · exact ⟨fx.1, .inl fx.2⟩
      · exact fx
     have hh : ∀ b, ¬ F b → lkB (X.hp h mx) b = lkB h b := fun b hb => by unfold Out.hp; rw [hea.1]; exact hE_hot hea.2 Fx hb
     exact gyS.heap (HS.of_cold (fun b hb => by rw [hh b hb]) wf.hs).2 (fun _ b hb => hh b hb) wf.z wf.ev
   · exact gyS.still (by omega)
   · have hea : X.ea = .nil ∨ ∃ k, X.ea = .new k := by
      unfold KindOK at fx
      have : kind x.op = 0 ∨ kind x.op = 1 ∨ kind x.op = 2 := by omega
      rcases this with e | e | e <;> rw [e] at fx
      · exact .inl fx.2
      · exact fx.2
      · exact fx
     exact gyS.heap (HS.of_cold (fun b hb => hE_cold hea Fx hb) wf.hs).2 (fun e => by rw [kind_wr h2] at e; cases e) wf.z wf.ev
 · obtain ⟨ny, fy⟩ := gy.facts ky wf
   rcases hk with ⟨h1, h2⟩ | ⟨h1, h2⟩ | ⟨h1, h2⟩
   · exact gx.still (by omega)
   · have hea : Y.ns = [] ∧ (Y.ea = .nil ∨ ∃ k, Y.ea = .new k) := by
      unfold KindOK at fy
      have : kind y.op = 0 ∨ kind y.op = 1 := by omega
      rcases this with e | e <;> rw [e] at fy
      · exact ⟨fy.1, .inl fy.2⟩
      · exact fy
     have hh : ∀ b, ¬ F b → lkB (Y.hp h my) b = lkB h b := fun b hb => by unfold Out.hp; rw [hea.1]; exact hE_hot hea.2 Fy hb
     exact gx.heap (HS.of_cold (fun b hb => by rw [hh b hb]) wf.hs).1 (fun _ b hb => (hh b hb).symm) wf.z wf.ev
   · have hea : Y.ea = .nil ∨ ∃ k, Y.ea = .new k := by
      unfold KindOK at fy
      have : kind y.op = 0 ∨ kind y.op = 1 ∨ kind y.op = 2 := by omega
      rcases this with e | e | e <;> rw [e] at fy
      · exact .inl fy.2
      · exact fy.2
      · exact fy
     exact gx.heap (HS.of_cold (fun b hb => hE_cold hea Fy hb) wf.hs).1 (fun e => by rw [kind_wr h1] at e; cases e) wf.z wf.ev
 · obtain ⟨nx, fx⟩ := gx.facts kx wf
   obtain ⟨ny, fy⟩ := gy.facts ky wf
   have hxn : mx ∉ Y.ns := fun e => ny _ e Fx
   have hyn : my ∉ X.ns := fun e => nx _ e Fy
   have cold2 : ∀ (ns ns' : List Nat) (b : Nat), lkB (iceB ns (iceB ns' h)) b = lkB (iceB ns' (iceB ns h)) b := by
    intro ns ns' b
    rw [lkB_ice_eq, lkB_ice_eq, lkB_ice_eq, lkB_ice_eq]
    split <;> split <;> rfl
   have iceNew : ∀ (ns : List Nat) (g : Heap) (m : Nat) (k : Blk) (b : Nat), m ∉ ns → lkB (iceB ns ((m, k) :: g)) b = if b = m then some k else lkB (iceB ns g) b := by
    intro ns g m k b hm
    rw [lkB_ice_eq, lkB_new, lkB_ice_eq]
    by_cases e : b = m
    · subst e; simp [hm]
    · simp [e]
   have set0 : ∀ (c : Nat) (k : Blk) (g : Heap) (m : Nat) (k' : Blk) (b : Nat), c ≠ m → lkB (stB ((m, k') :: g) c k) b = if b = m then some k' else lkB (stB g c k) b := by
    intro c k g m k' b hc
    simp only [stB]
    rw [beq_false (Ne.symm hc)]
    simp only
    rw [lkB_new]
   have core : ∀ (X Y : Out) (mx my : Nat) (kx ky : Nat), F mx → F my → mx ≠ my → mx ∉ Y.ns → my ∉ X.ns → (X.ns = [] ∧ (X.ea = .nil ∨ ∃ k, X.ea = .new k)) → ((∃ b k, Y.ea = .set b k ∧ ¬ F b)) → ∀ b, lkB (Y.hp (X.hp h mx) my) b = lkB (X.hp (Y.hp h my) mx) b := by
    intro X Y mx my kx ky Fx Fy hxy hxn hyn hX hY b
    obtain ⟨c, kc, hc, hS⟩ := hY
    unfold Out.hp
    rw [hc, hX.1]
    rcases hX.2 with e | ⟨k, e⟩
    · rw [e]; rfl
    · rw [e]
      simp only [hE, iceB]
      have : ∀ g g' : Heap, (∀ b, lkB g b = lkB g' b) → ∀ b, lkB (stB g c kc) b = lkB (stB g' c kc) b := by
       intro g g' hg b
       have stn : ∀ (g : Heap), lkB g c = none → stB g c kc = g := by
        intro g
        induction g with
        | nil => intro _; rfl
        | cons p r ih =>
          obtain ⟨i, v⟩ := p
          intro hn
          simp only [lkB] at hn
          cases hb : Nat.beq i c with
          | true => rw [hb] at hn; cases hn
          | false => rw [hb] at hn; simp only [stB, hb]; rw [ih hn]
       cases h1 : lkB g c with
       | none => rw [stn g h1, stn g' (by rw [← hg, h1])]; exact hg b
       | some k0 => rw [lkB_stB h1, lkB_stB (h := g') (by rw [← hg, h1]), hg]
      rw [this _ ((mx, k) :: iceB Y.ns h) (fun b => by rw [iceNew _ _ _ _ _ hxn, lkB_new]), set0 _ _ _ _ _ _ (by rintro rfl; exact hS Fx), lkB_new]
   have norm : ∀ (o : Oper) (Z : Out), kind o.op ≤ 3 → KindOK (fun b => ¬ F b) o.op Z.ns Z.ea → (Z.ea = .nil ∨ ∃ k, Z.ea = .new k) ∨ ∃ b k, Z.ea = .set b k ∧ ¬ F b := by
    intro o Z ho f
    unfold KindOK at f
    have : kind o.op = 0 ∨ kind o.op = 1 ∨ kind o.op = 2 ∨ kind o.op = 3 := by omega
    rcases this with e | e | e | e <;> rw [e] at f
    · exact .inl (.inl f.2)
    · exact .inl f.2
    · exact .inl f
    · rcases f with f | f
      · exact .inl (.inl f.2)
      · exact .inr f
   have low : ∀ (o : Oper) (Z : Out), kind o.op ≤ 1 → KindOK (fun b => ¬ F b) o.op Z.ns Z.ea → Z.ns = [] ∧ (Z.ea = .nil ∨ ∃ k, Z.ea = .new k) := by
    intro o Z ho f
    unfold KindOK at f
    have : kind o.op = 0 ∨ kind o.op = 1 := by omega
    rcases this with e | e <;> rw [e] at f
    · exact ⟨f.1, .inl f.2⟩
    · exact f
   have low2 : ∀ (o : Oper) (Z : Out), kind o.op ≤ 2 → KindOK (fun b => ¬ F b) o.op Z.ns Z.ea → (Z.ea = .nil ∨ ∃ k, Z.ea = .new k) := by
    intro o Z ho f
    rcases norm o Z (by omega) f with f' | ⟨b, k, f', _⟩
    · exact f'
    · exfalso
      unfold KindOK at f
      have : kind o.op = 0 ∨ kind o.op = 1 ∨ kind o.op = 2 := by omega
      rcases this with e | e | e <;> rw [e, f'] at f <;> simp at f
   rcases norm x X kx fx with hX | hX
   · rcases norm y Y ky fy with hY | hY
     · unfold Out.hp
       rcases hX with eX | ⟨kX, eX⟩ <;> rcases hY with eY | ⟨kY, eY⟩ <;> rw [eX, eY] <;> simp only [hE]
       · exact cold2 _ _ b
       · rw [lkB_new, iceNew _ _ _ _ _ hyn, cold2]
       · rw [lkB_new, iceNew _ _ _ _ _ hxn, cold2]
       · rw [lkB_new, lkB_new, iceNew _ _ _ _ _ hyn, iceNew _ _ _ _ _ hxn, cold2]
         by_cases e1 : b = my
         · subst e1; simp [Ne.symm hxy]
         · simp [e1]
     · have : ¬ kind y.op ≤ 2 := fun e => by
        rcases low2 y Y e fy with f | ⟨k, f⟩ <;> obtain ⟨b, k, g, _⟩ := hY <;> rw [f] at g <;> cases g
       exact core X Y mx my 0 0 Fx Fy hxy hxn hyn (low x X (by omega) fx) hY b
   · have : ¬ kind x.op ≤ 2 := fun e => by
      rcases low2 x X e fx with f | ⟨k, f⟩ <;> obtain ⟨b, k, g, _⟩ := hX <;> rw [f] at g <;> cases g
     exact (core Y X my mx 0 0 Fy Fx (Ne.symm hxy) hyn hxn (low y Y (by omega) fy) hX b).symm
end
def clnK : Op → Bool
 | .move _ | .assign _ | .load .. | .indexAddr .. | .fieldAddr .. | .nilCheck _ | .field .. | .index .. | .binOp .. | .unOp .. | .convert .. => true
 | .call c => match c.callee with
   | .builtin .len => true
   | _ => false
 | _ => false
def NilE (ea : EA) : Prop := ea = .nil
theorem nilE : NilE .nil := rfl
section
variable {E : Env} {sl : Slots} {h : Heap} {n : Nat}
theorem shp_cln {d : TD} {b : Bool} {p q : Prop} (h : shp d b p) (g : p → q) : shp d b q := by
 cases d <;> cases b <;> first | exact h.elim | exact g h
theorem bin_cln {S : Nat → Prop} {op : BinOp} {T : TypeId} {x y : SV} {ns : List Nat} {ea : EA} {K : KE} (hk : binX E op T x y fun v => K v ns ea) : binX E op T x y fun v => (v.nmd S ∧ NilE .nil) ∧ K v ns ea := by
 unfold binX at hk ⊢
 split at hk <;> (try exact hk.elim)
 all_goals first
  | (split at hk
     case h_2 => cases hk
     rename_i e
     first
      | exact ⟨⟨trivial, nilE⟩, hk⟩
      | (obtain ⟨s, k, g⟩ := arith_pf hk; exact g _ ⟨⟨trivial, nilE⟩, k⟩)
      | (obtain ⟨p, k⟩ := side_pf hk; obtain ⟨s, k, g⟩ := arith_pf k; exact side p (g _ ⟨⟨trivial, nilE⟩, k⟩))
      | (obtain ⟨p, k⟩ := side_pf hk; exact side p ⟨⟨trivial, nilE⟩, k⟩))
  | (obtain ⟨p, k⟩ := side_pf hk; obtain ⟨s, k, g⟩ := arith_pf k; exact side p (g _ ⟨⟨trivial, nilE⟩, k⟩))
  | (obtain ⟨p, k⟩ := side_pf hk; exact side p ⟨⟨trivial, nilE⟩, k⟩)
theorem opE_cln {S : Nat → Prop} {o : Op} {K : KE} (hc : clnK o = true) (e : HS S h h) (hr : ∀ b, S b → ∀ o s xs, lkB h b = some (.row o s xs) → nmdL S xs) (hn : ∀ x ∈ opnds o, (ev E sl x).nmd S) (hk : opE E sl h n o K) : opE E sl h n o fun v ns ea => (v.nmd S ∧ NilE ea) ∧ K v ns ea := by
 cases o with
 | move x => simp only [opE, frc_eq] at hk ⊢; exact ⟨⟨hn x (by simp [opnds]), nilE⟩, hk⟩
 | assign x => simp only [opE, frc_eq] at hk ⊢; exact ⟨⟨hn x (by simp [opnds]), nilE⟩, hk⟩
 | nilCheck x =>
   have hx := hn x (by simp [opnds])
   simp only [opE] at hk ⊢
   split at hk <;> first | exact hk.elim | (rename_i e1; rw [e1] at hx; exact ⟨⟨hx, nilE⟩, hk⟩)
 | fieldAddr T x f =>
   have hx := hn x (by simp [opnds])
   simp only [opE] at hk ⊢
   split at hk
   case h_2 => cases hk
   rename_i e1
   split at hk
   case h_2 => cases hk
   rename_i e2
   split at hk
   case h_2 => cases hk
   rename_i e3
   try simp only [e3]
   split at hk
   · rename_i e4; rw [e4] at hx; exact ⟨⟨hx, nilE⟩, hk⟩
   · rename_i t e4; rw [e4] at hx
     obtain ⟨s, ⟨k1, k2⟩, g⟩ := nav_pf (nav_nmd (S := S) (v := t) hx hk)
     exact g _ ⟨⟨k1, nilE⟩, k2⟩
   · cases hk
 | field T x f =>
   have hx := hn x (by simp [opnds])
   simp only [opE] at hk ⊢
   split at hk
   case h_2 => cases hk
   rename_i e1
   split at hk
   case h_2 => cases hk
   rename_i e2
   obtain ⟨s, ⟨k1, k2⟩, g⟩ := nav_pf (nav_nmd hx hk)
   refine g _ ?_
   split at k2
   case h_2 => cases k2
   rename_i e3
   try simp only [e3]
   exact shp_cln (p := K s [] .nil) k2 fun k => ⟨⟨k1, nilE⟩, k⟩
 | load T x =>
   have hx := hn x (by simp [opnds])
   simp only [opE] at hk ⊢
   split at hk
   · rename_i e1
     rw [e1] at hx
     split at hk
     · rename_i e2
       obtain ⟨s, ⟨k1, k2⟩, g⟩ := nav_pf (nav_nmd (e.var _ hx _ _ e2) hk)
       try simp only [e2]
       refine g _ ?_
       split at k2
       case h_2 => cases k2
       rename_i e3
       try simp only [e3]
       exact shp_cln (p := K s [] .nil) k2 fun k => ⟨⟨k1, nilE⟩, k⟩
     · rename_i e2
       split at hk
       · cases hk
       · obtain ⟨s, ⟨k1, k2⟩, g⟩ := nav_pf (nav_nmd (S := S) (v := .arr 0 _ _) (hr _ hx _ _ _ e2) hk)
         refine g _ ?_
         split at k2
         case h_2 => cases k2
         rename_i e3
         try simp only [e3]
         exact shp_cln (p := K s [] .nil) k2 fun k => ⟨⟨k1, nilE⟩, k⟩
     · cases hk
   · rename_i e1
     rw [e1] at hx
     rw [frc_eq] at hk ⊢
     split at hk
     case h_2 => cases hk
     rename_i e3
     try simp only [e3]
     exact shp_cln (p := K _ [] .nil) hk fun k => ⟨⟨hx, nilE⟩, k⟩
   · cases hk
 | indexAddr T x i =>
   have hx := hn x (by simp [opnds])
   simp only [opE] at hk ⊢
   split at hk
   case h_2 => cases hk
   rename_i e1
   split at hk
   · rename_i e2
     split at hk
     · rename_i e3
       rw [e3] at hx
       split at hk
       case h_2 => cases hk
       rename_i e4 e5
       try simp only [e4, e5]
       unfold IdxVC at hk ⊢
       obtain ⟨s, h0, h1, k⟩ := hk
       exact ⟨s, h0, h1, ⟨(nmdL_get (p := S) hx h1 : s.nmd S), nilE⟩, k⟩
     · rename_i e3
       rw [e3] at hx
       split at hk
       case h_2 => cases hk
       rename_i e4 e5
       try simp only [e4, e5]
       obtain ⟨p, k⟩ := side_pf hk
       exact side p ⟨⟨hx, nilE⟩, k⟩
     · cases hk
   · rename_i e2
     split at hk
     · rename_i e3 e4
       rw [e4] at hx
       try simp only [e3]
       obtain ⟨p, k⟩ := side_pf hk
       exact side p ⟨⟨hx, nilE⟩, k⟩
     · rename_i t e3 e4
       rw [e4] at hx
       try simp only [e3]
       obtain ⟨p, k⟩ := side_pf hk
       obtain ⟨s, ⟨k1, k2⟩, g⟩ := nav_pf (nav_nmd (S := S) (v := t) hx k)
       exact side p (g _ ⟨⟨k1, nilE⟩, k2⟩)
     · cases hk
   · cases hk
 | index T x i =>
   have hx := hn x (by simp [opnds])
   simp only [opE] at hk ⊢
   split at hk
   · obtain ⟨s, k, g⟩ := byte_pf hk
     exact g _ ⟨⟨trivial, nilE⟩, k⟩
   · rename_i e1 e2 e3
     rw [e3] at hx
     split at hk
     case h_2 => cases hk
     rename_i e4
     try simp only [e4]
     unfold IdxVC at hk ⊢
     obtain ⟨s, h0, h1, k⟩ := hk
     refine ⟨s, h0, h1, ?_⟩
     have hs := nmdL_get (p := S) hx h1
     split at k
     case h_2 => cases k
     rename_i e5
     try simp only [e5]
     exact shp_cln (p := K s [] .nil) k fun k => ⟨⟨hs, nilE⟩, k⟩
   · cases hk
 | binOp op T x y T' =>
   simp only [opE] at hk ⊢
   exact bin_cln hk
 | unOp op T x =>
   cases op <;> simp only [opE] at hk ⊢ <;> (try exact hk.elim)
   all_goals (split at hk <;> first | exact hk.elim | exact ⟨⟨trivial, nilE⟩, hk⟩ | (obtain ⟨s, k, g⟩ := arith_pf hk; exact g _ ⟨⟨trivial, nilE⟩, k⟩))
 | convert S' T x =>
   simp only [opE] at hk ⊢
   split at hk
   · cases hk
   · rename_i e1 e2 e3
     obtain ⟨s, k, g⟩ := arith_pf hk
     exact g _ ⟨⟨trivial, nilE⟩, k⟩
   · rename_i e1 e2 e3
     exact ⟨⟨trivial, nilE⟩, hk⟩
   · rename_i e1 e2 e3
     exact ⟨⟨trivial, nilE⟩, hk⟩
   · cases hk
 | call c =>
   simp only [opE] at hk ⊢
   split at hk
   · rename_i e0
     split at hk
     case h_2 => cases hk
     split at hk <;> first
      | cases hk
      | exact ⟨⟨trivial, nilE⟩, hk⟩
      | (split at hk
         case h_2 => cases hk
         exact ⟨⟨trivial, nilE⟩, hk⟩)
   all_goals (exfalso; simp only [clnK] at hc; first | (cases hc; done) | (split at hc <;> simp_all))
 | _ => cases hc
end
def apL (T : List Nat) : List Nat → Bool
 | [] => true
 | t :: r => match memb t T with | true => false | false => apL T r
theorem apL_ok {T : List Nat} : ∀ {l : List Nat}, apL T l = true → ∀ t ∈ l, t ∉ T
 | t :: r, h, t', ht => by
   simp only [apL] at h
   split at h
   · cases h
   · rename_i e
     rcases List.mem_cons.1 ht with rfl | ht
     · exact memb_iff e
     · exact apL_ok h t' ht
def tnt : List Oper → List Nat → List Nat
 | [], T => T
 | o :: r, T => match o.dst with
   | none => tnt r T
   | some d => match clnK o.op, apL T (opSlots o) with
     | true, true => tnt r T
     | _, _ => tnt r (d :: T)
def tntOK (T : List Nat) : List Oper → Bool
 | [] => true
 | o :: r => match o.dst with
   | none => tntOK T r
   | some d => match memb d T with
     | true => tntOK T r
     | false => match clnK o.op, apL T (opSlots o) with
       | true, true => tntOK T r
       | _, _ => false
theorem memb_true {x : Nat} {l : List Nat} : memb x l = true ↔ x ∈ l := by
 induction l with
 | nil => simp [memb]
 | cons y r ih =>
   simp only [memb]
   cases hb : Nat.beq x y with
   | true => simp [beq_of hb]
   | false => simp [ih, beq_ne hb]
theorem tntOK_ok {T : List Nat} : ∀ {l : List Oper}, tntOK T l = true → ∀ o ∈ l, ∀ d, o.dst = some d → d ∉ T → clnK o.op = true ∧ ∀ t ∈ opSlots o, t ∉ T
 | [], _, _, ho, _, _, _ => by cases ho
 | o :: r, h, o', ho, d, hd, hT => by
   simp only [tntOK] at h
   rcases List.mem_cons.1 ho with rfl | ho
   · rw [hd] at h
     simp only at h
     split at h
     · rename_i e
       exact absurd (memb_true.1 e) hT
     · split at h
       · rename_i e1 e2; exact ⟨e1, apL_ok e2⟩
       · cases h
   · split at h
     · exact tntOK_ok h o' ho d hd hT
     · split at h
       · exact tntOK_ok h o' ho d hd hT
       · split at h
         · exact tntOK_ok h o' ho d hd hT
         · cases h
def mkAt (t : Nat) : List Oper → Nat → Option Nat → Option Nat
 | [], _, r => r
 | o :: l, i, r => match o.dst with
   | none => mkAt t l (i + 1) r
   | some d => match Nat.beq d t with
     | false => mkAt t l (i + 1) r
     | true => match r, o.op, o.guard with
       | none, .alloc _, none => mkAt t l (i + 1) (some i)
       | none, .box _ _, none => mkAt t l (i + 1) (some i)
       | _, _, _ => none
theorem mkAt_some {t : Nat} {all : List Oper} : ∀ {l pre : List Oper} {r : Option Nat} {i : Nat}, all = pre ++ l → mkAt t l pre.length r = some i → (∀ j o, j < pre.length → all[j]? = some o → o.dst = some t → r = some j) → (∀ j, r = some j → ∃ o, all[j]? = some o ∧ o.dst = some t ∧ o.guard = none ∧ ((∃ T, o.op = .alloc T) ∨ ∃ T x, o.op = .box T x)) →
 (∃ o, all[i]? = some o ∧ o.dst = some t ∧ o.guard = none ∧ ((∃ T, o.op = .alloc T) ∨ ∃ T x, o.op = .box T x)) ∧ ∀ j o, all[j]? = some o → o.dst = some t → j = i
 | [], pre, r, i, ha, h, h1, h2 => by
   simp only [mkAt] at h
   subst h
   simp only [List.append_nil] at ha
   subst ha
   refine ⟨h2 i rfl, fun j o hj hd => ?_⟩
   have hlt : j < all.length := by
    rcases Nat.lt_or_ge j all.length with g | g
    · exact g
    · rw [List.getElem?_eq_none g] at hj; cases hj
   have := h1 j o hlt hj hd
   cases this; rfl
 | o :: l, pre, r, i, ha, h, h1, h2 => by
   have hat : all[pre.length]? = some o := by rw [ha]; simp
   have step : ∀ r', mkAt t l (pre.length + 1) r' = some i → (∀ j o, j < pre.length + 1 → all[j]? = some o → o.dst = some t → r' = some j) → (∀ j, r' = some j → ∃ o, all[j]? = some o ∧ o.dst = some t ∧ o.guard = none ∧ ((∃ T, o.op = .alloc T) ∨ ∃ T x, o.op = .box T x)) → _ := fun r' hh g1 g2 =>
    mkAt_some (l := l) (pre := pre ++ [o]) (r := r') (i := i) (by rw [ha]; simp) (by simpa using hh) (by simpa using g1) g2
   have keep : o.dst ≠ some t → ∀ j o', j < pre.length + 1 → all[j]? = some o' → o'.dst = some t → r = some j := by
    intro hne j o' hj hj' hd
    rcases Nat.lt_or_ge j pre.length with g | g
    · exact h1 j o' g hj' hd
    · have : j = pre.length := by omega
      subst this
      rw [hat] at hj'; cases hj'
      exact absurd hd hne
   simp only [mkAt] at h
   split at h
   · rename_i e; exact step r h (keep (by rw [e]; simp)) h2
   · rename_i d e
     split at h
     · rename_i hb; exact step r h (keep (by rw [e]; intro hh; cases hh; simp at hb)) h2
     · rename_i hb
       have := beq_of hb; subst this
       have new : r = none → ∀ j o', j < pre.length + 1 → all[j]? = some o' → o'.dst = some d → some pre.length = some j := by
        intro hr j o' hj hj' hd
        rcases Nat.lt_or_ge j pre.length with g | g
        · have := h1 j o' g hj' hd
          rw [hr] at this; cases this
        · congr 1; omega
       split at h
       · rename_i T e1 e2 
         exact step _ h (new rfl) fun j hj => by cases hj; exact ⟨o, hat, e, e2, .inl ⟨T, e1⟩⟩
       · rename_i T x e1 e2
         exact step _ h (new rfl) fun j hj => by cases hj; exact ⟨o, hat, e, e2, .inr ⟨T, x, e1⟩⟩
       · cases h
def frS (all : List Oper) (y : Oper) : Option Nat :=
 match y.op with
 | .store _ (.tmp t) _ => mkAt t all 0 none
 | _ => none
def strB (all : List Oper) : List Oper → Bool
 | [] => true
 | o :: r => match o.op with
   | .store .. => (match frS all o with | some _ => strB all r | none => false)
   | _ => strB all r
def tgB (all : List Oper) (Rs : List Nat) (y : Oper) : Bool :=
 match frS all y with
 | some _ => true
 | none => match y.op with
   | .store _ (.tmp t) _ => memb t Rs
   | _ => false
def indep2 (all : List Oper) (T Rs : List Nat) (x y : Oper) : Bool :=
 match tgB all Rs y, Nat.ble (kind x.op) 2, apL T (opSlots x), y.guard with
 | true, true, true, none => (match apartD x.dst (opSlots y) (gslot all y), apartD y.dst (opSlots x) (gslot all x), apartD (gslot all x) (opSlots y) none, apartD (gslot all y) (opSlots x) none, apartD x.dst [] y.dst with
   | true, true, true, true, true => true
   | _, _, _, _, _ => false)
 | _, _, _, _ => false
structure Cl (E : Env) (all : List Oper) (n : Nat) (T Rs : List Nat) (S : Nat → Prop) (L : Nat → Prop) (sl : Slots) (h : Heap) : Prop where
 sub : ∀ b, S b → b < n
 slot : ∀ t, t ∉ T → (lk sl t).nmd S
 glb : ∀ g, (ev E sl (.global g)).nmd S
 var : ∀ b, S b → ∀ o v, lkB h b = some (.var o v) → v.nmd S
 row : ∀ b, S b → ∀ o s xs, lkB h b = some (.row o s xs) → nmdL S xs
 made : ∀ i o t, L i → all[i]? = some o → o.dst = some t → o.guard = none → (∀ j o', all[j]? = some o' → o'.dst = some t → j = i) → ((∃ T, o.op = .alloc T) ∨ ∃ T x, o.op = .box T x) → lk sl t = .ptr (n + i) []
 root : ∀ t, t ∈ Rs → (∀ o ∈ all, o.dst ≠ some t) ∧ ∃ f, lk sl t = .ptr f [] ∧ f < n ∧ ¬ S f
section
variable {E : Env} {all : List Oper} {n : Nat} {T Rs : List Nat} {S : Nat → Prop} {L : Nat → Prop} {sl : Slots} {h : Heap}
theorem Cl.hs (c : Cl E all n T Rs S L sl h) : HS S h h := ⟨fun _ _ => rfl, c.var⟩
theorem ofVal_nmd {S : Nat → Prop} (v : Value) : (ofVal v).nmd S := by
 unfold ofVal
 split <;> trivial
theorem Cl.ev (c : Cl E all n T Rs S L sl h) {o : Oper} (hT : ∀ t ∈ opSlots o, t ∉ T) : ∀ x ∈ opnds o.op, (ev E sl x).nmd S := by
 intro x hx
 cases x with
 | tmp t =>
   have := c.slot t (hT t (mem_opSlots hx rfl))
   simp only [Sx.ev]
   split
   · exact this
   · trivial
 | const v => exact ofVal_nmd v
 | global g => exact c.glb g
 | func f => simp only [Sx.ev]; split <;> exact trivial
theorem Cl.ev_ref (c : Cl E all n T Rs S L sl h) {o : Oper} (hT : ∀ t ∈ opSlots o, t ∉ T) {d : Nat} {b : Option Bool} : ∀ x ∈ opnds o.op, (Sx.ev E ((d, B b) :: sl) x).nmd S := by
 intro x hx
 cases x with
 | tmp t =>
   have := c.slot t (hT t (mem_opSlots hx rfl))
   simp only [Sx.ev]
   split
   · rw [lk]
     split
     · cases b with
       | none => trivial
       | some b => cases b <;> trivial
     · exact this
   · trivial
 | const v => exact ofVal_nmd v
 | global g => exact c.glb g
 | func f => simp only [Sx.ev]; split <;> exact trivial
end
section
variable {E : Env} {all : List Oper}
theorem frS_ok {y : Oper} {i : Nat} (h : frS all y = some i) : ∃ T0 t v, y.op = .store T0 (.tmp t) v ∧ (∃ o, all[i]? = some o ∧ o.dst = some t ∧ o.guard = none ∧ ((∃ T, o.op = .alloc T) ∨ ∃ T x, o.op = .box T x)) ∧ ∀ j o, all[j]? = some o → o.dst = some t → j = i := by
 unfold frS at h
 split at h
 · rename_i T0 t v e
   exact ⟨T0, t, v, e, mkAt_some (pre := []) rfl h (fun j o hj => by simp at hj) (fun j hj => by cases hj)⟩
 · cases h
theorem store_same {sl : Slots} {h h' : Heap} {m T0 t f : Nat} {x : Operand} {v : SV} {ns : List Nat} {ea : EA} (ht : lk sl t = .ptr f []) (hf : lkB h' f = lkB h f) (r : OpR E sl h m (.store T0 (.tmp t) x) v ns ea) : OpR E sl h' m (.store T0 (.tmp t) x) v ns ea := by
 intro K k
 have := r K k
 have he : ev E sl (.tmp t) = .ptr f [] ∨ ev E sl (.tmp t) = .any := by
  simp only [ev]
  grind
 simp only [opE] at this ⊢
 rcases he with he | he
 · rw [he] at this ⊢
   split at this
   case h_2 => cases this
   rename_i e1 e2
   cases e2
   try simp only [e1]
   rw [hf]
   split at this
   · rename_i e3
     try simp only [e3]
     obtain ⟨k1, g⟩ := solid_pf this
     refine g _ ?_
     split at k1
     case h_2 => cases k1
     rename_i e4
     try simp only [e4]
     simpa only [storeV, crosses] using k1
   · obtain ⟨k1, g⟩ := solid_pf this
     split at k1
     case h_2 => cases k1
     unfold storeR at k1
     obtain ⟨v', ns', k2, _⟩ := frz_pf k1
     grind
   · cases this
 · grind
theorem store_out {sl : Slots} {h : Heap} {m T0 t f : Nat} {x : Operand} {v : SV} {ns : List Nat} {ea : EA} (ht : lk sl t = .ptr f []) (r : OpR E sl h m (.store T0 (.tmp t) x) v ns ea) : ns = [] ∧ ∃ k k0, ea = .set f k ∧ lkB h f = some k0 := by
 have he : ev E sl (.tmp t) = .ptr f [] ∨ ev E sl (.tmp t) = .any := by
  simp only [ev]
  grind
 have := r (fun a b c => a = v ∧ b = ns ∧ c = ea) ⟨rfl, rfl, rfl⟩
 simp only [opE] at this
 rcases he with he | he
 · rw [he] at this
   split at this
   case h_2 => cases this
   rename_i e1 e2
   cases e2
   split at this
   · rename_i e3
     obtain ⟨k1, g⟩ := solid_pf this
     split at k1
     case h_2 => cases k1
     simp only [storeV, crosses] at k1
     obtain ⟨s, ⟨_, k2, k3⟩, _⟩ := upd_pf k1
     grind
   · obtain ⟨k1, g⟩ := solid_pf this
     split at k1
     case h_2 => cases k1
     unfold storeR at k1
     obtain ⟨v', ns', k2, _⟩ := frz_pf k1
     grind
   · cases this
 · grind
theorem GO.facts2 {S : Nat → Prop} {o : Oper} {sl : Slots} {h : Heap} {m : Nat} {x : Out} (g : GO E all o sl h m x) (hk : kind o.op ≤ 2) (e : HS S h h) (hz : ∀ T, (lkT E.tt T).zero.nmd S) (hn : ∀ x ∈ opnds o.op, (ev E sl x).nmd S) (hn2 : ∀ d (t : Option Bool), ∀ x ∈ opnds o.op, (ev E ((d, B t) :: sl) x).nmd S) :
 (∀ b ∈ x.ns, S b) ∧ (x.ea = .nil ∨ ∃ k, x.ea = .new k) := by
 have fin : ∀ (sl' : Slots) (v : SV) (ns : List Nat) (ea : EA), OpR E sl' h m o.op v ns ea → (∀ x ∈ opnds o.op, (ev E sl' x).nmd S) → (∀ b ∈ ns, S b) ∧ (ea = .nil ∨ ∃ k, ea = .new k) := by
  intro sl' v ns ea r hn
  have := opE_facts e hz hn (r (fun v' ns' ea' => ns' = ns ∧ ea' = ea) ⟨rfl, rfl⟩)
  obtain ⟨v', ns', ea', ⟨k1, rfl, rfl⟩, _⟩ := opE_pf this
  grind [KindOK]
 cases g with
 | plain hg r => exact fin _ _ _ _ r hn
 | yes hg hgs hb r => exact fin _ _ _ _ r (hn2 _ _)
 | no hg hgs hne hb => exact ⟨by simp, .inl rfl⟩
theorem GO.heap2 {S : Nat → Prop} {o : Oper} {sl : Slots} {h h' : Heap} {m : Nat} {x : Out} (g : GO E all o sl h m x) (hw : wr o.op = false) (e : HS S h h') (hz : ∀ T, (lkT E.tt T).zero.nmd S) (hn : ∀ x ∈ opnds o.op, (ev E sl x).nmd S) (hn2 : ∀ d (t : Option Bool), ∀ x ∈ opnds o.op, (ev E ((d, B t) :: sl) x).nmd S) : GO E all o sl h' m x := by
 cases g with
 | plain hg r => exact .plain hg fun K' k' => opE_heap e (fun h => by rw [hw] at h; cases h) hz hn (r K' k')
 | yes hg hgs hb r => exact .yes hg hgs hb fun K' k' => opE_heap e (fun h => by rw [hw] at h; cases h) hz (hn2 _ _) (r K' k')
 | no hg hgs hne hb => exact .no hg hgs hne hb
theorem lkB_st {b : Nat} {k : Blk} {h : Heap} {c : Nat} : lkB (stB h c k) b = if b = c ∧ (lkB h c).isSome then some k else lkB h b := by
 cases hc : lkB h c with
 | none =>
   have stn : ∀ (g : Heap), lkB g c = none → stB g c k = g := by
    intro g
    induction g with
    | nil => intro _; rfl
    | cons p r ih =>
      grind [lkB, stB]
   rw [stn h hc]; simp
 | some k0 => rw [lkB_stB hc]; simp
theorem tg_ok {T Rs : List Nat} {S : Nat → Prop} {n : Nat} {L : Nat → Prop} {y : Oper} {sl : Slots} {h : Heap} (c : Cl E all n T Rs S L sl h) (hy : tgB all Rs y = true) (hL : ∀ i, frS all y = some i → L i) : ∃ T0 t v f, y.op = .store T0 (.tmp t) v ∧ lk sl t = .ptr f [] ∧ ¬ S f ∧ ∀ p, ¬ L p → f ≠ n + p := by
 unfold tgB at hy
 split at hy
 · rename_i i hfr
   obtain ⟨T0, t, v, hy, ⟨oa, hoa, hdst, hgd, hmk⟩, huniq⟩ := frS_ok hfr
   refine ⟨T0, t, v, n + i, hy, c.made i oa t (hL i hfr) hoa hdst hgd huniq hmk, fun hs => ?_, fun p hp e => hp ?_⟩
   · have := c.sub _ hs; omega
   · grind
 · split at hy
   · rename_i T0 t v e
     obtain ⟨_, f, h1, h2, h3⟩ := c.root t (memb_true.1 hy)
     grind
   · cases hy
theorem swap2 {T Rs : List Nat} {S : Nat → Prop} {n : Nat} {L : Nat → Prop} {x y : Oper} {p my : Nat} {sl : Slots} {h : Heap} {K : Slots → Heap → Prop} (inv : Inv K) (c : Cl E all n T Rs S L sl h) (hz : ∀ T, (lkT E.tt T).zero.nmd S) (hmy : n ≤ my) (hpm : n + p ≠ my) (hLp : ¬ L p) (hLi : ∀ i, frS all y = some i → L i) (hi : indep2 all T Rs x y = true)
 (k : gopX E all x sl h (n + p) fun sl h => gopX E all y sl h my K) : gopX E all y sl h my fun sl h => gopX E all x sl h (n + p) K := by
 unfold indep2 at hi
 split at hi
 case h_2 => cases hi
 rename_i q1 q2 q3 q4
 split at hi
 case h_2 => cases hi
 rename_i r1 r2 r3 r4 r5
 rw [Nat.ble_eq] at q2
 obtain ⟨T0, t, v, f, hy, ht, hSf, hfp⟩ := tg_ok c q1 hLi
 have hT := apL_ok q3
 have hpi : f ≠ n + p := hfp p hLp
 have ky : kind y.op = 3 := by rw [hy]; rfl
 have fX : ∀ X, GO E all x sl h (n + p) X → (∀ b ∈ X.ns, S b) ∧ (X.ea = .nil ∨ ∃ k, X.ea = .new k) := fun X gx => gx.facts2 q2 c.hs hz (c.ev hT) fun d b => c.ev_ref hT
 have fY : ∀ Y, GO E all y sl h my Y → Y.ns = [] ∧ ∃ k, Y.ea = .set f k := by
  intro Y gy
  cases gy with
  | plain hg r => rw [hy] at r; obtain ⟨h1, k, _, h2, _⟩ := store_out ht r; exact ⟨h1, k, h2⟩
  | yes hg _ _ _ => rw [q4] at hg; cases hg
  | no hg _ _ _ => rw [q4] at hg; cases hg
 have hXf : ∀ X, GO E all x sl h (n + p) X → ∀ b, b = f → lkB (X.hp h (n + p)) b = lkB h b := by
  grind [Out.hp, hE, lkB_ice_eq, lkB_new]
 refine swapG inv (by omega) (by omega) (fun d hd => apartD_spec r1 hd) (fun d hd => apartD_spec r2 hd) (fun d hd => (apartD_spec r3 hd).1) (fun d hd => (apartD_spec r4 hd).1) (fun d hd => (apartD_spec r5 hd).2) (fun X Y gx gyS => ?_) (fun X Y gx gy => ?_) (fun X Y gx gy b => ?_) k
 · cases gyS with
   | plain hg r =>
     rw [hy] at r
     refine .plain hg ?_
     rw [hy]
     exact store_same ht (hXf X gx _ rfl).symm r
   | yes hg _ _ _ => rw [q4] at hg; cases hg
   | no hg _ _ _ => rw [q4] at hg; cases hg
 · obtain ⟨h1, k', h2⟩ := fY Y gy
   refine gx.heap2 (kind_wr q2) ⟨fun b hb => ?_, c.var⟩ hz (c.ev hT) fun d b => c.ev_ref hT
   grind [Out.hp, hE, iceB, lkB_st]
 · obtain ⟨h1, k', h2⟩ := fY Y gy
   obtain ⟨h3, h4⟩ := fX X gx
   have hni : f ∉ X.ns := fun hh => hSf (h3 _ hh)
   have hice : ∀ (g : Heap) (b : Nat), lkB (stB (iceB X.ns g) f k') b = lkB (iceB X.ns (stB g f k')) b := by
    intro g b
    rw [lkB_st, lkB_ice_eq, lkB_ice_eq, if_neg hni, lkB_ice_eq, lkB_st]
    grind
   grind [Out.hp, hE, iceB, lkB_new, lkB_st]
theorem kind3 {o : Op} (h1 : kind o ≤ 3) (h2 : ¬ kind o ≤ 2) : ∃ T a v, o = .store T a v := by
 cases o <;> simp only [kind] at h1 h2 <;> first
  | exact ⟨_, _, _, rfl⟩
  | omega
  | (split at h1 <;> first | omega | simp_all)
theorem Cl.step {T Rs : List Nat} {S : Nat → Prop} {n : Nat} {L : Nat → Prop} {o : Oper} {p : Nat} {sl : Slots} {h : Heap} (c : Cl E all n T Rs S L sl h) (hz : ∀ T, (lkT E.tt T).zero.nmd S) (ho : all[p]? = some o) (hk : kind o.op ≤ 3) (hLp : ¬ L p) (tk : tntOK T all = true)
 (hst : ∀ T a v, o.op = .store T a v → tgB all Rs o = true ∧ ∀ i, frS all o = some i → L i) {X : Out} (g : GO E all o sl h (n + p) X) : Cl E all n T Rs S (fun j => L j ∨ j = p) (X.sl o sl) (X.hp h (n + p)) := by
 have hpb : ∀ b, S b → ∀ k, lkB (X.hp h (n + p)) b = some k → ∃ k0, lkB h b = some k0 ∧ (k = k0 ∨ k = k0.cold) := by
  intro b hb k hk'
  have ice : ∀ (ns : List Nat) k, lkB (iceB ns h) b = some k → ∃ k0, lkB h b = some k0 ∧ (k = k0 ∨ k = k0.cold) := by
   intro ns k hk
   rw [lkB_ice_eq] at hk
   split at hk
   · cases hh : lkB h b with
     | none => rw [hh] at hk; cases hk
     | some k0 => rw [hh] at hk; simp at hk; exact ⟨k0, rfl, .inr hk.symm⟩
   · grind
  by_cases h3 : kind o.op ≤ 2
  · obtain ⟨_, h2⟩ := g.facts2 (S := fun _ => True) h3 ⟨fun _ _ => rfl, fun _ _ _ _ _ => nmd_all⟩ (fun _ => nmd_all) (fun _ _ => nmd_all) fun _ _ _ _ => nmd_all
    unfold Out.hp at hk'
    rcases h2 with e | ⟨k', e⟩ <;> rw [e] at hk' <;> simp only [hE] at hk'
    · exact ice _ _ hk'
    · rw [lkB_new, if_neg (by have := c.sub b hb; omega)] at hk'; exact ice _ _ hk'
  · obtain ⟨T0, a0, v0, hop⟩ := kind3 hk h3
    obtain ⟨htg, hLi⟩ := hst _ _ _ hop
    obtain ⟨T1, t, v, f, hy, ht, hSf, _⟩ := tg_ok c htg hLi
    have fin : ∀ sl' v' ns ea, lk sl' t = .ptr f [] → OpR E sl' h (n + p) o.op v' ns ea → ns = [] ∧ ∃ k, ea = .set f k := by
     intro sl' v' ns ea ht' r
     rw [hy] at r
     obtain ⟨h1, k, _, h2, _⟩ := store_out ht' r
     exact ⟨h1, k, h2⟩
    have hX : (X.ns = [] ∧ ∃ k, X.ea = .set f k) ∨ (X.ns = [] ∧ X.ea = .nil) := by
     cases g with
     | plain hg r => exact .inl (fin _ _ _ _ ht r)
     | @yes v1 ns1 ea1 j1 t1 d hg hgs hb r =>
       refine .inl (fin _ _ _ _ ?_ r)
       rw [lk]
       cases hdt : Nat.beq d t with
       | false => exact ht
       | true =>
         have := beq_of hdt; subst this
         rw [ht] at hb
         rcases hb with hb | ⟨_, _, hb⟩
         · grind
         · cases hb
     | no hg hgs hne hb => exact .inr ⟨rfl, rfl⟩
    grind [Out.hp, hE, iceB, lkB_st]
 refine ⟨c.sub, fun t ht => ?_, fun gl => c.glb gl, fun b hb ow v hv => ?_, fun b hb ow s xs hv => ?_, fun i oi t hL hoi hdst hgd hun hmk => ?_, fun t ht => ?_⟩
 · rw [lk_sl]
   split
   · rename_i hd
     obtain ⟨hc, hT⟩ := tntOK_ok tk o (List.mem_of_getElem? ho) t hd ht
     have fin : ∀ sl' v' ns ea, (∀ x ∈ opnds o.op, (Sx.ev E sl' x).nmd S) → OpR E sl' h (n + p) o.op v' ns ea → v'.nmd S := by
      intro sl' v' ns ea hn r
      have := opE_cln hc c.hs c.row hn (r (fun a b d => a = v') rfl)
      obtain ⟨a, b, d, ⟨k1, rfl⟩, _⟩ := opE_pf this
      exact k1.1
     cases g with
     | plain hg r => exact fin _ _ _ _ (c.ev hT) r
     | yes hg hgs hb r => exact fin _ _ _ _ (c.ev_ref hT) r
     | no hg hgs hne hb => exact trivial
   · cases hg : X.g with
     | none => exact c.slot t ht
     | some q =>
       obtain ⟨d, b⟩ := q
       simp only [refS, lk]
       split
       · cases b with
         | none => trivial
         | some b => cases b <;> trivial
       · exact c.slot t ht
 · obtain ⟨k0, h1, h2⟩ := hpb b hb _ hv
   rcases h2 with e | e
   · subst e; exact c.var b hb _ _ h1
   · cases k0 <;> simp [Blk.cold, Blk.dead] at e
     obtain ⟨_, rfl⟩ := e
     exact c.var b hb _ _ h1
 · obtain ⟨k0, h1, h2⟩ := hpb b hb _ hv
   rcases h2 with e | e
   · subst e; exact c.row b hb _ _ _ h1
   · cases k0 <;> simp [Blk.cold, Blk.dead] at e
     obtain ⟨_, rfl, rfl⟩ := e
     exact c.row b hb _ _ _ h1
 · rw [lk_sl]
   rcases hL with hL | rfl
   · have hne : o.dst ≠ some t := fun hd => hLp (by rw [hun p o ho hd]; exact hL)
     rw [if_neg hne]
     have ht := c.made i oi t hL hoi hdst hgd hun hmk
     cases hg : X.g with
     | none => exact ht
     | some q =>
       obtain ⟨d, b⟩ := q
       have hb := g.gs.2 d b hg
       simp only [refS, lk]
       cases hdt : Nat.beq d t with
       | false => exact ht
       | true =>
         have := beq_of hdt; subst this
         rw [ht] at hb
         rcases hb with hb | ⟨_, _, hb⟩
         · grind
         · cases hb
   · rw [ho] at hoi; cases hoi
     rw [if_pos hdst]
     cases g with
     | plain hg r =>
       have k1 := r (fun a b d => a = _) rfl
       rcases hmk with ⟨T1, e⟩ | ⟨T1, x1, e⟩ <;> rw [e] at k1 <;> simp only [opE] at k1 <;> exact (solid_pf k1).1.symm
     | yes hg _ _ _ => rw [hgd] at hg; cases hg
     | no hg _ _ _ => rw [hgd] at hg; cases hg
 · obtain ⟨h1, f, h2, h3, h4⟩ := c.root t ht
   refine ⟨h1, f, ?_, h3, h4⟩
   rw [lk_sl, if_neg (h1 o (List.mem_of_getElem? ho))]
   cases hg : X.g with
   | none => exact h2
   | some q =>
     obtain ⟨d, b⟩ := q
     have hb := g.gs.2 d b hg
     simp only [refS, lk]
     cases hdt : Nat.beq d t with
     | false => exact h2
     | true =>
       have := beq_of hdt; subst this
       rw [h2] at hb
       rcases hb with hb | ⟨_, _, hb⟩
       · grind
       · cases hb
end
theorem grd_pf {all : List Oper} {g : Option (Nat × Bool)} {sl : Slots} {Ky Kn : Slots → Prop} (k : grd all g sl Ky Kn) : ∃ (s : Slots) (y : Bool), (match y with | true => Ky s | false => Kn s) ∧ ∀ Ky' Kn' : Slots → Prop, (match y with | true => Ky' s | false => Kn' s) → grd all g sl Ky' Kn' := by
 unfold grd at k
 split at k
 · exact ⟨sl, true, k, fun Ky' Kn' k' => k'⟩
 · split at k
   case h_2 => cases k
   rename_i o' hj
   split at k
   case h_2 => cases k
   rename_i d hd
   split at k
   · rename_i hl
     split at k
     · exact ⟨sl, true, k, fun Ky' Kn' k' => by simp only [grd, hj, hd, hl]; exact k'⟩
     · exact ⟨sl, false, k, fun Ky' Kn' k' => by simp only [grd, hj, hd, hl]; exact k'⟩
   · rename_i hl
     split at k
     · exact ⟨sl, false, k, fun Ky' Kn' k' => by simp only [grd, hj, hd, hl]; exact k'⟩
     · exact ⟨sl, true, k, fun Ky' Kn' k' => by simp only [grd, hj, hd, hl]; exact k'⟩
   · rename_i b hl
     split at k
     · cases b with
       | true => exact ⟨_, true, k.1 rfl, fun Ky' Kn' k' => by simp only [grd, hj, hd, hl]; exact ⟨fun _ => k', fun e => by cases e⟩⟩
       | false => exact ⟨_, false, k.2 rfl, fun Ky' Kn' k' => by simp only [grd, hj, hd, hl]; exact ⟨fun e => (by cases e), fun _ => k'⟩⟩
     · cases b with
       | true => exact ⟨_, false, k.2 rfl, fun Ky' Kn' k' => by simp only [grd, hj, hd, hl]; exact ⟨fun e => (by cases e), fun _ => k'⟩⟩
       | false => exact ⟨_, true, k.1 rfl, fun Ky' Kn' k' => by simp only [grd, hj, hd, hl]; exact ⟨fun _ => k', fun e => by cases e⟩⟩
   · rename_i hl
     exact ⟨sl, false, k, fun Ky' Kn' k' => by simp only [grd, hj, hd, hl]; exact k'⟩
   · cases k
theorem gopX_pf {E : Env} {all : List Oper} {o : Oper} {sl : Slots} {h : Heap} {m : Nat} {K : Slots → Heap → Prop} (k : gopX E all o sl h m K) : ∃ s g, K s g ∧ ∀ K' : Slots → Heap → Prop, K' s g → gopX E all o sl h m K' := by
 unfold gopX at k
 obtain ⟨s, y, k1, k2⟩ := grd_pf k
 cases y with
 | true =>
   simp only [opX] at k1
   obtain ⟨v, ns, ea, k3, k4⟩ := opE_pf k1
   exact ⟨_, _, app_iff.1 k3, fun K' k' => by unfold gopX; exact k2 _ _ (by simp only [opX]; exact k4 _ (app_iff.2 k'))⟩
 | false =>
   grind [gopX]
theorem gopX_mono {E : Env} {all : List Oper} {o : Oper} {sl : Slots} {h : Heap} {m : Nat} {K K' : Slots → Heap → Prop} (e : ∀ s g, K s g → K' s g) (k : gopX E all o sl h m K) : gopX E all o sl h m K' := by
 obtain ⟨s, g, k1, k2⟩ := gopX_pf k
 exact k2 K' (e s g k1)
section
variable {E : Env} {all : List Oper}
theorem Cl.less {T Rs : List Nat} {S : Nat → Prop} {n : Nat} {L L' : Nat → Prop} {sl : Slots} {h : Heap} (c : Cl E all n T Rs S L sl h) (hL : ∀ j, L' j → L j) : Cl E all n T Rs S L' sl h :=
 ⟨c.sub, c.slot, c.glb, c.var, c.row, fun i o t hi => c.made i o t (hL i hi), c.root⟩
theorem Cl.lkeq {T Rs : List Nat} {S : Nat → Prop} {n : Nat} {L : Nat → Prop} {sl sl' : Slots} {h h' : Heap} (c : Cl E all n T Rs S L sl h) (e1 : ∀ t, lk sl t = lk sl' t) (e2 : ∀ b, lkB h b = lkB h' b) : Cl E all n T Rs S L sl' h' :=
 ⟨c.sub, fun t ht => by rw [← e1]; exact c.slot t ht, fun g => c.glb g, fun b hb o v hv => c.var b hb o v (by rw [e2]; exact hv), fun b hb o s xs hv => c.row b hb o s xs (by rw [e2]; exact hv), fun i o t hi ho hd hg hu hm => by rw [← e1]; exact c.made i o t hi ho hd hg hu hm, fun t ht => by
  obtain ⟨h1, f, h2, h3⟩ := c.root t ht
  exact ⟨h1, f, by rw [← e1]; exact h2, h3⟩⟩
theorem gopX_cl {fl : Bool} {T Rs : List Nat} {S : Nat → Prop} {n : Nat} {L : Nat → Prop} {o : Oper} {p : Nat} {sl : Slots} {h : Heap} {K : Slots → Heap → Prop} (inv : Inv K) (hz : ∀ T, (lkT E.tt T).zero.nmd S) (ho : all[p]? = some o) (hc : fl = true → Cl E all n T Rs S L sl h ∧ kind o.op ≤ 3 ∧ ¬ L p ∧ tntOK T all = true ∧ ∀ T a v, o.op = .store T a v → tgB all Rs o = true ∧ ∀ i, frS all o = some i → L i)
 (k : gopX E all o sl h (n + p) K) : gopX E all o sl h (n + p) fun s g => K s g ∧ (fl = true → Cl E all n T Rs S (fun j => L j ∨ j = p) s g) := by
 have inv2 : Inv fun s g => K s g ∧ (fl = true → Cl E all n T Rs S (fun j => L j ∨ j = p) s g) := fun s g s' g' e1 e2 ⟨k1, k2⟩ => ⟨inv _ _ _ _ e1 e2 k1, fun hf => (k2 hf).lkeq e1 e2⟩
 cases hf : fl with
 | false =>
   grind
 | true =>
   obtain ⟨c, hk, hLp, tk, hst⟩ := hc hf
   obtain ⟨X, gx, k1⟩ := gopX_out hk inv k
   rw [hf] at inv2
   exact gopX_in hk inv2 gx ⟨k1, fun _ => c.step hz ho hk hLp tk hst gx⟩
end
theorem nmdL_take {p : Nat → Prop} : ∀ {l : List SV} {n : Nat}, nmdL p l → nmdL p (l.take n)
 | [], n, _ => by simp; trivial
 | v :: r, 0, _ => trivial
 | v :: r, n + 1, h => ⟨h.1, nmdL_take h.2⟩
theorem nmdL_drop {p : Nat → Prop} : ∀ {l : List SV} {n : Nat}, nmdL p l → nmdL p (l.drop n)
 | [], n, _ => by simp; trivial
 | v :: r, 0, h => h
 | v :: r, n + 1, h => nmdL_drop (l := r) h.2
mutual
theorem kill_id {b : Nat} : ∀ {v : SV}, v.nmd (· ≠ b) → v.kill b = v
 | .ptr c p, h => by
   have h : c ≠ b := h
   simp only [SV.kill]; rw [beq_false h]
 | .osl c s, h => by
   have h : c ≠ b := h
   simp only [SV.kill]; rw [beq_false h]
 | .yld c, h => by
   have h : c ≠ b := h
   simp only [SV.kill]; rw [beq_false h]
 | .mpr c, h => by
   have h : c ≠ b := h
   simp only [SV.kill]; rw [beq_false h]
 | .vsl c p n, h => by
   have h : c ≠ b := h
   simp only [SV.kill]; rw [beq_false h]
 | .agg fs, h => by simp only [SV.kill]; rw [killL_id h]
 | .tup fs, h => by simp only [SV.kill]; rw [killL_id h]
 | .fn f fs, h => by simp only [SV.kill]; rw [killL_id h]
 | .ifc f fs, h => by simp only [SV.kill]; rw [killL_id h]
 | .any, _ | .int .., _ | .bool _, _ | .tru, _ | .fls, _ | .str _, _ | .arr .., _ | .sl .., _ | .mt, _ | .nils, _ | .iptr _, _ | .nilf, _ | .nilp, _ | .nili, _ => rfl
theorem killL_id {b : Nat} : ∀ {l : List SV}, nmdL (· ≠ b) l → killL b l = l
 | [], _ => rfl
 | v :: r, h => by simp only [killL]; rw [kill_id h.1, killL_id h.2]
end
mutual
theorem frz_cln {S : Nat → Prop} {h : Heap} (e : HS S h h) (hr : ∀ b, S b → ∀ o s xs, lkB h b = some (.row o s xs) → nmdL S xs) : ∀ {d : Nat} {v : SV} {ns : List Nat} {K : SV → List Nat → Prop}, v.nmd S → frz h d v ns K → frz h d v ns fun v' ns' => v'.nmd S ∧ K v' ns'
 | 0, _, _, _, _, hk => by simp only [frz] at hk
 | d + 1, v, ns, K, hv, hk => by
   simp only [frz] at hk ⊢
   split at hk
   · rename_i b p
     split at hk
     case h_2 => cases hk
     rename_i own u e1
     obtain ⟨s', ⟨q0, q1⟩, q2⟩ := nav_pf (nav_nmd (e.var b hv _ _ e1) hk)
     try simp only [e1]
     refine q2 _ ?_
     obtain ⟨v', ns', ⟨k1, k2⟩, k3⟩ := frz_pf (frz_cln e hr q0 q1)
     exact k3 _ ⟨k1, k2⟩
   · rename_i b sz
     split at hk
     case h_2 => cases hk
     rename_i own sz' xs e1
     split at hk
     case h_2 => cases hk
     rename_i e2
     try simp only [e2]
     exact ⟨hr b hv _ _ _ e1, hk⟩
   · obtain ⟨v', ns', ⟨k1, k2⟩, k3⟩ := frzL_pf (frzL_cln e hr hv hk)
     exact k3 _ ⟨k1, k2⟩
   · obtain ⟨v', ns', ⟨k1, k2⟩, k3⟩ := frzL_pf (frzL_cln e hr hv hk)
     exact k3 _ ⟨k1, k2⟩
   · obtain ⟨v', ns', ⟨k1, k2⟩, k3⟩ := frzL_pf (frzL_cln e hr hv hk)
     exact k3 _ ⟨k1, k2⟩
   · obtain ⟨v', ns', ⟨k1, k2⟩, k3⟩ := frzL_pf (frzL_cln e hr hv hk)
     exact k3 _ ⟨k1, k2⟩
   · cases hk
   · cases hk
   · cases hk
   · rw [frc_eq] at hk ⊢
     exact ⟨hv, hk⟩
theorem frzL_cln {S : Nat → Prop} {h : Heap} (e : HS S h h) (hr : ∀ b, S b → ∀ o s xs, lkB h b = some (.row o s xs) → nmdL S xs) : ∀ {d : Nat} {l : List SV} {ns : List Nat} {K : List SV → List Nat → Prop}, nmdL S l → frzL h d l ns K → frzL h d l ns fun v' ns' => nmdL S v' ∧ K v' ns'
 | 0, _, _, _, _, hk => by simp only [frzL] at hk
 | d + 1, [], ns, K, _, hk => by simp only [frzL] at hk ⊢; exact ⟨trivial, hk⟩
 | d + 1, v :: r, ns, K, hv, hk => by
   simp only [frzL] at hk ⊢
   obtain ⟨v', ns', ⟨k1, k2⟩, k3⟩ := frz_pf (frz_cln e hr hv.1 hk)
   obtain ⟨r', ns2, ⟨q1, q2⟩, q3⟩ := frzL_pf (frzL_cln e hr hv.2 k2)
   exact k3 _ (q3 _ ⟨⟨k1, q1⟩, q2⟩)
end
theorem slice_cln {S : Nat → Prop} {E : Env} {sl : Slots} {h : Heap} {n : Nat} {K : KE} {T : TypeId} {x : Operand} {lo hi mx : Option Operand} (e : HS S h h) (hr : ∀ b, S b → ∀ o s xs, lkB h b = some (.row o s xs) → nmdL S xs) (hx : (ev E sl x).nmd S) (hk : opE E sl h n (.slice T x lo hi mx) K) : opE E sl h n (.slice T x lo hi mx) fun v ns ea => (v.nmd S ∧ NilE ea) ∧ K v ns ea := by
 simp only [opE] at hk ⊢
 split at hk
 · cases hk
 split at hk
 · rename_i e1
   split at hk
   case h_2 => cases hk
   obtain ⟨l, r, k, g⟩ := bnds_pf hk
   exact g _ ⟨⟨trivial, nilE⟩, k⟩
 · rename_i e1
   rw [e1] at hx
   split at hk
   case h_2 => cases hk
   split at hk
   case h_2 => cases hk
   rename_i e3
   try simp only [e3]
   obtain ⟨l, r, k, g⟩ := bnds_pf hk
   exact g _ ⟨⟨nmdL_drop (nmdL_take (p := S) hx), rfl⟩, k⟩
 · rename_i b sz e1
   rw [e1] at hx
   split at hk
   case h_2 => cases hk
   rename_i own sz' xs e2
   split at hk
   case h_2 => cases hk
   rename_i e3
   split at hk
   case h_2 => cases hk
   rename_i e4
   try simp only [e4]
   obtain ⟨l, r, k, g⟩ := bnds_pf hk
   exact g _ ⟨⟨nmdL_drop (nmdL_take (p := S) (hr b hx _ _ _ e2)), nilE⟩, k⟩
 · rename_i e1 e2 e3
   split at hk
   case h_2 => cases hk
   obtain ⟨v', ns', ⟨k1, k2⟩, k3⟩ := frz_pf (frz_cln e hr hx hk)
   refine k3 _ ?_
   split at k2
   case h_2 => cases k2
   rename_i m' sz xs
   split at k2
   case h_2 => cases k2
   rename_i e5
   try simp only [e5]
   obtain ⟨l, r, k, g⟩ := bnds_pf k2
   exact g _ ⟨⟨nmdL_drop (nmdL_take (p := S) (show nmdL S xs from k1)), nilE⟩, k⟩
def nlK (o : Op) : Bool := match clnK o with
 | true => true
 | false => match o with
   | .slice .. => true
   | _ => false
def isMv : Op → Bool
 | .move _ | .assign _ => true
 | _ => false
def isApp : Op → Bool
 | .call c => match c.callee with
   | .builtin .append => true
   | _ => false
 | _ => false
theorem nlK_cln {E : Env} {sl : Slots} {h : Heap} {n : Nat} {o : Op} {v : SV} {ns : List Nat} {ea : EA} (hc : nlK o = true) (hn : ∀ x ∈ opnds o, (ev E sl x).nmd fun _ => False) (r : OpR E sl h n o v ns ea) : v.nmd (fun _ => False) ∧ ea = .nil := by
 have e : HS (fun _ => False) h h := ⟨fun _ hb => hb.elim, fun _ hb => hb.elim⟩
 have hr : ∀ b, (fun _ : Nat => False) b → ∀ o s xs, lkB h b = some (.row o s xs) → nmdL (fun _ => False) xs := fun _ hb => hb.elim
 have fin : opE E sl h n o (fun v' ns' ea' => (v'.nmd (fun _ => False) ∧ NilE ea') ∧ (v' = v ∧ ns' = ns ∧ ea' = ea)) → v.nmd (fun _ => False) ∧ ea = .nil := by
  intro k
  obtain ⟨a, b, c, ⟨k1, rfl, rfl, rfl⟩, _⟩ := opE_pf k
  exact k1
 have k := r (fun v' ns' ea' => v' = v ∧ ns' = ns ∧ ea' = ea) ⟨rfl, rfl, rfl⟩
 unfold nlK at hc
 split at hc
 · rename_i hc'; exact fin (opE_cln hc' e hr hn k)
 · split at hc
   · rename_i T x lo hi mx _
     exact fin (slice_cln e hr (hn x (by simp [opnds])) k)
   · cases hc
theorem nlK_wr {o : Op} (hc : nlK o = true) : wr o = false := by
 unfold nlK at hc
 split at hc
 · rename_i hc'
   cases o <;> simp only [clnK] at hc' <;> first | (cases hc'; done) | rfl | skip
   grind [wr]
 · split at hc
   · rfl
   · cases hc
theorem nlK_ns {E : Env} {sl : Slots} {h : Heap} {n : Nat} {o : Op} {v : SV} {ns : List Nat} {ea : EA} (hc : nlK o = true) (hz : ∀ T, (lkT E.tt T).zero.nmd fun _ => False) (hn : ∀ x ∈ opnds o, (ev E sl x).nmd fun _ => False) (r : OpR E sl h n o v ns ea) : ns = [] := by
 have e : HS (fun _ => False) h h := ⟨fun _ hb => hb.elim, fun _ hb => hb.elim⟩
 have := opE_facts e hz hn (r (fun v' ns' ea' => ns' = ns) rfl)
 obtain ⟨v', ns', ea', ⟨k1, rfl⟩, _⟩ := opE_pf this
 match ns', k1.1 with
 | [], _ => rfl
 | b :: r, hb => exact (hb b (by simp)).elim
mutual
theorem nmd_kill {S : Nat → Prop} {b : Nat} : ∀ {v : SV}, v.nmd S → (v.kill b).nmd S
 | .ptr c p, h => by simp only [SV.kill]; split <;> first | trivial | exact h
 | .osl c s, h => by simp only [SV.kill]; split <;> first | trivial | exact h
 | .yld c, h => by simp only [SV.kill]; split <;> first | trivial | exact h
 | .mpr c, h => by simp only [SV.kill]; split <;> first | trivial | exact h
 | .vsl c p n, h => by simp only [SV.kill]; split <;> first | trivial | exact h
 | .agg fs, h => nmdL_kill (l := fs) h
 | .tup fs, h => nmdL_kill (l := fs) h
 | .fn f fs, h => nmdL_kill (l := fs) h
 | .ifc f fs, h => nmdL_kill (l := fs) h
 | .any, h | .int .., h | .bool _, h | .tru, h | .fls, h | .str _, h | .arr .., h | .sl .., h | .mt, h | .nils, h | .iptr _, h | .nilf, h | .nilp, h | .nili, h => h
theorem nmdL_kill {S : Nat → Prop} {b : Nat} : ∀ {l : List SV}, nmdL S l → nmdL S (killL b l)
 | [], _ => trivial
 | v :: r, h => ⟨nmd_kill h.1, nmdL_kill h.2⟩
end
theorem nmd_kE {S : Nat → Prop} {ea : EA} {v : SV} (h : v.nmd S) : (kE ea v).nmd S := by
 cases ea <;> first | exact h | exact nmd_kill h
theorem kE_id {ea : EA} {v : SV} (h : v.nmd fun _ => False) : kE ea v = v := by
 cases ea <;> first | rfl | exact kill_id (nmd_mono (fun _ hb => hb.elim) _ h)
def inG (all : List Oper) (ok : Nat → Bool) (gx : List Nat) (p t : Nat) : Bool := match gx with
 | [] => false
 | j :: r => match ok j, Nat.blt j p, (match all[j]? with | some o => (match o.dst with | some d => Nat.beq d t | none => false) | none => false) with
   | true, true, true => true
   | _, _, _ => inG all ok r p t
theorem inG_ok {all : List Oper} {ok : Nat → Bool} {p t : Nat} : ∀ {gx : List Nat}, inG all ok gx p t = true → ∃ j ∈ gx, ok j = true ∧ j < p ∧ ∃ o, all[j]? = some o ∧ o.dst = some t
 | j :: r, h => by
   simp only [inG] at h
   split at h
   · rename_i e0 e1 e2
     rw [Nat.blt_eq] at e1
     split at e2
     · rename_i o ho
       split at e2
       · rename_i d hd
         exact ⟨j, by simp, e0, e1, o, ho, by rw [hd, beq_of e2]⟩
       · cases e2
     · cases e2
   · obtain ⟨j', h1, h2⟩ := inG_ok h
     exact ⟨j', by simp [h1], h2⟩
def allG (all : List Oper) (ok : Nat → Bool) (gx : List Nat) (p : Nat) : List Nat → Bool
 | [] => true
 | t :: r => match inG all ok gx p t with | true => allG all ok gx p r | false => false
theorem allG_ok {all : List Oper} {ok : Nat → Bool} {gx : List Nat} {p : Nat} : ∀ {l : List Nat}, allG all ok gx p l = true → ∀ t ∈ l, inG all ok gx p t = true
 | t :: r, h, t', ht => by
   simp only [allG] at h
   split at h
   · rename_i e
     rcases List.mem_cons.1 ht with rfl | ht
     · exact e
     · exact allG_ok h t' ht
   · cases h
def cntD (t : Nat) : List Oper → Nat
 | [] => 0
 | o :: r => match o.dst with
   | some d => (match Nat.beq d t with | true => cntD t r + 1 | false => cntD t r)
   | none => cntD t r
theorem cntD_pos {t : Nat} (l : List Oper) : ∀ (j : Nat) (o : Oper), l[j]? = some o → o.dst = some t → 1 ≤ cntD t l := by
 induction l with
 | nil => intro j o hj; simp at hj
 | cons o0 r ih =>
   grind [beq_refl', cntD]
theorem cntD_uniq {t : Nat} : ∀ {l : List Oper}, cntD t l ≤ 1 → ∀ (i j : Nat) (o o' : Oper), l[i]? = some o → l[j]? = some o' → o.dst = some t → o'.dst = some t → i = j
 | o0 :: r, h, i, j, o, o', hi, hj, hd, hd' => by
   simp only [cntD] at h
   cases i with
   | zero =>
     simp at hi; subst hi
     simp only [hd, beq_refl'] at h
     cases j with
     | zero => rfl
     | succ j =>
       have := cntD_pos r j o' (by simpa using hj) hd'
       omega
   | succ i =>
     cases j with
     | zero =>
       simp at hj; subst hj
       simp only [hd', beq_refl'] at h
       have := cntD_pos r i o (by simpa using hi) hd
       omega
     | succ j =>
       have h2 : cntD t r ≤ 1 := by
        grind
       rw [cntD_uniq h2 i j o o' (by simpa using hi) (by simpa using hj) hd hd']
 | [], _, i, _, _, _, hi, _, _, _ => by simp at hi
def nlP (all : List Oper) (cls : List Nat) : List Oper → Nat → List Nat → List Nat
 | [], _, gx => gx
 | o :: r, i, gx => match nlK o.op, o.guard, allG all (fun j => (cls.getD i 0).testBit j) gx i (opSlots o), o.dst with
   | true, none, true, some d => (match Nat.ble (cntD d all) 1 with
     | true => nlP all cls r (i + 1) (i :: gx)
     | false => nlP all cls r (i + 1) gx)
   | _, _, _, _ => nlP all cls r (i + 1) gx
def nlB (all : List Oper) (cls : List Nat) (gx : List Nat) : List Nat → Bool
 | [] => true
 | p :: r => match all[p]? with
   | some o => (match nlK o.op, o.guard, allG all (fun j => (cls.getD p 0).testBit j) gx p (opSlots o), o.dst with
     | true, none, true, some d => (match Nat.ble (cntD d all) 1 with | true => nlB all cls gx r | false => false)
     | _, _, _, _ => false)
   | none => false
def NlS (all : List Oper) (cls : List Nat) (gx : List Nat) : Prop :=
 ∀ p ∈ gx, ∃ o d, all[p]? = some o ∧ o.guard = none ∧ o.dst = some d ∧ nlK o.op = true ∧ cntD d all ≤ 1 ∧ ∀ t ∈ opSlots o, inG all (fun j => (cls.getD p 0).testBit j) gx p t = true
theorem nlB_ok {all : List Oper} {cls gx : List Nat} : ∀ {l : List Nat}, nlB all cls gx l = true → ∀ p ∈ l, ∃ o d, all[p]? = some o ∧ o.guard = none ∧ o.dst = some d ∧ nlK o.op = true ∧ cntD d all ≤ 1 ∧ ∀ t ∈ opSlots o, inG all (fun j => (cls.getD p 0).testBit j) gx p t = true
 | q :: r, h, p, hp => by
   simp only [nlB] at h
   split at h
   case h_2 => cases h
   rename_i o ho
   split at h
   case h_2 => cases h
   rename_i d e1 e2 e3 e4
   split at h
   case h_2 => cases h
   rename_i e5
   rw [Nat.ble_eq] at e5
   rcases List.mem_cons.1 hp with rfl | hp
   · exact ⟨o, d, ho, e2, e4, e1, e5, allG_ok e3⟩
   · exact nlB_ok h p hp
def Nl (all : List Oper) (gx : List Nat) (L : Nat → Prop) (sl : Slots) : Prop :=
 ∀ p ∈ gx, L p → ∀ o d, all[p]? = some o → o.dst = some d → (lk sl d).nmd fun _ => False
def indep3 (all : List Oper) (gx : List Nat) (p : Nat) (x y : Oper) : Bool :=
 match isApp y.op, y.guard, x.guard, (match isMv x.op with | true => true | false => match nlK x.op with | true => allG all (fun _ => true) gx p (opSlots x) | false => false) with
 | true, none, none, true => (match apartD x.dst (opSlots y) none, apartD y.dst (opSlots x) none, apartD x.dst [] y.dst with
   | true, true, true => true
   | _, _, _ => false)
 | _, _, _, _ => false
section
variable {E : Env} {all : List Oper}
theorem Nl.ops {gx : List Nat} {L : Nat → Prop} {sl : Slots} (c : Nl all gx L sl) (hg : ∀ g, (ev E sl (.global g)).nmd fun _ => False) {p : Nat} {ok : Nat → Bool} (hL : ∀ j, j < p → ok j = true → j ∈ gx → L j) {o : Oper} (hT : ∀ t ∈ opSlots o, inG all ok gx p t = true) : ∀ x ∈ opnds o.op, (ev E sl x).nmd fun _ => False := by
 intro x hx
 cases x with
 | tmp t =>
   obtain ⟨j, h1, h0, h2, o', h3, h4⟩ := inG_ok (hT t (mem_opSlots hx rfl))
   have := c j h1 (hL j h2 h0 h1) o' t h3 h4
   simp only [Sx.ev]
   split
   · exact this
   · trivial
 | const v => exact ofVal_nmd v
 | global g => exact hg g
 | func f => simp only [Sx.ev]; split <;> exact trivial
theorem lk_S1 {sl : Slots} {v : SV} {ea : EA} {d : Option Nat} {t : Nat} (h : d ≠ some t) : lk (putS d v (killE ea sl)) t = kE ea (lk sl t) := by
 rw [lk_put, if_neg h, lk_killE]
theorem swap3 (ok : EnvOK E) {gx : List Nat} {L : Nat → Prop} {x y : Oper} {p mx my : Nat} {sl : Slots} {h : Heap} {K : Slots → Heap → Prop} (inv : Inv K) (c : Nl all gx L sl) (hg : ∀ g, (ev E sl (.global g)).nmd fun _ => False) (hL : ∀ j, j < p → j ∈ gx → L j) (hi : indep3 all gx p x y = true)
 (k : gopX E all x sl h mx fun sl h => gopX E all y sl h my K) : gopX E all y sl h my fun sl h => gopX E all x sl h mx K := by
 unfold indep3 at hi
 split at hi
 case h_2 => cases hi
 rename_i q1 q2 q3 q4
 split at hi
 case h_2 => cases hi
 rename_i r1 r2 r3
 have i1 : ∀ d, x.dst = some d → d ∉ opSlots y := fun d hd => (apartD_spec r1 hd).1
 have i2 : ∀ d, y.dst = some d → d ∉ opSlots x := fun d hd => (apartD_spec r2 hd).1
 have i3 : ∀ d, x.dst = some d → y.dst ≠ some d := fun d hd => (apartD_spec r3 hd).2
 simp only [gopX, q2, q3, grd] at k ⊢
 unfold opX at k ⊢
 obtain ⟨vx, nsx, eax, k1, rx⟩ := opE_pf k
 have hz : ∀ T, (lkT E.tt T).zero.nmd (fun _ : Nat => False) := fun T => zero_nmd ok _ T
 have hx : nsx = [] ∧ eax = .nil ∧ ((isMv x.op = true) ∨ (isMv x.op = false ∧ nlK x.op = true ∧ (∀ z ∈ opnds x.op, (ev E sl z).nmd fun _ => False) ∧ vx.nmd fun _ => False)) := by
  split at q4
  · rename_i hm
    have := rx (fun a b c => b = nsx ∧ c = eax) ⟨rfl, rfl⟩
    generalize x.op = op at this hm
    cases op <;> simp only [isMv] at hm <;> (try cases hm)
    · simp only [opE, frc_eq] at this; exact ⟨this.1.symm, this.2.symm, .inl rfl⟩
    · simp only [opE, frc_eq] at this; exact ⟨this.1.symm, this.2.symm, .inl rfl⟩
  · rename_i hm
    split at q4
    case h_2 => cases q4
    rename_i hn
    have ho := c.ops hg (fun j h1 _ h2 => hL j h1 h2) (allG_ok q4)
    obtain ⟨h1, h2⟩ := nlK_cln hn ho rx
    refine ⟨?_, h2, .inr ⟨hm, hn, ho, h1⟩⟩
    exact nlK_ns hn hz ho rx
 obtain ⟨rfl, rfl, hx⟩ := hx
 have k1' := app_iff.1 k1
 simp only [killE, hE, iceB] at k1'
 obtain ⟨vy, nsy, eay, k2, ry⟩ := opE_pf k1'
 have k3 := app_iff.1 k2
 have hys : ∀ z ∈ opnds y.op, ev E (putS x.dst vx sl) z = ev E sl z := fun z hz => ev_opSlots (o := y) (fun t ht => by
  rw [lk_put, if_neg (fun e => i1 t e ht)]) z hz
 refine opE_slots hys (ry _ (app_iff.2 ?_))
 have hev : ∀ z ∈ opnds x.op, ∀ t, z = .tmp t → lk (putS y.dst vy (killE eay sl)) t = kE eay (lk sl t) := fun z hz t ht => lk_S1 fun e => i2 t e (mem_opSlots hz ht)
 have rx1 : OpR E (putS y.dst vy (killE eay sl)) (hE nsy eay h my) mx x.op (kE eay vx) [] .nil := by
  rcases hx with hm | ⟨_, hn, ho, hv⟩
  · have hval : ∀ z, opnds x.op = [z] → ev E (putS y.dst vy (killE eay sl)) z = kE eay (ev E sl z) := by
     intro z hz
     cases z with
     | tmp t =>
       simp only [ev]
       split
       · grind
       · exact (kE_id (v := .any) trivial).symm
     | const v => exact (kE_id (ofVal_nmd v)).symm
     | global g => exact (kE_id (hg g)).symm
     | func f =>
       simp only [ev]
       split
       · exact (kE_id (v := .fn f []) trivial).symm
       · exact (kE_id (v := .any) trivial).symm
    intro K' k'
    have h0 := rx (fun a b c => a = vx) rfl
    revert hval h0
    generalize x.op = op at hm
    intro hval h0
    cases op <;> simp only [isMv] at hm <;> (try cases hm)
    · rename_i z
      simp only [opE, frc_eq] at h0 ⊢
      rw [hval z rfl, h0]; exact k'
    · rename_i z
      simp only [opE, frc_eq] at h0 ⊢
      rw [hval z rfl, h0]; exact k'
  · rw [kE_id hv]
    intro K' k'
    have hsame : ∀ z ∈ opnds x.op, ev E sl z = ev E (putS y.dst vy (killE eay sl)) z := by
     intro z hz
     cases z with
     | tmp t =>
       have hn := ho _ hz
       simp only [ev] at hn ⊢
       split
       · rename_i ht
         first
          | (rw [if_pos ht] at hn; rw [hev _ hz t rfl, kE_id hn])
          | (simp only [ht] at hn; rw [hev _ hz t rfl, kE_id hn])
       · rfl
     | const v => rfl
     | global g => rfl
     | func f => rfl
    refine opE_slots hsame ?_
    have hwr : wr x.op = false := nlK_wr hn
    exact opE_heap (S := fun _ => False) ⟨fun _ hb => hb.elim, fun _ hb => hb.elim⟩ (fun e => by rw [hwr] at e; cases e) hz ho (rx K' k')
 refine rx1 _ (app_iff.2 (inv _ _ _ _ (fun t => ?_) (fun b => rfl) k3))
 have hk0 : ∀ z : Slots, killE .nil z = z := fun z => rfl
 grind [lk_killE, lk_put]
theorem grd_nm {g : Option (Nat × Bool)} {sl : Slots} {Ky Kn : Slots → Prop} (k : grd all g sl Ky Kn) : ∃ (s : Slots) (y : Bool), (g = none → s = sl ∧ y = true) ∧ (∀ t, (lk sl t).nmd (fun _ => False) → (lk s t).nmd fun _ => False) ∧ (match y with | true => Ky s | false => Kn s) ∧ ∀ Ky' Kn' : Slots → Prop, (match y with | true => Ky' s | false => Kn' s) → grd all g sl Ky' Kn' := by
 have rf : ∀ (sl : Slots) d (v : SV), v.nmd (fun _ => False) → ∀ t, (lk sl t).nmd (fun _ => False) → (lk ((d, v) :: sl) t).nmd fun _ => False := by
  grind [lk]
 unfold grd at k
 split at k
 · exact ⟨sl, true, fun _ => ⟨rfl, rfl⟩, fun _ h => h, k, fun Ky' Kn' k' => k'⟩
 · split at k
   case h_2 => cases k
   rename_i o' hj
   split at k
   case h_2 => cases k
   rename_i d hd
   split at k
   · rename_i hl
     split at k
     · exact ⟨sl, true, (fun e => by cases e), fun _ h => h, k, fun Ky' Kn' k' => by simp only [grd, hj, hd, hl]; exact k'⟩
     · exact ⟨sl, false, (fun e => by cases e), fun _ h => h, k, fun Ky' Kn' k' => by simp only [grd, hj, hd, hl]; exact k'⟩
   · rename_i hl
     split at k
     · exact ⟨sl, false, (fun e => by cases e), fun _ h => h, k, fun Ky' Kn' k' => by simp only [grd, hj, hd, hl]; exact k'⟩
     · exact ⟨sl, true, (fun e => by cases e), fun _ h => h, k, fun Ky' Kn' k' => by simp only [grd, hj, hd, hl]; exact k'⟩
   · rename_i b hl
     split at k
     · cases b with
       | true => exact ⟨_, true, (fun e => by cases e), rf _ _ .tru trivial, k.1 rfl, fun Ky' Kn' k' => by simp only [grd, hj, hd, hl]; exact ⟨fun _ => k', fun e => by cases e⟩⟩
       | false => exact ⟨_, false, (fun e => by cases e), rf _ _ .fls trivial, k.2 rfl, fun Ky' Kn' k' => by simp only [grd, hj, hd, hl]; exact ⟨fun e => (by cases e), fun _ => k'⟩⟩
     · cases b with
       | true => exact ⟨_, false, (fun e => by cases e), rf _ _ .tru trivial, k.2 rfl, fun Ky' Kn' k' => by simp only [grd, hj, hd, hl]; exact ⟨fun e => (by cases e), fun _ => k'⟩⟩
       | false => exact ⟨_, true, (fun e => by cases e), rf _ _ .fls trivial, k.1 rfl, fun Ky' Kn' k' => by simp only [grd, hj, hd, hl]; exact ⟨fun _ => k', fun e => by cases e⟩⟩
   · rename_i hl
     exact ⟨sl, false, (fun e => by cases e), fun _ h => h, k, fun Ky' Kn' k' => by simp only [grd, hj, hd, hl]; exact k'⟩
   · cases k
theorem gopX_nm {o : Oper} {sl : Slots} {h : Heap} {m : Nat} {K : Slots → Heap → Prop} (k : gopX E all o sl h m K) : ∃ s g, K s g ∧ (∀ K' : Slots → Heap → Prop, K' s g → gopX E all o sl h m K') ∧ (∀ t, o.dst ≠ some t → (lk sl t).nmd (fun _ => False) → (lk s t).nmd fun _ => False) ∧ (o.guard = none → ∃ v ns ea, OpR E sl h m o.op v ns ea ∧ ∀ d, o.dst = some d → lk s d = v) := by
 unfold gopX at k
 obtain ⟨s, y, k0, kn, k1, k2⟩ := grd_nm k
 cases y with
 | true =>
   simp only [opX] at k1
   obtain ⟨v, ns, ea, k3, k4⟩ := opE_pf k1
   refine ⟨_, _, app_iff.1 k3, fun K' k' => by unfold gopX; exact k2 _ _ (by simp only [opX]; exact k4 _ (app_iff.2 k')), fun t ht hn => ?_, fun hg => ⟨v, ns, ea, ?_, fun d hd => ?_⟩⟩
   · rw [lk_put, if_neg ht, lk_killE]
     exact nmd_kE (kn t hn)
   · grind
   · rw [lk_put, if_pos hd]
 | false =>
   cases hd : o.dst with
   | none => rw [hd] at k1; exact ⟨_, _, k1, fun K' k' => by unfold gopX; exact k2 _ _ (by simp only [hd]; exact k'), fun t _ hn => kn t hn, fun hg => by have := (k0 hg).2; cases this⟩
   | some d => rw [hd] at k1; exact ⟨_, _, k1, fun K' k' => by unfold gopX; exact k2 _ _ (by simp only [hd]; exact k'), fun t ht hn => by
      simp only [lk]; split
      · exact trivial
      · exact kn t hn, fun hg => by have := (k0 hg).2; cases this⟩
theorem gopX_nl {gl : Bool} {gx : List Nat} {cls : List Nat} {L : Nat → Prop} {o : Oper} {p : Nat} {sl : Slots} {h : Heap} {m : Nat} {K : Slots → Heap → Prop} (hg : ∀ g, (ev E sl (.global g)).nmd fun _ => False) (ho : all[p]? = some o) (hc : gl = true → Nl all gx L sl ∧ NlS all cls gx ∧ (∀ j, j < p → (cls.getD p 0).testBit j = true → j ∈ gx → L j))
 (k : gopX E all o sl h m K) : gopX E all o sl h m fun s g => K s g ∧ (gl = true → Nl all gx (fun j => L j ∨ j = p) s) := by
 obtain ⟨s, g, k1, k2, kn, kv⟩ := gopX_nm k
 refine k2 _ ⟨k1, fun hf => ?_⟩
 obtain ⟨c, ns, hL⟩ := hc hf
 intro q hq hLq oq d hoq hdq
 obtain ⟨oq', d', h1, h2, h3, h4, h5, h6⟩ := ns q hq
 rw [hoq] at h1; cases h1
 rw [hdq] at h3; cases h3
 by_cases e : q = p
 · subst e
   rw [ho] at hoq; cases hoq
   obtain ⟨v, n1, ea, r, hd⟩ := kv h2
   rw [hd d hdq]
   exact (nlK_cln h4 (c.ops hg hL h6) r).1
 · have hL' : L q := hLq.resolve_right e
   exact kn d (fun hd => e (cntD_uniq h5 q p oq o hoq ho hdq hd)) (c q hq hL' oq d hoq hdq)
theorem Nl.less {gx : List Nat} {L L' : Nat → Prop} {sl : Slots} (c : Nl all gx L sl) (hL : ∀ j, L' j → L j) : Nl all gx L' sl := fun p hp hl => c p hp (hL p hl)
theorem Nl.none {gx : List Nat} {L : Nat → Prop} {sl : Slots} (hL : ∀ j, ¬ L j) : Nl all gx L sl := fun p _ hl => (hL p hl).elim
end
open Go.RowKit (Below)
theorem wpOp_some {ro : Option Nat} {P : Program} {ops : Array Oper} {i : Nat} {next : Act → World → Prop} {a : Act} {w : World} (h : wpOpIn (FR ro) 0 P ops (fun _ _ _ => False) i next a w) : ∃ a' w', next a' w' := by
 unfold wpOpIn at h
 split at h
 · exact ⟨_, _, h⟩
 · split at h
   · have h := h.2
     generalize (Oper.semAt _ _ _).run P w = r at h
     cases r with
     | ok n w' =>
       cases n with
       | enter f args =>
         simp only [Oper.uponIn] at h
         obtain ⟨e, w2, fr, h, _⟩ := h.2.2 [] (room_FR _)
         cases e with
         | returned v => exact ⟨_, _, h⟩
         | panicked c => cases h
         | outgrown => obtain ⟨_, _, h⟩ := h; cases h
       | row r args =>
         simp only [Oper.uponIn] at h
         obtain ⟨v, w2, h, _⟩ := h.2 default [] (room_FR _)
         exact ⟨_, _, h⟩
       | round l f tmps asg body =>
         simp only [Oper.uponIn] at h
         obtain ⟨e, w2, h, _⟩ := h.2.2 default [] (room_FR _)
         cases e with
         | returned v => exact ⟨_, _, h⟩
         | panicked c => cases h
         | outgrown => obtain ⟨_, _, h⟩ := h; cases h
       | _ => first | exact ⟨_, _, h⟩ | cases h
     | halt x w' => cases x <;> cases h
   · exact ⟨_, _, h.2⟩
section
variable {c : Cx} (ok : EnvOK c.E) {N : Nat}
theorem DenF.glb {sl : Slots} {h : Heap} {F : Nat → Prop} {a : Act} {w : World} (D : DenF c N sl h F a w) (sl' : Slots) (g : Nat) : (ev c.E sl' (.global g)).nmd fun _ => False := by
 obtain ⟨β, Y, m, _⟩ := D
 simp only [ev]
 split
 · exact True.intro
 · rename_i e
   exact nmd_mono (fun b hb => hb rfl) _ (rel_nmd (m.gl g _ rfl e))
def Som (c : Cx) (N : Nat) (sl : Slots) (h : Heap) (F : Nat → Prop) : Prop := ∃ a w, DenF c N sl h F a w
include ok in
theorem gopX_som {ops : Array Oper} (hall : ∀ o ∈ ops.toList, ∀ d, o.dst = some d → d < N) {o : Oper} {i : Nat} (hi : ops[i]? = some o) {sl : Slots} {h : Heap} {m : Nat} {F : Nat → Prop} {K : Slots → Heap → Prop} (hd : ∀ d, o.dst = some d → d < N) (s : Som c N sl h F) (hF : F m) (k : gopX c.E ops.toList o sl h m K) :
 ∃ s' g', K s' g' ∧ Som c N s' g' (rmF F m) ∧ ∀ K' : Slots → Heap → Prop, K' s' g' → gopX c.E ops.toList o sl h m K' := by
 obtain ⟨s', g', k1, k2⟩ := gopX_pf k
 refine ⟨s', g', k1, ?_, k2⟩
 obtain ⟨a, w, D⟩ := s
 have := gopX_sound ok hall hi (k2 (fun a b => a = s' ∧ b = g') ⟨rfl, rfl⟩) hF hd D (Q := fun _ _ _ => False) (next := fun a w => DenF c N s' g' (rmF F m) a w) (fun sl' h' a' w' e D' => by obtain ⟨rfl, rfl⟩ := e; exact D')
 exact wpOp_some this
def opsI (E : Env) (all : List Oper) (n : Nat) : List Nat → Slots → Heap → (Slots → Heap → Prop) → Prop
 | [], sl, h, K => K sl h
 | i :: r, sl, h, K => match all[i]? with
   | some o => gopX E all o sl h (n + i) fun sl h => opsI E all n r sl h K
   | none => False
theorem opsI_inv {E : Env} {all : List Oper} {n : Nat} {K : Slots → Heap → Prop} (inv : Inv K) : ∀ r, Inv fun sl h => opsI E all n r sl h K
 | [] => inv
 | i :: r => by
   intro sl h sl' h' e1 e2 k
   simp only [opsI] at k ⊢
   split at k
   case h_2 => cases k
   exact gopX_inv (opsI_inv inv r) sl h sl' h' e1 e2 k
mutual
theorem nmd_and {p q : Nat → Prop} : ∀ {v : SV}, v.nmd p → v.nmd q → v.nmd fun b => p b ∧ q b
 | .ptr .., h, k | .osl .., h, k | .yld _, h, k | .mpr _, h, k | .vsl .., h, k => ⟨h, k⟩
 | .agg fs, h, k => nmdL_and (l := fs) h k
 | .arr _ _ fs, h, k => nmdL_and (l := fs) h k
 | .sl _ fs, h, k => nmdL_and (l := fs) h k
 | .iptr t, h, k => nmd_and (v := t) h k
 | .tup fs, h, k => nmdL_and (l := fs) h k
 | .fn _ fs, h, k => nmdL_and (l := fs) h k
 | .ifc _ fs, h, k => nmdL_and (l := fs) h k
 | .any, _, _ | .int .., _, _ | .bool _, _, _ | .tru, _, _ | .fls, _, _ | .str _, _, _ | .mt, _, _ | .nils, _, _ | .nilf, _, _ | .nilp, _, _ | .nili, _, _ => trivial
theorem nmdL_and {p q : Nat → Prop} : ∀ {l : List SV}, nmdL p l → nmdL q l → nmdL (fun b => p b ∧ q b) l
 | [], _, _ => trivial
 | v :: r, h, k => ⟨nmd_and h.1 k.1, nmdL_and h.2 k.2⟩
end
def IndP (all : List Oper) (T Rs : List Nat) (fl : Bool) (gx : List Nat) (gl : Bool) (p : Nat) (x y : Oper) : Prop := indep all x y = true ∨ (fl = true ∧ indep2 all T Rs x y = true) ∨ (gl = true ∧ indep3 all gx p x y = true)
structure FlOK (ops : Array Oper) (T Rs : List Nat) : Prop where
 tk : tntOK T ops.toList = true
 kd : ∀ (p : Nat) (o : Oper), ops[p]? = some o → kind o.op ≤ 3
 st : ∀ (p : Nat) (o : Oper), ops[p]? = some o → ∀ T a v, o.op = .store T a v → tgB ops.toList Rs o = true ∧ ∀ i, frS ops.toList o = some i → i < p
include ok in
theorem bubble {ops : Array Oper} (hd : ∀ o ∈ ops.toList, ∀ d, o.dst = some d → d < N) {fl : Bool} {T Rs : List Nat} {S : Nat → Prop} (hfl : fl = true → FlOK ops T Rs) {gl : Bool} {gx cls : List Nat} (hgl : gl = true → NlS ops.toList cls gx) {n i : Nat} {oi : Oper} (hi : ops[i]? = some oi) {K : Slots → Heap → Prop} (inv : Inv K) (post : List Nat) : ∀ (pre : List Nat) (sl : Slots) (h : Heap) (F L : Nat → Prop),
 (∀ p ∈ pre, p ≠ i ∧ ∃ o, ops[p]? = some o ∧ IndP ops.toList T Rs fl gx gl p o oi) → (pre ++ i :: post).Pairwise (· < ·) → (∀ p ∈ pre ++ i :: post, F (n + p)) → Som c N sl h F → (∀ T, (lkT c.E.tt T).zero.nmd S) → (fl = true → Cl c.E ops.toList n T Rs S L sl h) → (gl = true → Nl ops.toList gx L sl) → (∀ j, L j → j ∉ pre ++ i :: post) → (∀ j, j < i → L j ∨ j ∈ pre ++ i :: post) →
 (fl = true → ∀ a, frS ops.toList oi = some a → L a) → opsI c.E ops.toList n (pre ++ i :: post) sl h K → opsI c.E ops.toList n (i :: (pre ++ post)) sl h K
 | [], sl, h, F, L, _, _, _, _, _, _, _, _, _, _, k => k
 | p :: pre, sl, h, F, L, hp, hnd, hF, s, hz, hcl, hnl, hL1, hL2, hLa, k => by
   obtain ⟨hpi, o, ho, hind⟩ := hp p (by simp)
   have ho' : ops.toList[p]? = some o := by rw [Array.getElem?_toList]; exact ho
   have hi' : ops.toList[i]? = some oi := by rw [Array.getElem?_toList]; exact hi
   have hlt : ∀ q ∈ pre ++ i :: post, p < q := (List.pairwise_cons.1 hnd).1
   simp only [List.cons_append, opsI, ho'] at k
   have hip : p < i := hlt i (by simp)
   have hpl : p < ops.size := by
    rcases Nat.lt_or_ge p ops.size with g | g
    · exact g
    · rw [Array.getElem?_eq_none g] at ho; cases ho
   have k' := gopX_cl (E := c.E) (fl := fl) (T := T) (Rs := Rs) (S := S) (L := L) (opsI_inv inv (pre ++ i :: post)) hz ho' (fun hf => ⟨hcl hf, (hfl hf).kd p o ho, fun hLp => hL1 p hLp (by simp), (hfl hf).tk, fun T0 a v hs => by
    obtain ⟨h1, h2⟩ := (hfl hf).st p o ho T0 a v hs
    refine ⟨h1, fun a0 ha0 => (hL2 a0 (by have := h2 a0 ha0; omega)).resolve_right fun hm => ?_⟩
    have h2 := h2 a0 ha0
    rcases List.mem_cons.1 hm with rfl | hm
    · omega
    · have := hlt a0 hm; omega⟩) k
   have hLp : ∀ j, j < p → L j := fun j hj => (hL2 j (by omega)).resolve_right fun hm => by
    rcases List.mem_cons.1 hm with rfl | hm
    · omega
    · have := hlt j hm; omega
   have hglb : ∀ g, (ev c.E sl (.global g)).nmd fun _ => False := by obtain ⟨a, w, D⟩ := s; exact fun g => D.glb sl g
   have k' := gopX_nl (E := c.E) (gl := gl) (gx := gx) (cls := cls) (L := L) hglb ho' (fun hf => ⟨hnl hf, hgl hf, fun j hj _ _ => hLp j hj⟩) k'
   obtain ⟨s', g', ⟨⟨k1, kc⟩, kn⟩, k2, k3⟩ := gopX_som ok hd ho (hd o (List.mem_of_getElem? ho')) s (hF p (by simp)) k'
   have k4 := bubble hd hfl hgl hi inv post pre s' g' (rmF F (n + p)) (fun j => L j ∨ j = p) (fun q hq => hp q (by simp [hq])) (by simpa using (List.pairwise_cons.1 hnd).2) (fun q hq => ⟨hF q (by simp only [List.cons_append, List.mem_cons]; exact .inr hq), by
    have := hlt q hq
    omega⟩) k2 hz kc kn (fun j hj hm => by
     rcases hj with hj | rfl
     · exact hL1 j hj (by simp only [List.cons_append, List.mem_cons]; exact .inr hm)
     · have := hlt j hm; omega) (fun j hj => by
     rcases hL2 j hj with h | h
     · exact .inl (.inl h)
     · rcases List.mem_cons.1 h with h | h
       · exact .inl (.inr h)
       · exact .inr h) (fun hf a ha => .inl (hLa hf a ha)) k1
   have k5 := k3 (fun sl h => opsI c.E ops.toList n (i :: (pre ++ post)) sl h K) k4
   simp only [opsI, hi'] at k5
   obtain ⟨a, w, D⟩ := s
   have k6 : gopX c.E ops.toList oi sl h (n + i) fun sl h => gopX c.E ops.toList o sl h (n + p) fun sl h => opsI c.E ops.toList n (pre ++ post) sl h K := by
    rcases hind with hind | ⟨hf, hind⟩ | ⟨hf, hind⟩
    · exact swap (opsI_inv inv (pre ++ post)) (D.wf ok) (hF p (by simp)) (hF i (by simp)) (by omega) hind k5
    · exact swap2 (opsI_inv inv (pre ++ post)) (hcl hf) hz (by omega) (by omega) (fun hLp => hL1 p hLp (by simp)) (hLa hf) hind k5
    · exact swap3 ok (opsI_inv inv (pre ++ post)) (hnl hf) hglb (fun j hj _ => hLp j hj) hind k5
   simp only [opsI, hi', List.cons_append, ho']
   exact k6
def Dn (ops : Array Oper) (L : Nat → Prop) : Prop := ∀ i o, ops[i]? = some o → L i → ∀ e ∈ o.after.toList, Region.binds .any e = true → L e.on
theorem closE_ok {ops : Array Oper} {L : Nat → Prop} {cls : List Nat} (hc : ∀ k p, (cls.getD k 0).testBit p = true → L k → L p) : ∀ {l : List Edge}, (∀ e ∈ l, Region.binds .any e = true → L e.on) → ∀ p, (closE cls l).testBit p = true → L p
 | [], _, p, h => by simp [closE] at h
 | e :: r, hl, p, h => by
   simp only [closE] at h
   split at h
   · rename_i hb
     rw [Nat.testBit_or, Nat.testBit_or, Bool.or_eq_true, Bool.or_eq_true] at h
     rcases h with h | h | h
     · rw [Nat.one_shiftLeft, Nat.testBit_two_pow] at h
       simp at h; subst h
       exact hl e (by simp) hb
     · exact hc e.on p h (hl e (by simp) hb)
     · exact closE_ok hc (ops := ops) (fun e' he' => hl e' (by simp [he'])) p h
   · exact closE_ok hc (ops := ops) (fun e' he' => hl e' (by simp [he'])) p h
theorem clos_ok {ops : Array Oper} {L : Nat → Prop} (dn : Dn ops L) : ∀ (r : List Oper) (pre : List Oper) (cls : List Nat), ops.toList = pre ++ r → cls.length = pre.length → (∀ k p, (cls.getD k 0).testBit p = true → L k → L p) → ∀ k p, ((clos r cls).getD k 0).testBit p = true → L k → L p
 | [], pre, cls, _, _, hc => hc
 | o :: r, pre, cls, hp, hl, hc => by
   simp only [clos]
   refine clos_ok dn r (pre ++ [o]) _ (by rw [hp]; simp) (by simp [hl]) ?_
   intro k p hk hL
   by_cases hlt : k < cls.length
   · have : (cls ++ [closE cls o.after.toList]).getD k 0 = cls.getD k 0 := by
      simp only [List.getD_eq_getElem?_getD]
      rw [List.getElem?_append_left hlt]
     rw [this] at hk
     exact hc k p hk hL
   · by_cases e : k = cls.length
     · subst e
       have ho : ops[pre.length]? = some o := by rw [← Array.getElem?_toList, hp]; simp
       have : (cls ++ [closE cls o.after.toList]).getD cls.length 0 = closE cls o.after.toList := by
        simp only [List.getD_eq_getElem?_getD]
        rw [List.getElem?_append_right (Nat.le_refl _)]
        simp
       rw [this] at hk
       exact closE_ok (ops := ops) hc (fun e he hb => dn _ o ho (by rw [← hl]; exact hL) e he hb) p hk
     · have : (cls ++ [closE cls o.after.toList]).getD k 0 = 0 := by
        rw [List.getD_eq_getElem?_getD, List.getElem?_eq_none (by simp; omega)]; rfl
       rw [this] at hk; simp at hk
end
def edgesLt (i : Nat) : List Edge → Bool
 | [] => true
 | e :: r => match Region.binds .any e with
   | true => (match Nat.blt e.on i with | true => edgesLt i r | false => false)
   | false => edgesLt i r
def indB (all : List Oper) (T Rs : List Nat) (fl : Bool) (gx : List Nat) (gl : Bool) (p : Nat) (x y : Oper) : Bool := match indep all x y with
 | true => true
 | false => match fl, gl with
   | true, _ => indep2 all T Rs x y
   | false, true => indep3 all gx p x y
   | false, false => false
theorem indB_ok {all : List Oper} {T Rs : List Nat} {fl : Bool} {gx : List Nat} {gl : Bool} {p : Nat} {x y : Oper} (h : indB all T Rs fl gx gl p x y = true) : IndP all T Rs fl gx gl p x y := by
 unfold indB at h
 split at h
 · rename_i e; exact .inl e
 · split at h
   · exact .inr (.inl ⟨rfl, h⟩)
   · exact .inr (.inr ⟨rfl, h⟩)
   · cases h
def stoB (all : List Oper) (Rs : List Nat) (m i : Nat) (o : Oper) : Bool := match Nat.ble (kind o.op) 3 with
 | false => false
 | true => match o.op with
   | .store .. => (match frS all o with
     | some a => (match Nat.blt a i with | true => m.testBit a | false => false)
     | none => tgB all Rs o)
   | _ => true
theorem stoB_ok {all : List Oper} {Rs : List Nat} {m i : Nat} {o : Oper} (h : stoB all Rs m i o = true) : kind o.op ≤ 3 ∧ ∀ T a v, o.op = .store T a v → tgB all Rs o = true ∧ ∀ a, frS all o = some a → a < i ∧ m.testBit a = true := by
 unfold stoB at h
 split at h
 · cases h
 rename_i e
 rw [Nat.ble_eq] at e
 refine ⟨e, fun T a v ho => ?_⟩
 rw [ho] at h
 simp only at h
 split at h
 · rename_i a0 e1
   split at h
   · rename_i e2; rw [Nat.blt_eq] at e2
     refine ⟨by unfold tgB; rw [e1], fun a ha => ?_⟩
     rw [e1] at ha; cases ha
     exact ⟨e2, h⟩
   · cases h
 · rename_i e1
   refine ⟨h, fun a ha => ?_⟩
   rw [e1] at ha; cases ha
def chkP (all : List Oper) (T Rs : List Nat) (fl : Bool) (gx : List Nat) (gl : Bool) (m : Nat) (o : Oper) (i : Nat) : List Oper → Nat → Bool
 | [], _ => true
 | q :: r, p => match Nat.blt p i with
   | false => true
   | true => match m.testBit p with
     | true => chkP all T Rs fl gx gl m o i r (p + 1)
     | false => match indB all T Rs fl gx gl p q o with
       | true => chkP all T Rs fl gx gl m o i r (p + 1)
       | false => false
def chk (all : List Oper) (T Rs : List Nat) (fl : Bool) (gx : List Nat) (gl : Bool) (cls : List Nat) : List Oper → Nat → Bool
 | [], _ => true
 | o :: r, i => match edgesLt i o.after.toList, chkP all T Rs fl gx gl (cls.getD i 0) o i all 0, (match fl with | true => stoB all Rs (cls.getD i 0) i o | false => true) with
   | true, true, true => chk all T Rs fl gx gl cls r (i + 1)
   | _, _, _ => false
def statF (ops : Array Oper) (T Rs : List Nat) (fl : Bool) (gx : List Nat) (gl : Bool) : Bool := chk ops.toList T Rs fl gx gl (clos ops.toList []) ops.toList 0
def statG (ops : Array Oper) (cls gx : List Nat) : Bool := match nlB ops.toList cls gx gx with
 | true => statF ops [] [] false gx true
 | false => false
def statB (ops : Array Oper) : Bool := match statF ops [] [] false [] false with
 | true => true
 | false => match (match tntOK (tnt ops.toList []) ops.toList with
   | true => statF ops (tnt ops.toList []) [] true [] false
   | false => false) with
   | true => true
   | false => statG ops (clos ops.toList []) (nlP ops.toList (clos ops.toList []) ops.toList 0 [])
def subB (T : List Nat) : List Nat → Bool
 | [] => true
 | t :: r => match memb t T with | true => subB T r | false => false
theorem subB_ok {T : List Nat} : ∀ {l : List Nat}, subB T l = true → ∀ t ∈ l, t ∈ T
 | t :: r, h, t', ht => by
   simp only [subB] at h
   split at h
   · rename_i e
     rcases List.mem_cons.1 ht with rfl | ht
     · exact memb_true.1 e
     · exact subB_ok h t' ht
   · cases h
theorem hasD_ok {t : Nat} : ∀ {l : List Oper}, hasD t l = false → ∀ o ∈ l, o.dst ≠ some t
 | [], _, _, ho => by cases ho
 | o :: r, h, o', ho => by
   simp only [hasD] at h
   split at h
   · rename_i d hd
     split at h
     · cases h
     · rename_i hb
       rcases List.mem_cons.1 ho with rfl | ho
       · rw [hd]; intro e; cases e; simp at hb
       · exact hasD_ok h o' ho
   · rename_i hd
     rcases List.mem_cons.1 ho with rfl | ho
     · rw [hd]; intro e; cases e
     · exact hasD_ok h o' ho
theorem rootsL_ok {all : List Oper} (t : Nat) : ∀ {l : List Oper}, t ∈ rootsL all l → ∀ o ∈ all, o.dst ≠ some t
 | [], ht => by cases ht
 | o :: r, ht => by
   simp only [rootsL] at ht
   split at ht
   · split at ht
     · exact rootsL_ok t ht
     · rename_i hb
       rcases List.mem_cons.1 ht with rfl | ht
       · exact hasD_ok hb
       · exact rootsL_ok t ht
   · exact rootsL_ok t ht
def statP (ops : Array Oper) (Rs T : List Nat) : Bool := match tntOK T ops.toList, subB T Rs with
 | true, true => statF ops T Rs true [] false
 | _, _ => false
def statR (ops : Array Oper) : Bool := match statB ops with
 | true => true
 | false => match needP ops.toList with
   | true => statP ops (rootsL ops.toList ops.toList) (tnt ops.toList (rootsL ops.toList ops.toList))
   | false => false
theorem edgesLt_ok {i : Nat} : ∀ {l : List Edge}, edgesLt i l = true → ∀ e ∈ l, Region.binds .any e = true → e.on < i
 | [], _, e, he => by cases he
 | e' :: r, h, e, he => by
   intro hb
   simp only [edgesLt] at h
   rcases List.mem_cons.1 he with rfl | he
   · rw [hb] at h
     simp only at h
     split at h
     · rename_i h1; rw [Nat.blt_eq] at h1; exact h1
     · cases h
   · split at h
     · split at h
       · exact edgesLt_ok h e he hb
       · cases h
     · exact edgesLt_ok h e he hb
theorem chkP_ok {all : List Oper} {T Rs : List Nat} {fl : Bool} {gx : List Nat} {gl : Bool} {m i : Nat} {o : Oper} : ∀ {r pre : List Oper} {p : Nat}, all = pre ++ r → pre.length = p → chkP all T Rs fl gx gl m o i r p = true → ∀ k q, p ≤ k → k < i → all[k]? = some q → m.testBit k = true ∨ IndP all T Rs fl gx gl k q o
 | [], pre, p, ha, hp, _, k, q, h1, h2, h3 => by
   subst ha
   have : pre.length ≤ k := by omega
   rw [List.getElem?_eq_none (by simpa using this)] at h3
   cases h3
 | q0 :: r, pre, p, ha, hp, h, k, q, h1, h2, h3 => by
   simp only [chkP] at h
   have hlt : Nat.blt p i = true := by rw [Nat.blt_eq]; omega
   simp only [hlt] at h
   by_cases e : k = p
   · subst e
     have : all[k]? = some q0 := by rw [ha, ← hp]; simp
     rw [this] at h3; cases h3
     split at h
     · rename_i hb; exact .inl hb
     · split at h
       · rename_i hb; exact .inr (indB_ok hb)
       · cases h
   · have step := fun hh => chkP_ok (T := T) (Rs := Rs) (fl := fl) (gx := gx) (gl := gl) (m := m) (o := o) (r := r) (pre := pre ++ [q0]) (p := p + 1) (by rw [ha]; simp) (by simp [hp]) hh k q (by omega) h2 h3
     split at h
     · exact step h
     · split at h
       · exact step h
       · cases h
theorem chk_ok {all : List Oper} {T Rs : List Nat} {fl : Bool} {gx : List Nat} {gl : Bool} {cls : List Nat} : ∀ {r pre post : List Oper} {i : Nat}, all = pre ++ (r ++ post) → pre.length = i → chk all T Rs fl gx gl cls r i = true → ∀ j o, i ≤ j → j < i + r.length → all[j]? = some o → (∀ e ∈ o.after.toList, Region.binds .any e = true → e.on < j) ∧ (∀ p q, p < j → all[p]? = some q → (cls.getD j 0).testBit p = true ∨ IndP all T Rs fl gx gl p q o) ∧ (fl = true → stoB all Rs (cls.getD j 0) j o = true)
 | [], pre, post, i, ha, hi, _, j, o, h1, h2, h3 => by
   simp at h2; omega
 | o0 :: r, pre, post, i, ha, hi, h, j, o, h1, h2, h3 => by
   simp only [chk] at h
   split at h
   case h_2 => cases h
   rename_i g1 g2 g3
   by_cases e : j = i
   · subst e
     have : all[j]? = some o0 := by rw [ha, ← hi]; simp
     rw [this] at h3; cases h3
     refine ⟨edgesLt_ok g1, fun p q hp hq => chkP_ok (pre := []) rfl rfl g2 p q (Nat.zero_le _) hp hq, fun hf => ?_⟩
     rw [hf] at g3; exact g3
   · exact chk_ok (r := r) (pre := pre ++ [o0]) (post := post) (i := i + 1) (by rw [ha]; simp) (by simp [hi]) h j o (by omega) (by simp at h2; omega) h3
def StatO (ops : Array Oper) (T Rs : List Nat) (fl : Bool) (gx : List Nat) (gl : Bool) (m : Nat) : Prop := ∀ (j : Nat) (o : Oper), j < m → ops[j]? = some o → (∀ e ∈ o.after.toList, Region.binds .any e = true → e.on < j) ∧ (∀ p q, p < j → ops[p]? = some q → ((clos ops.toList []).getD j 0).testBit p = true ∨ IndP ops.toList T Rs fl gx gl p q o) ∧ (fl = true → stoB ops.toList Rs ((clos ops.toList []).getD j 0) j o = true)
theorem statO_ok {ops : Array Oper} {T Rs : List Nat} {fl : Bool} {gx : List Nat} {gl : Bool} {r post : List Oper} (hr : ops.toList = r ++ post) (h : chk ops.toList T Rs fl gx gl (clos ops.toList []) r 0 = true) : StatO ops T Rs fl gx gl r.length := fun j o hlt hj => by
 have := chk_ok (pre := []) (post := post) (by simpa using hr) rfl h j o (Nat.zero_le _) (by omega) (by rw [Array.getElem?_toList]; exact hj)
 exact ⟨this.1, fun p q hp hq => this.2.1 p q hp (by rw [Array.getElem?_toList]; exact hq), this.2.2⟩
theorem statF_ok {ops : Array Oper} {T Rs : List Nat} {fl : Bool} {gx : List Nat} {gl : Bool} (h : statF ops T Rs fl gx gl = true) : StatO ops T Rs fl gx gl ops.size := by
 have := statO_ok (post := []) (by simp) h
 simpa using this
theorem DenF.lkeq {c : Cx} {N : Nat} {sl sl' : Slots} {h h' : Heap} {F : Nat → Prop} {a : Act} {w : World} (e1 : ∀ t, lk sl t = lk sl' t) (e2 : ∀ b, lkB h b = lkB h' b) (D : DenF c N sl h F a w) : DenF c N sl' h' F a w := by
 obtain ⟨β, Y, m, hs, hN, hd⟩ := D
 have hown : ∀ β, Own β h = Own β h' := fun β => by funext r; simp only [Own, e2]
 have hX : ∀ Z Y β, XX Z Y β h = XX Z Y β h' := fun Z Y β => by funext r; simp only [XX, hown]
 refine ⟨β, Y, ⟨m.fresh, fun b k hk => ?_, fun b b' k k' l l' h1 h2 => m.inj b b' k k' l l' (by rw [e2]; exact h1) (by rw [e2]; exact h2), fun r hr => m.own r (by rw [hown]; exact hr), m.yy, m.zz, m.size, m.frame, m.os, m.tape, m.output, fun g t hg ht => ?_⟩, ⟨hs.1, fun t => ?_⟩, hN, hd⟩
 · obtain ⟨l, g1, g2⟩ := m.blk b k (by rw [e2]; exact hk)
   exact ⟨l, g1, by rw [← hX]; exact g2⟩
 · rw [← hX]; exact m.gl g t hg ht
 · have := hs.2 t
   rw [← hX, ← e1]; exact this
theorem opsI_of {E : Env} {all : List Oper} {n : Nat} {K : Slots → Heap → Nat → Prop} : ∀ {r pre : List Oper} {sl : Slots} {h : Heap}, all = pre ++ r → opsX E all r sl h (n + pre.length) K → opsI E all n (List.range' pre.length r.length) sl h fun s g => K s g (n + all.length)
 | [], pre, sl, h, ha, k => by
   subst ha
   simpa [opsX, opsI] using k
 | o :: r, pre, sl, h, ha, k => by
   have : all[pre.length]? = some o := by rw [ha]; simp
   simp only [List.length_cons, List.range'_succ, opsI, this]
   simp only [opsX] at k
   refine gopX_mono (fun s g k' => ?_) k
   have := opsI_of (all := all) (E := E) (r := r) (pre := pre ++ [o]) (sl := s) (h := g) (by rw [ha]; simp) (K := K) (n := n) (by simpa [Nat.add_assoc] using k')
   simpa using this
theorem opsI_of' {E : Env} {all : List Oper} {n : Nat} {K : Slots → Heap → Nat → Prop} : ∀ {r pre post : List Oper} {sl : Slots} {h : Heap}, all = pre ++ (r ++ post) → opsX E all r sl h (n + pre.length) K → opsI E all n (List.range' pre.length r.length) sl h fun s g => K s g (n + pre.length + r.length)
 | [], pre, post, sl, h, ha, k => by
   simpa [opsX, opsI] using k
 | o :: r, pre, post, sl, h, ha, k => by
   have : all[pre.length]? = some o := by rw [ha]; simp
   simp only [List.length_cons, List.range'_succ, opsI, this]
   simp only [opsX] at k
   refine gopX_mono (fun s g k' => ?_) k
   have := opsI_of' (all := all) (E := E) (r := r) (pre := pre ++ [o]) (post := post) (sl := s) (h := g) (by rw [ha]; simp) (K := K) (n := n) (by simpa [Nat.add_assoc] using k')
   have e : n + (pre ++ [o]).length + r.length = n + pre.length + (r.length + 1) := by simp; omega
   rw [e] at this
   simpa using this
theorem lt_of_get {ops : Array Oper} {p : Nat} {o : Oper} (h : ops[p]? = some o) : p < ops.size := by
 rcases Nat.lt_or_ge p ops.size with g | g
 · exact g
 · rw [Array.getElem?_eq_none g] at h; cases h
section
variable {c : Cx} (ok : EnvOK c.E) {N : Nat}
include ok in
theorem anyOrd {ops : Array Oper} {T Rs : List Nat} {S : Nat → Prop} {fl : Bool} {gx : List Nat} {gl : Bool} {m : Nat} (hm : m ≤ ops.size) (st : StatO ops T Rs fl gx gl m) (hlast : ∀ j, m ≤ j → j < ops.size → ∀ p, p < m → ((clos ops.toList []).getD j 0).testBit p = true) (hfl : fl = true → FlOK ops T Rs) (hgl : gl = true → NlS ops.toList (clos ops.toList []) gx) (hd : ∀ o ∈ ops.toList, ∀ d, o.dst = some d → d < N) {n : Nat} {K : Slots → Heap → Prop} (inv : Inv K) {Q : Exit → Act → World → Prop} (fin : ∀ fuel listed s g a w, listed.size = ops.size → (∀ i, listed.getD i false = true ↔ i < m) → ops.size - m ≤ fuel → K s g → DenF c N s g (fun b => n + m ≤ b) a w → wpAnyIn (FR c.ro) 0 c.E.P .any ops Q fuel listed a w) :
 ∀ (fuel : Nat) (listed : Array Bool) (R : List Nat) (sl : Slots) (h : Heap) (F : Nat → Prop) (a : Act) (w : World), listed.size = ops.size → R.Pairwise (· < ·) → (∀ i, i ∈ R ↔ i < m ∧ listed.getD i false = false) → (∀ i, m ≤ i → listed.getD i false = false) → R.length + (ops.size - m) ≤ fuel →
  Dn ops (fun i => listed.getD i false = true) → (∀ i ∈ R, F (n + i)) → (∀ b, n + m ≤ b → F b) → DenF c N sl h F a w → (∀ T, (lkT c.E.tt T).zero.nmd S) → (fl = true → Cl c.E ops.toList n T Rs S (fun j => j < ops.size ∧ listed.getD j false = true) sl h) → (gl = true → Nl ops.toList gx (fun j => j < ops.size ∧ listed.getD j false = true) sl) → opsI c.E ops.toList n R sl h K → wpAnyIn (FR c.ro) 0 c.E.P .any ops Q fuel listed a w := by
 intro fuel
 have mem_R : ∀ (listed : Array Bool) i, listed.size = ops.size → i ∈ Region.ready .any ops listed → i < ops.size ∧ listed.getD i false = false ∧ ∃ o, ops[i]? = some o ∧ ∀ e ∈ o.after.toList, Region.binds .any e = true → listed.getD e.on false = true := by
  intro listed i hs hi
  rw [Region.ready, List.mem_filter] at hi
  obtain ⟨h1, h2⟩ := hi
  have hlt : i < ops.size := by simpa using h1
  rw [Bool.and_eq_true] at h2
  obtain ⟨h2, h3⟩ := h2
  have hgt : listed.getD i true = listed.getD i false := by
   rw [Array.getD_eq_getD_getElem?, Array.getD_eq_getD_getElem?, Array.getElem?_eq_getElem (by omega)]; rfl
  refine ⟨hlt, by rw [hgt] at h2; simpa using h2, ops[i], by simp [hlt], ?_⟩
  rw [Array.getElem?_eq_getElem hlt] at h3
  simp only [Option.map_some, Option.getD_some] at h3
  intro e he hb
  have := Array.all_eq_true_iff_forall_mem.1 h3 e (by simpa using he)
  rw [hb] at this
  simpa using this
 have empty : ∀ (listed : Array Bool) (R : List Nat), listed.size = ops.size → R.Pairwise (· < ·) → (∀ i, i ∈ R ↔ i < m ∧ listed.getD i false = false) → Region.ready .any ops listed = [] → R = [] := by
  intro listed R hs hp hR hr
  cases R with
  | nil => rfl
  | cons i R =>
    exfalso
    have hi0 := (hR i).1 (by simp)
    have hi : i < ops.size ∧ listed.getD i false = false := ⟨by omega, hi0.2⟩
    have : i ∈ Region.ready .any ops listed := by
     rw [Region.ready, List.mem_filter]
     refine ⟨by simpa using hi.1, ?_⟩
     have hgt : listed.getD i true = listed.getD i false := by
      rw [Array.getD_eq_getD_getElem?, Array.getD_eq_getD_getElem?, Array.getElem?_eq_getElem (by omega)]; rfl
     rw [hgt, hi.2, Array.getElem?_eq_getElem hi.1]
     simp only [Bool.not_false, Bool.true_and, Option.map_some, Option.getD_some]
     rw [Array.all_eq_true_iff_forall_mem]
     intro e he
     cases hb : Region.binds .any e with
     | false => rfl
     | true =>
       have hlt := (st i _ hi0.1 (Array.getElem?_eq_getElem hi.1)).1 e (by simpa using he) hb
       simp only [Bool.not_true, Bool.false_or]
       cases hl : listed.getD e.on false with
       | true => rfl
       | false =>
         have := (hR e.on).2 ⟨by omega, hl⟩
         rcases List.mem_cons.1 this with h | h
         · omega
         · have := (List.pairwise_cons.1 hp).1 _ h
           omega
    rw [hr] at this
    cases this
 have full : ∀ (listed : Array Bool), (∀ i, i ∈ ([] : List Nat) ↔ i < m ∧ listed.getD i false = false) → (∀ i, m ≤ i → listed.getD i false = false) → ∀ i, listed.getD i false = true ↔ i < m := by
  intro listed hR hM i
  constructor
  · intro h
    rcases Nat.lt_or_ge i m with g | g
    · exact g
    · rw [hM i g] at h; cases h
  · intro h
    cases hl : listed.getD i false with
    | true => rfl
    | false => have := (hR i).2 ⟨h, hl⟩; cases this
 induction fuel with
 | zero =>
   intro listed R sl h F a w hs hp hR hM hlen dn hF hF2 D hz hcl hnl k
   have : R = [] := List.length_eq_zero_iff.1 (by omega)
   subst this
   exact fin _ _ _ _ _ _ hs (full listed hR hM) (by simpa using hlen) k (D.less hF2)
 | succ fuel ih =>
   intro listed R sl h F a w hs hp hR hM hlen dn hF hF2 D hz hcl hnl k
   by_cases hnil : R = []
   · subst hnil
     exact fin _ _ _ _ _ _ hs (full listed hR hM) (by simpa using hlen) k (D.less hF2)
   refine ⟨fun hr => absurd (empty listed R hs hp hR hr) hnil, fun i hi => ?_⟩
   · obtain ⟨hilt, hil, oi, hoi, hafter⟩ := mem_R listed i hs hi
     have hiR : i ∈ R := by
      rcases Nat.lt_or_ge i m with g | g
      · exact (hR i).2 ⟨g, hil⟩
      · exfalso
        obtain ⟨r0, R', rfl⟩ := List.exists_cons_of_ne_nil hnil
        have hr0 := (hR r0).1 (by simp)
        have hL := clos_ok (ops := ops) (L := fun j => listed.getD j false = true ∨ j = i) (fun j o hj hj' e he hbd => ?_) ops.toList [] [] rfl rfl (fun k p hk => by simp at hk) i r0 (hlast i g hilt r0 hr0.1) (.inr rfl)
        · rcases hL with hL | hL
          · rw [hr0.2] at hL; cases hL
          · omega
        · rcases hj' with hj' | rfl
          · exact .inl (dn j o hj hj' e he hbd)
          · rw [hoi] at hj; cases hj
            exact .inl (hafter e he hbd)
     have him : i < m := ((hR i).1 hiR).1
     obtain ⟨pre, post, rfl⟩ := List.append_of_mem hiR
     have hp2 := List.pairwise_append.1 hp
     have hpre : ∀ p ∈ pre, p < i := fun p hp' => hp2.2.2 p hp' i (by simp)
     have hpost : ∀ p ∈ post, i < p := fun p hp' => (List.pairwise_cons.1 hp2.2.1).1 p hp'
     have hind : ∀ p ∈ pre, p ≠ i ∧ ∃ o, ops[p]? = some o ∧ IndP ops.toList T Rs fl gx gl p o oi := by
      intro p hp'
      have h1 := (hR p).1 (by simp [hp'])
      have h1s : p < ops.size := by omega
      refine ⟨by have := hpre p hp'; omega, ops[p]'h1s, by simp [h1s], ?_⟩
      rcases (st i oi him hoi).2.1 p _ (hpre p hp') (Array.getElem?_eq_getElem h1s) with hb | hb
      · exfalso
        have hL := clos_ok (ops := ops) (L := fun j => listed.getD j false = true ∨ j = i) (fun j o hj hj' e he hbd => ?_) ops.toList [] [] rfl rfl (fun k p hk => by simp at hk) i p hb (.inr rfl)
        · rcases hL with hL | hL
          · rw [h1.2] at hL; cases hL
          · have := hpre p hp'; omega
        · rcases hj' with hj' | rfl
          · exact .inl (dn j o hj hj' e he hbd)
          · rw [hoi] at hj; cases hj
            exact .inl (hafter e he hbd)
      · exact hb
     have hlt : i < ops.size := by omega
     have hLi : ∀ q, q < i → ((clos ops.toList []).getD i 0).testBit q = true → listed.getD q false = true := by
      intro q hq hb
      have hL := clos_ok (ops := ops) (L := fun j => listed.getD j false = true ∨ j = i) (fun j o hj hj' e he hbd => ?_) ops.toList [] [] rfl rfl (fun k p hk => by simp at hk) i q hb (.inr rfl)
      · rcases hL with hL | hL
        · exact hL
        · omega
      · rcases hj' with hj' | rfl
        · exact .inl (dn j o hj hj' e he hbd)
        · rw [hoi] at hj; cases hj
          exact .inl (hafter e he hbd)
     have hLa : fl = true → ∀ a, frS ops.toList oi = some a → a < ops.size ∧ listed.getD a false = true := by
      intro hf a0 ha0
      obtain ⟨T0, t, v, hy, _, _⟩ := frS_ok ha0
      obtain ⟨h1, h2⟩ := (stoB_ok ((st i oi him hoi).2.2 hf)).2 _ _ _ hy
      obtain ⟨h2, h3⟩ := h2 a0 ha0
      exact ⟨by omega, hLi a0 h2 h3⟩
     have k2 := bubble ok hd hfl hgl hoi inv post pre sl h F (fun j => j < ops.size ∧ listed.getD j false = true) hind hp hF ⟨a, w, D⟩ hz hcl hnl (fun j hj hm => by
      have := ((hR j).1 hm).2
      rw [hj.2] at this; cases this) (fun j hj => by
      by_cases hl : listed.getD j false = true
      · exact .inl ⟨by omega, hl⟩
      · exact .inr ((hR j).2 ⟨by omega, by simpa using hl⟩)) hLa k
     have hi' : ops.toList[i]? = some oi := by rw [Array.getElem?_toList]; exact hoi
     simp only [opsI, hi'] at k2
     have k2c := gopX_cl (E := c.E) (fl := fl) (T := T) (Rs := Rs) (S := S) (L := fun j => j < ops.size ∧ listed.getD j false = true) (opsI_inv inv (pre ++ post)) hz hi' (fun hf => ⟨hcl hf, (hfl hf).kd i oi hoi, (fun hLp => by
      have := ((hR i).1 hiR).2
      rw [hLp.2] at this; cases this), (hfl hf).tk, fun T0 a0 v hs => by
      exact ⟨((hfl hf).st i oi hoi T0 a0 v hs).1, hLa hf⟩⟩) k2
     have hglb : ∀ g, (ev c.E sl (.global g)).nmd fun _ => False := fun g => D.glb sl g
     have k2c := gopX_nl (E := c.E) (gl := gl) (gx := gx) (cls := clos ops.toList []) (L := fun j => j < ops.size ∧ listed.getD j false = true) hglb hi' (fun hf => ⟨hnl hf, hgl hf, fun j hj hb _ => ⟨by omega, hLi j hj hb⟩⟩) k2c
     refine gopX_sound ok hd hoi k2c (hF i hiR) (hd oi (List.mem_of_getElem? hi')) D fun sl' h' a' w' k3c D' => ?_
     obtain ⟨⟨k3, kc3⟩, kn3⟩ := k3c
     refine ih (listed.setIfInBounds i true) (pre ++ post) sl' h' (rmF F (n + i)) a' w' (by simpa using hs) ?_ ?_ ?_ ?_ ?_ ?_ ?_ D' hz (fun hf => (kc3 hf).less fun j hj => ?_) (fun hf => (kn3 hf).less fun j hj => ?_) k3
     · exact hp.sublist ((List.sublist_cons_self i post).append_left pre)
     · intro j
       have hmem : j ∈ pre ++ post ↔ j ∈ pre ++ i :: post ∧ j ≠ i := by
        simp only [List.mem_append, List.mem_cons]
        constructor
        · rintro (h | h)
          · exact ⟨.inl h, by have := hpre j h; omega⟩
          · exact ⟨.inr (.inr h), by have := hpost j h; omega⟩
        · rintro ⟨h | h | h, h'⟩
          · exact .inl h
          · exact absurd h h'
          · exact .inr h
       rw [hmem, hR j]
       by_cases e : j = i
       · subst e
         simp only [ne_eq, not_true, and_false, false_iff, not_and]
         intro _
         rw [Array.getD_eq_getD_getElem?, Array.getElem?_setIfInBounds_self_of_lt (by omega)]
         simp
       · rw [getD_set_ne false (Ne.symm e)]
         simp [e]
     · intro j hj
       rw [getD_set_ne false (by omega)]
       exact hM j hj
     · simp at hlen ⊢; omega
     · intro j o hj hj' e he hb
       by_cases hji : j = i
       · subst hji
         rw [hoi] at hj; cases hj
         exact getD_set_true (hafter e he hb)
       · rw [getD_set_ne false (Ne.symm hji)] at hj'
         exact getD_set_true (dn j o hj hj' e he hb)
     · intro j hj
       have hj' : j ∈ pre ++ i :: post ∧ j ≠ i := by
        simp only [List.mem_append] at hj
        rcases hj with h | h
        · exact ⟨by simp [h], by have := hpre j h; omega⟩
        · exact ⟨by simp [h], by have := hpost j h; omega⟩
       exact ⟨hF j hj'.1, by omega⟩
     · intro b hb
       exact ⟨hF2 b hb, by omega⟩
     · by_cases e : j = i
       · exact .inr e
       · rw [getD_set_ne false (Ne.symm e)] at hj
         exact .inl hj
     · by_cases e : j = i
       · exact .inr e
       · rw [getD_set_ne false (Ne.symm e)] at hj
         exact .inl hj
theorem any_done {c : Cx} {ops : Array Oper} {Q : Exit → Act → World → Prop} {a : Act} {w : World} (hQ : Q .normal a w) : ∀ (fuel : Nat) (listed : Array Bool), listed.size = ops.size → (∀ i, i < ops.size → listed.getD i false = true) → wpAnyIn (FR c.ro) 0 c.E.P .any ops Q fuel listed a w := by
 intro fuel listed hs hL
 have hr : ∀ i, ¬ i ∈ Region.ready .any ops listed := by
  intro i hi
  rw [Region.ready, List.mem_filter] at hi
  obtain ⟨h1, h2⟩ := hi
  have hlt : i < ops.size := by simpa using h1
  rw [Bool.and_eq_true] at h2
  have hgt : listed.getD i true = listed.getD i false := by
   rw [Array.getD_eq_getD_getElem?, Array.getD_eq_getD_getElem?, Array.getElem?_eq_getElem (by omega)]; rfl
  have := h2.1
  rw [hgt, hL i hlt] at this
  cases this
 cases fuel with
 | zero => exact ⟨List.eq_nil_iff_forall_not_mem.2 hr, hQ⟩
 | succ fuel => exact ⟨fun _ => hQ, fun i hi => absurd hi (hr i)⟩
theorem priv_nil {sl : Slots} {h : Heap} : Priv [] sl h := ⟨fun _ => False, fun t ht => (by cases ht), fun t _ => nmd_mono (fun b _ h => h) _ nmd_all, fun b o v _ _ => nmd_mono (fun b _ h => h) _ nmd_all⟩
include ok in
theorem drawn_okF {ops : Array Oper} {T Rs : List Nat} {fl : Bool} {gx : List Nat} {gl : Bool} (st : statF ops T Rs fl gx gl = true) (tk : fl = true → tntOK T ops.toList = true) (hgl : gl = true → NlS ops.toList (clos ops.toList []) gx) (hrs : fl = true → ∀ t ∈ Rs, t ∈ T ∧ ∀ o ∈ ops.toList, o.dst ≠ some t) (hd : ∀ o ∈ ops.toList, ∀ d, o.dst = some d → d < N) (id : Nat) {sl : Slots} {h : Heap} {n : Nat} (hpr : fl = true → Priv Rs sl h) {K : Slots → Heap → Nat → Prop} (k : opsX c.E ops.toList ops.toList sl h n K) {a : Act} {w : World} (D : Den c N sl h n a w) {Q : Exit → Act → World → Prop}
 (hQ : ∀ sl' h' n' a' w', K sl' h' n' → Den c N sl' h' n' a' w' → Q .normal a' w') : (Code.region id ops true).wpIn (FR c.ro) 0 c.E.P Q a w := by
 have k1 := opsI_of (pre := []) (r := ops.toList) rfl (by simpa using k)
 let K' : Slots → Heap → Prop := fun s g => ∃ s0 g0, (∀ t, lk s0 t = lk s t) ∧ (∀ b, lkB g0 b = lkB g b) ∧ K s0 g0 (n + ops.toList.length)
 have inv : Inv K' := fun s g s' g' e1 e2 ⟨s0, g0, h1, h2, h3⟩ => ⟨s0, g0, fun t => (h1 t).trans (e1 t), fun b => (h2 b).trans (e2 b), h3⟩
 have mono : ∀ r sl h, opsI c.E ops.toList n r sl h (fun s g => K s g (n + ops.toList.length)) → opsI c.E ops.toList n r sl h K' := by
  intro r
  induction r with
  | nil => exact fun sl h k => ⟨sl, h, fun _ => rfl, fun _ => rfl, k⟩
  | cons i r ih =>
    intro sl h k
    simp only [opsI] at k ⊢
    split at k
    case h_2 => cases k
    exact gopX_mono (fun s g k => ih s g k) k
 refine wpIn_region_any ok.mixed ?_
 have hfl : fl = true → FlOK ops T Rs := fun hf => ⟨tk hf, fun p o hp => (stoB_ok ((statF_ok st p o (lt_of_get hp) hp).2.2 hf)).1, fun p o hp T0 a v hs => by
  obtain ⟨h1, h2⟩ := (stoB_ok ((statF_ok st p o (lt_of_get hp) hp).2.2 hf)).2 T0 a v hs
  exact ⟨h1, fun i hi => (h2 i hi).1⟩⟩
 have hcl : ∃ S : Nat → Prop, fl = true → Cl c.E ops.toList n T Rs S (fun j => j < ops.size ∧ (Array.replicate ops.size false).getD j false = true) sl h := by
  cases hf : fl with
  | false => exact ⟨fun _ => False, fun h => by cases h⟩
  | true =>
    obtain ⟨Bs, p1, p2, p3⟩ := hpr hf
    refine ⟨fun b => b < n ∧ ¬ Bs b, fun _ => ?_⟩
    obtain ⟨a0, w0, D0⟩ : ∃ a w, DenF c N sl h (fun b => n ≤ b) a w := ⟨a, w, D⟩
    have glb := D0.glb
    have wf := D.wf ok
    obtain ⟨β, Y, m, hs, _⟩ := D
    have hF : ∀ b, β b ≠ none → b < n := fun b hb => by
     rcases Nat.lt_or_ge b n with g | g
     · exact g
     · exact absurd (m.fresh b g) hb
    have hsl : ∀ t, (lk sl t).nmd (· < n) := fun t => nmd_mono hF _ (rel_nmd (hs.2 t))
    refine ⟨fun b hb => hb.1, fun t ht => nmd_and (hsl t) (p2 t fun hr => ht (hrs hf t hr).1), fun g => nmd_mono (fun b hb => hb.elim) _ (glb sl g), fun b hb o v hv => nmd_and (nmd_mono (fun b hb => by omega) _ (wf.hs.var b (by have := hb.1; omega) o v hv)) (p3 b o v hb.2 hv), fun b hb o s xs hv => ?_, fun i o t hL => ?_, fun t ht => ?_⟩
    · obtain ⟨l, h1, h2⟩ := m.blk b _ hv
      obtain ⟨g1, g2, g3, g4⟩ := h2
      rcases g4 with g4 | ⟨cs, ty, lo, hi, _, _, _, ⟨c1, c2, _, h5⟩, _⟩
      · have : xs = [] := by cases xs with
         | nil => rfl
         | cons a r => simp at g1; omega
        subst this; trivial
      · exact nmdL_mono (fun b hb => absurd rfl hb) _ (relR_nmd _ _ _ _ h5)
    · exfalso
      obtain ⟨h1, h2⟩ := hL
      rw [Array.getD_eq_getD_getElem?] at h2
      simp [h1] at h2
    · obtain ⟨f, h1, h2⟩ := p1 t ht
      have h3 := hsl t
      rw [h1] at h3
      exact ⟨(hrs hf t ht).2, f, h1, h3, fun hh => hh.2 h2⟩
 obtain ⟨S, hcl⟩ := hcl
 have hz : ∀ T, (lkT c.E.tt T).zero.nmd S := fun T => zero_nmd ok _ T
 refine anyOrd ok (Nat.le_refl _) (statF_ok st) (fun j h1 h2 => by omega) hfl hgl hd (n := n) inv (fun fuel listed s g a w hs hL hfu hk D => ?_) ops.size _ (List.range ops.size) sl h (fun b => n ≤ b) a _ (by simp) List.pairwise_lt_range ?_ (fun i hi => ?_) (by simp) ?_ (fun i _ => by omega) (fun b hb => by omega) D.drew hz hcl (fun _ => Nl.none fun j hj => by
  obtain ⟨h1, h2⟩ := hj
  rw [Array.getD_eq_getD_getElem?] at h2
  simp [h1] at h2) ?_
 · obtain ⟨s0, g0, h1, h2, h3⟩ := hk
   have h3' : K s0 g0 (n + ops.size) := by simpa using h3
   exact any_done (hQ s0 g0 _ a w h3' (DenF.lkeq (fun t => (h1 t).symm) (fun b => (h2 b).symm) D)) fuel listed hs fun i hi => (hL i).2 hi
 · intro i
   rw [List.mem_range]
   constructor
   · intro hi
     refine ⟨hi, ?_⟩
     rw [Array.getD_eq_getD_getElem?]
     simp [hi]
   · exact fun h => h.1
 · rw [Array.getD_eq_getD_getElem?]
   simp [show ¬ i < ops.size by omega]
 · intro i o hi hL
   exfalso
   rw [Array.getD_eq_getD_getElem?] at hL
   have : i < ops.size := by
    rcases Nat.lt_or_ge i ops.size with h | h
    · exact h
    · rw [Array.getElem?_eq_none h] at hi; cases hi
   simp [this] at hL
 · have := mono _ _ _ k1
   simpa [List.range_eq_range'] using this
def bitsB (b : Nat) : Nat → Bool
 | 0 => true
 | p + 1 => match b.testBit p with | true => bitsB b p | false => false
theorem bitsB_ok {b : Nat} : ∀ {m : Nat}, bitsB b m = true → ∀ p, p < m → b.testBit p = true
 | 0, _, p, hp => by omega
 | m + 1, h, p, hp => by
   simp only [bitsB] at h
   split at h
   · rename_i e
     by_cases g : p = m
     · subst g; exact e
     · exact bitsB_ok h p (by omega)
   · cases h
def statL (all : List Oper) (cls : List Nat) (i : List Oper) (o : Oper) : Bool := match chk all [] [] false [] false cls i 0, bitsB (cls.getD i.length 0) i.length, edgesLt i.length o.after.toList with
 | true, true, true => true
 | _, _, _ => false
include ok in
theorem drawnL_ok {ops : Array Oper} {i : List Oper} {o : Oper} (hio : ops.toList = i ++ [o]) (st : statL ops.toList (clos ops.toList []) i o = true) (hd : ∀ o ∈ ops.toList, ∀ d, o.dst = some d → d < N) (id : Nat) {sl : Slots} {h : Heap} {n : Nat} {K : Slots → Heap → Nat → Prop} (k : opsX c.E ops.toList i sl h n fun sl h n => gopY c.E ops.toList o sl h n K) {a : Act} {w : World} (D : Den c N sl h n a w) {Q : Exit → Act → World → Prop}
 (hQ : ∀ sl' h' n' a' w', K sl' h' n' → Den c N sl' h' n' a' w' → Q .normal a' w') : (Code.region id ops true).wpIn (FR c.ro) 0 c.E.P Q a w := by
 unfold statL at st
 split at st
 case h_2 => cases st
 rename_i st1 st2 st3
 have hsz : ops.size = i.length + 1 := by have := congrArg List.length hio; simpa using this
 have hlo : ops[i.length]? = some o := by rw [← Array.getElem?_toList, hio]; simp
 have k1 := opsI_of' (pre := []) (r := i) (post := [o]) (by simpa using hio) (by simpa using k)
 let K' : Slots → Heap → Prop := fun s g => ∃ s0 g0, (∀ t, lk s0 t = lk s t) ∧ (∀ b, lkB g0 b = lkB g b) ∧ gopY c.E ops.toList o s0 g0 (n + i.length) K
 have inv : Inv K' := fun s g s' g' e1 e2 ⟨s0, g0, h1, h2, h3⟩ => ⟨s0, g0, fun t => (h1 t).trans (e1 t), fun b => (h2 b).trans (e2 b), h3⟩
 have mono : ∀ r sl h, opsI c.E ops.toList n r sl h (fun s g => gopY c.E ops.toList o s g (n + i.length) K) → opsI c.E ops.toList n r sl h K' := by
  intro r
  induction r with
  | nil => exact fun sl h k => ⟨sl, h, fun _ => rfl, fun _ => rfl, k⟩
  | cons i r ih =>
    intro sl h k
    simp only [opsI] at k ⊢
    split at k
    case h_2 => cases k
    exact gopX_mono (fun s g k => ih s g k) k
 refine wpIn_region_any ok.mixed ?_
 have hz : ∀ T, (lkT c.E.tt T).zero.nmd fun _ => False := fun T => zero_nmd ok _ T
 refine anyOrd ok (m := i.length) (by omega) (statO_ok hio st1) (fun j h1 h2 p hp => ?_) (fun h => by cases h) (fun h => by cases h) hd (n := n) inv (fun fuel listed s g a w hs hL hfu hk D => ?_) ops.size _ (List.range i.length) sl h (fun b => n ≤ b) a _ (by simp) List.pairwise_lt_range ?_ (fun j hj => ?_) (by simp; omega) ?_ (fun i _ => by omega) (fun b hb => by omega) D.drew hz (fun h => by cases h) (fun h => by cases h) ?_
 · obtain rfl : j = i.length := by omega
   exact bitsB_ok st2 p hp
 · obtain ⟨s0, g0, h1, h2, h3⟩ := hk
   have D0 := DenF.lkeq (fun t => (h1 t).symm) (fun b => (h2 b).symm) D
   cases fuel with
   | zero => omega
   | succ fuel =>
     refine ⟨fun hr => ?_, fun j hj => ?_⟩
     · exfalso
       have : i.length ∈ Region.ready .any ops listed := by
        rw [Region.ready, List.mem_filter]
        refine ⟨by simp [hsz], ?_⟩
        have hgt : listed.getD i.length true = listed.getD i.length false := by
         rw [Array.getD_eq_getD_getElem?, Array.getD_eq_getD_getElem?, Array.getElem?_eq_getElem (by omega)]; rfl
        have hnl : listed.getD i.length false = false := by
         cases hl : listed.getD i.length false with
         | false => rfl
         | true => have := (hL i.length).1 hl; omega
        rw [hgt, hnl, hlo]
        simp only [Bool.not_false, Bool.true_and, Option.map_some, Option.getD_some]
        rw [Array.all_eq_true_iff_forall_mem]
        intro e he
        cases hb : Region.binds .any e with
        | false => rfl
        | true =>
          have hlt := edgesLt_ok st3 e (by simpa using he) hb
          simp only [Bool.not_true, Bool.false_or]
          exact (hL e.on).2 hlt
       rw [hr] at this
       cases this
     · rw [Region.ready, List.mem_filter] at hj
       obtain ⟨hj1, hj2⟩ := hj
       have hjs : j < ops.size := by simpa using hj1
       rw [Bool.and_eq_true] at hj2
       have hgt : listed.getD j true = listed.getD j false := by
        rw [Array.getD_eq_getD_getElem?, Array.getD_eq_getD_getElem?, Array.getElem?_eq_getElem (by omega)]; rfl
       have hje : j = i.length := by
        rcases Nat.lt_or_ge j i.length with g | g
        · have := hj2.1
          rw [hgt, (hL j).2 g] at this
          cases this
        · omega
       subst hje
       have hmem : o ∈ ops.toList := by rw [hio]; simp
       have rest : ∀ sl2 h2 n2 a2 w2, K sl2 h2 n2 → Den c N sl2 h2 n2 a2 w2 → wpAnyIn (FR c.ro) 0 c.E.P .any ops Q fuel (listed.setIfInBounds i.length true) a2 w2 := by
        intro sl2 h2 n2 a2 w2 k1 k2
        refine any_done (hQ _ _ _ _ _ k1 k2) fuel _ (by simpa using hs) fun j hj => ?_
        by_cases e : j = i.length
        · subst e
          rw [Array.getD_eq_getD_getElem?, Array.getElem?_setIfInBounds_self_of_lt (by omega)]
          simp
        · rw [getD_set_ne false (Ne.symm e)]
          exact (hL j).2 (by omega)
       unfold gopY at h3
       obtain ⟨sl', D', hw⟩ := grd_sound hd h3 D0 rfl
       unfold wpOpIn
       simp only [hlo]
       rcases hw with ⟨g1, g2⟩ | ⟨g1, g2⟩
       · rw [if_pos g1]
         exact opZ_sound ok g2 (hd o hmem) D' rest
       · rw [if_neg (by rw [g1]; simp)]
         refine ⟨fun _ _ => trivial, ?_⟩
         refine rest (putS o.dst und sl') _ _ _ _ ?_ (D'.skip (hd o hmem))
         cases hdst : o.dst <;> simp only [hdst] at g2 <;> exact g2
 · intro j
   rw [List.mem_range]
   constructor
   · intro hi
     refine ⟨hi, ?_⟩
     rw [Array.getD_eq_getD_getElem?]
     simp [show j < ops.size by omega]
   · exact fun h => h.1
 · rw [Array.getD_eq_getD_getElem?]
   by_cases g : j < ops.size <;> simp [g]
 · intro j o hj hL
   exfalso
   rw [Array.getD_eq_getD_getElem?] at hL
   have : j < ops.size := by
    rcases Nat.lt_or_ge j ops.size with h | h
    · exact h
    · rw [Array.getElem?_eq_none h] at hj; cases hj
   simp [this] at hL
 · have := mono _ _ _ k1
   simpa [List.range_eq_range'] using this
include ok in
theorem drawn_ok {ops : Array Oper} (st : statR ops = true) (hd : ∀ o ∈ ops.toList, ∀ d, o.dst = some d → d < N) (id : Nat) {sl : Slots} {h : Heap} {n : Nat} {K : Slots → Heap → Nat → Prop} (hp : PrivX ops.toList sl h) (k : opsX c.E ops.toList ops.toList sl h n K) {a : Act} {w : World} (D : Den c N sl h n a w) {Q : Exit → Act → World → Prop}
 (hQ : ∀ sl' h' n' a' w', K sl' h' n' → Den c N sl' h' n' a' w' → Q .normal a' w') : (Code.region id ops true).wpIn (FR c.ro) 0 c.E.P Q a w := by
 unfold statR at st
 split at st
 · rename_i st0
   clear st
   have st := st0
   unfold statB at st
   split at st
   · rename_i e; exact drawn_okF ok e (fun h => by cases h) (fun h => by cases h) (fun _ t ht => by cases ht) hd id (fun _ => priv_nil) k D hQ
   · split at st
     · rename_i e0
       split at e0
       · rename_i e; exact drawn_okF ok e0 (fun _ => e) (fun h => by cases h) (fun _ t ht => by cases ht) hd id (fun _ => priv_nil) k D hQ
       · cases e0
     · unfold statG at st
       split at st
       · rename_i e; exact drawn_okF ok st (fun h => by cases h) (fun _ => nlB_ok e) (fun _ t ht => by cases ht) hd id (fun _ => priv_nil) k D hQ
       · cases st
 · split at st
   case h_2 => cases st
   rename_i e0 e1
   unfold statP at st
   split at st
   case h_2 => cases st
   rename_i e2 e3
   unfold PrivX at hp
   rw [e1] at hp
   exact drawn_okF ok st (fun _ => e2) (fun h => by cases h) (fun _ t ht => ⟨subB_ok e3 t ht, rootsL_ok t ht⟩) hd id (fun _ => hp) k D hQ
end
def statA (ops : Array Oper) : Bool := match lastB ops.toList with
 | none => statR ops
 | some (i, o) => statL ops.toList (clos ops.toList []) i o
def codeB (N : Nat) : Code → Bool
 | .region _ ops draw => match plainOps N ops.toList with
   | true => (match draw with | true => (match cpB ops.toList with | true => true | false => statA ops) | false => true)
   | false => false
 | .seq a b => match codeB N a with | true => codeB N b | false => false
 | .cond _ a b => match codeB N a with | true => codeB N b | false => false
 | .block _ b => codeB N b
 | .loop b => codeB N b
 | .scope b => codeB N b
 | _ => true
theorem codeB_ok {E : Env} (ok : EnvOK E) {N : Nat} : ∀ {c : Code}, codeB N c = true → codeOK E N c
 | .region id ops draw, h => by
   simp only [codeB] at h
   split at h
   case h_2 => cases h
   rename_i e
   refine ⟨plainOps_ok e, fun hd hcp => ?_⟩
   subst hd
   simp only [hcp] at h
   unfold DrawnA
   unfold statA at h
   split
   · rename_i e1
     rw [e1] at h
     intro c hc id sl h' n K hp hk a w D Q hQ
     subst hc
     exact drawn_ok ok h (plainOps_ok e) id hp hk D hQ
   · rename_i p e1
     rw [e1] at h
     intro c hc id sl h' n K hk a w D Q hQ
     subst hc
     exact drawnL_ok ok (lastB_ok e1) h (plainOps_ok e) id hk D hQ
 | .seq a b, h => by
   simp only [codeB] at h
   split at h
   · rename_i e; exact ⟨codeB_ok ok e, codeB_ok ok h⟩
   · cases h
 | .cond _ a b, h => by
   simp only [codeB] at h
   split at h
   · rename_i e; exact ⟨codeB_ok ok e, codeB_ok ok h⟩
   · cases h
 | .block _ b, h => codeB_ok ok (c := b) h
 | .loop b, h => codeB_ok ok (c := b) h
 | .scope b, h => codeB_ok ok (c := b) h
 | .skip, _ | .exit _, _ | .ret, _ | .rangeFunc _ _ _ _, _ | .label _, _ | .goto _, _ | .refuse _, _ => trivial
open Go.RowKit (Below)
theorem lk_cons (i : Nat) (v : SV) (r : Slots) (t : Nat) : lk ((i, v) :: r) t = if i = t then v else lk r t := by
 simp only [lk]
 by_cases e : i = t
 · subst e; simp
 · rw [beq_false e, if_neg e]
theorem lk_shS_lo {s : Slots} {t : Nat} (h : t ≤ 999999) : lk (shS s) t = .any := by
 induction s with
 | nil => rfl
 | cons x r ih =>
   obtain ⟨i, v⟩ := x
   simp only [shS]
   rw [lk_cons, if_neg (by omega)]
   exact ih
theorem lk_shS_hi {s : Slots} {t : Nat} : lk (shS s) (t + 1000000) = lk s t := by
 induction s with
 | nil => rfl
 | cons x r ih =>
   obtain ⟨i, v⟩ := x
   simp only [shS]
   rw [lk_cons, lk_cons, ih]
   by_cases e : i = t
   · rw [if_pos e, if_pos (by omega)]
   · rw [if_neg e, if_neg (by omega)]
theorem lk_unS {s : Slots} {t : Nat} : lk (unS s) t = lk s (t + 1000000) := by
 induction s with
 | nil => rfl
 | cons x r ih =>
   obtain ⟨i, v⟩ := x
   simp only [unS]
   split
   · rename_i e
     rw [Nat.ble_eq] at e
     rw [lk_cons, if_neg (by omega)]
     exact ih
   · rename_i e
     have : ¬ i ≤ 999999 := by rw [← Nat.ble_eq, e]; simp
     rw [lk_cons, lk_cons, ih]
     by_cases e : i = t + 1000000
     · rw [if_pos e, if_pos (by omega)]
     · rw [if_neg e, if_neg (by omega)]
theorem resLI_ok {c : Cx} (ok : EnvOK c.E) {sl : Slots} {h : Heap} {F : Nat → Prop} {β : Beta} {Y : Nat → Prop} {w : World} {a : Act} (m : Mem c h F β Y w) (hs : SlotsOK c sl h β Y w a) :
 ∀ (l : List ResultVar) (K : List SV → Prop), resLI c.E sl h l K → ∃ vs us, K vs ∧ (resRun a l).run c.E.P w = .ok us w ∧ vs.length = us.length ∧ ∀ (i : Nat) (v : SV) (u : Value), vs[i]? = some v → us[i]? = some u → rel w (XX c.Z Y β h) v β u
 | [], K, hK => ⟨[], [], hK, by simp [resRun], rfl, fun i v u h => by simp at h⟩
 | .tmp t :: r, K, hK => by
   simp only [resLI, frc_eq] at hK
   obtain ⟨vs, us, q1, q2, q3, q4⟩ := resLI_ok ok m hs r _ hK
   refine ⟨_ :: vs, a.tmps.getD t undef :: us, q1, ?_, by simp [q3], fun i v u h1 h2 => ?_⟩
   · simp only [resRun] at q2 ⊢
     simp only [List.mapM_cons, Sem.run_bind, Sem.run_pure, Result.andThen_ok]
     rw [q2]
     rfl
   · cases i with
     | zero =>
       simp only [List.getElem?_cons_zero, Option.some.injEq] at h1 h2
       subst h1; subst h2; exact ev_ok m hs (.tmp t)
     | succ i => exact q4 i v u (by simpa using h1) (by simpa using h2)
 | .cell t T :: r, K, hK => by
   simp only [resLI] at hK
   have hK' : opE c.E sl h 0 (.load T (.tmp t)) (fun v _ _ => resLI c.E sl h r fun vs => K (v :: vs)) := hK
   obtain ⟨v, u, ad, k0, hu, k5, k6⟩ := load_val ok m hK' (ev_ok m hs (.tmp t))
   obtain ⟨vs, us, q1, q2, q3, q4⟩ := resLI_ok ok m hs r _ k0
   refine ⟨v :: vs, u :: us, q1, ?_, by simp [q3], fun i v' u' h1 h2 => ?_⟩
   · simp only [resRun] at q2 ⊢
     have ha : asAddr (.pointer (some ad)) = pure ad := rfl
     replace hu : a.tmps.getD t undef = .pointer (some ad) := hu
     simp only [List.mapM_cons, Sem.run_bind, hu, ha, Sem.run_pure, Result.andThen_ok, k5]
     rw [q2]
     rfl
   · cases i with
     | zero => simp at h1 h2; subst h1; subst h2; exact k6
     | succ i => exact q4 i v' u' (by simpa using h1) (by simpa using h2)
theorem relL_of {w : World} {X : Nat → Prop} {β : Beta} : ∀ {vs : List SV} {us : List Value}, vs.length = us.length → noTup vs = true → (∀ (i : Nat) (v : SV) (u : Value), vs[i]? = some v → us[i]? = some u → rel w X v β u) → relL w X vs β us
 | [], us, h, _, _ => by rw [relL_nil]; exact List.length_eq_zero_iff.1 (by simpa using h.symm)
 | v :: r, [], h, _, _ => by simp at h
 | v :: r, u :: us, h, hn, k => by
   obtain ⟨h1, h2⟩ := noTup_cons hn
   rw [relL_cons]
   refine ⟨u, us, rfl, ?_, relL_of (by simpa using h) h2 fun i v' u' g1 g2 => k (i + 1) v' u' (by simpa using g1) (by simpa using g2)⟩
   have := k 0 v u (by simp) (by simp)
   rw [rel_eq h1] at this
   exact this
theorem resI_ok {c : Cx} (ok : EnvOK c.E) {fn : Func} {sl : Slots} {h : Heap} {F : Nat → Prop} {β : Beta} {Y : Nat → Prop} {w : World} {a : Act} (m : Mem c h F β Y w) (hs : SlotsOK c sl h β Y w a) {K : SV → Prop} (hK : resI c.E fn sl h K) :
 ∃ r v, K r ∧ (results fn a.tmps).run c.E.P w = .ok v w ∧ rel w (XX c.Z Y β h) r β v := by
 unfold resI at hK
 obtain ⟨vs, us', k1, k2, k3, k4⟩ := resLI_ok ok m hs fn.results.toList _ hK
 have k2' : (fn.results.mapM fun
  | .tmp t => pure (a.tmps.getD t undef)
  | .cell x t => do loadVar t (← asAddr (a.tmps.getD x undef)) : Sem (Array Value)).run c.E.P w = .ok us'.toArray w := by
  rw [Array.mapM_eq_mapM_toList, Sem.run_map]
  have k2'' := k2
  simp only [resRun] at k2''
  exact (congrArg (fun r => r.andThen fun (a : List Value) w'' => Result.ok a.toArray w'') k2'')
 have k5 : (results fn a.tmps).run c.E.P w = (Result.ok us'.toArray w).andThen fun (a : Array Value) w'' => (pure (if h : a.size = 1 then a[0] else Value.tuple a) : Sem Value).run c.E.P w'' := by
  unfold results
  rw [Sem.run_bind]
  exact (congrArg (fun r => r.andThen fun (a : Array Value) w'' => (pure (if h : a.size = 1 then a[0] else Value.tuple a) : Sem Value).run c.E.P w'') k2')
 split at k1
 · rename_i v
   match us', k3, k4, k5 with
   | [u], k3, k4, k5 => exact ⟨v, u, k1, by rw [k5]; simp only [Result.andThen_ok, Sem.run_pure]; rfl, k4 0 v u rfl rfl⟩
 · rename_i hne
   split at k1
   case h_2 => cases k1
   rename_i hnt
   have hne1 : us'.length ≠ 1 := by
    intro e1
    have e2 := k3.trans e1
    obtain ⟨v, rfl⟩ := List.length_eq_one_iff.1 e2
    exact hne v rfl
   refine ⟨.tup vs, .tuple us'.toArray, k1, by rw [k5]; simp [hne1], us'.toArray, rfl, ?_⟩
   simpa using relL_of k3 hnt k4
def cxIn (c : Cx) (a : Act) (Y : Nat → Prop) (ro : Option Nat) : Cx := { c with sh := slotv c a, ro := ro, Y0 := Y, bot := [], nm := false }
theorem memIn {c : Cx} {h : Heap} {F : Nat → Prop} {β : Beta} {Y Y0 : Nat → Prop} {w : World} {a : Act} {ro : Option Nat} (m : Mem c h F β Y w) : Mem (cxIn c a Y0 ro) h F β Y w :=
 ⟨m.fresh, m.blk, m.inj, m.own, m.yy, m.zz, m.size, m.frame, m.os, m.tape, m.output, m.gl⟩
theorem memOut {c : Cx} {h : Heap} {F : Nat → Prop} {β : Beta} {Y Y0 : Nat → Prop} {w : World} {a : Act} {ro : Option Nat} (m : Mem (cxIn c a Y0 ro) h F β Y w) : Mem c h F β Y w :=
 ⟨m.fresh, m.blk, m.inj, m.own, m.yy, m.zz, m.size, m.frame, m.os, m.tape, m.output, m.gl⟩
theorem slotsOut {c : Cx} {sl : Slots} {h : Heap} {β : Beta} {Y Y0 Y1 : Nat → Prop} {w : World} {a a' : Act} {ro : Option Nat} (ha : a.tmps.size ≤ 1000000) (hs : SlotsOK (cxIn c a Y0 ro) sl h β Y w a') : SlotsOK c (unS sl) h β Y w a := by
 refine ⟨ha, fun t => ?_⟩
 rw [lk_unS]
 have := hs.2 (t + 1000000)
 unfold slotv at this
 rw [if_neg (by omega), Nat.add_sub_cancel] at this
 exact this
theorem slotsIn {c : Cx} {sl sl2 : Slots} {h : Heap} {β : Beta} {Y Y0 : Nat → Prop} {w : World} {a a' : Act} {ro : Option Nat} (hs : SlotsOK c sl h β Y w a) (ha : a'.tmps.size ≤ 1000000) (h1 : ∀ t, t ≤ 999999 → rel w (XX c.Z Y β h) (lk sl2 t) β (a'.tmps.getD t undef)) (h2 : ∀ t, 999999 < t → lk sl2 t = lk (shS sl) t) :
 SlotsOK (cxIn c a Y0 ro) sl2 h β Y w a' := by
 refine ⟨ha, fun t => ?_⟩
 by_cases hle : t ≤ 999999
 · unfold slotv
   rw [if_pos hle]
   exact h1 t hle
 · rw [h2 t (by omega)]
   obtain ⟨t', rfl⟩ : ∃ t', t = t' + 1000000 := ⟨t - 1000000, by omega⟩
   rw [lk_shS_hi]
   unfold slotv
   rw [if_neg hle, Nat.add_sub_cancel]
   exact hs.2 t'
def BlkAt (w : World) (X : Nat → Prop) (b : Nat) (v : SV) : Prop := ∃ cs ty lo hi, w.heap[b]? = some (.cells cs ty (lo, hi)) ∧ (cs.size ≤ lo ∨ hi ≤ lo) ∧ relP w X v nob cs.toList
def RetP (E : Env) (f : FuncId) (v : SV) (args : List SV) (r v' : SV) : Prop :=
 Callable E.P f ∧ ∀ (w : World) (X : Nat → Prop) (b : Nat) (us : List Value), Good E w (fun k => X k ∨ k = b) → ¬ X b → BlkAt w (fun k => X k ∨ k = b) b v → relL w (fun k => X k ∨ k = b) args nob us →
  Calls E.P f (Value.pointer (some ⟨b, 0, none⟩) :: us).toArray w fun e w' => ∃ u, e = .returned u ∧ w'.os = w.os ∧ w'.tape = w.tape ∧ w'.output = w.output ∧ w.heap.size ≤ w'.heap.size ∧
   (∀ k, k < w.heap.size → k ≠ b → w'.heap[k]? = w.heap[k]?) ∧ BlkAt w' (fun k => X k ∨ k = b) b v' ∧ rel w' (fun k => X k ∨ k = b) r nob u
theorem nms_none {β β' : Beta} {v : SV} (h : v.undr 0 = true) : v.nms fun b => ∀ l, β b = some l → β' b = some l := nms_mono (fun b hb => absurd hb (by omega)) _ (undr_nms v h)
theorem nms_nob {β' : Beta} {v : SV} : v.nms fun b => ∀ l, nob b = some l → β' b = some l := nms_true (fun b l h => by cases h) v
theorem nmsL_none {β β' : Beta} : ∀ {l : List SV}, undrL 0 l = true → nmsL (fun b => ∀ l, β b = some l → β' b = some l) l
 | [], _ => trivial
 | v :: r, h => by
   simp only [undrL] at h
   split at h
   · rename_i e; exact ⟨nms_none e, nmsL_none h⟩
   · cases h
theorem lend {E : Env} {f : FuncId} {v : SV} {args : List SV} {r v' : SV} {sl : Slots} {h : Heap} {n b : Nat} {K : SV → Slots → Heap → Nat → Prop} (hR : RetP E f v args r v') (hb : lkB h b = some (.var true v)) (hv : v.undr 0 = true) (ha : undrL 0 args = true)
 (k : K r sl (stB h b (.var true v')) n) : SemCall E f (.ptr b [] :: args) sl h n K := by
 unfold SemCall
 refine ⟨hR.1, ?_⟩
 intro c a w β Y us hE m hs hus
 subst hE
 rw [relL_cons] at hus
 obtain ⟨u0, us', hus0, h1, h2⟩ := hus
 rw [relV_leaf rfl (by simp)] at h1
 simp only [relP] at h1
 obtain ⟨l, hl, hu0⟩ := h1
 simp only [List.cons.injEq, and_true] at hu0
 subst hu0
 obtain ⟨l', hl', hblk⟩ := m.blk b _ hb
 rw [hl] at hl'; cases hl'
 obtain ⟨cs, ty, lo, hi, g1, g2, g3, _⟩ := hblk
 have hown : XX c.Z Y β h l.r := .inr (.inr ⟨b, _, l, hb, hl, rfl, rfl⟩)
 have hlt : l.r < w.heap.size := m.xlt hown
 have hX : (fun k => (XX c.Z Y β h k ∧ k ≠ l.r) ∨ k = l.r) = XX c.Z Y β h := by
  funext k
  refine propext ⟨fun e => e.elim (·.1) (fun e => e ▸ hown), fun e => ?_⟩
  by_cases ek : k = l.r
  · exact .inr ek
  · exact .inl ⟨e, ek⟩
 have hc := hR.2 w (fun k => XX c.Z Y β h k ∧ k ≠ l.r) l.r us' (by rw [hX]; exact m.good) (fun e => e.2 rfl)
  (by rw [hX]; exact ⟨cs, ty, lo, hi, g1, g2, relP_ext (Ext.refl _ _) _ _ (nms_none hv) g3⟩) (by rw [hX]; exact relL_ext (Ext.refl _ _) _ _ (nmsL_none ha) h2)
 have hus1 : us = (Value.pointer (some ⟨l.r, 0, none⟩) :: us').toArray := by apply Array.toList_inj.1; rw [hus0]; rfl
 rw [hus1]
 refine hc.mono ?_
 rintro e w' ⟨u, rfl, ho, ht, hou, hsz, hsame, hat, hrel⟩
 rw [hX] at hat hrel
 obtain ⟨cs', ty', lo', hi', f1, f2, f3⟩ := hat
 refine ⟨u, rfl, r, sl, stB h b (.var true v'), n, β, Y, fun _ h => h, k, ?_⟩
 let w1 : World := World.put w' l.r (.cells cs ty (lo, hi))
 have hlt' : l.r < w'.heap.size := Nat.lt_of_lt_of_le hlt hsz
 have bel : Below w.heap.size w w1 := ⟨ho, ht, hou, by show _ ≤ (World.put w' l.r _).heap.size; rw [put_size]; exact hsz, fun k hk => by
  by_cases ek : k = l.r
  · subst ek; show (World.put w' l.r _).heap[l.r]? = _; rw [put_same hlt', g1]
  · show (World.put w' l.r _).heap[k]? = _; rw [put_ne ek]; exact hsame k hk ek⟩
 obtain ⟨m1, e1⟩ := m.step bel
 have hw' : World.put w1 l.r (.cells cs' ty' (lo', hi')) = w' := by
  show World.put (World.put w' l.r _) l.r _ = w'
  unfold World.put
  have : (w'.heap.setIfInBounds l.r (.cells cs ty (lo, hi))).setIfInBounds l.r (.cells cs' ty' (lo', hi')) = w'.heap := by
   apply Array.ext
   · simp
   · intro i h1 h2
     by_cases ei : l.r = i
     · subst ei
       rw [Array.getElem_setIfInBounds_self]
       rw [Array.getElem?_eq_getElem h2] at f1
       exact (Option.some.inj f1).symm
     · rw [Array.getElem_setIfInBounds_ne _ ei, Array.getElem_setIfInBounds_ne _ ei]
       all_goals (simp at h1 ⊢; omega)
  simp only [this]
 have hw1 : w1.heap[l.r]? = some (.cells cs ty (lo, hi)) := put_same hlt'
 obtain ⟨m2, e2⟩ := Mem.set m1 (k := .var true v') hb hl rfl rfl hw1 (o' := .cells cs' ty' (lo', hi')) (by
  intro _ _
  rw [hw']
  exact ⟨cs', ty', lo', hi', f1, f2, relP_ext (Ext.refl _ _) _ _ nms_nob f3, fun e => by cases e⟩)
 rw [hw'] at m2 e2
 have e3 : Ext w (XX c.Z Y β h) w' (XX c.Z Y β (stB h b (.var true v'))) := e1.trans e2
 refine ⟨m2, ⟨hs.1, fun t => rel_ext e3 (nms_true (fun _ _ k => k) _) (hs.2 t)⟩, ?_⟩
 have hOwn : ∀ r, Own β (stB h b (.var true v')) r → Own β h r := by
  rintro r ⟨b', k', l', q1, q2, q3, q4⟩
  rw [lkB_stB hb] at q1
  by_cases eb : b' = b
  · subst eb; rw [hl] at q2; cases q2; exact ⟨b', _, l, hb, hl, rfl, q4⟩
  · rw [if_neg eb] at q1; exact ⟨b', k', l', q1, q2, q3, q4⟩
 refine rel_ext (w := w') (X := XX c.Z Y β h) ⟨Nat.le_refl _, fun _ _ _ => rfl, fun r _ hx hx' => ?_⟩ nms_nob hrel
 rcases hx' with hx' | hx' | hx'
 · exact hx (.inl hx')
 · exact hx (.inr (.inl hx'))
 · exact hx (.inr (.inr (hOwn r hx')))
abbrev Rt := Option SV
def frN (n : Nat) (K : Nat → Rt) : Rt := match n with | 0 => K 0 | m + 1 => K (Nat.succ m)
theorem frN_eq (n : Nat) (K : Nat → Rt) : frN n K = K n := by cases n <;> rfl
def frI (i : Int) (K : Int → Rt) : Rt := match i with | .ofNat n => frN n fun n => K (.ofNat n) | .negSucc n => frN n fun n => K (.negSucc n)
theorem frI_eq (i : Int) (K : Int → Rt) : frI i K = K i := by cases i <;> simp only [frI, frN_eq]
def frB (b : Bool) (K : Bool → Rt) : Rt := match b with | true => K true | false => K false
theorem frB_eq (b : Bool) (K : Bool → Rt) : frB b K = K b := by cases b <;> rfl
def frU (u : UInt8) (K : UInt8 → Rt) : Rt := frN u.toNat fun n => K (UInt8.ofNat n)
theorem frU_eq (u : UInt8) (K : UInt8 → Rt) : frU u K = K u := by simp only [frU, frN_eq, UInt8.ofNat_toNat]
def frStr : List UInt8 → (List UInt8 → Rt) → Rt
 | [], K => K []
 | u :: r, K => frU u fun u => frStr r fun r => K (u :: r)
theorem frStr_eq (s : List UInt8) (K : List UInt8 → Rt) : frStr s K = K s := by
 induction s generalizing K with
 | nil => rfl
 | cons u r ih => simp only [frStr, frU_eq, ih]
def frV : List SV → (List SV → Rt) → Rt
 | [], K => K []
 | v :: r, K => frV r fun r => K (v :: r)
theorem frV_eq (s : List SV) (K : List SV → Rt) : frV s K = K s := by
 induction s generalizing K with
 | nil => rfl
 | cons u r ih => simp only [frV, ih]
abbrev KC := SV → List Nat → EA → Rt
def idxC (xs : List SV) (i : Int) (K : SV → Rt) : Rt := match i with
 | .ofNat n => (match xs[n]? with | some s => K s | none => none)
 | .negSucc _ => none
def byteC (s : List UInt8) (i : Int) (K : UInt8 → Rt) : Rt := match i with
 | .ofNat n => (match s[n]? with | some s => K s | none => none)
 | .negSucc _ => none
def inR (k : IntKind) (e : Int) : Bool := match k with
 | .i64 => (match decide (-9223372036854775808 ≤ e) with | true => decide (e ≤ 9223372036854775807) | false => false)
 | .i32 => (match decide (-2147483648 ≤ e) with | true => decide (e ≤ 2147483647) | false => false)
 | .u8 => (match decide (0 ≤ e) with | true => decide (e ≤ 255) | false => false)
 | _ => false
def arithC (k : IntKind) (e : Int) (K : Int → Rt) : Rt := frI e fun e => match inR k e with | true => K e | false => frI (k.wrap e) K
def sideC (p : Prop) [Decidable p] (K : Rt) : Rt := match decide p with | true => K | false => none
theorem idx_c {r : SV} {xs : List SV} {i : Int} {K : SV → Rt} {K' : SV → Prop} (hk : idxC xs i K = some r) (h : ∀ s, K s = some r → K' s) : IdxVC xs i K' := by
 unfold idxC at hk
 split at hk
 · split at hk
   · rename_i e; exact idx_some (Int.natCast_nonneg _) e (h _ hk)
   · cases hk
 · cases hk
theorem byte_c {r : SV} {xs : List UInt8} {i : Int} {K : UInt8 → Rt} {K' : UInt8 → Prop} (hk : byteC xs i K = some r) (h : ∀ s, K s = some r → K' s) : ByteVC xs i K' := by
 unfold byteC at hk
 split at hk
 · grind [ByteVC]
 · cases hk
theorem inR_ok {k : IntKind} {e : Int} (h : inR k e = true) : k.wrap e = e := by
 cases k <;> simp only [inR] at h <;> (try cases h) <;> split at h <;> (try cases h) <;> rename_i h1 <;> rw [decide_eq_true_eq] at h h1 <;> simp only [IntKind.wrap, IntKind.signed, IntKind.bits]
 · grind
 · grind
 · grind
theorem arith_c {r : SV} {k : IntKind} {e : Int} {K : Int → Rt} {K' : Int → Prop} (hk : arithC k e K = some r) (h : ∀ s, K s = some r → K' s) : ArithVC k e K' := by
 unfold arithC at hk
 simp only [frI_eq] at hk
 split at hk
 · rename_i e1; exact arith_eq (inR_ok e1) (h _ hk)
 · exact arith_raw (h _ hk)
theorem side_c {r : SV} {p : Prop} [Decidable p] {K : Rt} {K' : Prop} (hk : sideC p K = some r) (h : K = some r → K') : SideVC p K' := by
 unfold sideC at hk
 split at hk
 · rename_i e; exact side (of_decide_eq_true e) (h hk)
 · cases hk
def navC (v : SV) : List Step → (SV → Rt) → Rt
 | [], K => frc v K
 | .fld i off :: p, K =>
   match v with
   | .agg fs => match Nat.beq off (szs (fs.take i)) with
     | true => (match fs[i]? with | some s => navC s p K | none => none)
     | false => none
   | _ => none
 | .idx i sz :: p, K =>
   match v with
   | .arr _ sz' xs => match Nat.beq sz sz' with
     | true => idxC xs i fun s => navC s p K
     | false => none
   | _ => none
def updC (v : SV) (x : SV) : List Step → (SV → Rt) → Rt
 | [], K => match Nat.beq v.sz x.sz with
   | true => frc x K
   | false => none
 | .fld i off :: p, K =>
   match v with
   | .agg fs => match Nat.beq off (szs (fs.take i)) with
     | true => (match fs[i]? with | some s => updC s x p fun s' => frcL (fs.set i s') fun fs' => K (.agg fs') | none => none)
     | false => none
   | _ => none
 | .idx i sz :: p, K =>
   match v with
   | .arr n sz' xs => match Nat.beq sz sz' with
     | true => idxC xs i fun s => updC s x p fun s' => K (.arr n sz' (xs.set i s'))
     | false => none
   | _ => none
mutual
def frzC (h : Heap) : Nat → SV → List Nat → (SV → List Nat → Rt) → Rt
 | 0, _, _, _ => none
 | d + 1, v, ns, K => match v with
   | .ptr b p => match lkB h b with
     | some (.var _ u) => navC u p fun u => frzC h d u (b :: ns) fun u ns => K (.iptr u) ns
     | _ => none
   | .osl b sz => match lkB h b with
     | some (.row _ sz' xs) => (match Nat.beq sz sz' with | true => K (.sl sz xs) (b :: ns) | false => none)
     | _ => none
   | .agg fs => frzLC h d fs ns fun fs ns => K (.agg fs) ns
   | .tup fs => frzLC h d fs ns fun fs ns => K (.tup fs) ns
   | .fn f cs => frzLC h d cs ns fun cs ns => K (.fn f cs) ns
   | .ifc T cs => frzLC h d cs ns fun cs ns => K (.ifc T cs) ns
   | .yld _ => none
   | .mpr _ => none
   | .vsl .. => none
   | v => frc v fun v => K v ns
def frzLC (h : Heap) : Nat → List SV → List Nat → (List SV → List Nat → Rt) → Rt
 | 0, _, _, _ => none
 | d + 1, l, ns, K => match l with
   | [] => K [] ns
   | v :: r => frzC h d v ns fun v ns => frzLC h d r ns fun r ns => K (v :: r) ns
end
def binC (E : Env) (op : BinOp) (T : TypeId) (x y : SV) (K : SV → Rt) : Rt :=
 match op, x, y with
 | .add, .int k a, .int k' b => match kq k k' with | true => arithC k (a + b) fun r => K (.int k r) | false => none
 | .sub, .int k a, .int k' b => match kq k k' with | true => arithC k (a - b) fun r => K (.int k r) | false => none
 | .mul, .int k a, .int k' b => match kq k k' with | true => arithC k (a * b) fun r => K (.int k r) | false => none
 | .quo, .int k a, .int k' b => match kq k k' with | true => sideC (b ≠ 0) (arithC k (a.tdiv b) fun r => K (.int k r)) | false => none
 | .rem, .int k a, .int k' b => match kq k k' with | true => sideC (b ≠ 0) (frI (a.tmod b) fun r => K (.int k r)) | false => none
 | .and, .int k a, .int k' b => match kq k k' with | true => frI (bits .and k a b) fun r => K (.int k r) | false => none
 | .or, .int k a, .int k' b => match kq k k' with | true => frI (bits .or k a b) fun r => K (.int k r) | false => none
 | .xor, .int k a, .int k' b => match kq k k' with | true => frI (bits .xor k a b) fun r => K (.int k r) | false => none
 | .andNot, .int k a, .int k' b => match kq k k' with | true => frI (bits .andNot k a b) fun r => K (.int k r) | false => none
 | .shl, .int k a, .int _ b => sideC (0 ≤ b) (arithC k (a * 2 ^ (min b.toNat k.bits)) fun r => K (.int k r))
 | .shr, .int k a, .int _ b => sideC (0 ≤ b) (frI (a.fdiv (2 ^ (min b.toNat k.bits))) fun r => K (.int k r))
 | .lss, .int k a, .int k' b => match kq k k' with | true => frB (decide (a < b)) fun b => K (.bool b) | false => none
 | .leq, .int k a, .int k' b => match kq k k' with | true => frB (decide (a ≤ b)) fun b => K (.bool b) | false => none
 | .gtr, .int k a, .int k' b => match kq k k' with | true => frB (decide (b < a)) fun b => K (.bool b) | false => none
 | .geq, .int k a, .int k' b => match kq k k' with | true => frB (decide (b ≤ a)) fun b => K (.bool b) | false => none
 | .add, .str s, .str t => sideC (((s.length + t.length : Nat) : Int) ≤ 9223372036854775807) (frStr (s ++ t) fun r => K (.str r))
 | .eql, x, y => match eqT E.tt 50 T x y with | some b => frB b fun b => K (.bool b) | none => none
 | .neq, x, y => match eqT E.tt 50 T x y with | some b => frB (!b) fun b => K (.bool b) | none => none
 | _, _, _ => none
def bndC (E : Env) (sl : Slots) (lo hi : Option Operand) (n : Nat) (K : Int → Int → Rt) : Rt :=
 match lo with
 | none => (match hi with
   | none => K 0 n
   | some h => match ev E sl h with
     | .int _ h => sideC (0 ≤ h ∧ h ≤ n) (K 0 h)
     | _ => none)
 | some l => match ev E sl l with
   | .int _ l => (match hi with
     | none => sideC (0 ≤ l ∧ l ≤ n) (K l n)
     | some h => match ev E sl h with
       | .int _ h => sideC (0 ≤ l ∧ l ≤ h ∧ h ≤ n) (K l h)
       | _ => none)
   | _ => none
def rowC (h : Heap) (v : SV) (K : Option (Nat × List SV) → Rt) : Rt :=
 match v with
 | .sl sz xs => K (some (sz, xs))
 | .osl b _ => (match lkB h b with
   | some (.row _ sz xs) => K (some (sz, xs))
   | _ => none)
 | .nils | .mt => K none
 | _ => none
def solC (v : SV) (K : SV → Rt) : Rt :=
 match v with
 | .any => none
 | .tup _ => none
 | v => frc v K
def filC (E : Env) (sl : Slots) : List (Nat × Operand) → List SV → (List SV → Rt) → Rt
 | [], vs, K => frcL vs K
 | (i, x) :: r, vs, K => match vs[i]? with
   | some z => solC (ev E sl x) fun v => (match Nat.beq z.sz v.sz with
     | true => filC E sl r (vs.set i v) K
     | false => none)
   | none => none
def solsC (E : Env) (sl : Slots) (sz : Nat) : List (Nat × Operand) → (List SV → Rt) → Rt
 | [], K => K []
 | (_, x) :: r, K => solC (ev E sl x) fun v => (match Nat.beq v.sz sz with
   | true => solsC E sl sz r fun vs => K (v :: vs)
   | false => none)
def stoVC (h : Heap) (b : Nat) (v : SV) (p : List Step) (u : SV) (K : KC) : Rt :=
 match crosses p with
 | false => updC v u p fun v => K .any [] (.set b (.var true v))
 | true => frzC h 60 u [] fun u ns => (match memb b ns with
   | false => updC v u p fun v => K .any ns (.set b (.var true v))
   | true => none)
def stoRC (h : Heap) (b sz : Nat) (xs : List SV) (p : List Step) (u : SV) (K : KC) : Rt :=
 frzC h 60 u [] fun u ns => (match memb b ns, p with
  | false, .idx i s :: p => (match Nat.beq s sz with
    | true => idxC xs i fun x => updC x u p fun x => K .any ns (.set b (.row true sz (xs.set i x)))
    | false => none)
  | _, _ => none)
def opC (E : Env) (CR : FuncId → List SV → Rt) (sl : Slots) (h : Heap) (n : Nat) (o : Op) (K : KC) : Rt :=
 match o with
 | .move x | .assign x => frc (ev E sl x) fun v => K v [] .nil
 | .pick c a b => match ev E sl c with
   | .tru => frc (ev E sl a) fun v => K v [] .nil
   | .fls => frc (ev E sl b) fun v => K v [] .nil
   | _ => none
 | .alloc T => solC (lkT E.tt T).zero fun v => K (.ptr n []) [] (.new (.var true v))
 | .box _ x => solC (ev E sl x) fun v => K (.ptr n []) [] (.new (.var true v))
 | .build T ps => match (lkT E.tt T).d, (lkT E.tt T).zero with
   | .strct fs, .agg zs => (match fits E fs 0 zs with
     | true => filC E sl ps.toList zs fun vs => K (.agg vs) [] .nil
     | false => none)
   | .arr _ e, .arr m' sz zs => (match Nat.beq sz (lkT E.tt e).size, Nat.ble 1 sz with
     | true, true => filC E sl ps.toList zs fun vs => frzLC h 60 vs [] fun vs ns => K (.arr m' sz vs) ns .nil
     | _, _ => none)
   | _, _ => none
 | .buildSlice T len ps => match (lkT E.tt T).d with
   | .sl e => (match Nat.beq len ps.toList.length && inOrder 0 ps.toList, Nat.ble 1 (lkT E.tt e).size, Nat.ble (len * (lkT E.tt e).size) 16777216, (lkT E.tt e).zero with
     | _, _, _, .any => none
     | true, true, true, _ => solsC E sl (lkT E.tt e).size ps.toList fun vs => frzLC h 60 vs [] fun vs ns => K (.osl n (lkT E.tt e).size) ns (.new (.row true (lkT E.tt e).size vs))
     | false, true, true, z => solC z fun z => (match Nat.beq z.sz (lkT E.tt e).size with
       | true => filC E sl ps.toList (List.replicate len z) fun vs => frzLC h 60 vs [] fun vs ns => K (.osl n (lkT E.tt e).size) ns (.new (.row true (lkT E.tt e).size vs))
       | false => none)
     | _, _, _, _ => none)
   | _ => none
 | .nilCheck x => match ev E sl x with
   | .iptr t => K (.iptr t) [] .nil
   | .ptr b p => K (.ptr b p) [] .nil
   | .fn f c => K (.fn f c) [] .nil
   | _ => none
 | .fieldAddr T x f => match (lkT E.tt T).d with
   | .strct fs => (match fs[f]? with
     | some (T', off) => (match Nat.ble 1 (lkT E.tt T').size with
       | true => (match ev E sl x with
         | .ptr b p => K (.ptr b (p ++ [.fld f off])) [] .nil
         | .iptr t => navC t [.fld f off] fun u => K (.iptr u) [] .nil
         | _ => none)
       | false => none)
     | none => none)
   | _ => none
 | .field T x f => match (lkT E.tt T).d with
   | .strct fs => (match fs[f]? with
     | some (T', off) => navC (ev E sl x) [.fld f off] fun u => (match Nat.beq u.sz (lkT E.tt T').size with
       | true => (match (lkT E.tt T').d, u.isAgg with
         | .other, _ => none
         | .strct _, true | .arr .., true => K u [] .nil
         | .strct _, false | .arr .., false => none
         | _, false => K u [] .nil
         | _, true => none)
       | false => none)
     | none => none)
   | _ => none
 | .load T x => match ev E sl x with
   | .ptr b p => (match lkB h b with
     | some (.var _ v) => navC v p fun u => (match Nat.beq u.sz (lkT E.tt T).size with
       | true => (match (lkT E.tt T).d, u.isAgg with
         | .other, _ => none
         | .strct _, true | .arr .., true => K u [] .nil
         | .strct _, false | .arr .., false => none
         | _, false => K u [] .nil
         | _, true => none)
       | false => none)
     | some (.row _ sz xs) => (match p with
       | [] => none
       | _ :: _ => navC (.arr 0 sz xs) p fun u => (match Nat.beq u.sz (lkT E.tt T).size with
         | true => (match (lkT E.tt T).d, u.isAgg with
           | .other, _ => none
           | .strct _, true | .arr .., true => K u [] .nil
           | .strct _, false | .arr .., false => none
           | _, false => K u [] .nil
           | _, true => none)
         | false => none))
     | _ => none)
   | .iptr t => frc t fun u => (match Nat.beq u.sz (lkT E.tt T).size with
      | true => (match (lkT E.tt T).d, u.isAgg with
        | .other, _ => none
        | .strct _, true | .arr .., true => K u [] .nil
        | .strct _, false | .arr .., false => none
        | _, false => K u [] .nil
        | _, true => none)
      | false => none)
   | _ => none
 | .store T x y => match Nat.ble 1 (lkT E.tt T).size, ev E sl x with
   | true, .ptr b p => (match lkB h b with
     | some (.var true v) => solC (ev E sl y) fun u => (match Nat.beq u.sz (lkT E.tt T).size with
       | true => stoVC h b v p u K
       | false => none)
     | some (.row true sz xs) => solC (ev E sl y) fun u => (match Nat.beq u.sz (lkT E.tt T).size with
       | true => stoRC h b sz xs p u K
       | false => none)
     | _ => none)
   | _, _ => none
 | .indexAddr T x i => match ev E sl i with
   | .int _ i => (match (lkT E.tt T).d with
     | .sl e => (match ev E sl x with
       | .sl sz xs => (match Nat.beq sz (lkT E.tt e).size, Nat.ble 1 sz with
         | true, true => idxC xs i fun u => K (.iptr u) [] .nil
         | _, _ => none)
       | .osl b sz => (match lkB h b, Nat.beq sz (lkT E.tt e).size && Nat.ble 1 sz with
         | some (.row _ _ xs), true => sideC (0 ≤ i ∧ i < xs.length) (frN i.toNat fun j => K (.ptr b [.idx j sz]) [] .nil)
         | _, _ => none)
       | _ => none)
     | .arr m e => (match Nat.ble 1 (lkT E.tt e).size, ev E sl x with
       | true, .ptr b p => sideC (0 ≤ i ∧ i < m) (frN i.toNat fun j => K (.ptr b (p ++ [aSt (lkT E.tt T).zero j (lkT E.tt e).size])) [] .nil)
       | true, .iptr t => sideC (0 ≤ i ∧ i < m) (navC t [aSt (lkT E.tt T).zero i.toNat (lkT E.tt e).size] fun u => K (.iptr u) [] .nil)
       | _, _ => none)
     | _ => none)
   | _ => none
 | .index T x i => match (lkT E.tt T).d, ev E sl i, ev E sl x with
   | .str, .int _ i, .str s => byteC s i fun c => frI c.toNat fun r => K (.int .u8 r) [] .nil
   | .arr m e, .int _ i, .arr m' sz xs => (match Nat.beq m m' && Nat.beq sz (lkT E.tt e).size with
     | true => idxC xs i fun u => (match Nat.beq u.sz (lkT E.tt e).size with
       | true => (match (lkT E.tt e).d, u.isAgg with
         | .other, _ => none
         | .strct _, true | .arr .., true => K u [] .nil
         | .strct _, false | .arr .., false => none
         | _, false => K u [] .nil
         | _, true => none)
       | false => none)
     | false => none)
   | _, _, _ => none
 | .binOp op T x y _ => binC E op T (ev E sl x) (ev E sl y) fun v => K v [] .nil
 | .unOp .not _ x => match ev E sl x with
   | .bool b => frB (!b) fun b => K (.bool b) [] .nil
   | .tru => K .fls [] .nil
   | .fls => K .tru [] .nil
   | _ => none
 | .unOp .neg _ x => match ev E sl x with
   | .int k a => arithC k (0 - a) fun r => K (.int k r) [] .nil
   | _ => none
 | .convert S T x => match (lkT E.tt S).d, (lkT E.tt T).d, ev E sl x with
   | .other, _, _ => none
   | _, .int k, .int _ a => arithC k a fun r => K (.int k r) [] .nil
   | _, .str, .str s => K (.str s) [] .nil
   | _, .str, .int _ a => K (.str (Utf8.encode a).data.toList) [] .nil
   | _, _, _ => none
 | .extract x i => match ev E sl x with
   | .tup vs => (match vs[i]? with
     | some v => frc v fun v => K v [] .nil
     | none => none)
   | _ => none
 | .makeFunc (.func f) fst caps => match fst.toList with
   | [] => frcL (caps.toList.map (ev E sl)) fun cs => (match noTup cs, Nat.ble 1000000 f with | true, false => K (.fn f cs) [] .nil | _, _ => none)
   | _ => none
 | .slice T x lo hi mx => match mx with
   | some _ => none
   | none => (match ev E sl x with
     | .str s => (match (lkT E.tt T).d with
       | .str => bndC E sl lo hi s.length fun l h => frStr ((s.take h.toNat).drop l.toNat) fun r => K (.str r) [] .nil
       | _ => none)
     | .sl sz xs => (match (lkT E.tt T).d with
       | .sl e => (match Nat.beq sz (lkT E.tt e).size && Nat.ble 1 sz with
         | true => bndC E sl lo hi xs.length fun l h => frV ((xs.take h.toNat).drop l.toNat) fun r => K (.sl sz r) [] .nil
         | false => none)
       | _ => none)
     | .osl b sz => (match lkB h b with
       | some (.row _ sz' xs) => (match (lkT E.tt T).d with
         | .sl e => (match Nat.beq sz (lkT E.tt e).size && Nat.ble 1 sz && Nat.beq sz sz' with
           | true => bndC E sl lo hi xs.length fun l h => frV ((xs.take h.toNat).drop l.toNat) fun r => K (.sl sz r) [b] .nil
           | false => none)
         | _ => none)
       | _ => none)
     | x => (match (lkT E.tt T).d with
       | .arr m e => frzC h 60 x [] fun u ns => (match u with
         | .iptr (.arr m' sz xs) => (match Nat.beq m m' && Nat.beq sz (lkT E.tt e).size && Nat.ble 1 sz with
           | true => bndC E sl lo hi m fun l h => frV ((xs.take h.toNat).drop l.toNat) fun r => K (.sl sz r) ns .nil
           | false => none)
         | _ => none)
       | _ => none))
 | .makeSlice T l c => match (lkT E.tt T).d, ev E sl l, ev E sl c with
   | .sl e, .int _ a, .int _ b => solC (lkT E.tt e).zero fun z => (match Nat.beq z.sz 1, Nat.beq (lkT E.tt e).size 1 with
     | true, true => sideC (0 ≤ a ∧ a = b ∧ b ≤ 70368744177664 ∧ b * (lkT E.tt e).bytes ≤ 70368744177664) (frV (List.replicate a.toNat z) fun r => K (.osl n 1) [] (.new (.row true 1 r)))
     | _, _ => none)
   | _, _, _ => none
 | .makeMap _ none => K (.mpr n) [] (.new (.mp []))
 | .lookup T x i ok => match (lkT E.tt T).d, ev E sl x with
   | .mp kT e, .mpr b => (match lkB h b with
     | some (.mp es) => solC (ev E sl i) fun k => (match keyD E.tt kT k with
       | true => findK E.tt kT k
         (solC (lkT E.tt e).zero fun z => (match ok with | true => K (.tup [z, .bool false]) [] .nil | false => K z [] .nil)) none
         (fun _ v => match ok with | true => K (.tup [v, .bool true]) [] .nil | false => K v [] .nil) es 0
       | false => none)
     | _ => none)
   | _, _ => none
 | .mapUpdate T x i y => match (lkT E.tt T).d, ev E sl x with
   | .mp kT _, .mpr b => (match lkB h b with
     | some (.mp es) => solC (ev E sl i) fun k => solC (ev E sl y) fun v => (match keyD E.tt kT k, v.pur with
       | true, true => findK E.tt kT k (K .any [] (.set b (.mp (snocE k v es)))) none (fun j u => sameT v u (K .any [] (.set b (.mp es))) (K .any [] (.set b (.mp (setE k v es j))))) es 0
       | _, _ => none)
     | _ => none)
   | _, _ => none
 | .call c => match c.callee with
   | .builtin .len => (match c.args.toList, c.argTypes.toList with
     | [x], [T] => (match (lkT E.tt T).d, ev E sl x with
       | .sl _, .sl _ xs => frI xs.length fun r => K (.int .i64 r) [] .nil
       | .str, .str xs => frI xs.length fun r => K (.int .i64 r) [] .nil
       | .sl _, .nils | .sl _, .mt => K (.int .i64 0) [] .nil
       | .sl _, .osl b _ => (match lkB h b with
         | some (.row _ _ xs) => frI xs.length fun r => K (.int .i64 r) [] .nil
         | _ => none)
       | _, _ => none)
     | _, _ => none)
   | .builtin .append => (match c.args.toList, c.argTypes.toList with
     | [x, y], [T, T'] => (match (lkT E.tt T).d with
       | .sl e => rowC h (ev E sl y) fun o => (match o with
         | some (sz, ys) => (match Nat.beq sz (lkT E.tt e).size, Nat.ble 1 sz, Nat.beq T T' && zeroFits E e, Nat.ble 1 (lkT E.tt e).bytes with
           | true, true, true, true => (match ev E sl x with
             | .osl b _ => (match lkB h b with
               | some (.row true sz' xs) => (match Nat.beq sz sz' with
                 | true => sideC ((xs.length + ys.length) * (lkT E.tt e).bytes ≤ 70368744177664) (frV (xs ++ ys) fun r => K (.osl b sz) [] (.app b (.row true sz r)))
                 | false => none)
               | _ => none)
             | .nils | .mt => sideC (ys.length * (lkT E.tt e).bytes ≤ 70368744177664) (K (.osl n sz) [] (.new (.row true sz ys)))
             | _ => none)
           | _, _, _, _ => none)
         | none => (match Nat.beq T T' && Nat.ble 1 (lkT E.tt e).size, ev E sl x with
           | true, .osl b s => (match lkB h b with
             | some (.row ..) => K (.osl b s) [] .nil
             | _ => none)
           | true, .sl s xs => K (.sl s xs) [] .nil
           | true, .nils => K .nils [] .nil
           | true, .mt => K .mt [] .nil
           | _, _ => none))
       | _ => none)
     | _, _ => none)
   | .builtin .min => (match c.args.toList with
     | [x, y] => (match ev E sl x, ev E sl y with
       | .int k a, .int k' b => (match kq k k' with | true => frI (min a b) fun r => K (.int k r) [] .nil | false => none)
       | _, _ => none)
     | _ => none)
   | .builtin .max => (match c.args.toList with
     | [x, y] => (match ev E sl x, ev E sl y with
       | .int k a, .int k' b => (match kq k k' with | true => frI (max a b) fun r => K (.int k r) [] .nil | false => none)
       | _, _ => none)
     | _ => none)
   | .value f => (match ev E sl f with
     | .fn f caps => (match memb f E.idf with
       | true => (match c.args.toList, caps with
         | [x], [] => solC (ev E sl x) fun v => K v [] .nil
         | _, _ => none)
       | false => frcL (c.args.toList.map (ev E sl)) fun as => (match noTup as with
         | true => frzLC h 60 as [] fun as ns => frzLC h 60 caps ns fun caps ns => (match CR f (as ++ caps) with
           | some r => frc r fun r => (match ns with
             | [] => K r [] .nil
             | ns => match r.scalar with
               | true => K r [] .nil
               | false => K r ns .nil)
           | none => none)
         | false => none))
     | _ => none)
   | _ => none
 | _ => none
theorem nav_c {r : SV} : ∀ {p : List Step} {v : SV} {K : SV → Rt} {K' : SV → Prop}, navC v p K = some r → (∀ s, K s = some r → K' s) → nav v p K'
 | [], v, K, K', hk, h => by
   simp only [navC, nav, frc_eq] at hk ⊢
   exact h _ hk
 | .fld i off :: p, v, K, K', hk, h => by
   simp only [navC, nav] at hk ⊢
   split at hk
   case h_2 => cases hk
   split at hk
   case h_2 => cases hk
   rename_i e1
   split at hk
   case h_2 => cases hk
   rename_i e2
   simp only [e1, e2]
   exact nav_c hk h
 | .idx i sz :: p, v, K, K', hk, h => by
   simp only [navC, nav] at hk ⊢
   split at hk
   case h_2 => cases hk
   split at hk
   case h_2 => cases hk
   rename_i e1
   simp only [e1]
   exact idx_c hk fun s hs => nav_c hs h
theorem upd_c {r : SV} {x : SV} : ∀ {p : List Step} {v : SV} {K : SV → Rt} {K' : SV → Prop}, updC v x p K = some r → (∀ s, K s = some r → K' s) → upd v x p K'
 | [], v, K, K', hk, h => by
   simp only [updC, upd, frc_eq] at hk ⊢
   split at hk
   case h_2 => cases hk
   rename_i e1
   simp only [e1]
   exact h _ hk
 | .fld i off :: p, v, K, K', hk, h => by
   simp only [updC, upd] at hk ⊢
   split at hk
   case h_2 => cases hk
   split at hk
   case h_2 => cases hk
   rename_i e1
   split at hk
   case h_2 => cases hk
   rename_i e2
   simp only [e1, e2]
   refine upd_c hk fun s hs => ?_
   rw [frcL_eq] at hs ⊢
   exact h _ hs
 | .idx i sz :: p, v, K, K', hk, h => by
   simp only [updC, upd] at hk ⊢
   split at hk
   case h_2 => cases hk
   split at hk
   case h_2 => cases hk
   rename_i e1
   simp only [e1]
   exact idx_c hk fun s hs => upd_c hs fun s' hs' => h _ hs'
mutual
theorem frz_c {r : SV} {h : Heap} : ∀ {d : Nat} {v : SV} {ns : List Nat} {K : SV → List Nat → Rt} {K' : SV → List Nat → Prop}, frzC h d v ns K = some r → (∀ s ns, K s ns = some r → K' s ns) → frz h d v ns K'
 | 0, _, _, _, _, hk, _ => by simp only [frzC] at hk; cases hk
 | d + 1, v, ns, K, K', hk, g => by
   cases v with
   | ptr b p =>
     simp only [frzC, frz] at hk ⊢
     split at hk
     case h_2 => cases hk
     rename_i e1
     simp only [e1]
     exact nav_c hk fun s hs => frz_c hs fun s' ns' h' => g _ _ h'
   | osl b sz =>
     simp only [frzC, frz] at hk ⊢
     split at hk
     case h_2 => cases hk
     rename_i e1
     simp only [e1]
     split at hk
     case h_2 => cases hk
     rename_i e2
     simp only [e2]
     exact g _ _ hk
   | agg fs => simp only [frzC, frz] at hk ⊢; exact frzL_c hk fun s' ns' h' => g _ _ h'
   | tup fs => simp only [frzC, frz] at hk ⊢; exact frzL_c hk fun s' ns' h' => g _ _ h'
   | fn f fs => simp only [frzC, frz] at hk ⊢; exact frzL_c hk fun s' ns' h' => g _ _ h'
   | ifc f fs => simp only [frzC, frz] at hk ⊢; exact frzL_c hk fun s' ns' h' => g _ _ h'
   | yld b => simp only [frzC] at hk; cases hk
   | mpr b => simp only [frzC] at hk; cases hk
   | vsl b p n => simp only [frzC] at hk; cases hk
   | _ => simp only [frzC, frz, frc_eq] at hk ⊢; exact g _ _ hk
theorem frzL_c {r : SV} {h : Heap} : ∀ {d : Nat} {v : List SV} {ns : List Nat} {K : List SV → List Nat → Rt} {K' : List SV → List Nat → Prop}, frzLC h d v ns K = some r → (∀ s ns, K s ns = some r → K' s ns) → frzL h d v ns K'
 | 0, _, _, _, _, hk, _ => by simp only [frzLC] at hk; cases hk
 | d + 1, [], ns, K, K', hk, g => by simp only [frzLC, frzL] at hk ⊢; exact g _ _ hk
 | d + 1, v :: r, ns, K, K', hk, g => by
   simp only [frzLC, frzL] at hk ⊢
   exact frz_c hk fun s ns h1 => frzL_c h1 fun s' ns' h' => g _ _ h'
end
theorem sol_c {r : SV} {v : SV} {K : SV → Rt} {K' : SV → Prop} (hk : solC v K = some r) (h : ∀ s, K s = some r → K' s) : solid v K' := by
 cases v <;> simp only [solC, solid, frc_eq] at hk ⊢ <;> first | cases hk | exact h _ hk
section
variable {E : Env} {sl : Slots} {h : Heap} {n : Nat}
theorem bin_c {r : SV} {op : BinOp} {T : TypeId} {x y : SV} {K : SV → Rt} {K' : SV → Prop} (hk : binC E op T x y K = some r) (h : ∀ s, K s = some r → K' s) : binX E op T x y K' := by
 unfold binC at hk
 unfold binX
 simp only [frI_eq, frB_eq, frStr_eq] at hk
 split at hk <;> simp only at hk ⊢ <;> (try cases hk)
 all_goals first
  | exact h _ hk
  | exact side_c hk fun hk => arith_c hk fun r hr => h _ hr
  | exact side_c hk fun hk => h _ hk
  | (split at hk
     case h_2 => cases hk
     rename_i e; simp only [e]
     first | exact h _ hk | exact arith_c hk fun r hr => h _ hr | exact side_c hk fun hk => arith_c hk fun r hr => h _ hr | exact side_c hk fun hk => h _ hk)
theorem bnd_c {r : SV} {lo hi : Option Operand} {m : Nat} {K : Int → Int → Rt} {K' : Int → Int → Prop} (hk : bndC E sl lo hi m K = some r) (h : ∀ a b, K a b = some r → K' a b) : bnds E sl lo hi m K' := by
 unfold bndC at hk
 unfold bnds
 split at hk
 · split at hk
   · exact h _ _ hk
   · split at hk
     · rename_i e; simp only [e]; exact side_c hk fun hk => h _ _ hk
     · cases hk
 · split at hk
   · rename_i e1
     split at hk
     · simp only [e1]; exact side_c hk fun hk => h _ _ hk
     · split at hk
       · rename_i e2; simp only [e1, e2]; exact side_c hk fun hk => h _ _ hk
       · cases hk
   · cases hk
theorem row_c {r : SV} {v : SV} {K : Option (Nat × List SV) → Rt} {K' : Option (Nat × List SV) → Prop} (hk : rowC h v K = some r) (g : ∀ s, K s = some r → K' s) : rows h v K' := by
 cases v <;> simp only [rowC, rows] at hk ⊢ <;> first
  | (cases hk; done)
  | exact g _ hk
  | (split at hk
     case h_2 => cases hk
     rename_i e; simp only [e]; exact g _ hk)
theorem fil_c {r : SV} : ∀ {l : List (Nat × Operand)} {vs : List SV} {K : List SV → Rt} {K' : List SV → Prop}, filC E sl l vs K = some r → (∀ s, K s = some r → K' s) → fillF E sl l vs K'
 | [], vs, K, K', hk, g => by simp only [filC, fillF, frcL_eq] at hk ⊢; exact g _ hk
 | (i, x) :: r, vs, K, K', hk, g => by
   simp only [filC, fillF] at hk ⊢
   split at hk
   case h_2 => cases hk
   rename_i e1
   simp only [e1]
   refine sol_c hk fun v hv => ?_
   split at hv
   case h_2 => cases hv
   rename_i e2
   simp only [e2]
   exact fil_c hv g
theorem sols_c {r : SV} {sz : Nat} : ∀ {l : List (Nat × Operand)} {K : List SV → Rt} {K' : List SV → Prop}, solsC E sl sz l K = some r → (∀ s, K s = some r → K' s) → solids E sl sz l K'
 | [], K, K', hk, g => by simp only [solsC, solids] at hk ⊢; exact g _ hk
 | (i, x) :: r, K, K', hk, g => by
   simp only [solsC, solids] at hk ⊢
   refine sol_c hk fun v hv => ?_
   split at hv
   case h_2 => cases hv
   rename_i e2
   simp only [e2]
   exact sols_c hv fun s hs => g _ hs
theorem sameT_c {r : SV} {v u : SV} {A B : Rt} {A' B' : Prop} (h : sameT v u A B = some r) (g1 : A = some r → A') (g2 : B = some r → B') : sameT v u A' B' := by
 unfold sameT at h ⊢
 split at h
 · split at h
   · exact g1 h
   · first | exact g2 h | (split <;> first | exact g2 h | exact g1 h)
 · first | exact g2 h | (split <;> first | exact g2 h | exact g1 h)
theorem findK_c {r : SV} {tt : List (Nat × TI)} {kT : TypeId} {k : SV} {Kno : Rt} {Kyes : Nat → SV → Rt} {Kno' : Prop} {Kyes' : Nat → SV → Prop} : ∀ {es : List (SV × SV)} {i : Nat}, findK tt kT k Kno none Kyes es i = some r → (Kno = some r → Kno') → (∀ j v, Kyes j v = some r → Kyes' j v) → findK tt kT k Kno' False Kyes' es i
 | [], i, h, g1, g2 => g1 h
 | p :: l, i, h, g1, g2 => by
   simp only [findK] at h
   split at h
   · rename_i e; simp only [findK, e]; exact g2 _ _ h
   · rename_i e; simp only [findK, e]; exact findK_c h g1 g2
   · cases h
theorem stoV_c {r : SV} {b : Nat} {v : SV} {p : List Step} {u : SV} {K : KC} {K' : KE} (hk : stoVC h b v p u K = some r) (g : ∀ a b c, K a b c = some r → K' a b c) : storeV h b v p u K' := by
 unfold stoVC at hk
 unfold storeV
 split at hk
 · rename_i e; simp only [e]; exact upd_c hk fun s hs => g _ _ _ hs
 · rename_i e; simp only [e]
   refine frz_c hk fun s ns hs => ?_
   split at hs
   case h_2 => cases hs
   rename_i e1; simp only [e1]
   exact upd_c hs fun s hs => g _ _ _ hs
theorem stoR_c {r : SV} {b sz : Nat} {xs : List SV} {p : List Step} {u : SV} {K : KC} {K' : KE} (hk : stoRC h b sz xs p u K = some r) (g : ∀ a b c, K a b c = some r → K' a b c) : storeR h b sz xs p u K' := by
 unfold stoRC at hk
 unfold storeR
 refine frz_c hk fun s ns hs => ?_
 split at hs
 case h_2 => cases hs
 rename_i e1
 split at hs
 case h_2 => cases hs
 rename_i e2
 simp only [e1, e2]
 exact idx_c hs fun s hs => upd_c hs fun s hs => g _ _ _ hs
theorem shp_c {r : SV} {d : TD} {b : Bool} {K : Rt} {p : Prop} (hk : (match d, b with
 | .other, _ => none
 | .strct _, true | .arr .., true => K
 | .strct _, false | .arr .., false => none
 | _, false => K
 | _, true => none) = some r) (g : K = some r → p) : shp d b p := by
 cases d <;> cases b <;> first | exact g hk | exact absurd hk (by simp)
end
section
variable {E : Env} {sl : Slots} {h : Heap} {n : Nat}
theorem op_c {r : SV} {CR : FuncId → List SV → Rt} (hCR : ∀ f args r, CR f args = some r → Ret E f args r) {o : Op} {K : KC} {K' : KE} (hk : opC E CR sl h n o K = some r) (g : ∀ a b c, K a b c = some r → K' a b c) : opE E sl h n o K' := by
 cases o with
 | move x => simp only [opC, opE, frc_eq] at hk ⊢; exact g _ _ _ hk
 | assign x => simp only [opC, opE, frc_eq] at hk ⊢; exact g _ _ _ hk
 | pick c a b =>
   simp only [opC, opE, frc_eq] at hk ⊢
   split at hk
   · rename_i e; simp only [e]; exact g _ _ _ hk
   · rename_i e; simp only [e]; exact g _ _ _ hk
   · cases hk
 | alloc T => simp only [opC, opE] at hk ⊢; exact sol_c hk fun s hs => g _ _ _ hs
 | box T x => simp only [opC, opE] at hk ⊢; exact sol_c hk fun s hs => g _ _ _ hs
 | build T ps =>
   simp only [opC, opE] at hk ⊢
   split at hk
   · rename_i e1 e2
     split at hk
     case h_2 => cases hk
     rename_i e3
     simp only [e1, e2, e3]
     exact fil_c hk fun s hs => g _ _ _ hs
   · rename_i e1 e2
     split at hk
     case h_2 => cases hk
     rename_i e3 e4
     simp only [e1, e2, e3, e4]
     exact fil_c hk fun s hs => frzL_c hs fun s ns hs => g _ _ _ hs
   · cases hk
 | buildSlice T len ps =>
   simp only [opC, opE] at hk ⊢
   split at hk
   case h_2 => cases hk
   rename_i e0
   split at hk
   · cases hk
   · rename_i e1 e2 e3 e4
     simp only [e0, e1, e2, e3]
     exact sols_c hk fun s hs => frzL_c hs fun s ns hs => g _ _ _ hs
   · rename_i e1 e2 e3 e4
     simp only [e0, e1, e2, e3]
     refine sol_c hk fun v hv => ?_
     split at hv
     case h_2 => cases hv
     rename_i e5
     simp only [e5]
     exact fil_c hv fun s hs => frzL_c hs fun s ns hs => g _ _ _ hs
   · cases hk
 | nilCheck x =>
   simp only [opC, opE] at hk ⊢
   split at hk <;> first | (cases hk; done) | (rename_i e; simp only [e]; exact g _ _ _ hk)
 | fieldAddr T x f =>
   simp only [opC, opE] at hk ⊢
   split at hk
   case h_2 => cases hk
   rename_i e1
   split at hk
   case h_2 => cases hk
   rename_i e2
   split at hk
   case h_2 => cases hk
   rename_i e3
   split at hk
   · rename_i e4; simp only [e1, e2, e3, e4]; exact g _ _ _ hk
   · rename_i e4; simp only [e1, e2, e3, e4]; exact nav_c hk fun s hs => g _ _ _ hs
   · cases hk
 | field T x f =>
   simp only [opC, opE] at hk ⊢
   split at hk
   case h_2 => cases hk
   rename_i e1
   split at hk
   case h_2 => cases hk
   rename_i e2
   simp only [e1, e2]
   refine nav_c hk fun s hs => ?_
   split at hs
   case h_2 => cases hs
   rename_i e3
   simp only [e3]
   exact shp_c hs fun hs => g _ _ _ hs
 | load T x =>
   simp only [opC, opE] at hk ⊢
   split at hk
   · rename_i e1
     split at hk
     · rename_i e2
       simp only [e1, e2]
       refine nav_c hk fun s hs => ?_
       split at hs
       case h_2 => cases hs
       rename_i e3
       simp only [e3]
       exact shp_c hs fun hs => g _ _ _ hs
     · rename_i e2
       split at hk
       · cases hk
       · simp only [e1, e2]
         refine nav_c hk fun s hs => ?_
         split at hs
         case h_2 => cases hs
         rename_i e3
         simp only [e3]
         exact shp_c hs fun hs => g _ _ _ hs
     · cases hk
   · rename_i e1
     simp only [e1]
     rw [frc_eq] at hk ⊢
     split at hk
     case h_2 => cases hk
     rename_i e3
     simp only [e3]
     exact shp_c hk fun hs => g _ _ _ hs
   · cases hk
 | store T x y =>
   simp only [opC, opE] at hk ⊢
   split at hk
   case h_2 => cases hk
   rename_i e1 e2
   split at hk
   · rename_i e3
     simp only [e1, e2, e3]
     refine sol_c hk fun s hs => ?_
     split at hs
     case h_2 => cases hs
     rename_i e4
     simp only [e4]
     exact stoV_c hs g
   · rename_i e3
     simp only [e1, e2, e3]
     refine sol_c hk fun s hs => ?_
     split at hs
     case h_2 => cases hs
     rename_i e4
     simp only [e4]
     exact stoR_c hs g
   · cases hk
 | indexAddr T x i =>
   simp only [opC, opE, frN_eq] at hk ⊢
   split at hk
   case h_2 => cases hk
   rename_i e1
   split at hk
   · rename_i e2
     split at hk
     · rename_i e3
       split at hk
       case h_2 => cases hk
       rename_i e4 e5
       simp only [e1, e2, e3, e4, e5]
       exact idx_c hk fun s hs => g _ _ _ hs
     · rename_i e3
       split at hk
       case h_2 => cases hk
       rename_i e4 e5
       simp only [e1, e2, e3, e4, e5]
       exact side_c hk fun hs => g _ _ _ hs
     · cases hk
   · rename_i e2
     split at hk
     · rename_i e3 e4
       simp only [e1, e2, e3, e4]
       exact side_c hk fun hs => g _ _ _ hs
     · rename_i e3 e4
       simp only [e1, e2, e3, e4]
       exact side_c hk fun hs => nav_c hs fun s hs => g _ _ _ hs
     · cases hk
   · cases hk
 | index T x i =>
   simp only [opC, opE, frI_eq] at hk ⊢
   split at hk
   · rename_i e1 e2 e3
     simp only [e1, e2, e3]
     exact byte_c hk fun s hs => g _ _ _ hs
   · rename_i e1 e2 e3
     split at hk
     case h_2 => cases hk
     rename_i e4
     simp only [e1, e2, e3, e4]
     refine idx_c hk fun s hs => ?_
     split at hs
     case h_2 => cases hs
     rename_i e5
     simp only [e5]
     exact shp_c hs fun hs => g _ _ _ hs
   · cases hk
 | binOp op T x y T' => simp only [opC, opE] at hk ⊢; exact bin_c hk fun s hs => g _ _ _ hs
 | unOp op T x =>
   cases op <;> simp only [opC, opE, frB_eq] at hk ⊢ <;> (try cases hk)
   all_goals (split at hk <;> first | (cases hk; done) | (rename_i e; simp only [e]; exact g _ _ _ hk) | (rename_i e; simp only [e]; exact arith_c hk fun r hr => g _ _ _ hr))
 | convert S T x =>
   simp only [opC, opE] at hk ⊢
   split at hk
   · cases hk
   · rename_i e1 e2 e3
     simp only [e1, e2]
     generalize (lkT E.tt S).d = dS at e3 ⊢
     cases dS <;> first | exact absurd rfl e3 | exact arith_c hk fun r hr => g _ _ _ hr
   · rename_i e1 e2 e3
     simp only [e1, e2]
     generalize (lkT E.tt S).d = dS at e3 ⊢
     cases dS <;> first | exact absurd rfl e3 | exact g _ _ _ hk
   · rename_i e1 e2 e3
     simp only [e1, e2]
     generalize (lkT E.tt S).d = dS at e3 ⊢
     cases dS <;> first | exact absurd rfl e3 | exact g _ _ _ hk
   · cases hk
 | extract x i =>
   simp only [opC, opE] at hk ⊢
   split at hk
   case h_2 => cases hk
   rename_i e1
   split at hk
   case h_2 => cases hk
   rename_i e2
   simp only [e1, e2]
   rw [frc_eq] at hk ⊢
   exact g _ _ _ hk
 | makeFunc f fst caps =>
   cases f <;> simp only [opC, opE] at hk ⊢ <;> (try cases hk)
   split at hk
   case h_2 => cases hk
   rename_i e1
   simp only [e1]
   rw [frcL_eq] at hk ⊢
   split at hk
   case h_2 => cases hk
   rename_i e2 e3
   simp only [e2, e3]
   exact g _ _ _ hk
 | slice T x lo hi mx =>
   simp only [opC, opE, frStr_eq, frV_eq] at hk ⊢
   split at hk
   · cases hk
   split at hk
   · rename_i e1
     split at hk
     case h_2 => cases hk
     rename_i e2
     simp only [e1, e2]
     exact bnd_c hk fun a b hs => g _ _ _ hs
   · rename_i e1
     split at hk
     case h_2 => cases hk
     rename_i e2
     split at hk
     case h_2 => cases hk
     rename_i e3
     simp only [e1, e2, e3]
     exact bnd_c hk fun a b hs => g _ _ _ hs
   · rename_i e1
     split at hk
     case h_2 => cases hk
     rename_i e2
     split at hk
     case h_2 => cases hk
     rename_i e3
     split at hk
     case h_2 => cases hk
     rename_i e4
     simp only [e1, e2, e3, e4]
     exact bnd_c hk fun a b hs => g _ _ _ hs
   · rename_i e1 e2 e3
     split at hk
     case h_2 => cases hk
     rename_i e4
     simp only [e4]
     refine frz_c hk fun u ns hs => ?_
     split at hs
     case h_2 => cases hs
     split at hs
     case h_2 => cases hs
     rename_i e5
     simp only [e5]
     exact bnd_c hs fun a b hs => g _ _ _ hs
 | makeMap T rs =>
   cases rs with
   | some x => simp only [opC] at hk; cases hk
   | none => simp only [opC, opE] at hk ⊢; exact g _ _ _ hk
 | lookup T x y b =>
   simp only [opC, opE] at hk ⊢
   split at hk
   case h_2 => cases hk
   rename_i e1 e2
   simp only [e1, e2]
   split at hk
   case h_2 => cases hk
   rename_i e3
   simp only [e3]
   refine sol_c hk fun k hs => ?_
   split at hs
   case h_2 => cases hs
   rename_i e4
   simp only [e4]
   refine findK_c hs (fun hs => sol_c hs fun z hs => ?_) (fun j v hs => ?_)
   · cases b <;> exact g _ _ _ hs
   · cases b <;> exact g _ _ _ hs
 | mapUpdate T x y z =>
   simp only [opC, opE] at hk ⊢
   split at hk
   case h_2 => cases hk
   rename_i e1 e2
   simp only [e1, e2]
   split at hk
   case h_2 => cases hk
   rename_i e3
   simp only [e3]
   refine sol_c hk fun k hs => sol_c hs fun v hs => ?_
   split at hs
   case h_2 => cases hs
   rename_i e4 e5
   simp only [e4, e5]
   exact findK_c hs (fun hs => g _ _ _ hs) (fun j v hs => sameT_c hs (fun hs => g _ _ _ hs) (fun hs => g _ _ _ hs))
 | makeSlice T l c =>
   simp only [opC, opE, frV_eq] at hk ⊢
   split at hk
   case h_2 => cases hk
   rename_i e1 e2 e3
   simp only [e1, e2, e3]
   refine sol_c hk fun s hs => ?_
   split at hs
   case h_2 => cases hs
   rename_i e4 e5
   simp only [e4, e5]
   exact side_c hs fun hs => g _ _ _ hs
 | call c =>
   simp only [opC, opE, frI_eq, frV_eq] at hk ⊢
   split at hk
   · rename_i e0
     simp only [e0]
     split at hk
     case h_2 => cases hk
     rename_i e1 e2
     simp only [e1, e2]
     split at hk <;> (try (cases hk; done))
     · rename_i e3 e4; simp only [e3, e4]; exact g _ _ _ hk
     · rename_i e3 e4; simp only [e3, e4]; exact g _ _ _ hk
     · rename_i e3 e4; simp only [e3, e4]; exact g _ _ _ hk
     · rename_i e3 e4; simp only [e3, e4]; exact g _ _ _ hk
     · rename_i e3 e4
       simp only [e3, e4]
       split at hk
       case h_2 => cases hk
       rename_i e5
       simp only [e5]; exact g _ _ _ hk
   · rename_i e0
     simp only [e0]
     split at hk
     case h_2 => cases hk
     rename_i e1 e2
     simp only [e1, e2]
     split at hk
     case h_2 => cases hk
     rename_i e3
     simp only [e3]
     refine row_c hk fun o hs => ?_
     split at hs
     · split at hs
       case h_2 => cases hs
       rename_i q1 q2 q3 q4
       simp only [q1, q2, q3, q4]
       split at hs
       · rename_i q5
         simp only [q5]
         split at hs
         case h_2 => cases hs
         rename_i q6
         simp only [q6]
         split at hs
         case h_2 => cases hs
         rename_i q7
         simp only [q7]
         exact side_c hs fun hs => g _ _ _ hs
       · rename_i q5; simp only [q5]; exact side_c hs fun hs => g _ _ _ hs
       · rename_i q5; simp only [q5]; exact side_c hs fun hs => g _ _ _ hs
       · cases hs
     · split at hs
       · rename_i q1 q2
         simp only [q1, q2]
         split at hs
         case h_2 => cases hs
         rename_i q3
         simp only [q3]
         exact g _ _ _ hs
       · rename_i q1 q2; simp only [q1, q2]; exact g _ _ _ hs
       · rename_i q1 q2; simp only [q1, q2]; exact g _ _ _ hs
       · rename_i q1 q2; simp only [q1, q2]; exact g _ _ _ hs
       · cases hs
   · rename_i e0
     simp only [e0]
     split at hk
     case h_2 => cases hk
     rename_i e1
     simp only [e1]
     split at hk
     case h_2 => cases hk
     rename_i e2 e3
     simp only [e2, e3]
     split at hk
     case h_2 => cases hk
     rename_i e4
     simp only [e4]
     exact g _ _ _ hk
   · rename_i e0
     simp only [e0]
     split at hk
     case h_2 => cases hk
     rename_i e1
     simp only [e1]
     split at hk
     case h_2 => cases hk
     rename_i e2 e3
     simp only [e2, e3]
     split at hk
     case h_2 => cases hk
     rename_i e4
     simp only [e4]
     exact g _ _ _ hk
   · rename_i e0
     simp only [e0]
     split at hk
     case h_2 => cases hk
     rename_i e1
     simp only [e1]
     split at hk
     · rename_i e2
       simp only [e2]
       split at hk
       case h_2 => cases hk
       rename_i e3
       simp only [e3]
       exact sol_c hk fun s hs => g _ _ _ hs
     · rename_i e2
       simp only [e2]
       rw [frcL_eq] at hk ⊢
       split at hk
       case h_2 => cases hk
       rename_i e3
       simp only [e3]
       refine frzL_c hk fun as ns hs => frzL_c hs fun caps ns hs => ?_
       split at hs
       case h_2 => cases hs
       rename_i r' e4
       refine call (hCR _ _ _ e4) ?_
       rw [frc_eq] at hs ⊢
       split at hs
       · exact g _ _ _ hs
       · split at hs
         · rename_i e5; simp only [e5]; exact g _ _ _ hs
         · rename_i e5; simp only [e5]; exact g _ _ _ hs
   · cases hk
 | _ => simp only [opC] at hk; cases hk
end
end Go.Sx
