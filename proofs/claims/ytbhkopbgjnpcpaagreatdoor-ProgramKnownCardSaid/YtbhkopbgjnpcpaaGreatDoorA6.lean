/-
  WHAT AN OPERATION READS IS STILL THERE IN A GREATER HEAP. Generic: no program in sight. An own text.
  REGIONS THAT DRAW THEIR ORDER: what is asked of them. Generic: no program in sight. An own text.
  REGIONS THAT DRAW THEIR ORDER: the facts of their parts. Generic: no program in sight. An own text.
  REGIONS THAT DRAW THEIR ORDER: the facts of a part that reads. Generic: no program in sight. An own text.
  REGIONS THAT DRAW THEIR ORDER: they are sound. Generic: no program in sight. An own text.
  REGIONS THAT DRAW THEIR ORDER: they are sound, step by step. Generic: no program in sight. An own text.
  REGIONS THAT DRAW THEIR ORDER: they are sound. Generic: no program in sight. An own text.
  REGIONS THAT DRAW THEIR ORDER, WALKED IN ANOTHER ORDER THAN THEY ARE WRITTEN. Generic: no program in sight. An own text.
  REGIONS THAT DRAW THEIR ORDER: a tail that comes in order. Generic: no program in sight. An own text.
  REGIONS THAT DRAW THEIR ORDER: in which order they are walked. Generic: no program in sight. An own text.
  ROWS OF LIVE POINTERS; WHAT AN INTERFACE HOLDS. Generic: no program in sight. An own text.
  IS AN INTERFACE NIL? Generic: no program in sight. An own text.
-/
import Derived.Test.YtbhkopbgjnpcpaaGreatDoorA5
namespace Go.Sx
open Go.RowKit (Below)
structure HM (h h' : Heap) : Prop where
 same : ∀ b k, lkB h b = some k → (lkB h' b).map Blk.cold = some k.cold
theorem HM.var_eq {h h' : Heap} (e : HM h h') {b : Nat} {o : Bool} {v : SV} (k : lkB h b = some (.var o v)) : ∃ o', lkB h' b = some (.var o' v) := by
 have := e.same b _ k
 cases hh : lkB h' b with
 | none => rw [hh] at this; cases this
 | some k' => rw [hh] at this; cases k' <;> simp [Blk.cold, Blk.dead] at this; subst this; exact ⟨_, rfl⟩
theorem HM.row_eq {h h' : Heap} (e : HM h h') {b : Nat} {o : Bool} {s : Nat} {v : List SV} (k : lkB h b = some (.row o s v)) : ∃ o', lkB h' b = some (.row o' s v) := by
 have := e.same b _ k
 cases hh : lkB h' b with
 | none => rw [hh] at this; cases this
 | some k' => rw [hh] at this; cases k' <;> simp [Blk.cold, Blk.dead] at this; obtain ⟨rfl, rfl⟩ := this; exact ⟨_, rfl⟩
mutual
theorem frz_mono {h h' : Heap} (e : HM h h') : ∀ {d : Nat} {v : SV} {ns : List Nat} {K : SV → List Nat → Prop}, frz h d v ns K → frz h' d v ns K
 | 0, _, _, _, hk => by simp only [frz] at hk
 | d + 1, v, ns, K, hk => by
   simp only [frz] at hk
   split at hk
   · rename_i b p
     split at hk
     case h_2 => cases hk
     rename_i own u e1
     obtain ⟨o', e2⟩ := e.var_eq e1
     obtain ⟨s', q1, q2⟩ := nav_pf hk
     simp only [frz, e2]
     exact q2 _ (frz_mono e q1)
   · rename_i b sz
     split at hk
     case h_2 => cases hk
     rename_i own sz' xs e1
     obtain ⟨o', e2⟩ := e.row_eq e1
     simp only [frz, e2]
     exact hk
   · simp only [frz]; exact frzL_mono e hk
   · simp only [frz]; exact frzL_mono e hk
   · simp only [frz]; exact frzL_mono e hk
   · simp only [frz]; exact frzL_mono e hk
   · cases hk
   · cases hk
   · cases hk
   · rename_i h1 h2 h3 h4 h5 h5b h6 h7 h8
     rw [frc_eq] at hk
     cases v <;> first | (simp only [frz]; exact hk) | exact absurd rfl (h1 _ _) | exact absurd rfl (h2 _ _) | exact absurd rfl (h3 _) | exact absurd rfl (h4 _) | exact absurd rfl (h5 _ _) | exact absurd rfl (h5b _ _) | exact absurd rfl (h6 _) | exact absurd rfl (h7 _) | exact absurd rfl (h8 _ _ _)
theorem frzL_mono {h h' : Heap} (e : HM h h') : ∀ {d : Nat} {l : List SV} {ns : List Nat} {K : List SV → List Nat → Prop}, frzL h d l ns K → frzL h' d l ns K
 | 0, _, _, _, hk => by simp only [frzL] at hk
 | d + 1, [], ns, K, hk => by simp only [frzL] at hk ⊢; exact hk
 | d + 1, v :: r, ns, K, hk => by
   simp only [frzL] at hk ⊢
   obtain ⟨v', ns', k1, g1⟩ := frz_pf hk
   have k2 := frzL_mono e k1
   exact frz_mono e (g1 _ k2)
end
def hotB : Op → Bool
 | .lookup .. => true
 | _ => false
def clR : Op → Bool
 | .store .. | .mapUpdate .. | .mapEntry .. | .entryStore .. | .next .. | .range .. | .entry .. | .go .. | .defer .. | .panic .. | .send .. | .recv .. | .select .. | .makeInterface .. | .typeAssert .. | .makeChan .. => false
 | .call c => (match c.callee with
   | .builtin .len => true
   | .builtin .min => true
   | .builtin .max => true
   | .value (.func _) => true
   | _ => false)
 | _ => true
section
variable {E : Env} {sl : Slots} {h h' : Heap} {n : Nat} {K : KE}
theorem opE_mono {o : Op} (e : HM h h') (hot : hotB o = true → ∀ b k, lkB h b = some k → lkB h' b = some k) (hr : clR o = true) (hk : opE E sl h n o K) : opE E sl h' n o K := by
 cases o with
 | makeMap T r => cases r <;> exact hk
 | lookup T x y b =>
   simp only [opE] at hk ⊢
   split at hk
   case h_2 => cases hk
   rename_i e1 e2
   split at hk
   case h_2 => cases hk
   rename_i e3
   simp only [hot rfl _ _ e3]
   exact hk
 | build T ps =>
   simp only [opE] at hk ⊢
   split at hk
   · exact hk
   · split at hk
     case h_2 => cases hk
     obtain ⟨r, q1, q3⟩ := fillF_pf hk
     exact q3 _ (frzL_mono e q1)
   · cases hk
 | buildSlice T len ps =>
   simp only [opE] at hk ⊢
   split at hk
   case h_2 => cases hk
   split at hk
   · cases hk
   · obtain ⟨r, q1, q3⟩ := solids_pf hk
     exact q3 _ (frzL_mono e q1)
   · obtain ⟨k, g0⟩ := solid_pf hk
     refine g0 _ ?_
     split at k
     case h_2 => cases k
     obtain ⟨r, q1, q3⟩ := fillF_pf k
     exact q3 _ (frzL_mono e q1)
   · cases hk
 | load T x =>
   simp only [opE] at hk ⊢
   split at hk
   · rename_i b p e1
     split at hk
     · rename_i e2
       obtain ⟨o', e3⟩ := e.var_eq e2
       simp only [e3]; exact hk
     · rename_i e2
       obtain ⟨o', e3⟩ := e.row_eq e2
       simp only [e3]; exact hk
     · cases hk
   · exact hk
   · cases hk
 | indexAddr T x i =>
   simp only [opE] at hk ⊢
   split at hk
   case h_2 => cases hk
   split at hk
   · split at hk
     · exact hk
     · rename_i b sz e3
       split at hk
       case h_2 => cases hk
       rename_i e4 e5
       obtain ⟨o', e6⟩ := e.row_eq e4
       simp only [e6, e5]; exact hk
     · cases hk
   · exact hk
   · cases hk
 | slice T x lo hi mx =>
   simp only [opE] at hk ⊢
   split at hk
   · cases hk
   split at hk
   · exact hk
   · exact hk
   · rename_i b sz e1
     split at hk
     case h_2 => cases hk
     rename_i e2
     obtain ⟨o', e3⟩ := e.row_eq e2
     simp only [e3]; exact hk
   · split at hk
     case h_2 => cases hk
     exact frz_mono e hk
 | call cl =>
   obtain ⟨callee, args, ats⟩ := cl
   cases callee with
   | builtin b =>
     cases b with
     | len =>
       simp only [opE] at hk ⊢
       split at hk
       case h_2 => cases hk
       split at hk <;> first | exact hk.elim | exact hk | skip
       rename_i e3 e4
       split at hk
       case h_2 => cases hk
       rename_i e5
       obtain ⟨o', e6⟩ := e.row_eq e5
       simp only [e6]; exact hk
     | min => exact hk
     | max => exact hk
     | _ => simp [clR] at hr
   | value f =>
     simp only [opE, frcL_eq] at hk ⊢
     split at hk
     case h_2 => cases hk
     rename_i f caps e1
     split at hk
     · exact hk
     split at hk
     case h_2 => cases hk
     obtain ⟨l1, ns1, k1, g1⟩ := frzL_pf (frzL_mono e hk)
     exact g1 _ (frzL_mono e k1)
   | invoke => cases hk
 | unOp op T x => cases op <;> exact hk
 | makeFunc f fst caps => cases f <;> exact hk
 | _ => first | exact hk | (simp [clR] at hr; done)
end
open Go.RowKit (Below)
def opQ (E : Env) (sl : Slots) (h : Heap) (n : Nat) (o : Oper) (K : KE) : Prop := match b2sB E o.op with
 | some x => b2sV (ev E sl x) fun s => K (.str s) [] .nil
 | none => opE E sl h n o.op K
def RdQ (E : Env) (sl : Slots) (h : Heap) (n : Nat) (o : Oper) (v : SV) (ns : List Nat) (ea : EA) : Prop := ∀ K : KE, K v ns ea → opQ E sl h n o K
def mB (m j : Nat) : Bool := Nat.beq (Nat.land (Nat.shiftRight m j) 1) 1
def clE (cls : List Nat) : List Edge → Nat
 | [] => 0
 | e :: r => match Region.binds .any e with
   | true => Nat.lor (Nat.shiftLeft 1 e.on) (Nat.lor (cls.getD e.on 0) (clE cls r))
   | false => clE cls r
def clsF : List Oper → List Nat → List Nat
 | [], cls => cls
 | o :: r, cls => clsF r (cls ++ [clE cls o.after.toList])
theorem mB_eq (m j : Nat) : mB m j = m.testBit j := by
 unfold mB Nat.testBit
 have e : Nat.land (Nat.shiftRight m j) 1 = (m >>> j) &&& 1 := rfl
 rw [e, Nat.and_comm]
 have : (1 &&& m >>> j) = 0 ∨ (1 &&& m >>> j) = 1 := by
  rw [Nat.one_and_eq_mod_two]; omega
 rcases this with h | h <;> rw [h] <;> rfl
def Bef (ops : List Oper) (i j : Nat) : Prop := ∀ L : List Nat, (∀ i ∈ L, ∀ d ∈ depsOf ops i, d ∈ L) → (∀ d ∈ depsOf ops i, d ∈ L) → j ∈ L
theorem clE_ok {ops : List Oper} {cls : List Nat} (hc : ∀ i j, mB (cls.getD i 0) j = true → Bef ops i j) {i : Nat} : ∀ {l : List Edge}, (∀ d ∈ depL l, d ∈ depsOf ops i) → ∀ {j : Nat}, mB (clE cls l) j = true → Bef ops i j
 | [], _, j, h => by
   rw [mB_eq] at h
   simp [clE] at h
 | e :: r, hl, j, h => by
   simp only [clE] at h
   simp only [depL] at hl
   split at h
   · rename_i hb
     rw [hb] at hl
     simp only at hl
     rw [mB_eq] at h
     have e1 : Nat.lor (Nat.shiftLeft 1 e.on) (Nat.lor (cls.getD e.on 0) (clE cls r)) = (1 <<< e.on) ||| (cls.getD e.on 0 ||| clE cls r) := rfl
     rw [e1, Nat.testBit_or, Nat.testBit_or, Bool.or_eq_true, Bool.or_eq_true] at h
     rcases h with h | h | h
     · have : j = e.on := by
        rw [Nat.testBit_shiftLeft] at h
        simp only [Bool.and_eq_true, decide_eq_true_eq] at h
        have h2 := h.2
        cases e3 : j - e.on with
        | zero => omega
        | succ k => rw [e3] at h2; simp [Nat.testBit_succ] at h2
       subst this
       exact fun L _ hd => hd _ (hl _ (by simp))
     · rw [← mB_eq] at h
       have := hc _ _ h
       exact fun L hcl hd => this L hcl fun d hdd => hcl e.on (hd _ (hl _ (by simp))) d hdd
     · rw [← mB_eq] at h
       exact clE_ok hc (fun d hd => hl d (by simp [hd])) h
   · rename_i hb
     rw [hb] at hl
     exact clE_ok hc hl h
theorem clsF_ok {ops : List Oper} : ∀ {l : List Oper} {cls : List Nat} {k : Nat}, cls.length = k → (∀ i o, l[i]? = some o → ops[k + i]? = some o) → (∀ i j, mB (cls.getD i 0) j = true → Bef ops i j) → ∀ i j, mB ((clsF l cls).getD i 0) j = true → Bef ops i j
 | [], cls, k, _, _, hc, i, j, h => hc i j h
 | o :: r, cls, k, hk, hl, hc, i, j, h => by
   simp only [clsF] at h
   refine clsF_ok (l := r) (k := k + 1) (by simp [hk]) (fun i o' ho => ?_) (fun i j h => ?_) i j h
   · have := hl (i + 1) o' (by simpa using ho)
     rw [show k + 1 + i = k + (i + 1) by omega]; exact this
   · rw [List.getD_eq_getElem?_getD] at h
     by_cases e : i < cls.length
     · rw [List.getElem?_append_left e, ← List.getD_eq_getElem?_getD] at h
       exact hc i j h
     · by_cases e2 : i = cls.length
       · subst e2
         rw [List.getElem?_append_right (Nat.le_refl _)] at h
         simp only [Nat.sub_self, List.getElem?_cons_zero, Option.getD_some] at h
         refine clE_ok hc (fun d hd => ?_) h
         have := hl 0 o (by simp)
         unfold depsOf
         rw [hk, show k = k + 0 by omega, this]
         exact hd
       · rw [List.getElem?_eq_none (by simp; omega), mB_eq] at h
         simp at h
def flK (o : Op) : Bool := match o with
 | .move _ | .assign _ | .pick .. | .nilCheck _ | .fieldAddr .. | .field .. | .load .. | .indexAddr .. | .index .. | .binOp .. | .unOp .. | .extract .. | .build .. => true
 | .call c => (match c.callee with | .builtin .len => true | .builtin .min => true | .builtin .max => true | _ => false)
 | _ => false
def rdsB (ops : List Oper) (cls : List Nat) (i e : Nat) : Bool := (tmpsOf ops i).all fun t => inSeg 0 e fun j => (match dstOf ops j with | some d => !Nat.beq d t || mB (cls.getD i 0) j | none => true)
def mkB (o : Oper) : Bool := match o.after.toList with
 | e :: _ => Nat.beq e.on 7777777
 | [] => false
def isRo (o : Oper) : Bool := match mkB o with | true => false | false => clR o.op
theorem isRo_cl {o : Oper} (h : isRo o = true) : clR o.op = true := by
 unfold isRo at h
 split at h
 · cases h
 · exact h
def gdBf (cls : List Nat) (i : Nat) (o : Oper) : Bool := match o.guard with
 | none => true
 | some (g, _) => mB (cls.getD i 0) g
def floB (ops : List Oper) (cls : List Nat) (i : Nat) : Bool := match ops[i]? with
 | some o => isRo o && flK o.op && gdBf cls i o && o.dst.isSome && rdsB ops cls i ops.length
 | none => false
def isR (ops : List Oper) (i : Nat) : Bool := match ops[i]? with | some o => isRo o | none => false
def gdE (ops : List Oper) (cls : List Nat) (s i : Nat) : Bool := match ops[i]? with
 | some o => (match o.guard with
   | none => true
   | some (g, _) => Nat.blt g s && mB (cls.getD i 0) g)
 | none => false
def endF (ops : List Oper) (cls : List Nat) (s : Nat) : Nat → Nat → Nat
 | 0, e => e
 | f + 1, e => match isR ops e, gdE ops cls s e with
   | true, true => endF ops cls s f (e + 1)
   | _, _ => e
def prtF (ops : List Oper) (cls : List Nat) : Nat → Nat → List Nat
 | 0, _ => []
 | f + 1, s => match Nat.blt s ops.length with
   | true => (match isR ops s with
     | true => (match endF ops cls s (ops.length - s) s with
       | 0 => []
       | e + 1 => (match Nat.ble (e + 1) s with
         | true => []
         | false => (e + 1) :: prtF ops cls f (e + 1)))
     | false => (s + 1) :: prtF ops cls f (s + 1))
   | false => []
def cluB (ops : List Oper) (cls : List Nat) (s e : Nat) : Bool := inSeg s e fun i => isR ops i && (dstOf ops i).isSome && gdE ops cls s i && rdsB ops cls i e
def bndB (ops : List Oper) (cls : List Nat) (e : Nat) : Bool := (List.range e).all fun i => floB ops cls i || inSeg e ops.length fun j => mB (cls.getD j 0) i
def flL (ops : List Oper) (cls : List Nat) (m : Nat) : List Nat := (List.range m).filter fun p => !mB (cls.getD m 0) p
def gdsB : List Oper → Bool
 | [] => false
 | o :: r => match o.guard with | some _ => true | none => gdsB r
def noFl (ops : List Oper) (cls : List Nat) (s : Nat) : Bool := (List.range s).all fun i => inSeg s ops.length fun j => mB (cls.getD j 0) i
def prtB (ops : List Oper) (cls : List Nat) : List Nat → Nat → Bool
 | [], s => Nat.beq s ops.length
 | e :: r, s => (match Nat.blt s e, Nat.ble e ops.length, bndB ops cls e with
   | true, true, true => (match isR ops s with
     | true => (match cluB ops cls s e && (!gdsB ((ops.take e).drop s) || noFl ops cls s) with | true => prtB ops cls r e | false => false)
     | false => (match Nat.beq e (s + 1) with
       | true => (match flL ops cls s with
         | [] => prtB ops cls r e
         | _ :: _ => (match rdsB ops cls s s && (match ops[s]? with | some o => gdBf cls s o | none => false) with | true => prtB ops cls r e | false => false))
       | false => false))
   | _, _, _ => false)
def dstB (ops : List Oper) : Bool := segDst ops 0 ops.length
def flB (ops : List Oper) : Bool := ltB ops && dstB ops && prtB ops (clsF ops []) (prtF ops (clsF ops []) ops.length 0) 0
def rsH (n0 s m : Nat) : Heap → Heap
 | [] => []
 | (b, k) :: r => match Nat.ble n0 b, mB m (s + (b - n0)) with
   | true, false => rsH n0 s m r
   | _, _ => (b, k) :: rsH n0 s m r
def nsB (n0 s m : Nat) : List Nat → Bool
 | [] => true
 | b :: r => match Nat.ble n0 b, mB m (s + (b - n0)) with
   | true, false => false
   | _, _ => nsB n0 s m r
def efB (n0 s m : Nat) (f w : Bool) (ns : List Nat) (ea : EA) : Bool := match ns, w || f, nsB n0 s m ns with
 | _ :: _, true, _ => false
 | _, _, false => false
 | _, _, true => (match ea, f with
   | .nil, _ => true
   | .new _, false => true
   | _, _ => false)
def ClX (E : Env) (ops : List Oper) (cls : List Nat) (w : Bool) (s n0 : Nat) : List Oper → Nat → Slots → Heap → Nat → (Slots → Heap → Nat → Prop) → Prop
 | [], _, sl, h, n, K => K sl h n
 | o :: r, i, sl, h, n, K => match o.dst with
   | none => False
   | some d => match gdV ops o.guard sl with
     | some true => opQ E sl (rsH n0 s (cls.getD i 0) h) n o fun v ns ea => (match efB n0 s (cls.getD i 0) (floB ops cls i) w ns ea with
       | true => app v ns ea (some d) sl h n fun sl h => ClX E ops cls w s n0 r (i + 1) sl h (n + 1) K
       | false => False)
     | some false => ClX E ops cls w s n0 r (i + 1) ((d, und) :: sl) h (n + 1) K
     | none => False
def agX (E : Env) (ops : List Oper) (sl : Slots) (h : Heap) (n : Nat) : List Nat → Prop → Prop
 | [], K => K
 | p :: r, K => match ops[p]? with
   | some o => (match o.dst with
     | some d => (match gdV ops o.guard sl with
       | some true => opQ E sl h n o fun v ns ea => (match ns, ea with
         | [], .nil => v = lk sl d ∧ agX E ops sl h n r K
         | _, _ => False)
       | some false => lk sl d = und ∧ agX E ops sl h n r K
       | none => False)
     | none => False)
   | none => False
def inhV (h : Heap) : SV → Bool
 | .int _ _ | .bool _ | .tru | .fls | .str _ | .nils | .nilp | .nilf | .nili | .mt => true
 | .ptr b _ | .osl b _ => (match lkB h b with | some _ => true | none => false)
 | _ => false
def inhA (ops : List Oper) (sl : Slots) (h : Heap) : List Nat → Bool
 | [] => true
 | p :: r => match dstOf ops p with
   | some d => (match inhV h (lk sl d) with | true => inhA ops sl h r | false => false)
   | none => false
abbrev SK := Slots → Heap → Nat → Prop
structure Wlk (E : Env) where
 q : Slots → Heap → Nat → Oper → KE → Prop
 st : List Oper → Oper → Slots → Heap → Nat → SK → Prop
def calK (E : Env) (o : Oper) (S : Slots) : Option (FuncId × List SV × Call) := match o.op with
 | .call cl => (match cl.callee with
   | .value (.tmp t) => (match ev E S (.tmp t) with | .fn g caps => some (g, caps, cl) | _ => none)
   | .value (.func g) => (match lentB E.lend g o.dst, Nat.ble 1000000 g with | true, false => some (g, [], cl) | _, _ => none)
   | _ => none)
 | _ => none
def sgO (E : Env) (W : Wlk E) (ops : List Oper) (fl : List Nat) (o : Oper) (S : Slots) (h : Heap) (n : Nat) (K : SK) : Prop := match calK E o S with
 | some (g, caps, cl) => (match inhA ops S h fl with
   | true => frcL (cl.args.toList.map (ev E S)) fun az => (match noTup az with
     | true => (match o.dst with
       | some d => SemCall E g (az ++ caps) ((d, .any) :: S) h n fun r sl h n => K ((d, r) :: sl) h n
       | none => SemCall E g (az ++ caps) S h n fun _ sl h n => K sl h n)
     | false => False)
   | false => False)
 | none => W.q S h n o fun v ns ea => app v ns ea o.dst S h n fun sl h => K sl h (n + 1)
def sgX (E : Env) (W : Wlk E) (ops : List Oper) (fl : List Nat) (o : Oper) (S : Slots) (h : Heap) (n : Nat) (K : SK) : Prop := match gdV ops o.guard S with
 | some true => sgO E W ops fl o S h n K
 | some false => K (putS o.dst und S) h n
 | none => False
def hotL : List Oper → Bool
 | [] => false
 | o :: r => match hotB o.op with | true => true | false => hotL r
def FlX (E : Env) (W : Wlk E) (ops : List Oper) (cls : List Nat) : List Nat → Nat → Slots → Heap → Nat → SK → Prop
 | [], _, sl, h, n, K => K sl h n
 | e :: r, s, sl, h, n, K => match isR ops s with
   | true => setl ops ((ops.take e).drop s) sl fun sl => ClX E ops cls (hotL ((ops.take e).drop s)) s n ((ops.take e).drop s) s sl h n fun sl h n => FlX E W ops cls r e sl h n K
   | false => match ops[s]? with
     | none => False
     | some o => match flL ops cls s with
       | [] => W.st ops o sl h n fun sl h n => FlX E W ops cls r e sl h n K
       | p :: ps => sgX E W ops (p :: ps) o sl h n fun sl h n => agX E ops sl h n (p :: ps) (FlX E W ops cls r e sl h n K)
section
variable {E : Env}
theorem opQ_pf {sl : Slots} {h : Heap} {n : Nat} {o : Oper} {K : KE} (hk : opQ E sl h n o K) : ∃ v ns ea, K v ns ea ∧ RdQ E sl h n o v ns ea := by
 unfold opQ at hk
 split at hk
 · rename_i x e
   unfold b2sV at hk
   split at hk
   case h_2 => cases hk
   rename_i sz xs e2
   split at hk
   case h_2 => cases hk
   rename_i e3
   unfold BytesVC at hk
   obtain ⟨s, hx, k⟩ := hk
   refine ⟨_, _, _, k, fun K' k' => ?_⟩
   unfold opQ
   rw [e]
   simp only [b2sV, e2, e3]
   unfold BytesVC
   exact ⟨s, hx, k'⟩
 · rename_i e
   obtain ⟨v, ns, ea, k, r⟩ := opE_pf hk
   refine ⟨v, ns, ea, k, fun K' k' => ?_⟩
   unfold opQ
   rw [e]
   exact r _ k'
theorem opQ_slots {sl sl' : Slots} {h : Heap} {n : Nat} {o : Oper} {K : KE} (e : ∀ t ∈ tmpsO (opnds o.op), lk sl t = lk sl' t) (r : opQ E sl h n o K) : opQ E sl' h n o K := by
 unfold opQ at r ⊢
 split
 · rename_i x hb
   rw [hb] at r
   obtain ⟨S, T, _, hop, _⟩ := b2sB_iff hb
   rw [hop] at e
   rw [← ev_tmps e x (by simp [opnds])]
   exact r
 · rename_i hb
   rw [hb] at r
   exact opE_slots (ev_tmps e) r
theorem RdQ.slots {sl sl' : Slots} {h : Heap} {n : Nat} {o : Oper} {v : SV} {ns : List Nat} {ea : EA} (e : ∀ t ∈ tmpsO (opnds o.op), lk sl t = lk sl' t) (r : RdQ E sl h n o v ns ea) : RdQ E sl' h n o v ns ea :=
 fun K k => opQ_slots e (r K k)
theorem RdQ.mono {sl : Slots} {h h' : Heap} {n : Nat} {o : Oper} {v : SV} {ns : List Nat} {ea : EA} (e : HM h h') (hot : hotB o.op = true → ∀ b k, lkB h b = some k → lkB h' b = some k) (hr : clR o.op = true) (r : RdQ E sl h n o v ns ea) : RdQ E sl h' n o v ns ea := by
 intro K k
 have := r K k
 unfold opQ at this ⊢
 split
 · rename_i x hb
   rw [hb] at this
   exact this
 · rename_i hb
   rw [hb] at this
   exact opE_mono e hot hr this
theorem RdQ.n {sl : Slots} {h : Heap} {n n' : Nat} {o : Oper} {v : SV} {ns : List Nat} {ea : EA} (hf : flK o.op = true) (r : RdQ E sl h n o v ns ea) : RdQ E sl h n' o v ns ea := by
 intro K k
 have := r K k
 unfold opQ at this ⊢
 split
 · rename_i x hb
   rw [hb] at this
   exact this
 · rename_i hb
   rw [hb] at this
   cases ho : o.op with
   | call cl =>
     rw [ho] at this hf
     obtain ⟨callee, args, ats⟩ := cl
     cases callee with
     | builtin b => cases b <;> first | exact this | (simp [flK] at hf; done)
     | _ => simp [flK] at hf
   | unOp op T x => rw [ho] at this; cases op <;> exact this
   | _ => rw [ho] at this hf; first | exact this | (simp [flK] at hf; done)
section
variable {c : Cx} {N : Nat}
theorem Mem.congr {h h' : Heap} {F : Nat → Prop} {β : Beta} {Y : Nat → Prop} {w : World} (e : ∀ b, lkB h b = lkB h' b) (m : Mem c h F β Y w) : Mem c h' F β Y w := by
 have hO : Own β h' = Own β h := by
  funext r
  simp only [Own, e]
 have hX : XX c.Z Y β h' = XX c.Z Y β h := by
  funext r
  simp only [XX, hO]
 exact ⟨m.fresh, fun b k hk => by rw [hX]; exact m.blk b k (by rw [e]; exact hk), fun b b' k k' l l' h1 h2 => m.inj b b' k k' l l' (by rw [e]; exact h1) (by rw [e]; exact h2), fun r hr => m.own r (by rw [← hO]; exact hr), m.yy, m.zz, m.size, m.frame, m.os, m.tape, m.output, fun g t hg ht => by rw [hX]; exact m.gl g t hg ht⟩
theorem DenF.congr {sl : Slots} {h h' : Heap} {F : Nat → Prop} {a : Act} {w : World} (e : ∀ b, lkB h b = lkB h' b) (D : DenF c N sl h F a w) : DenF c N sl h' F a w := by
 obtain ⟨β, Y, m, hs, r⟩ := D
 have hX : XX c.Z Y β h' = XX c.Z Y β h := by
  funext r
  simp only [XX, Own, e]
 exact ⟨β, Y, m.congr e, ⟨hs.1, fun t => by rw [hX]; exact hs.2 t⟩, r⟩
theorem DenF.fewer {sl sl' : Slots} {h : Heap} {F : Nat → Prop} {a : Act} {w : World} (hs : ∀ t, lk sl t = .any ∨ lk sl t = lk sl' t) (D : DenF c N sl' h F a w) : DenF c N sl h F a w := by
 obtain ⟨β, Y, m, k, r⟩ := D
 refine ⟨β, Y, m, ⟨k.1, fun t => ?_⟩, r⟩
 rcases hs t with e | e
 · rw [e]; exact rel_any
 · rw [e]; exact k.2 t
theorem DenF.none {sl : Slots} {h : Heap} {F : Nat → Prop} {a : Act} {w : World} (D : DenF c N sl h F a w) {b : Nat} (hb : F b) : lkB h b = none := by
 obtain ⟨β, Y, m, _⟩ := D
 cases hk : lkB h b with
 | none => rfl
 | some k =>
   obtain ⟨l, h1, _⟩ := m.blk b k hk
   rw [m.fresh b hb] at h1; cases h1
theorem q_step (ok : EnvOK c.E) {o : Oper} (hdN : ∀ d, o.dst = some d → d < N) {S : Slots} {h : Heap} {n : Nat} {F : Nat → Prop} {v : SV} {ns : List Nat} {ea : EA} (R : RdQ c.E S h n o v ns ea) (hF : F n) {a : Act} {w : World} (D : DenF c N S h F a w) {next : Act → World → Prop} {Q : Exit → Act → World → Prop}
 (hn : ∀ a' w', DenF c N (putS o.dst v (killE ea S)) (hE ns ea h n) (FE ea n F) a' w' → next a' w') : o.wpIn (FR c.ro) 0 c.E.P a w next Q := by
 have fin : ∀ {β Y}, SlotsOK c S h β Y w a → a.tmps.size = N → DefOK c Y a.defers → ∀ {u w' β'}, Res c h n F β Y w v ns ea u w' β' → next (a.put o.dst u) w' := by
  intro β Y hs hN hdef u w' β' r
  refine hn _ _ ⟨β', Y, r.mem, ⟨by rw [put_size']; exact hs.1, fun t => ?_⟩, by rw [put_size', hN], by rw [put_defers']; exact hdef⟩
  rw [lk_put, slotv_put _ _ _ _ (by rw [hN]; exact hdN) hs.1]
  by_cases e : o.dst = some t
  · rw [if_pos e, if_pos e]; exact r.val
  · rw [if_neg e, if_neg e, lk_killE]; exact r.keep _ _ (hs.2 t)
 obtain ⟨β, Y, m, hs, hN, hdef⟩ := D
 have hK : opQ c.E S h n o (fun v' ns' ea' => v' = v ∧ ns' = ns ∧ ea' = ea) := R _ ⟨rfl, rfl, rfl⟩
 unfold opQ at hK
 split at hK
 · rename_i x hb
   obtain ⟨S0, T, e, hop, hS, hT, he⟩ := b2sB_iff hb
   have hxr := ev_ok m hs x
   unfold b2sV at hK
   split at hK
   case h_2 => cases hK
   rename_i sz xs hv
   split at hK
   case h_2 => cases hK
   rename_i hsz
   have := beq_of hsz; subst this
   unfold BytesVC at hK
   obtain ⟨s, rfl, rfl, rfl, rfl⟩ := hK
   rw [hv] at hxr
   obtain ⟨ad, cap, hu, hle, hm⟩ := rel_sl.1 hxr
   have dS := (ok.tt S0 (by rw [hS]; simp)).desc
   have dT := (ok.tt T (by rw [hT]; simp)).desc
   have dE := (ok.tt e (by rw [he]; simp)).desc
   simp only [hS] at dS
   simp only [hT] at dT
   simp only [he] at dE
   have hrun : (execOp a.eval o).run c.E.P w = .ok (.value (.string ⟨s.toArray⟩)) w := by
    simp only [execOp, hop, hu, List.length_map]
    refine run_val ?_
    cases ad with
    | none =>
      have hs0 : s = [] := by
       rcases hm with hm | ⟨b, off, ds, h1, _⟩
       · simpa using hm
       · cases h1
      subst hs0
      exact run_convert_bytes_nil w S0 e dS dE _ _ T dT
    | some ad =>
      refine run_convert_bytes_back w S0 T e ad cap s dS dE dT fun j hj => ?_
      rcases hm with hm | ⟨b, off, ds, h1, _, _, h2, h3⟩
      · rw [List.map_eq_nil_iff] at hm; subst hm; simp at hj
      · cases h1
        have h3 := relR_bytes h3
        rw [add_plain]
        refine h2 j _ ?_
        rw [h3, List.getElem?_map, List.getElem?_eq_getElem hj]
        rfl
   refine wp_in (by intro c e; rw [hop] at e; cases e) ?_
   exact OpOK.value hrun (Res.nil m (rel_str.2 rfl)) next Q fun u w' β' r => fin hs hN hdef r
 · have hnd : ∀ c, o.op ≠ .defer c := by
    intro c e
    rw [e] at hK
    simp [opE] at hK
   obtain ⟨v', ns', ea', ⟨rfl, rfl, rfl⟩, k2⟩ := opE_sound ok (a := a) m hF (fun x _ => ev_ok m hs x) hK
   exact wp_in hnd (k2 next Q fun u w' β' r => fin hs hN hdef r)
end
def nsL (s e : Nat) (nf : Nat → List Nat) (L : List Nat) : List Nat := L.flatMap fun j => if s ≤ j ∧ j < e then nf j else []
def K0 (n0 s e : Nat) (ef : Nat → EA) (H0 : Heap) (L : List Nat) (b : Nat) : Option Blk :=
 if b < n0 then lkB H0 b else if b < n0 + (e - s) ∧ s + (b - n0) ∈ L then (match ef (s + (b - n0)) with | .new k => some k | _ => none) else none
structure J (n0 s e : Nat) (nf : Nat → List Nat) (ef : Nat → EA) (H0 : Heap) (L : List Nat) (h : Heap) : Prop where
 at_ : ∀ b, lkB h b = if b ∈ nsL s e nf L then (K0 n0 s e ef H0 L b).map Blk.cold else K0 n0 s e ef H0 L b
 nm : ∀ j ∈ L, s ≤ j → j < e → ∀ b ∈ nf j, n0 ≤ b → s + (b - n0) ∈ L ∧ b < n0 + (e - s)
variable {n0 s e : Nat} {nf : Nat → List Nat} {ef : Nat → EA} {H0 : Heap}
theorem mem_nsL {L : List Nat} {b : Nat} : b ∈ nsL s e nf L ↔ ∃ j ∈ L, s ≤ j ∧ j < e ∧ b ∈ nf j := by
 simp only [nsL, List.mem_flatMap]
 refine exists_congr fun j => and_congr_right fun _ => ?_
 split
 · rename_i h; simp [h]
 · rename_i h
   simp only [List.not_mem_nil, false_iff]
   exact fun ⟨h1, h2, _⟩ => h ⟨h1, h2⟩
theorem J.congr {L L' : List Nat} {h : Heap} (j : J n0 s e nf ef H0 L h) (e1 : ∀ i, s ≤ i → i < e → (i ∈ L ↔ i ∈ L')) : J n0 s e nf ef H0 L' h := by
 have h1 : ∀ b, b ∈ nsL s e nf L ↔ b ∈ nsL s e nf L' := fun b => by
  rw [mem_nsL, mem_nsL]
  exact ⟨fun ⟨j, a, b1, c, d⟩ => ⟨j, (e1 j b1 c).1 a, b1, c, d⟩, fun ⟨j, a, b1, c, d⟩ => ⟨j, (e1 j b1 c).2 a, b1, c, d⟩⟩
 have h2 : ∀ b, K0 n0 s e ef H0 L b = K0 n0 s e ef H0 L' b := fun b => by
  unfold K0
  by_cases hb : b < n0
  · rw [if_pos hb, if_pos hb]
  · rw [if_neg hb, if_neg hb]
    by_cases hb2 : b < n0 + (e - s)
    · have := e1 (s + (b - n0)) (by omega) (by omega)
      simp only [hb2, true_and, this]
    · simp only [hb2, false_and]
 refine ⟨fun b => ?_, fun i hi h3 h4 b hb hn => ?_⟩
 · rw [j.at_ b, ← h2]
   by_cases hb : b ∈ nsL s e nf L
   · rw [if_pos hb, if_pos ((h1 b).1 hb)]
   · rw [if_neg hb, if_neg fun k => hb ((h1 b).2 k)]
 · obtain ⟨q1, q2⟩ := j.nm i ((e1 i h3 h4).2 hi) h3 h4 b hb hn
   exact ⟨(e1 _ (by omega) (by omega)).1 q1, q2⟩
theorem J.nil (hH : ∀ b, n0 ≤ b → lkB H0 b = none) {L : List Nat} (hL : ∀ i ∈ L, s ≤ i → i < e → False) : J n0 s e nf ef H0 L H0 := by
 refine ⟨fun b => ?_, fun i hi h1 h2 => (hL i hi h1 h2).elim⟩
 have : b ∉ nsL s e nf L := fun hb => by
  obtain ⟨j, h1, h2, h3, _⟩ := mem_nsL.1 hb
  exact hL j h1 h2 h3
 rw [if_neg this]
 unfold K0
 split
 · rfl
 · rename_i hb
   rw [hH b (by omega)]
   split
   · rename_i h
     exact (hL _ h.2 (by omega) (by omega)).elim
   · rfl
theorem J.step {L : List Nat} {h : Heap} (j : J n0 s e nf ef H0 L h) {i : Nat} (hi : i ∉ L) (h1 : s ≤ i) (h2 : i < e) (hea : ef i = .nil ∨ ∃ k, ef i = .new k) (hn : ∀ b ∈ nf i, n0 ≤ b → s + (b - n0) ∈ L ∧ b < n0 + (e - s)) : J n0 s e nf ef H0 (i :: L) (hE (nf i) (ef i) h (n0 + (i - s))) := by
 have hmem : ∀ b, b ∈ nsL s e nf (i :: L) ↔ b ∈ nf i ∨ b ∈ nsL s e nf L := fun b => by
  simp only [nsL, List.flatMap_cons, List.mem_append, h1, h2, and_self, if_true]
 have hown : n0 + (i - s) ∉ nsL s e nf (i :: L) := by
  rw [hmem]
  rintro (hb | hb)
  · have := (hn _ hb (by omega)).1
    rw [show s + (n0 + (i - s) - n0) = i by omega] at this
    exact hi this
  · obtain ⟨q, g1, g2, g3, g4⟩ := mem_nsL.1 hb
    have := (j.nm q g1 g2 g3 _ g4 (by omega)).1
    rw [show s + (n0 + (i - s) - n0) = i by omega] at this
    exact hi this
 have hice : ∀ b, lkB (iceB (nf i) h) b = if b ∈ nsL s e nf (i :: L) then (K0 n0 s e ef H0 L b).map Blk.cold else K0 n0 s e ef H0 L b := by
  intro b
  rw [lkB_ice_eq, j.at_ b]
  by_cases g1 : b ∈ nf i
  · rw [if_pos g1, if_pos ((hmem b).2 (.inl g1))]
    split
    · cases K0 n0 s e ef H0 L b <;> simp [cold_cold]
    · rfl
  · rw [if_neg g1]
    by_cases g2 : b ∈ nsL s e nf L
    · rw [if_pos g2, if_pos ((hmem b).2 (.inr g2))]
    · rw [if_neg g2, if_neg fun k => ((hmem b).1 k).elim g1 g2]
 have hK : ∀ b, b ≠ n0 + (i - s) → K0 n0 s e ef H0 (i :: L) b = K0 n0 s e ef H0 L b := by
  intro b hb
  unfold K0
  split
  · rfl
  · rename_i h3
    have : s + (b - n0) ≠ i := by omega
    simp only [List.mem_cons, this, false_or]
 have hKi : K0 n0 s e ef H0 L (n0 + (i - s)) = none := by
  unfold K0
  rw [if_neg (by omega), if_neg]
  rw [show s + (n0 + (i - s) - n0) = i by omega]
  exact fun h => hi h.2
 have hKi2 : K0 n0 s e ef H0 (i :: L) (n0 + (i - s)) = match ef i with | .new k => some k | _ => none := by
  unfold K0
  rw [if_neg (by omega), if_pos ⟨by omega, by rw [show s + (n0 + (i - s) - n0) = i by omega]; simp⟩]
  rw [show s + (n0 + (i - s) - n0) = i by omega]
 refine ⟨fun b => ?_, fun q hq g1 g2 b hb hnb => ?_⟩
 · rcases hea with hea | ⟨k, hea⟩
   · rw [hea] at hKi2 ⊢
     show lkB (iceB (nf i) h) b = _
     rw [hice b]
     by_cases eb : b = n0 + (i - s)
     · subst eb; rw [hKi, hKi2]
     · rw [hK b eb]
   · rw [hea] at hKi2 ⊢
     show lkB ((n0 + (i - s), k) :: iceB (nf i) h) b = _
     rw [lkB_new]
     by_cases eb : b = n0 + (i - s)
     · subst eb; rw [if_pos rfl, if_neg hown, hKi2]
     · rw [if_neg eb, hice b, hK b eb]
 · rcases List.mem_cons.1 hq with rfl | hq
   · exact ⟨List.mem_cons_of_mem _ (hn b hb hnb).1, (hn b hb hnb).2⟩
   · have := j.nm q hq g1 g2 b hb hnb
     exact ⟨List.mem_cons_of_mem _ this.1, this.2⟩
theorem J.same {L L' : List Nat} {h h' : Heap} (j : J n0 s e nf ef H0 L h) (j' : J n0 s e nf ef H0 L' h') (hLL : ∀ i, s ≤ i → i < e → i ∈ L → i ∈ L') (hd : ∀ i, s ≤ i → i < e → i ∈ L' → i ∉ L → nf i = [] ∧ ef i = .nil) : ∀ b, lkB h b = lkB h' b := by
 intro b
 have h1 : b ∈ nsL s e nf L ↔ b ∈ nsL s e nf L' := by
  rw [mem_nsL, mem_nsL]
  refine ⟨fun ⟨i, a, b1, c, d⟩ => ⟨i, hLL i b1 c a, b1, c, d⟩, fun ⟨i, a, b1, c, d⟩ => ⟨i, ?_, b1, c, d⟩⟩
  refine Classical.byContradiction fun hn => ?_
  rw [(hd i b1 c a hn).1] at d
  cases d
 have h2 : K0 n0 s e ef H0 L b = K0 n0 s e ef H0 L' b := by
  unfold K0
  by_cases hb : b < n0
  · rw [if_pos hb, if_pos hb]
  · rw [if_neg hb, if_neg hb]
    by_cases hb2 : b < n0 + (e - s)
    · by_cases g1 : s + (b - n0) ∈ L
      · have := hLL _ (by omega) (by omega) g1
        simp only [hb2, g1, this, and_self, if_true]
      · by_cases g2 : s + (b - n0) ∈ L'
        · have := (hd _ (by omega) (by omega) g2 g1).2
          simp only [hb2, g1, g2, and_true, and_false, if_true, if_false, this]
        · simp only [hb2, g1, g2, and_false, if_false]
    · simp only [hb2, false_and, if_false]
 rw [j.at_ b, j'.at_ b, h2]
 by_cases hb : b ∈ nsL s e nf L
 · rw [if_pos hb, if_pos (h1.1 hb)]
 · rw [if_neg hb, if_neg fun k => hb (h1.2 k)]
theorem lkB_rsH {m : Nat} : ∀ {h : Heap} {b : Nat}, lkB (rsH n0 s m h) b = if n0 ≤ b ∧ mB m (s + (b - n0)) = false then none else lkB h b
 | [], b => by simp [rsH, lkB]
 | (b0, k) :: r, b => by
   simp only [rsH]
   split
   · rename_i h1 h2
     rw [Nat.ble_eq] at h1
     rw [lkB_rsH, lkB_cons]
     by_cases e1 : b0 = b
     · subst e1
       rw [if_pos ⟨h1, h2⟩, if_pos ⟨h1, h2⟩]
     · rw [if_neg e1]
   · rename_i h1
     rw [lkB_cons, lkB_cons, lkB_rsH]
     by_cases e1 : b0 = b
     · subst e1
       rw [if_pos rfl, if_pos rfl, if_neg]
       rintro ⟨h2, h3⟩
       exact h1 (by rw [Nat.ble_eq]; exact h2) h3
     · rw [if_neg e1, if_neg e1]
theorem J.mono {L L' : List Nat} {h h' : Heap} {m : Nat} (j : J n0 s e nf ef H0 L h) (j' : J n0 s e nf ef H0 L' h') (hm : ∀ i, s ≤ i → i < e → mB m i = true → i ∈ L') : HM (rsH n0 s m h) h' ∧ ((∀ i, s ≤ i → i < e → nf i = []) → ∀ b k, lkB (rsH n0 s m h) b = some k → lkB h' b = some k) := by
 have key : ∀ b k, lkB (rsH n0 s m h) b = some k → lkB h b = some k ∧ ∃ k0, K0 n0 s e ef H0 L b = some k0 ∧ K0 n0 s e ef H0 L' b = some k0 := by
  intro b k hk
  rw [lkB_rsH] at hk
  split at hk
  · cases hk
  · rename_i hc
    refine ⟨hk, ?_⟩
    have hk' : ∃ k0, K0 n0 s e ef H0 L b = some k0 := by
     rw [j.at_ b] at hk
     split at hk
     · cases h0 : K0 n0 s e ef H0 L b with
       | none => rw [h0] at hk; cases hk
       | some k0 => exact ⟨k0, rfl⟩
     · exact ⟨k, hk⟩
    obtain ⟨k0, hk0⟩ := hk'
    refine ⟨k0, hk0, ?_⟩
    unfold K0 at hk0 ⊢
    by_cases hb : b < n0
    · rw [if_pos hb] at hk0 ⊢; exact hk0
    · rw [if_neg hb] at hk0 ⊢
      split at hk0
      · rename_i h1
        rw [if_pos ⟨h1.1, hm _ (by omega) (by omega) (by
         cases h3 : mB m (s + (b - n0)) with
         | true => rfl
         | false => exact absurd ⟨by omega, h3⟩ hc)⟩]
        exact hk0
      · cases hk0
 refine ⟨⟨fun b k hk => ?_⟩, fun hn b k hk => ?_⟩
 · obtain ⟨h1, k0, h2, h3⟩ := key b k hk
   rw [j.at_ b, h2] at h1
   have hkk : k.cold = k0.cold := by
    split at h1
    · simp only [Option.map_some, Option.some.injEq] at h1; rw [← h1, cold_cold]
    · cases h1; rfl
   rw [j'.at_ b, h3, hkk]
   split <;> simp [cold_cold]
 · obtain ⟨h1, k0, h2, h3⟩ := key b k hk
   have hno : ∀ L, b ∉ nsL s e nf L := fun L hb => by
    obtain ⟨i, _, q1, q2, q3⟩ := mem_nsL.1 hb
    rw [hn i q1 q2] at q3; cases q3
   rw [j.at_ b, if_neg (hno L), h2] at h1
   rw [j'.at_ b, if_neg (hno L'), h3, h1]
end
open Go.RowKit (Below)
section
variable {E : Env} {ops : List Oper} {cls : List Nat} {w : Bool} {s n0 e : Nat}
def CF (E : Env) (ops : List Oper) (cls : List Nat) (w : Bool) (s n0 : Nat) (SL : Slots) : List Oper → Nat → Heap → List (List Nat × EA) → Heap → Prop
 | [], _, h, t, he => t = [] ∧ he = h
 | o :: r, i, h, t, he => ∃ d ns ea t', t = (ns, ea) :: t' ∧ o.dst = some d ∧ ((gdV ops o.guard SL = some true ∧ RdQ E SL (rsH n0 s (cls.getD i 0) h) (n0 + (i - s)) o (lk SL d) ns ea ∧ efB n0 s (cls.getD i 0) (floB ops cls i) w ns ea = true) ∨ (gdV ops o.guard SL = some false ∧ lk SL d = und ∧ ns = [] ∧ ea = .nil)) ∧
    CF E ops cls w s n0 SL r (i + 1) (hE ns ea h (n0 + (i - s))) t' he
theorem efB_ok {m : Nat} {f : Bool} {ns : List Nat} {ea : EA} (h : efB n0 s m f w ns ea = true) : (ea = .nil ∨ ∃ k, ea = .new k) ∧ (∀ b ∈ ns, n0 ≤ b → mB m (s + (b - n0)) = true) ∧ (f = true → ns = [] ∧ ea = .nil) ∧ (w = true → ns = []) := by
 have hns : ∀ {ns : List Nat}, nsB n0 s m ns = true → ∀ b ∈ ns, n0 ≤ b → mB m (s + (b - n0)) = true := by
  intro ns
  induction ns with
  | nil => intro _ b hb; cases hb
  | cons b0 r ih =>
    intro h b hb hn
    simp only [nsB] at h
    split at h
    · cases h
    · rename_i h1
      rcases List.mem_cons.1 hb with rfl | hb
      · cases h3 : mB m (s + (b - n0)) with
        | true => rfl
        | false => exact (h1 (by rw [Nat.ble_eq]; exact hn) h3).elim
      · exact ih h b hb hn
 have h4 : (ea = .nil ∨ ∃ k, ea = .new k) ∧ (f = true → ea = .nil) := by
  unfold efB at h
  split at h
  · cases h
  · cases h
  · split at h
    · exact ⟨.inl rfl, fun _ => rfl⟩
    · exact ⟨.inr ⟨_, rfl⟩, fun h => by cases h⟩
    · cases h
 have h5 : (w || f) = true → ns = [] := fun hw => by
  cases ns with
  | nil => rfl
  | cons b r => simp [efB, hw] at h
 have h6 : nsB n0 s m ns = true := by
  cases hq : nsB n0 s m ns with
  | true => rfl
  | false => cases ns <;> cases hw : (w || f) <;> simp [efB, hq, hw] at h
 exact ⟨h4.1, hns h6, fun hf => ⟨h5 (by simp [hf]), h4.2 hf⟩, fun hw => h5 (by simp [hw])⟩
structure CG' (E : Env) (ops : List Oper) (cls : List Nat) (s e : Nat) : Prop where
 le : e ≤ ops.length
 lt : ∀ i j, j ∈ depsOf ops i → j < i
 bit : ∀ i j, mB (cls.getD i 0) j = true → Bef ops i j
 dst : ∀ i j d, dstOf ops i = some d → dstOf ops j = some d → i = j
 one : cluB ops cls s e = true
theorem Bef.lt {i j : Nat} (hl : ∀ i j, j ∈ depsOf ops i → j < i) (h : Bef ops i j) : j < i := by
 have := h (List.range i) (fun k hk d hd => by rw [List.mem_range] at hk ⊢; exact Nat.lt_trans (hl _ _ hd) hk) (fun d hd => by rw [List.mem_range]; exact hl _ _ hd)
 simpa using this
theorem rdsB_ok {i k : Nat} (h : rdsB ops cls i k = true) {t j : Nat} (ht : t ∈ tmpsOf ops i) (hj : j < k) (hd : dstOf ops j = some t) : mB (cls.getD i 0) j = true := by
 simp only [rdsB, List.all_eq_true] at h
 have := inSeg_iff.1 (h t ht) j (Nat.zero_le j) hj
 rw [hd] at this
 simp only [Bool.or_eq_true, Bool.not_eq_true'] at this
 rcases this with h | h
 · exact absurd rfl (beq_ne h)
 · exact h
theorem CG'.ex (g : CG' E ops cls s e) {i : Nat} (h1 : s ≤ i) (h2 : i < e) : ∃ o d, ops[i]? = some o ∧ o.dst = some d ∧ dstOf ops i = some d ∧ clR o.op = true ∧ rdsB ops cls i e = true ∧ ∀ gi b, o.guard = some (gi, b) → gi < s ∧ mB (cls.getD i 0) gi = true := by
 have h := inSeg_iff.1 g.one i h1 h2
 simp only [Bool.and_eq_true] at h
 obtain ⟨⟨⟨q1, q2⟩, q3⟩, q4⟩ := h
 unfold isR at q1
 unfold gdE at q3
 cases ho : ops[i]? with
 | none => rw [ho] at q1; cases q1
 | some o =>
   rw [ho] at q1 q3
   have hd := q2
   unfold dstOf at hd
   rw [ho] at hd
   obtain ⟨d, hd⟩ := Option.isSome_iff_exists.1 hd
   refine ⟨o, d, rfl, hd, by unfold dstOf; rw [ho]; exact hd, isRo_cl q1, q4, fun gi b hg => ?_⟩
   simp only [hg, Bool.and_eq_true, Nat.blt_eq] at q3
   exact q3
theorem CG'.cons (g : CG' E ops cls s e) {i : Nat} {o : Oper} (h2 : i < e) (ho : ops[i]? = some o) : (ops.take e).drop i = o :: (ops.take e).drop (i + 1) := by
 have hlt : i < (ops.take e).length := by rw [List.length_take]; have := g.le; omega
 rw [List.drop_eq_getElem_cons hlt]
 congr 1
 rw [List.getElem_take]
 have := List.getElem?_eq_getElem (l := ops) (i := i) (by rw [List.length_take] at hlt; omega)
 rw [this] at ho
 exact Option.some.inj ho
theorem cl_facts (g : CG' E ops cls s e) : ∀ (m i : Nat) {sl : Slots} {h : Heap} {K : SK}, e - i = m → s ≤ i → i ≤ e → ClX E ops cls w s n0 ((ops.take e).drop i) i sl h (n0 + (i - s)) K →
 ∃ SL he t, K SL he (n0 + (e - s)) ∧ (∀ t, (∀ j, i ≤ j → j < e → dstOf ops j ≠ some t) → lk SL t = lk sl t) ∧ CF E ops cls w s n0 SL ((ops.take e).drop i) i h t he := by
 intro m
 induction m with
 | zero =>
   intro i sl h K hm hs hi hp
   have : i = e := by omega
   subst this
   have h0 : (ops.take i).drop i = [] := List.drop_eq_nil_of_le (by rw [List.length_take]; omega)
   rw [h0] at hp ⊢
   exact ⟨sl, h, [], hp, fun _ _ => rfl, rfl, rfl⟩
 | succ m ih =>
   intro i sl h K hm hs hi hp
   obtain ⟨o, d, ho, hd, hdo, hr, hrd, hgd⟩ := g.ex (i := i) hs (by omega)
   rw [g.cons (by omega) ho] at hp ⊢
   simp only [ClX, hd] at hp
   have hv0 : ∃ v ns ea, ClX E ops cls w s n0 ((ops.take e).drop (i + 1)) (i + 1) ((d, v) :: sl) (hE ns ea h (n0 + (i - s))) (n0 + (i - s) + 1) K ∧
    ((gdV ops o.guard sl = some true ∧ RdQ E sl (rsH n0 s (cls.getD i 0) h) (n0 + (i - s)) o v ns ea ∧ efB n0 s (cls.getD i 0) (floB ops cls i) w ns ea = true) ∨ (gdV ops o.guard sl = some false ∧ v = und ∧ ns = [] ∧ ea = .nil)) := by
    split at hp
    · rename_i hg
      obtain ⟨v, ns, ea, hk, hR⟩ := opQ_pf hp
      split at hk
      case h_2 => cases hk
      rename_i hef
      rw [app_iff] at hk
      have hkl : killE ea sl = sl := by
       rcases (efB_ok hef).1 with rfl | ⟨k, rfl⟩ <;> rfl
      rw [hkl] at hk
      exact ⟨v, ns, ea, hk, .inl ⟨hg, hR, hef⟩⟩
    · rename_i hg
      exact ⟨_, [], .nil, hp, .inr ⟨hg, rfl, rfl, rfl⟩⟩
    · cases hp
   obtain ⟨v, ns, ea, hk, hR⟩ := hv0
   rw [show n0 + (i - s) + 1 = n0 + (i + 1 - s) by omega] at hk
   obtain ⟨SL, he, t, k1, k2, k3⟩ := ih (i + 1) (by omega) (by omega) (by omega) hk
   have hdn : ∀ j, i + 1 ≤ j → j < e → dstOf ops j ≠ some d := fun j h1 h2 h3 => by
    have := g.dst i j _ hdo h3
    omega
   have hvd : lk SL d = v := by
    rw [k2 d hdn]
    simp [lk]
   have hout : ∀ t, (∀ j, i ≤ j → j < e → dstOf ops j ≠ some t) → lk SL t = lk sl t := by
    intro t ht
    rw [k2 t fun j h1 h2 => ht j (by omega) h2]
    simp only [lk]
    cases hb : Nat.beq d t with
    | true => exact absurd hdo (by rw [beq_of hb]; exact ht i (Nat.le_refl i) (by omega))
    | false => rfl
   have e1 : ∀ t ∈ tmpsO (opnds o.op), lk sl t = lk SL t := fun t ht => (hout t fun j' q1 q2 q3 => by
    have := (g.bit _ _ (rdsB_ok hrd (by unfold tmpsOf; rw [ho]; exact ht) q2 q3)).lt g.lt
    omega).symm
   have e2 : ∀ j' b d', o.guard = some (j', b) → dstOf ops j' = some d' → lk sl d' = lk SL d' := fun j' b d' q1 q2 => (hout d' fun j2 q3 q4 q5 => by
    have := g.dst _ _ _ q2 q5
    have := (hgd _ _ q1).1
    omega).symm
   refine ⟨SL, he, (ns, ea) :: t, k1, hout, d, ns, ea, t, rfl, hd, ?_, k3⟩
   rw [hvd]
   rcases hR with ⟨a1, a2, a3⟩ | ⟨a1, a2⟩
   · exact .inl ⟨by rw [← gdV_agree e2]; exact a1, a2.slots e1, a3⟩
   · exact .inr ⟨by rw [← gdV_agree e2]; exact a1, a2⟩
def nfT (s : Nat) (t : List (List Nat × EA)) (j : Nat) : List Nat := (t.getD (j - s) ([], .nil)).1
def efT (s : Nat) (t : List (List Nat × EA)) (j : Nat) : EA := (t.getD (j - s) ([], .nil)).2
def Fct' (E : Env) (ops : List Oper) (cls : List Nat) (w : Bool) (s n0 e : Nat) (SL : Slots) (H0 : Heap) (t : List (List Nat × EA)) (j : Nat) : Prop :=
 ∃ o d hj, ops[j]? = some o ∧ o.dst = some d ∧ J n0 s e (nfT s t) (efT s t) H0 (List.range j) hj ∧
  ((gdV ops o.guard SL = some true ∧ RdQ E SL (rsH n0 s (cls.getD j 0) hj) (n0 + (j - s)) o (lk SL d) (nfT s t j) (efT s t j) ∧ efB n0 s (cls.getD j 0) (floB ops cls j) w (nfT s t j) (efT s t j) = true) ∨ (gdV ops o.guard SL = some false ∧ lk SL d = und ∧ nfT s t j = [] ∧ efT s t j = .nil))
theorem cf_all (g : CG' E ops cls s e) {SL : Slots} {H0 he : Heap} {t0 : List (List Nat × EA)} : ∀ (m i : Nat) {h : Heap}, e - i = m → s ≤ i → i ≤ e → CF E ops cls w s n0 SL ((ops.take e).drop i) i h (t0.drop (i - s)) he → J n0 s e (nfT s t0) (efT s t0) H0 (List.range i) h →
 (∀ j, i ≤ j → j < e → Fct' E ops cls w s n0 e SL H0 t0 j) ∧ J n0 s e (nfT s t0) (efT s t0) H0 (List.range e) he := by
 intro m
 induction m with
 | zero =>
   intro i h hm hs hi hp j
   have : i = e := by omega
   subst this
   rw [List.drop_eq_nil_of_le (by rw [List.length_take]; omega)] at hp
   obtain ⟨_, rfl⟩ := hp
   exact ⟨fun j h1 h2 => by omega, j⟩
 | succ m ih =>
   intro i h hm hs hi hp jj
   obtain ⟨o, d, ho, hd, hdo, hr, hrd, hgd⟩ := g.ex (i := i) hs (by omega)
   rw [g.cons (by omega) ho] at hp
   obtain ⟨d', ns, ea, t', ht, hd', hR, hrest⟩ := hp
   rw [hd] at hd'; cases hd'
   have h0 : t0.getD (i - s) ([], .nil) = (ns, ea) := by
    have := congrArg List.head? ht
    rw [List.head?_drop] at this
    rw [List.getD_eq_getElem?_getD, this]
    rfl
   have hnf : nfT s t0 i = ns := by unfold nfT; rw [h0]
   have hef : efT s t0 i = ea := by unfold efT; rw [h0]
   have ht' : t0.drop (i + 1 - s) = t' := by
    have := congrArg List.tail ht
    rw [List.tail_drop] at this
    rw [show i + 1 - s = i - s + 1 by omega]; exact this
   have hst : J n0 s e (nfT s t0) (efT s t0) H0 (List.range (i + 1)) (hE ns ea h (n0 + (i - s))) := by
    have := jj.step (i := i) (by simp) hs (by omega) (by
     rw [hef]
     rcases hR with ⟨_, _, a3⟩ | ⟨_, _, _, a4⟩
     · exact (efB_ok a3).1
     · exact .inl a4) (fun b hb hn => by
     rw [hnf] at hb
     rcases hR with ⟨_, _, a3⟩ | ⟨_, _, a4, _⟩
     · have := (g.bit _ _ ((efB_ok a3).2.1 b hb hn)).lt g.lt
       exact ⟨by rw [List.mem_range]; exact this, by omega⟩
     · rw [a4] at hb; cases hb)
    rw [hnf, hef] at this
    exact this.congr fun j _ _ => by
     simp only [List.mem_cons, List.mem_range]
     omega
   obtain ⟨k1, k2⟩ := ih (i + 1) (by omega) (by omega) (by omega) (by rw [ht']; exact hrest) hst
   refine ⟨fun j h1 h2 => ?_, k2⟩
   by_cases ej : j = i
   · subst ej
     exact ⟨o, d, h, ho, hd, jj, by rw [hnf, hef]; exact hR⟩
   · exact k1 j (by omega) h2
end
open Go.RowKit (Below)
structure WlkOK (E : Env) (W : Wlk E) : Prop where
 qslots : ∀ {sl sl' : Slots} {h : Heap} {n : Nat} {o : Oper} {K : KE}, (∀ t ∈ tmpsO (opnds o.op), lk sl t = lk sl' t) → W.q sl h n o K → W.q sl' h n o K
 q : ∀ {c : Cx} {N : Nat} {S : Slots} {h : Heap} {n : Nat} {F : Nat → Prop} {a : Act} {w : World} {o : Oper} {K : KE}, c.E = E → (∀ d, o.dst = some d → d < N) → W.q S h n o K → F n → DenF c N S h F a w →
  ∃ v ns ea, K v ns ea ∧ ∀ (next : Act → World → Prop) (Q : Exit → Act → World → Prop), (∀ a' w', DenF c N (putS o.dst v (killE ea S)) (hE ns ea h n) (FE ea n F) a' w' → next a' w') → o.wpIn (FR c.ro) 0 c.E.P a w next Q
 st : ∀ {c : Cx} {N : Nat} {ops : Array Oper} {i : Nat} {o : Oper} {sl : Slots} {h : Heap} {n : Nat} {K : SK} {a : Act} {w : World} {next : Act → World → Prop} {Q : Exit → Act → World → Prop}, c.E = E → (∀ o ∈ ops.toList, ∀ d, o.dst = some d → d < N) → ops[i]? = some o → W.st ops.toList o sl h n K → Den c N sl h n a w →
  (∀ sl' h' n' a' w', K sl' h' n' → Den c N sl' h' n' a' w' → next a' w') → wpOpIn (FR c.ro) 0 c.E.P ops Q i next a w
theorem setl_none {all : List Oper} {K : Slots → Prop} : ∀ {l : List Oper} {sl : Slots}, gdsB l = false → setl all l sl K → K sl
 | [], sl, _, h => h
 | o :: r, sl, hg, h => by
   simp only [gdsB] at hg
   simp only [setl] at h
   split at hg
   · cases hg
   · rename_i e
     rw [e] at h
     exact setl_none hg h
theorem inhV_ok {c : Cx} {h : Heap} {F : Nat → Prop} {β : Beta} {Y : Nat → Prop} {w : World} (m : Mem c h F β Y w) {v : SV} (hv : inhV h v = true) : ∃ u, rel w (XX c.Z Y β h) v β u := by
 unfold inhV at hv
 split at hv
 · exact ⟨_, relP_int.2 rfl⟩
 · exact ⟨_, rel_bool.2 rfl⟩
 · exact ⟨.bool true, rel_of_relP rfl rfl⟩
 · exact ⟨.bool false, rel_of_relP rfl rfl⟩
 · rename_i s; exact ⟨.string ⟨s.toArray⟩, rel_of_relP rfl rfl⟩
 · exact ⟨.slice none 0 0, rel_of_relP rfl rfl⟩
 · exact ⟨.pointer none, rel_of_relP rfl rfl⟩
 · exact ⟨.nilFunc, rel_of_relP rfl rfl⟩
 · exact ⟨.nilIface, rel_of_relP rfl rfl⟩
 · exact ⟨.slice none 0 0, rel_mt.2 ⟨none, rfl⟩⟩
 · split at hv
   · rename_i e
     obtain ⟨l, hl, _⟩ := m.blk _ _ e
     exact ⟨_, rel_ptr.2 ⟨l, hl, rfl⟩⟩
   · cases hv
 · split at hv
   · rename_i e
     obtain ⟨l, hl, _⟩ := m.blk _ _ e
     exact ⟨_, rel_osl.2 ⟨l, some ⟨l.r, 0, none⟩, hl, rfl, fun _ => rfl⟩⟩
   · cases hv
 · cases hv
theorem inhA_ok {ops : List Oper} {sl : Slots} {h : Heap} : ∀ {l : List Nat}, inhA ops sl h l = true → ∀ p ∈ l, ∃ d, dstOf ops p = some d ∧ inhV h (lk sl d) = true
 | [], _, p, hp => by cases hp
 | q :: r, hi, p, hp => by
   simp only [inhA] at hi
   split at hi
   case h_2 => cases hi
   rename_i d hd
   split at hi
   case h_2 => cases hi
   rename_i hv
   rcases List.mem_cons.1 hp with rfl | hp
   · exact ⟨d, hd, hv⟩
   · exact inhA_ok hi p hp
def WtP (E : Env) (ops : List Oper) (S : Slots) (H : Heap) (n p : Nat) : Prop := ∃ o d, ops[p]? = some o ∧ o.dst = some d ∧ ((gdV ops o.guard S = some true ∧ RdQ E S H n o (lk S d) [] .nil) ∨ (gdV ops o.guard S = some false ∧ lk S d = und))
theorem agX_ok {E : Env} {ops : List Oper} {sl : Slots} {h : Heap} {n : Nat} {K : Prop} : ∀ {l : List Nat}, agX E ops sl h n l K → K ∧ ∀ p ∈ l, WtP E ops sl h n p
 | [], hk => ⟨hk, fun p hp => by cases hp⟩
 | q :: r, hk => by
   simp only [agX] at hk
   split at hk
   case h_2 => cases hk
   rename_i o ho
   split at hk
   case h_2 => cases hk
   rename_i d hd
   split at hk
   · rename_i hg
     obtain ⟨v, ns, ea, k1, k2⟩ := opQ_pf hk
     split at k1
     case h_2 => cases k1
     obtain ⟨rfl, k1⟩ := k1
     obtain ⟨g1, g2⟩ := agX_ok k1
     refine ⟨g1, fun p hp => ?_⟩
     rcases List.mem_cons.1 hp with rfl | hp
     · exact ⟨o, d, ho, hd, .inl ⟨hg, k2⟩⟩
     · exact g2 p hp
   · rename_i hg
     obtain ⟨hu, k1⟩ := hk
     obtain ⟨g1, g2⟩ := agX_ok k1
     refine ⟨g1, fun p hp => ?_⟩
     rcases List.mem_cons.1 hp with rfl | hp
     · exact ⟨o, d, ho, hd, .inr ⟨hg, hu⟩⟩
     · exact g2 p hp
   · cases hk
section
variable {c : Cx} {N : Nat} {W : Wlk c.E} {L0 : List Oper} {cls : List Nat} {K : SK}
structure RT (E : Env) (L0 : List Oper) (cls : List Nat) (N : Nat) : Prop where
 lt : ∀ i j, j ∈ depsOf L0 i → j < i
 bit : ∀ i j, mB (cls.getD i 0) j = true → Bef L0 i j
 dst : ∀ i j d, dstOf L0 i = some d → dstOf L0 j = some d → i = j
 dn : ∀ o ∈ L0, ∀ d, o.dst = some d → d < N
def PFL (E : Env) (L0 : List Oper) (cls : List Nat) (S : Slots) (H : Heap) (n s : Nat) (L : List Nat) : Prop :=
 ∀ p, p < s → p ∉ L → floB L0 cls p = true ∧ WtP E L0 S H n p
def Agr (L0 : List Oper) (s : Nat) (L : List Nat) (S' S : Slots) : Prop := ∀ t, (∀ j, j < s → dstOf L0 j = some t → j ∈ L) → lk S' t = lk S t
structure IB (c : Cx) (N : Nat) (W : Wlk c.E) (L0 : List Oper) (cls : List Nat) (K : SK) (r : List Nat) (s : Nat) (S : Slots) (H : Heap) (n : Nat) (L : List Nat) (a : Act) (w : World) : Prop where
 prt : prtB L0 cls r s = true
 fl : PFL c.E L0 cls S H n s L
 x : FlX c.E W L0 cls r s S H n K
 lt : ∀ j ∈ L, j < s
 den : ∃ S' h', DenF c N S' h' (fun b => n ≤ b) a w ∧ (∀ b, lkB h' b = lkB H b) ∧ Agr L0 s L S' S
def FD (n s e : Nat) (L : List Nat) (b : Nat) : Prop := n ≤ b ∧ ∀ j ∈ L, s ≤ j → j < e → b ≠ n + (j - s)
structure IC (c : Cx) (N : Nat) (W : Wlk c.E) (L0 : List Oper) (cls : List Nat) (K : SK) (e : Nat) (r : List Nat) (s : Nat) (S SL : Slots) (H he : Heap) (t : List (List Nat × EA)) (w' : Bool) (n : Nat) (L : List Nat) (a : Act) (w : World) : Prop where
 prt : prtB L0 cls r e = true
 g : CG' c.E L0 cls s e
 se : s ≤ e
 bnd : bndB L0 cls e = true
 fl : PFL c.E L0 cls S H n s L
 x : FlX c.E W L0 cls r e SL he (n + (e - s)) K
 out : ∀ t, (∀ j, s ≤ j → j < e → dstOf L0 j ≠ some t) → lk SL t = lk S t
 hot : (∃ j o, s ≤ j ∧ j < e ∧ L0[j]? = some o ∧ hotB o.op = true) → w' = true
 f : ∀ j, s ≤ j → j < e → Fct' c.E L0 cls w' s n e SL H t j
 j : J n s e (nfT s t) (efT s t) H (List.range e) he
 hH : ∀ b, n ≤ b → lkB H b = none
 lt : ∀ j ∈ L, j < e
 den : ∃ S' h', DenF c N S' h' (FD n s e L) a w ∧ J n s e (nfT s t) (efT s t) H L h' ∧ Agr L0 e L S' SL
def Clo (L0 : List Oper) (L : List Nat) : Prop := ∀ j ∈ L, ∀ d ∈ depsOf L0 j, d ∈ L
def Inv' (c : Cx) (N : Nat) (W : Wlk c.E) (L0 : List Oper) (cls : List Nat) (K : SK) (L : List Nat) (a : Act) (w : World) : Prop := Clo L0 L ∧ ((∃ r s S H n, IB c N W L0 cls K r s S H n L a w) ∨ ∃ e r s S SL H he t w' n, IC c N W L0 cls K e r s S SL H he t w' n L a w)
theorem gdBf_ok {i : Nat} {o : Oper} (h : gdBf cls i o = true) {g : Nat} {b : Bool} (e : o.guard = some (g, b)) : mB (cls.getD i 0) g = true := by
 unfold gdBf at h
 rw [e] at h
 exact h
theorem floB_ok {p : Nat} (h : floB L0 cls p = true) {o : Oper} (ho : L0[p]? = some o) : clR o.op = true ∧ flK o.op = true ∧ (∀ g b, o.guard = some (g, b) → mB (cls.getD p 0) g = true) ∧ rdsB L0 cls p L0.length = true := by
 unfold floB at h
 rw [ho] at h
 simp only [Bool.and_eq_true] at h
 exact ⟨isRo_cl h.1.1.1.1, h.1.1.1.2, fun g b e => gdBf_ok h.1.1.2 e, h.2⟩
theorem flK_cold {o : Op} (h : flK o = true) : hotB o = false := by
 cases o <;> first | rfl | simp [flK] at h
theorem agr_put {s : Nat} {L : List Nat} {S' S : Slots} {i d : Nat} (hi : dstOf L0 i = some d) (h : Agr L0 s L S' S) : Agr L0 s (i :: L) ((d, lk S d) :: S') S := by
 intro t ht
 simp only [lk]
 cases hb : Nat.beq d t with
 | true => rw [beq_of hb]
 | false =>
   refine h t fun j h1 h2 => ?_
   rcases List.mem_cons.1 (ht j h1 h2) with rfl | h3
   · rw [hi] at h2; cases h2; exact absurd rfl (beq_ne hb)
   · exact h3
theorem Clo.cons {L : List Nat} {i : Nat} (h : Clo L0 L) (hd : ∀ d ∈ depsOf L0 i, d ∈ L) : Clo L0 (i :: L) := by
 intro j hj d hdj
 rcases List.mem_cons.1 hj with rfl | hj
 · exact List.mem_cons_of_mem _ (hd d hdj)
 · exact List.mem_cons_of_mem _ (h j hj d hdj)
theorem fl_step (ok : EnvOK c.E) (T : RT c.E L0 cls N) {ops : Array Oper} (hops : ops.toList = L0) {S S' : Slots} {H h' : Heap} {n n' s e : Nat} {F : Nat → Prop} {L : List Nat} {p : Nat} (hcl : Clo L0 L) (hp : p < s) (hpL : p ∉ L) (hfl : PFL c.E L0 cls S H n s L) (hse : s ≤ e) (he : e ≤ L0.length)
 (hout : ∀ t, (∀ j, s ≤ j → j < e → dstOf L0 j ≠ some t) → ∀ (_ : ∀ j, j < e → dstOf L0 j = some t → j ∈ L), lk S' t = lk S t) (hm : HM H h') (hF : F n') {a : Act} {w : World} (hF2 : ∀ b, n' ≤ b → F b) (D : DenF c N S' h' F a w) (hdep : ∀ d ∈ depsOf L0 p, d ∈ L)
 {next : Act → World → Prop} {Q : Exit → Act → World → Prop} (hn : ∀ a' w' d, dstOf L0 p = some d → DenF c N ((d, lk S d) :: S') h' F a' w' → next a' w') : wpOpIn (FR c.ro) 0 c.E.P ops Q p next a w := by
 obtain ⟨hfb, o, d, ho, hd, hR⟩ := hfl p hp hpL
 obtain ⟨h1, h2, h3, h4⟩ := floB_ok hfb ho
 have ho' : ops[p]? = some o := by rw [← Array.getElem?_toList, hops]; exact ho
 unfold wpOpIn
 rw [ho']
 simp only
 have hgv : gdV L0 o.guard S' = gdV L0 o.guard S := gdV_agree fun gi b d' q1 q2 => by
  have hb := h3 _ _ q1
  have hlt := (T.bit _ _ hb).lt T.lt
  refine hout d' (fun j q3 q4 q5 => ?_) fun j q3 q4 => ?_
  · have := T.dst _ _ _ q2 q5
    omega
  · have := T.dst _ _ _ q2 q4
    subst this
    exact T.bit _ _ hb L hcl hdep
 have hdn := T.dn o (List.mem_of_getElem? ho)
 rcases hR with ⟨hg, hR⟩ | ⟨hg, hu⟩
 case inr =>
  rw [← hgv, ← hops] at hg
  rw [if_neg (by rw [gdV_wanted (by rw [hops]; exact T.dn) (D.less hF2) hg]; simp)]
  refine ⟨fun _ _ => trivial, hn _ _ d (by unfold dstOf; rw [ho]; exact hd) ?_⟩
  have := D.skip hdn
  rw [hd] at this
  rw [hu, hd]
  exact this
 rw [← hgv, ← hops] at hg
 rw [if_pos (gdV_wanted (by rw [hops]; exact T.dn) (D.less hF2) hg)]
 have hR2 : RdQ c.E S' h' n' o (lk S d) [] .nil := by
  refine RdQ.n h2 (RdQ.mono hm (fun hh => by rw [flK_cold h2] at hh; cases hh) h1 (hR.slots fun t ht => (hout t (fun j q1 q2 q3 => ?_) fun j q1 q2 => ?_).symm))
  · have := (T.bit _ _ (rdsB_ok h4 (by unfold tmpsOf; rw [ho]; exact ht) (by omega) q3)).lt T.lt
    omega
  · exact T.bit _ _ (rdsB_ok h4 (by unfold tmpsOf; rw [ho]; exact ht) (by omega) q2) L hcl hdep
 refine q_step ok (T.dn o (List.mem_of_getElem? ho)) hR2 hF D fun a' w' D' => hn a' w' d (by unfold dstOf; rw [ho]; exact hd) ?_
 rw [hd] at D'
 exact D'
end
open Go.RowKit (Below)
section
variable {c : Cx} {N : Nat}
theorem sem_step (ok : EnvOK c.E) {o : Oper} {cl : Call} {f : Operand} {g : FuncId} {caps : List SV} {S S' : Slots} {H : Heap} {n : Nat} {KK : SV → SK} {late : List Nat} (hop : o.op = .call cl) (hf : cl.callee = .value f) (hev : ∀ x ∈ opnds o.op, ev c.E S' x = ev c.E S x) (hg : ev c.E S f = .fn g caps) (hnt : noTup (cl.args.toList.map (ev c.E S)) = true)
 (hd : ∀ d, o.dst = some d → d < N) (hcall : SemCall c.E g (cl.args.toList.map (ev c.E S) ++ caps) (putS o.dst .any S) H n KK) (hP1 : ∀ t ∈ late, t < N ∧ inhV H (lk S t) = true ∧ o.dst ≠ some t) (hag : ∀ t, t ∉ late → o.dst ≠ some t → lk S' t = lk S t)
 {a : Act} {w : World} (D : Den c N S' H n a w) {next : Act → World → Prop} {Q : Exit → Act → World → Prop} (hn : ∀ r sl2 h2 n2 a' w', KK r sl2 h2 n2 → Den c N (putS o.dst r (anyD late sl2)) h2 n2 a' w' → next a' w') : o.wpIn (FR c.ro) 0 c.E.P a w next Q := by
 obtain ⟨β, Y, m, hs, hN, hdef⟩ := D
 have hch : ∃ gg : Nat → Value, ∀ t ∈ late, rel w (XX c.Z Y β H) (lk S t) β (gg t) := by
  have : ∀ t, ∃ u, t ∈ late → rel w (XX c.Z Y β H) (lk S t) β u := fun t => by
   by_cases hp : t ∈ late
   · obtain ⟨u, hu⟩ := inhV_ok m (hP1 t hp).2.1
     exact ⟨u, fun _ => hu⟩
   · exact ⟨undef, fun h => absurd h hp⟩
  exact ⟨fun t => Classical.choose (this t), fun t => Classical.choose_spec (this t)⟩
 obtain ⟨gg, hgg⟩ := hch
 let a2 : Act := { a with tmps := a.tmps.mapIdx fun t v => if t ∈ late then gg t else v }
 have ha2s : a2.tmps.size = a.tmps.size := by simp [a2]
 have ha2 : ∀ t, t < a.tmps.size → a2.tmps.getD t undef = if t ∈ late then gg t else a.tmps.getD t undef := by
  intro t ht
  simp only [a2]
  rw [Array.getD_eq_getD_getElem?, Array.getElem?_mapIdx, Array.getElem?_eq_getElem ht]
  simp [Array.getD_eq_getD_getElem?, ht]
 have ha2o : ∀ t, ¬ t < a.tmps.size → a2.tmps.getD t undef = a.tmps.getD t undef := by
  intro t ht
  rw [Array.getD_eq_getD_getElem?, Array.getD_eq_getD_getElem?, Array.getElem?_eq_none (by omega), Array.getElem?_eq_none (by omega)]
 have hs2 : SlotsOK c (putS o.dst .any S) H β Y w a2 := by
  refine ⟨by rw [ha2s]; exact hs.1, fun t => ?_⟩
  rw [lk_put]
  by_cases e : o.dst = some t
  · rw [if_pos e]; exact rel_any
  · rw [if_neg e]
    by_cases hp : t ∈ late
    · have h1 := (hP1 t hp).1
      have h2 := hs.1
      unfold slotv
      rw [if_pos (by omega), ha2 t (by omega), if_pos hp]
      exact hgg t hp
    · rw [← hag t hp e]
      have h0 := hs.2 t
      unfold slotv at h0 ⊢
      split
      · rename_i hle
        rw [if_pos hle] at h0
        by_cases hts : t < a.tmps.size
        · rw [ha2 t hts, if_neg hp]; exact h0
        · rw [ha2o t hts]; exact h0
      · rename_i hle
        rw [if_neg hle] at h0; exact h0
 refine wp_in (by intro c e; rw [hop] at e; cases e) ?_
 unfold SemCall at hcall
 obtain ⟨⟨fn, hfn1, hbody, hname⟩, hcall⟩ := hcall
 rw [hop] at hev
 have hevf : ev c.E S' f = .fn g caps := by rw [hev f (by simp [opnds, hf]), hg]
 have heva : cl.args.toList.map (ev c.E S') = cl.args.toList.map (ev c.E S) := List.map_congr_left fun x hx => hev x (by simp only [opnds, List.mem_append]; exact .inr hx)
 have hfun := ev_ok m hs f
 rw [hevf] at hfun
 obtain ⟨us, hfu, hcaps⟩ := rel_fn.1 hfun
 rw [fnV_lo (ok.fsz _ _ hfn1)] at hfu
 have hargs := evL_ok (w := w) (X := XX c.Z Y β H) (β := β) (a := a) (E := c.E) (sl := S') cl.args.toList (fun x _ => ev_ok m hs x) (by rw [heva]; exact hnt)
 rw [heva] at hargs
 have hr : (execOp a.eval o).run c.E.P w = .ok (.enter g (cl.args.map a.eval ++ us)) w := by
  simp only [execOp, hop, resolve, hf, hfu, Deferred.ofValue, Sem.run_bind, Sem.run_pure, Result.andThen_ok, invoke, callFunc, run_program, hfn1]
  rw [if_neg (by rw [hname]; simp), if_neg (by simp [Option.isNone_iff_eq_none, Option.isSome_iff_ne_none.1 hbody])]
  simp
 unfold Oper.wp
 rw [hr]
 refine Calls.mono (hcall c a2 w β Y ((cl.args.map a.eval) ++ us) rfl m hs2 (by simpa using relL_append hargs hcaps)) ?_
 rintro e w' ⟨u, rfl, r, sl2, h2, n2, β', Y', hY, hagain, m', hs', hrel⟩
 have hd' : ∀ d', o.dst = some d' → d' < a.tmps.size := fun d' e => by rw [hN]; exact hd d' e
 refine hn r sl2 h2 n2 _ _ hagain ⟨β', Y', m', ⟨by rw [put_size']; exact hs.1, fun t => ?_⟩, by rw [put_size', hN], by rw [put_defers']; exact hdef.mono hY⟩
 rw [slotv_put _ _ _ _ hd' hs.1, lk_put]
 by_cases e : o.dst = some t
 · rw [if_pos e, if_pos e]; exact hrel
 · rw [if_neg e, if_neg e]
   by_cases hp : t ∈ late
   · rw [lk_anyD_in hp]; exact rel_any
   · rw [lk_anyD_out hp]
     have h0 := hs'.2 t
     unfold slotv at h0 ⊢
     split
     · rename_i hle
       rw [if_pos hle] at h0
       by_cases hts : t < a.tmps.size
       · rw [ha2 t hts, if_neg hp] at h0; exact h0
       · rw [ha2o t hts] at h0; exact h0
     · rename_i hle
       rw [if_neg hle] at h0; exact h0
theorem calK_iff {E : Env} {o : Oper} {S : Slots} {g : FuncId} {caps : List SV} {cl : Call} (h : calK E o S = some (g, caps, cl)) : ∃ f, o.op = .call cl ∧ cl.callee = .value f ∧ ev E S f = .fn g caps := by
 unfold calK at h
 split at h
 case h_2 => cases h
 rename_i cl' ho
 split at h
 · rename_i t hc
   split at h
   · rename_i g' caps' hl
     cases h
     exact ⟨_, ho, hc, hl⟩
   · cases h
 · rename_i g' hc
   split at h
   · rename_i e
     cases h
     exact ⟨_, ho, hc, by simp only [ev, e]⟩
   · cases h
 · cases h
variable {W : Wlk c.E} {L0 : List Oper} {cls : List Nat} {K : SK}
theorem gd_wanted {ops : Array Oper} (hd : ∀ o ∈ ops.toList, ∀ d, o.dst = some d → d < N) {o : Oper} {S : Slots} {h : Heap} {F : Nat → Prop} {a : Act} {w : World} (D : DenF c N S h F a w) {k : Nat} (hF : ∀ b, k ≤ b → F b) {b : Bool} (hg : gdV ops.toList o.guard S = some b) : Region.wanted o (yielded ops a.tmps) = b :=
 gdV_wanted hd (show Den c N S h k a w from D.less hF) hg
theorem IC.hm {e : Nat} {r : List Nat} {s : Nat} {S SL : Slots} {H he : Heap} {t : List (List Nat × EA)} {w' : Bool} {n : Nat} {L : List Nat} {a : Act} {w : World} (I : IC c N W L0 cls K e r s S SL H he t w' n L a w) {h' : Heap} {L' : List Nat} (j : J n s e (nfT s t) (efT s t) H L' h') : HM H h' := by
 refine ⟨fun b k hk => ?_⟩
 have hb : b < n := by
  refine Nat.lt_of_not_le fun hb => ?_
  rw [I.hH b hb] at hk; cases hk
 rw [j.at_ b]
 have : K0 n s e (efT s t) H L' b = some k := by unfold K0; rw [if_pos hb]; exact hk
 rw [this]
 split <;> simp [cold_cold]
theorem ic_step (ok : EnvOK c.E) (T : RT c.E L0 cls N) {ops : Array Oper} (hops : ops.toList = L0) {e : Nat} {r : List Nat} {s : Nat} {S SL : Slots} {H he : Heap} {t : List (List Nat × EA)} {w' : Bool} {n : Nat} {L : List Nat} {a : Act} {w : World} (hcl : Clo L0 L) (I : IC c N W L0 cls K e r s S SL H he t w' n L a w)
 {i : Nat} (hie : i < e) (hiL : i ∉ L) (hdep : ∀ d ∈ depsOf L0 i, d ∈ L) {Q : Exit → Act → World → Prop} : wpOpIn (FR c.ro) 0 c.E.P ops Q i (Inv' c N W L0 cls K (i :: L)) a w := by
 have hcl' := hcl.cons hdep
 obtain ⟨S', h', D, j, hag⟩ := I.den
 have hlt' : ∀ q ∈ i :: L, q < e := fun q hq => by
  rcases List.mem_cons.1 hq with rfl | hq
  · exact hie
  · exact I.lt q hq
 have hfl' : PFL c.E L0 cls S H n s (i :: L) := fun p hp hpL => I.fl p hp fun h => hpL (List.mem_cons_of_mem _ h)
 have hFk : ∀ b, n + (e - s) ≤ b → FD n s e L b := fun b hb => ⟨by omega, fun q _ h1 h2 => by omega⟩
 by_cases his : i < s
 · refine fl_step ok T hops hcl his hiL I.fl I.se I.g.le (fun t' h1 h2 => by rw [hag t' h2, I.out t' h1]) (I.hm j) (hFk _ (Nat.le_refl _)) hFk D hdep fun a1 w1 d hd D1 => ⟨hcl', .inr ⟨e, r, s, S, SL, H, he, t, w', n, { I with fl := hfl', lt := hlt', den := ⟨_, h', D1.less fun b hb => ⟨hb.1, fun q hq => hb.2 q (List.mem_cons_of_mem _ hq)⟩, j.congr fun q h1 h2 => ?_, ?_⟩ }⟩⟩
   · simp only [List.mem_cons]
     exact ⟨.inr, fun h => h.resolve_left (by omega)⟩
   · have : lk S d = lk SL d := (I.out d fun q h1 h2 h3 => by have := T.dst _ _ _ hd h3; omega).symm
     rw [this]
     exact agr_put hd hag
 · have hsi : s ≤ i := by omega
   obtain ⟨o, d, hj, ho, hd, jj, hR⟩ := I.f i hsi hie
   obtain ⟨o2, d2, q1, q2, hdo, hr, hrd, hgd⟩ := I.g.ex hsi hie
   rw [ho] at q1; cases q1
   rw [hd] at q2; cases q2
   have hbit : ∀ q, mB (cls.getD i 0) q = true → q ∈ L := fun q hq => T.bit _ _ hq L hcl hdep
   have ho' : ops[i]? = some o := by rw [← Array.getElem?_toList, hops]; exact ho
   have hslots : ∀ t' ∈ tmpsO (opnds o.op), lk SL t' = lk S' t' := fun t' ht => (hag t' fun q q1 q2 => hbit q (rdsB_ok hrd (by unfold tmpsOf; rw [ho]; exact ht) q1 q2)).symm
   have hgv : gdV L0 o.guard SL = gdV L0 o.guard S' := gdV_agree fun gi b d' h1 h2 => (hag d' fun q q1 q2 => by
    have := T.dst _ _ _ h2 q2
    subst this
    exact hbit _ (hgd _ _ h1).2).symm
   have hstep : ∀ {v : SV} {ea : EA} {ns : List Nat}, ns = nfT s t i → ea = efT s t i → (ea = .nil ∨ ∃ k, ea = .new k) → (∀ b ∈ ns, n ≤ b → mB (cls.getD i 0) (s + (b - n)) = true) → v = lk SL d → ∀ a1 w1, DenF c N (putS o.dst v (killE ea S')) (hE ns ea h' (n + (i - s))) (FE ea (n + (i - s)) (FD n s e L)) a1 w1 → Inv' c N W L0 cls K (i :: L) a1 w1 := by
    intro v ea ns hns hea hk hnm hv a1 w1 D1
    subst hns; subst hea; subst hv
    have hkl : killE (efT s t i) S' = S' := by
     rcases hk with h | ⟨k, h⟩ <;> rw [h] <;> rfl
    rw [hkl, hd] at D1
    refine ⟨hcl', .inr ⟨e, r, s, S, SL, H, he, t, w', n, { I with fl := hfl', lt := hlt', den := ⟨_, _, D1.less fun b hb => ?_, j.step hiL hsi hie hk fun b hb hnb => ?_, agr_put hdo hag⟩ }⟩⟩
    · have hb1 : FD n s e L b := ⟨hb.1, fun q hq => hb.2 q (List.mem_cons_of_mem _ hq)⟩
      rcases hk with h | ⟨k, h⟩ <;> rw [h]
      · exact hb1
      · exact ⟨hb1, hb.2 i (by simp) hsi hie⟩
    · have h1 := hbit _ (hnm b hb hnb)
      have h2 := I.lt _ h1
      exact ⟨h1, by omega⟩
   unfold wpOpIn
   rw [ho']
   simp only
   rcases hR with ⟨a1, a2, a3⟩ | ⟨a1, a2, a3, a4⟩
   · rw [hgv, ← hops] at a1
     rw [if_pos (gd_wanted (by rw [hops]; exact T.dn) D hFk a1)]
     obtain ⟨f1, f2, f3, f4⟩ := efB_ok a3
     obtain ⟨m1, m2⟩ := jj.mono (m := cls.getD i 0) j fun q _ _ hq => hbit q hq
     have hnil : w' = true → ∀ q, s ≤ q → q < e → nfT s t q = [] := by
      intro hw q h1 h2
      obtain ⟨_, _, _, _, _, _, hq⟩ := I.f q h1 h2
      rcases hq with ⟨_, _, g3⟩ | ⟨_, _, g3, _⟩
      · exact (efB_ok g3).2.2.2 hw
      · exact g3
     have hR2 := ((a2.slots hslots).mono m1 (fun hh => m2 (hnil (I.hot ⟨i, o, hsi, hie, ho, hh⟩))) hr)
     refine q_step ok (T.dn o (List.mem_of_getElem? ho)) hR2 ⟨by omega, fun q hq h1 h2 h3 => ?_⟩ D fun a1 w1 D1 => hstep rfl rfl f1 f2 rfl a1 w1 D1
     have : q = i := by omega
     subst this
     exact hiL hq
   · rw [hgv, ← hops] at a1
     rw [if_neg (by rw [gd_wanted (by rw [hops]; exact T.dn) D hFk a1]; simp)]
     refine ⟨fun _ _ => trivial, hstep (v := und) (ea := .nil) (ns := []) a3.symm a4.symm (.inl rfl) (fun b hb => by cases hb) a2.symm _ _ ?_⟩
     exact D.skip (T.dn o (List.mem_of_getElem? ho))
theorem ic_conv (T : RT c.E L0 cls N) {e : Nat} {r : List Nat} {s : Nat} {S SL : Slots} {H he : Heap} {t : List (List Nat × EA)} {w' : Bool} {n : Nat} {L : List Nat} {a : Act} {w : World} (I : IC c N W L0 cls K e r s S SL H he t w' n L a w) (hfb : ∀ p, p < e → p ∉ L → floB L0 cls p = true) : IB c N W L0 cls K r e SL he (n + (e - s)) L a w := by
 obtain ⟨S', h', D, j, hag⟩ := I.den
 have hHhe : HM H he := I.hm I.j
 have hsame : ∀ b, lkB h' b = lkB he b := by
  refine J.same (L := L) j (I.j) (fun q _ h2 _ => by rw [List.mem_range]; exact h2) fun q h1 h2 _ hq => ?_
  obtain ⟨o, d, hj, ho, hd, _, hR⟩ := I.f q h1 h2
  rcases hR with ⟨_, _, g3⟩ | ⟨_, _, g3, g4⟩
  · exact (efB_ok g3).2.2.1 (hfb q h2 hq)
  · exact ⟨g3, g4⟩
 refine ⟨I.prt, fun p hp hpL => ⟨hfb p hp hpL, ?_⟩, I.x, I.lt, S', h', D.less fun b hb => ⟨by omega, fun q _ h1 h2 => by omega⟩, hsame, hag⟩
 by_cases hps : p < s
 · obtain ⟨hb, o, d, ho, hd, hR⟩ := I.fl p hps hpL
   obtain ⟨h1, h2, h3, h4⟩ := floB_ok hb ho
   refine ⟨o, d, ho, hd, ?_⟩
   have hgv : gdV L0 o.guard SL = gdV L0 o.guard S := gdV_agree fun gi b d' q1 q2 => I.out d' fun q g1 g2 g3 => by
    have := T.dst _ _ _ q2 g3
    have := (T.bit _ _ (h3 _ _ q1)).lt T.lt
    omega
   have hdS : lk SL d = lk S d := I.out d fun q g1 g2 g3 => by
    have := T.dst _ _ _ (show dstOf L0 p = some d by unfold dstOf; rw [ho]; exact hd) g3
    omega
   rw [hdS, hgv]
   refine hR.imp (fun hR => ⟨hR.1, ?_⟩) id
   have hR := hR.2
   refine RdQ.n h2 (RdQ.mono hHhe (fun hh => by rw [flK_cold h2] at hh; cases hh) h1 (hR.slots fun t' ht => (I.out t' fun q g1 g2 g3 => ?_).symm))
   have := (T.bit _ _ (rdsB_ok h4 (by unfold tmpsOf; rw [ho]; exact ht) (by have := I.g.le; omega) g3)).lt T.lt
   omega
 · obtain ⟨o, d, hj, ho, hd, jj, hR⟩ := I.f p (by omega) hp
   obtain ⟨h1, h2, h3, h4⟩ := floB_ok (hfb p hp hpL) ho
   refine ⟨o, d, ho, hd, ?_⟩
   rcases hR with ⟨g1, g2, g3⟩ | ⟨g1, g2, _⟩
   · obtain ⟨f1, f2⟩ := (efB_ok g3).2.2.1 (hfb p hp hpL)
     rw [f1, f2] at g2
     obtain ⟨m1, _⟩ := jj.mono (m := cls.getD p 0) I.j fun q _ h2 _ => by rw [List.mem_range]; exact h2
     exact .inl ⟨g1, RdQ.n h2 (g2.mono m1 (fun hh => by rw [flK_cold h2] at hh; cases hh) h1)⟩
   · exact .inr ⟨g1, g2⟩
end
open Go.RowKit (Below)
section
variable {c : Cx} {N : Nat} {W : Wlk c.E} {L0 : List Oper} {cls : List Nat} {K : SK}
theorem prtB_cons {e : Nat} {r : List Nat} {s : Nat} (h : prtB L0 cls (e :: r) s = true) : s < e ∧ e ≤ L0.length ∧ bndB L0 cls e = true ∧ prtB L0 cls r e = true ∧ (isR L0 s = true → cluB L0 cls s e = true ∧ (gdsB ((L0.take e).drop s) = false ∨ noFl L0 cls s = true)) ∧
 (isR L0 s = false → e = s + 1 ∧ (flL L0 cls s = [] ∨ rdsB L0 cls s s = true ∧ ∃ o, L0[s]? = some o ∧ gdBf cls s o = true)) := by
 simp only [prtB] at h
 split at h
 case h_2 => cases h
 rename_i q1 q2 q3
 rw [Nat.blt_eq] at q1
 rw [Nat.ble_eq] at q2
 refine ⟨q1, q2, q3, ?_⟩
 split at h
 · rename_i q4
   split at h
   case h_2 => cases h
   rename_i q5
   simp only [Bool.and_eq_true, Bool.or_eq_true, Bool.not_eq_true'] at q5
   exact ⟨h, fun _ => q5, fun h2 => by rw [q4] at h2; cases h2⟩
 · rename_i q4
   split at h
   case h_2 => cases h
   rename_i q5
   have q5 := beq_of q5
   split at h
   · rename_i q6
     exact ⟨h, (fun h2 => by rw [q4] at h2; cases h2), fun _ => ⟨q5, .inl q6⟩⟩
   · split at h
     case h_2 => cases h
     rename_i q7
     simp only [Bool.and_eq_true] at q7
     refine ⟨h, (fun h2 => by rw [q4] at h2; cases h2), fun _ => ⟨q5, .inr ⟨q7.1, ?_⟩⟩⟩
     have := q7.2
     split at this
     · rename_i o ho
       exact ⟨o, ho, this⟩
     · cases this
theorem bndB_ok {e : Nat} (h : bndB L0 cls e = true) {i p : Nat} (hp : p < e) (hi : e ≤ i) (hil : i < L0.length) (hm : mB (cls.getD i 0) p ≠ true) : floB L0 cls p = true := by
 simp only [bndB, List.all_eq_true, List.mem_range, Bool.or_eq_true] at h
 rcases h p hp with h | h
 · exact h
 · exact absurd (inSeg_iff.1 h i hi hil) hm
theorem ib_step (ok : EnvOK c.E) (wk : WlkOK c.E W) (T : RT c.E L0 cls N) {ops : Array Oper} (hops : ops.toList = L0) {Q : Exit → Act → World → Prop} : ∀ (r : List Nat) {s : Nat} {S : Slots} {H : Heap} {n : Nat} {L : List Nat} {a : Act} {w : World}, Clo L0 L → IB c N W L0 cls K r s S H n L a w →
 (∀ i, s ≤ i → i < L0.length → (∀ d ∈ depsOf L0 i, d ∈ L) → ∀ p, p < s → p ∉ L → floB L0 cls p = true) → ∀ {i : Nat}, i < L0.length → i ∉ L → (∀ d ∈ depsOf L0 i, d ∈ L) → wpOpIn (FR c.ro) 0 c.E.P ops Q i (Inv' c N W L0 cls K (i :: L)) a w := by
 intro r
 induction r with
 | nil =>
   intro s S H n L a w hcl I hbn i hil hiL hdep
   have hs := I.prt
   simp only [prtB] at hs
   have hs := beq_of hs
   obtain ⟨S', h', D, hsame, hag⟩ := I.den
   have hfl' : PFL c.E L0 cls S H n s (i :: L) := fun p hp hpL => I.fl p hp fun h => hpL (List.mem_cons_of_mem _ h)
   refine fl_step ok T hops (s := s) (e := s) (n' := n) hcl (by omega) hiL I.fl (Nat.le_refl _) (by omega) (fun t' _ h2 => hag t' h2) ⟨fun b k hk => by rw [hsame, hk]; rfl⟩ (Nat.le_refl _) (fun _ h => h) D hdep fun a1 w1 d hd D1 => ⟨hcl.cons hdep, .inl ⟨[], s, S, H, n, { I with fl := hfl', lt := fun q hq => ?_, den := ⟨_, h', D1, hsame, agr_put hd hag⟩ }⟩⟩
   rcases List.mem_cons.1 hq with rfl | hq
   · omega
   · exact I.lt q hq
 | cons e r ih =>
   intro s S H n L a w hcl I hbn i hil hiL hdep
   obtain ⟨hse, hel, hbd, hprt, hclu, hsing⟩ := prtB_cons I.prt
   obtain ⟨S', h', D, hsame, hag⟩ := I.den
   have hbit : ∀ q, mB (cls.getD i 0) q = true → q ∈ L := fun q hq => T.bit _ _ hq L hcl hdep
   by_cases his : i < s
   · have hfl' : PFL c.E L0 cls S H n s (i :: L) := fun p hp hpL => I.fl p hp fun h => hpL (List.mem_cons_of_mem _ h)
     refine fl_step ok T hops (s := s) (e := s) (n' := n) hcl his hiL I.fl (Nat.le_refl _) (by omega) (fun t' _ h2 => hag t' h2) ⟨fun b k hk => by rw [hsame, hk]; rfl⟩ (Nat.le_refl _) (fun _ h => h) D hdep fun a1 w1 d hd D1 => ⟨hcl.cons hdep, .inl ⟨e :: r, s, S, H, n, { I with fl := hfl', lt := fun q hq => ?_, den := ⟨_, h', D1, hsame, agr_put hd hag⟩ }⟩⟩
     rcases List.mem_cons.1 hq with rfl | hq
     · omega
     · exact I.lt q hq
   · have hsi : s ≤ i := by omega
     have hx := I.x
     simp only [FlX] at hx
     cases hR : isR L0 s with
     | true =>
       rw [hR] at hx
       simp only at hx
       obtain ⟨hc1, hc2⟩ := hclu hR
       have g : CG' c.E L0 cls s e := ⟨hel, T.lt, T.bit, T.dst, hc1⟩
       have hset : ∃ S2 S2', DenF c N S2' h' (fun b => n ≤ b) a w ∧ Agr L0 s L S2' S2 ∧ PFL c.E L0 cls S2 H n s L ∧ ClX c.E L0 cls (hotL ((L0.take e).drop s)) s n ((L0.take e).drop s) s S2 H n fun sl h n => FlX c.E W L0 cls r e sl h n K := by
        rcases hc2 with hg | hg
        · exact ⟨S, S', D, hag, I.fl, setl_none hg hx⟩
        · have hall : ∀ p, p < s → p ∈ L := fun p hp => by
           simp only [noFl, List.all_eq_true, List.mem_range] at hg
           exact hbit p (inSeg_iff.1 (hg p hp) i hsi hil)
          have D2 : Den c N S H n a w := (D.congr hsame).fewer fun t => .inr (hag t fun q q1 _ => hall q q1).symm
          rw [← hops] at hx
          obtain ⟨S2, D3, hx⟩ := setl_sound (by rw [hops]; exact T.dn) hx D2
          rw [hops] at hx
          exact ⟨S2, S2, DenF.congr (fun b => (hsame b).symm) D3, fun _ _ => rfl, fun p hp hpL => absurd (hall p hp) hpL, hx⟩
       obtain ⟨S2, S2', D2, hag2, hfl2, hx⟩ := hset
       have hn0 : n = n + (s - s) := by omega
       obtain ⟨SL, he, t, k1, k2, k3⟩ := cl_facts g (e - s) s rfl (Nat.le_refl s) (Nat.le_of_lt hse) (by rw [Nat.sub_self, Nat.add_zero]; exact hx)
       have hH : ∀ b, n ≤ b → lkB H b = none := fun b hb => by rw [← hsame]; exact D2.none hb
       obtain ⟨k4, k5⟩ := cf_all g (e - s) s rfl (Nat.le_refl s) (Nat.le_of_lt hse) (t0 := t) (by rw [Nat.sub_self]; exact k3) (J.nil hH fun q hq h1 h2 => by rw [List.mem_range] at hq; omega)
       have hcl0 : ∀ q ∈ L, s ≤ q → q < e → False := fun q hq h1 _ => by have := I.lt q hq; omega
       have hotf : ∀ {l : List Oper} {o : Oper}, o ∈ l → hotB o.op = true → hotL l = true := by
        intro l
        induction l with
        | nil => intro o ho; cases ho
        | cons x y ihh =>
          intro o ho hh
          simp only [hotL]
          split
          · rfl
          · rename_i hx0
            rcases List.mem_cons.1 ho with rfl | ho
            · rw [hh] at hx0; cases hx0
            · exact ihh ho hh
       have IC0 : IC c N W L0 cls K e r s S2 SL H he t (hotL ((L0.take e).drop s)) n L a w := by
        refine ⟨hprt, g, Nat.le_of_lt hse, hbd, hfl2, k1, k2, ?_, k4, k5, hH, fun q hq => Nat.lt_trans (I.lt q hq) hse, S2', h', D2.less fun b hb => hb.1, ?_, fun t' ht => ?_⟩
        · rintro ⟨q, o, h1, h2, h3, h4⟩
          refine hotf (o := o) ?_ h4
          refine List.mem_of_getElem? (i := q - s) ?_
          rw [List.getElem?_drop, List.getElem?_take, if_pos (by omega), show s + (q - s) = q by omega]
          exact h3
        · have := J.nil (nf := nfT s t) (ef := efT s t) hH hcl0
          exact ⟨fun b => by rw [hsame]; exact this.at_ b, this.nm⟩
        · rw [k2 t' fun q h1 h2 h3 => hcl0 q (ht q h2 h3) h1 h2]
          exact hag2 t' fun q h1 h2 => ht q (by omega) h2
       by_cases hie : i < e
       · exact ic_step ok T hops hcl IC0 hie hiL hdep
       · refine ih hcl (ic_conv T IC0 fun p hp hpL => bndB_ok hbd hp (by omega) hil fun hm => hpL (hbit p hm)) (fun i' h1 h2 h3 p hp hpL => bndB_ok hbd hp h1 h2 fun hm => hpL (T.bit _ _ hm L hcl h3)) hil hiL hdep
     | false =>
       rw [hR] at hx
       simp only at hx
       obtain ⟨rfl, hst⟩ := hsing hR
       by_cases hie : s < i
       · -- the one alone has to be done before
         exfalso
         have : floB L0 cls s = true := bndB_ok hbd (by omega) (by omega) hil fun hm => by
          have := I.lt s (hbit s hm)
          omega
         have h1 : isR L0 s = true := by
          unfold floB at this
          unfold isR
          cases ho : L0[s]? with
          | none => rw [ho] at this; cases this
          | some o =>
            rw [ho] at this
            simp only [Bool.and_eq_true] at this
            exact this.1.1.1.1
         rw [hR] at h1; cases h1
       have : i = s := by omega
       subst this
       split at hx
       · cases hx
       rename_i o ho
       have ho' : ops[i]? = some o := by rw [← Array.getElem?_toList, hops]; exact ho
       have hcl' := hcl.cons hdep
       have hlt' : ∀ q ∈ i :: L, q < i + 1 := fun q hq => by
        rcases List.mem_cons.1 hq with rfl | hq
        · omega
        · have := I.lt q hq; omega
       split at hx
       · rename_i hfl
         have hall : ∀ p, p < i → p ∈ L := fun p hp => by
          refine hbit p ?_
          cases hm : mB (cls.getD i 0) p with
          | true => rfl
          | false =>
            have : p ∈ flL L0 cls i := by
             simp only [flL, List.mem_filter, List.mem_range, hm, hp, Bool.not_false, and_self]
            rw [hfl] at this; cases this
         have D2 : Den c N S H n a w := (D.congr hsame).fewer fun t => .inr (hag t fun q q1 _ => hall q q1).symm
         rw [← hops] at hx
         refine wk.st rfl (by rw [hops]; exact T.dn) ho' hx D2 fun sl2 h2 n2 a2 w2 k1 k2 => ⟨hcl', .inl ⟨r, i + 1, sl2, h2, n2, hprt, fun p hp hpL => ?_, by rw [hops] at k1; exact k1, hlt', sl2, h2, k2, fun _ => rfl, fun _ _ => rfl⟩⟩
         exfalso
         rcases Nat.lt_succ_iff_lt_or_eq.1 hp with h | h
         · exact hpL (List.mem_cons_of_mem _ (hall p h))
         · exact hpL (by rw [h]; simp)
       · rename_i p0 ps hfl
         rw [hfl] at hst
         obtain ⟨hrd, o2, ho2, hg⟩ := hst.resolve_left (by simp)
         rw [ho] at ho2; cases ho2
         have hdn := T.dn o (List.mem_of_getElem? ho)
         have hopd : ∀ t ∈ tmpsO (opnds o.op), lk S' t = lk S t := fun t ht => hag t fun q q1 q2 => hbit q (rdsB_ok hrd (by unfold tmpsOf; rw [ho]; exact ht) q1 q2)
         have hmemfl : ∀ p, p < i → p ∉ L → p ∈ p0 :: ps := fun p hp hpL => by
          rw [← hfl]
          simp only [flL, List.mem_filter, List.mem_range]
          refine ⟨hp, ?_⟩
          cases hm : mB (cls.getD i 0) p with
          | true => exact absurd (hbit p hm) hpL
          | false => rfl
         have hbfl : ∀ p, p < i + 1 → p ∉ i :: L → p < i ∧ p ∉ L := fun p hp hpL => by
          simp only [List.mem_cons, not_or] at hpL
          exact ⟨by omega, hpL.2⟩
         have mk : ∀ {S2 : Slots} {h2 : Heap} {n2 : Nat}, agX c.E L0 S2 h2 n2 (p0 :: ps) (FlX c.E W L0 cls r (i + 1) S2 h2 n2 K) → PFL c.E L0 cls S2 h2 n2 (i + 1) (i :: L) ∧ FlX c.E W L0 cls r (i + 1) S2 h2 n2 K := by
          intro S2 h2 n2 hk
          obtain ⟨g1, g2⟩ := agX_ok hk
          refine ⟨fun p hp hpL => ?_, g1⟩
          obtain ⟨q1, q2⟩ := hbfl p hp hpL
          exact ⟨(I.fl p q1 q2).1, g2 p (hmemfl p q1 q2)⟩
         have D2 : DenF c N S' H (fun b => n ≤ b) a w := D.congr hsame
         have hgv : gdV L0 o.guard S = gdV L0 o.guard S' := gdV_agree fun gi b d' q1 q2 => (hag d' fun q g1 g2 => by
          have := T.dst _ _ _ q2 g2
          subst this
          exact hbit _ (gdBf_ok hg q1)).symm
         unfold wpOpIn
         rw [ho']
         simp only
         unfold sgX at hx
         split at hx
         case h_3 => cases hx
         case h_2 =>
          rename_i hgf
          rw [hgv, ← hops] at hgf
          rw [if_neg (by rw [gd_wanted (by rw [hops]; exact T.dn) D2 (fun _ h => h) hgf]; simp)]
          obtain ⟨g1, g2⟩ := mk hx
          refine ⟨fun _ _ => trivial, hcl', .inl ⟨r, i + 1, _, H, n, hprt, g1, g2, hlt', putS o.dst und S', H, D2.skip hdn, fun _ => rfl, fun t ht => ?_⟩⟩
          rw [lk_put, lk_put]
          by_cases e1 : o.dst = some t
          · rw [if_pos e1, if_pos e1]
          · rw [if_neg e1, if_neg e1]
            refine hag t fun q q1 q2 => ?_
            rcases List.mem_cons.1 (ht q (by omega) q2) with h | h
            · omega
            · exact h
         rename_i hgt
         rw [hgv, ← hops] at hgt
         rw [if_pos (gd_wanted (by rw [hops]; exact T.dn) D2 (fun _ h => h) hgt)]
         unfold sgO at hx
         split at hx
         · rename_i g caps cl hck
           obtain ⟨f, hop, hcf, hgf⟩ := calK_iff hck
           split at hx
           case h_2 => cases hx
           rename_i hinh
           rw [frcL_eq] at hx
           split at hx
           case h_2 => cases hx
           rename_i hnt
           let late : List Nat := (List.range i).filterMap fun q => if q ∈ L then none else dstOf L0 q
           have hlate : ∀ t, t ∈ late ↔ ∃ q, q < i ∧ q ∉ L ∧ dstOf L0 q = some t := by
            intro t
            simp only [late, List.mem_filterMap, List.mem_range]
            constructor
            · rintro ⟨q, h1, h2⟩
              split at h2
              · cases h2
              · rename_i h3; exact ⟨q, h1, h3, h2⟩
            · rintro ⟨q, h1, h2, h3⟩
              exact ⟨q, h1, by rw [if_neg h2]; exact h3⟩
           have hdst : ∀ t ∈ late, o.dst ≠ some t := fun t ht e => by
            obtain ⟨q, h1, h2, h3⟩ := (hlate t).1 ht
            have := T.dst q i t h3 (by unfold dstOf; rw [ho]; exact e)
            omega
           have hP1 : ∀ t ∈ late, t < N ∧ inhV H (lk S t) = true ∧ o.dst ≠ some t := fun t ht => by
            obtain ⟨q, h1, h2, h3⟩ := (hlate t).1 ht
            obtain ⟨d, h4, h5⟩ := inhA_ok hinh q (hmemfl q h1 h2)
            rw [h3] at h4; cases h4
            refine ⟨?_, h5, hdst t ht⟩
            unfold dstOf at h3
            split at h3
            · rename_i oq hoq
              exact T.dn oq (List.mem_of_getElem? hoq) t h3
            · cases h3
           have hagl : ∀ t, t ∉ late → o.dst ≠ some t → lk S' t = lk S t := fun t ht _ => hag t fun q q1 q2 => by
            refine Classical.byContradiction fun hn => ht ((hlate t).2 ⟨q, q1, hn, q2⟩)
           have hcall : SemCall c.E g (cl.args.toList.map (ev c.E S) ++ caps) (putS o.dst .any S) H n fun r' sl2 h2 n2 => agX c.E L0 (putS o.dst r' sl2) h2 n2 (p0 :: ps) (FlX c.E W L0 cls r (i + 1) (putS o.dst r' sl2) h2 n2 K) := by
            split at hx
            · rename_i d hd; rw [hd]; exact hx
            · rename_i hd; rw [hd]; exact hx
           refine sem_step ok hop hcf (fun x hx => (ev_tmps (fun t ht => (hopd t ht).symm) x hx).symm) hgf hnt hdn hcall hP1 hagl D2 fun r' sl2 h2 n2 a2 w2 k1 k2 => ?_
           obtain ⟨g1, g2⟩ := mk k1
           refine ⟨hcl', .inl ⟨r, i + 1, _, h2, n2, hprt, g1, g2, hlt', _, h2, k2, fun _ => rfl, fun t ht => ?_⟩⟩
           rw [lk_put, lk_put]
           by_cases e1 : o.dst = some t
           · rw [if_pos e1, if_pos e1]
           · rw [if_neg e1, if_neg e1]
             refine lk_anyD_out fun hp => ?_
             obtain ⟨q, h1, h2, h3⟩ := (hlate t).1 hp
             rcases List.mem_cons.1 (ht q (by omega) h3) with h | h
             · omega
             · exact h2 h
         · have hq := wk.qslots (fun t ht => (hopd t ht).symm) hx
           obtain ⟨v, ns, ea, k1, k2⟩ := wk.q rfl hdn hq (show (fun b => n ≤ b) n from Nat.le_refl n) D2
           rw [app_iff] at k1
           obtain ⟨g1, g2⟩ := mk k1
           refine k2 _ _ fun a1 w1 D1 => ⟨hcl', .inl ⟨r, i + 1, _, _, n + 1, hprt, g1, g2, hlt', _, _, D1.less fun b hb => ?_, fun _ => rfl, fun t ht => ?_⟩⟩
           · have hb : n + 1 ≤ b := hb
             cases ea <;> first | (exact (show n ≤ b by omega)) | exact ⟨by omega, by omega⟩
           · rw [lk_put, lk_put]
             by_cases e1 : o.dst = some t
             · rw [if_pos e1, if_pos e1]
             · rw [if_neg e1, if_neg e1, lk_killE, lk_killE, hag t fun q q1 q2 => ?_]
               rcases List.mem_cons.1 (ht q (by omega) q2) with h | h
               · omega
               · exact h
structure Asr (c : Cx) (N : Nat) (K : SK) (ops : Array Oper) (a0 : Act) (w0 : World) (A : List Nat → Act → World → Prop) : Prop where
 lt : ∀ (i : Nat) (o : Oper), ops[i]? = some o → ∀ e ∈ o.after.toList, Region.binds .any e = true → e.on < i
 a0 : A [] a0 { w0 with drawn := w0.drawn + 1 }
 st : ∀ (Q : Exit → Act → World → Prop) (L : List Nat) (i : Nat) (o : Oper) (a : Act) (w : World), A L a w → ops[i]? = some o → i ∉ L → (∀ e ∈ o.after.toList, Region.binds .any e = true → e.on ∈ L) → wpOpIn (FR c.ro) 0 c.E.P ops Q i (A (i :: L)) a w
 fin : ∀ L a w, A L a w → (∀ i, i < ops.size → i ∈ L) → ∃ sl' h' n', K sl' h' n' ∧ Den c N sl' h' n' a w
theorem fl_core (ok : EnvOK c.E) (wk : WlkOK c.E W) {ops : Array Oper} (hc : flB ops.toList = true) (hd : ∀ o ∈ ops.toList, ∀ d, o.dst = some d → d < N) {sl : Slots} {h : Heap} {n : Nat} (hK : FlX c.E W ops.toList (clsF ops.toList []) (prtF ops.toList (clsF ops.toList []) ops.toList.length 0) 0 sl h n K) {a : Act} {w : World} (D : Den c N sl h n a w) : ∃ A, Asr c N K ops a w A := by
 generalize hops : ops.toList = L0 at hc hK hd
 simp only [flB, Bool.and_eq_true] at hc
 obtain ⟨⟨hl, hds⟩, hp⟩ := hc
 generalize hcl : clsF L0 [] = cls at hK hp
 have T : RT c.E L0 cls N := by
  refine ⟨fun i j hj => ?_, fun i j h => ?_, fun i j d h1 h2 => ?_, hd⟩
  · rcases Nat.lt_or_ge i L0.length with hi | hi
    · simp only [ltB, List.all_eq_true, List.mem_range, Nat.blt_eq] at hl
      exact hl i hi j hj
    · unfold depsOf at hj
      rw [List.getElem?_eq_none hi] at hj
      cases hj
  · rw [← hcl] at h
    exact clsF_ok (k := 0) rfl (fun i o ho => by simpa using ho) (fun i j h => by rw [mB_eq] at h; simp at h) i j h
  · have hlen : ∀ {i d}, dstOf L0 i = some d → i < L0.length := fun {i d} h => by
     rcases Nat.lt_or_ge i L0.length with hi | hi
     · exact hi
     · unfold dstOf at h; rw [List.getElem?_eq_none hi] at h; cases h
    have := inSeg_iff.1 (inSeg_iff.1 hds i (Nat.zero_le _) (hlen h1)) j (Nat.zero_le _) (hlen h2)
    rw [h1, h2] at this
    simp only [Bool.or_eq_true, Bool.not_eq_true'] at this
    rcases this with h | h
    · exact beq_of h
    · exact absurd rfl (beq_ne h)
 have hget : ∀ (i : Nat) (o : Oper), ops[i]? = some o → L0[i]? = some o := fun i o ho => by rw [← hops, Array.getElem?_toList]; exact ho
 have hsize : ops.size = L0.length := by rw [← hops]; simp
 have hdepm : ∀ {i : Nat} {o : Oper} {L : List Nat}, L0[i]? = some o → (∀ e ∈ o.after.toList, Region.binds .any e = true → e.on ∈ L) → ∀ j ∈ depsOf L0 i, j ∈ L := by
  intro i o L ho hdep0 j hj
  unfold depsOf at hj
  rw [ho] at hj
  obtain ⟨e, h1, h2, rfl⟩ := depL_mem hj
  exact hdep0 e h1 h2
 refine ⟨fun L a w => Inv' c N W L0 cls K L a w, fun i o ho e he hb => ?_, ?_, ?_, ?_⟩
 · refine T.lt i e.on ?_
   unfold depsOf
   rw [hget i o ho]
   exact mem_depL he hb
 · exact ⟨fun j hj => (by cases hj), .inl ⟨_, 0, sl, h, n, hp, fun p hp => (by omega), hK, fun j hj => (by cases hj), sl, h, D.drew, fun _ => rfl, fun _ _ => rfl⟩⟩
 · rintro Q L i o a w ⟨hclo, hI⟩ ho hni hdep0
   have ho := hget i o ho
   have hdep := hdepm ho hdep0
   have hilt : i < L0.length := by
    rcases Nat.lt_or_ge i L0.length with h | h
    · exact h
    · rw [List.getElem?_eq_none h] at ho; cases ho
   rcases hI with ⟨r, s, S, H, n, I⟩ | ⟨e, r, s, S, SL, H, he, t, w', n, I⟩
   · exact ib_step ok wk T hops r hclo I (fun i _ _ _ p hp hpL => (I.fl p hp hpL).1) hilt hni hdep
   · by_cases hie : i < e
     · exact ic_step ok T hops hclo I hie hni hdep
     · have hb := fun (i' : Nat) (h1 : e ≤ i') (h2 : i' < L0.length) (h3 : ∀ d ∈ depsOf L0 i', d ∈ L) (p : Nat) (hp : p < e) (hpL : p ∉ L) => bndB_ok I.bnd hp h1 h2 fun hm => hpL (T.bit _ _ hm L hclo h3)
       exact ib_step ok wk T hops r hclo (ic_conv T I (hb i (by omega) hilt hdep)) hb hilt hni hdep
 · rintro L a w ⟨hclo, hI⟩ hall
   rw [hsize] at hall
   have fin : ∀ r s S H n, IB c N W L0 cls K r s S H n L a w → ∃ sl' h' n', K sl' h' n' ∧ Den c N sl' h' n' a w := by
    intro r s S H n I
    obtain ⟨S', h', D', hsame, hag⟩ := I.den
    have hx := I.x
    have hsl : s = L0.length := by
     have hp := I.prt
     cases r with
     | nil => simp only [prtB] at hp; exact beq_of hp
     | cons e r =>
       obtain ⟨h1, h2, _⟩ := prtB_cons hp
       have := I.lt s (hall s (by omega))
       omega
    cases r with
    | nil => exact ⟨_, _, _, hx, (D'.congr hsame).fewer fun t => .inr (hag t fun q q1 _ => hall q (by omega)).symm⟩
    | cons e r =>
      obtain ⟨h1, h2, _⟩ := prtB_cons I.prt
      omega
   rcases hI with ⟨r, s, S, H, n, I⟩ | ⟨e, r, s, S, SL, H, he, t, w', n, I⟩
   · exact fin _ _ _ _ _ I
   · exact fin _ _ _ _ _ (ic_conv T I fun p hp hpL => absurd (hall p (by have := I.g.le; omega)) hpL)
end
open Go.RowKit (Below)
def renE (pos : List Nat) (e : Edge) : Edge := { e with on := pos.getD e.on 0 }
def renO (pos : List Nat) (tg : Bool) (o : Oper) : Oper := { o with after := (match tg with | true => ({ on := 7777777, ground := .textOnly .mixedOrders } : Edge) :: o.after.toList.map (renE pos) | false => o.after.toList.map (renE pos)).toArray, guard := match o.guard with | none => none | some (j, b) => some (pos.getD j 0, b) }
theorem ren_wp {pos : List Nat} {tg : Bool} {o : Oper} {F : Fence} {n : Nat} {P : Program} {a : Act} {w : World} {next : Act → World → Prop} {Q : Exit → Act → World → Prop} (h : (renO pos tg o).wpIn F n P a w next Q) : o.wpIn F n P a w next Q := h
structure PmOK (ops : Array Oper) (m : Nat) (ops' : Array Oper) (pos : List Nat) : Prop where
 le : m ≤ ops.size
 size : ops'.size = m
 lt' : ∀ i, i < m → pos.getD i 0 < m
 inj : ∀ i j, i < m → j < m → pos.getD i 0 = pos.getD j 0 → i = j
 sur : ∀ k, k < m → ∃ i, i < m ∧ pos.getD i 0 = k
 op : ∀ i o, i < m → ops[i]? = some o → ∃ tg, ops'[pos.getD i 0]? = some (renO pos tg o)
 lt : ∀ i o, ops[i]? = some o → ∀ e ∈ o.after.toList, Region.binds .any e = true → e.on < i
 gd : ∀ i o j b, i < m → ops[i]? = some o → o.guard = some (j, b) → j < m
section
variable {c : Cx} {N : Nat} {K : SK} {ops ops' : Array Oper} {m : Nat} {pos : List Nat} {a0 : Act} {w0 : World} {A : List Nat → Act → World → Prop}
theorem pm_yl (pm : PmOK ops m ops' pos) {tmps : Array Value} {j : Nat} (hj : j < m) : yielded ops' tmps (pos.getD j 0) = yielded ops tmps j := by
 have hlt : j < ops.size := Nat.lt_of_lt_of_le hj pm.le
 obtain ⟨tg, h⟩ := pm.op j ops[j] hj (Array.getElem?_eq_getElem hlt)
 unfold yielded
 rw [h, Array.getElem?_eq_getElem hlt]
 rfl
theorem pm_step (pm : PmOK ops m ops' pos) (HA : Asr c N K ops' a0 w0 A) (Q : Exit → Act → World → Prop) {L : List Nat} {i : Nat} {o : Oper} {a : Act} {w : World} {next : Act → World → Prop} (hi : i < m) (hL : ∀ j ∈ L, j < m) (hA : A (L.map fun i => pos.getD i 0) a w) (ho : ops[i]? = some o) (hni : i ∉ L) (hdep : ∀ e ∈ o.after.toList, Region.binds .any e = true → e.on ∈ L)
 (hn : ∀ a w, A ((i :: L).map fun i => pos.getD i 0) a w → next a w) : wpOpIn (FR c.ro) 0 c.E.P ops Q i next a w := by
 obtain ⟨tg, hop⟩ := pm.op i o hi ho
 have hst := HA.st Q (L.map fun i => pos.getD i 0) (pos.getD i 0) _ a w hA hop (fun h => by
  obtain ⟨j, hj, e⟩ := List.mem_map.1 h
  exact hni (pm.inj _ _ (hL j hj) hi e ▸ hj)) (fun e he hb => by
  have he : e ∈ o.after.toList.map (renE pos) := by
   cases tg with
   | false => simpa [renO] using he
   | true =>
     have he : e = ({ on := 7777777, ground := .textOnly .mixedOrders } : Edge) ∨ e ∈ o.after.toList.map (renE pos) := by simpa [renO] using he
     rcases he with rfl | he
     · cases hb
     · exact he
  obtain ⟨e0, h0, rfl⟩ := List.mem_map.1 he
  exact List.mem_map.2 ⟨e0.on, hdep e0 h0 hb, rfl⟩)
 have hw : Region.wanted (renO pos tg o) (yielded ops' a.tmps) = Region.wanted o (yielded ops a.tmps) := by
  unfold Region.wanted
  cases hg : o.guard with
  | none => simp only [renO, hg]
  | some p =>
    obtain ⟨j, b⟩ := p
    simp only [renO, hg]
    rw [pm_yl pm (pm.gd i o j b hi ho hg)]
 unfold wpOpIn at hst ⊢
 rw [hop] at hst
 rw [ho]
 simp only at hst ⊢
 rw [hw] at hst
 split
 · rename_i h
   rw [if_pos h] at hst
   exact Oper.wpIn_mono (fun a w k => hn a w k) (ren_wp hst)
 · rename_i h
   rw [if_neg h] at hst
   exact ⟨hst.1, hn _ _ hst.2⟩
end
open Go.RowKit (Below)
section
variable {c : Cx} {N : Nat} {ops ops' : Array Oper} {m : Nat} {pos : List Nat} {a0 : Act} {w0 : World} {A : List Nat → Act → World → Prop}
theorem pm_tail (ok : EnvOK c.E) {T : Nat → SK} (pm : PmOK ops m ops' pos) (HA : Asr c N (T m) ops' a0 w0 A) {id : Nat} {Q : Exit → Act → World → Prop} (hall : ∀ k, m ≤ k → k < ops.size → ∀ j, j < k → Bef ops.toList k j)
 (hstep : ∀ t, m ≤ t → t < ops.size → ∀ sl h n a w next, T t sl h n → Den c N sl h n a w → (∀ sl' h' n' a' w', T (t + 1) sl' h' n' → Den c N sl' h' n' a' w' → next a' w') → wpOpIn (FR c.ro) 0 c.E.P ops Q t next a w)
 (hQ : ∀ sl' h' n' a' w', T ops.size sl' h' n' → Den c N sl' h' n' a' w' → Q .normal a' w') : (Code.region id ops true).wpIn (FR c.ro) 0 c.E.P Q a0 w0 := by
 have hget : ∀ {i : Nat} {o : Oper}, ops[i]? = some o → ops.toList[i]? = some o := fun h => by rw [Array.getElem?_toList]; exact h
 have hdepm : ∀ {i : Nat} {o : Oper} {L : List Nat}, ops[i]? = some o → (∀ e ∈ o.after.toList, Region.binds .any e = true → e.on ∈ L) → ∀ j ∈ depsOf ops.toList i, j ∈ L := by
  intro i o L ho hdep0 j hj
  unfold depsOf at hj
  rw [hget ho] at hj
  obtain ⟨e, h1, h2, rfl⟩ := depL_mem hj
  exact hdep0 e h1 h2
 refine region_ideal2 ok.mixed (fun L a w => (∀ i ∈ L, ∀ d ∈ depsOf ops.toList i, d ∈ L) ∧ (((∀ j ∈ L, j < m) ∧ A (L.map fun i => pos.getD i 0) a w) ∨ ∃ t, m < t ∧ t ≤ ops.size ∧ (∀ j, j ∈ L ↔ j < t) ∧ ∃ sl h n, T t sl h n ∧ Den c N sl h n a w)) pm.lt ⟨fun j hj => (by cases hj), .inl ⟨fun j hj => (by cases hj), HA.a0⟩⟩ ?_ ?_
 · rintro L i o a w ⟨hcl, hA⟩ ho hni hdep
   have hi : i < ops.size := by
    obtain ⟨h, _⟩ := Array.getElem?_eq_some_iff.1 ho
    exact h
   have hd := hdepm ho hdep
   have hcl' : ∀ i' ∈ i :: L, ∀ d ∈ depsOf ops.toList i', d ∈ i :: L := by
    intro i' hi' d hd'
    rcases List.mem_cons.1 hi' with rfl | hi'
    · exact List.mem_cons_of_mem _ (hd d hd')
    · exact List.mem_cons_of_mem _ (hcl i' hi' d hd')
   rcases hA with ⟨hL, hA⟩ | ⟨t, h1, h2, h3, sl, h, n, k, D⟩
   · by_cases him : i < m
     · refine pm_step pm HA Q him hL hA ho hni hdep fun a w k => ⟨hcl', .inl ⟨fun j hj => ?_, k⟩⟩
       rcases List.mem_cons.1 hj with rfl | hj
       · exact him
       · exact hL j hj
     · have hLall : ∀ j, j < i → j ∈ L := fun j hj => hall i (by omega) hi j hj L hcl hd
       have him2 : i = m := by
        refine Nat.le_antisymm (Nat.le_of_not_lt fun h => ?_) (by omega)
        have := hL m (hLall m h)
        omega
       subst him2
       obtain ⟨sl, h, n, k, D⟩ := HA.fin _ a w hA fun k hk => by
        obtain ⟨j, h1, h2⟩ := pm.sur k (by rw [← pm.size]; exact hk)
        exact List.mem_map.2 ⟨j, hLall j h1, h2⟩
       refine hstep i (Nat.le_refl i) hi sl h n a w _ k D fun sl' h' n' a' w' k' D' => ⟨hcl', .inr ⟨i + 1, by omega, by omega, fun j => ?_, sl', h', n', k', D'⟩⟩
       constructor
       · intro hj
         rcases List.mem_cons.1 hj with rfl | hj
         · omega
         · have := hL j hj; omega
       · intro hj
         by_cases e : j = i
         · exact e ▸ List.mem_cons_self
         · exact List.mem_cons_of_mem _ (hLall j (by omega))
   · have hge : ¬ i < t := fun h => hni ((h3 i).2 h)
     have hit : i = t := by
      refine Nat.le_antisymm (Nat.le_of_not_lt fun h => ?_) (by omega)
      have := (h3 t).1 (hall i (by omega) hi t h L hcl hd)
      omega
     subst hit
     refine hstep i (by omega) hi sl h n a w _ k D fun sl' h' n' a' w' k' D' => ⟨hcl', .inr ⟨i + 1, by omega, by omega, fun j => ?_, sl', h', n', k', D'⟩⟩
     constructor
     · intro hj
       rcases List.mem_cons.1 hj with rfl | hj
       · omega
       · have := (h3 j).1 hj; omega
     · intro hj
       by_cases e : j = i
       · exact e ▸ List.mem_cons_self
       · exact List.mem_cons_of_mem _ ((h3 j).2 (by omega))
 · rintro L a w ⟨_, hA⟩ hall2
   rcases hA with ⟨hL, hA⟩ | ⟨t, h1, h2, h3, sl, h, n, k, D⟩
   · have hm : m = ops.size := by
      refine Nat.le_antisymm pm.le (Nat.le_of_not_lt fun h => ?_)
      have := hL m (hall2 m h)
      omega
     obtain ⟨sl, h, n, k, D⟩ := HA.fin _ a w hA fun k hk => by
      obtain ⟨j, h1, h2⟩ := pm.sur k (by rw [← pm.size]; exact hk)
      exact List.mem_map.2 ⟨j, hall2 j (by omega), h2⟩
     rw [hm] at k
     exact hQ _ _ _ _ _ k D
   · have : t = ops.size := by
      refine Nat.le_antisymm h2 (Nat.le_of_not_lt fun h => ?_)
      have := (h3 t).1 (hall2 t h)
      omega
     subst this
     exact hQ _ _ _ _ _ k D
end
open Go.RowKit (Below)
def ixF (i : Nat) : List Nat → Nat → Nat
 | [], k => k
 | j :: r, k => match Nat.beq j i with | true => k | false => ixF i r (k + 1)
def lgtB (ops : List Oper) (i : Nat) : Bool := match ops[i]? with | some o => flK o.op | none => false
def pckF (ops : List Oper) (rest : List Nat) : List Nat → Option Nat
 | [] => none
 | i :: r => match lgtB ops i && (depsOf ops i).all (fun d => !memb d rest) with | true => some i | false => pckF ops rest r
def schF (ops : List Oper) : Nat → List Nat → List Nat
 | 0, _ => []
 | _ + 1, [] => []
 | f + 1, i :: r => match pckF ops (i :: r) (i :: r) with
   | some j => j :: schF ops f ((i :: r).filter fun k => !Nat.beq k j)
   | none => i :: schF ops f r
def gdM (ops : List Oper) (m i : Nat) : Bool := match ops[i]? with
 | some o => (match o.guard with | some (j, _) => Nat.blt j m | none => true)
 | none => true
def chkPm (ops : List Oper) (m : Nat) (ord pos : List Nat) : Bool :=
 Nat.ble m ops.length && Nat.beq ord.length m && ltB ops && (List.range m).all (fun i => Nat.blt (pos.getD i 0) m && Nat.beq (ord.getD (pos.getD i 0) m) i && Nat.blt (ord.getD i m) m && Nat.beq (pos.getD (ord.getD i m) 0) i && gdM ops m i)
def prmF (ops : List Oper) (ord pos mks : List Nat) : List Oper := ord.map fun i => match ops[i]? with | some o => renO pos (memb i mks) o | none => default
theorem chkPm_ok {ops : Array Oper} {m : Nat} {ord pos mks : List Nat} (h : chkPm ops.toList m ord pos = true) : PmOK ops m (prmF ops.toList ord pos mks).toArray pos := by
 simp only [chkPm, Bool.and_eq_true, List.all_eq_true, List.mem_range] at h
 obtain ⟨⟨⟨h1, h2⟩, h3⟩, h4⟩ := h
 rw [Nat.ble_eq] at h1
 have h2 := beq_of h2
 have hget : ∀ {i : Nat} {o : Oper}, ops[i]? = some o → ops.toList[i]? = some o := fun h => by rw [Array.getElem?_toList]; exact h
 have p1 : ∀ i, i < m → pos.getD i 0 < m := fun i hi => by have := (h4 i hi).1.1.1.1; rwa [Nat.blt_eq] at this
 have p2 : ∀ i, i < m → ord.getD (pos.getD i 0) m = i := fun i hi => beq_of (h4 i hi).1.1.1.2
 have p3 : ∀ i, i < m → ord.getD i m < m := fun i hi => by have := (h4 i hi).1.1.2; rwa [Nat.blt_eq] at this
 have p4 : ∀ i, i < m → pos.getD (ord.getD i m) 0 = i := fun i hi => beq_of (h4 i hi).1.2
 refine ⟨by simpa using h1, by simp [prmF, h2], p1, fun i j hi hj e => ?_, fun k hk => ⟨_, p3 k hk, p4 k hk⟩, fun i o hi ho => ⟨memb i mks, ?_⟩, fun i o ho e he hb => ?_, fun i o j b hi ho hg => ?_⟩
 · rw [← p2 i hi, ← p2 j hj, e]
 · have hlt : pos.getD i 0 < ord.length := by rw [h2]; exact p1 i hi
   have ho2 : ord[pos.getD i 0]? = some i := by
    have := p2 i hi
    rw [List.getD_eq_getElem?_getD, List.getElem?_eq_getElem hlt] at this
    rw [List.getElem?_eq_getElem hlt]
    exact congrArg some this
   simp only [prmF, List.getElem?_toArray, List.getElem?_map, ho2, Option.map_some, hget ho]
 · have hi : i < ops.toList.length := by
    obtain ⟨h, _⟩ := Array.getElem?_eq_some_iff.1 ho
    simpa using h
   simp only [ltB, List.all_eq_true, List.mem_range, Nat.blt_eq] at h3
   refine h3 i hi e.on ?_
   unfold depsOf
   rw [hget ho]
   exact mem_depL he hb
 · have := (h4 i hi).2
   unfold gdM at this
   rw [hget ho] at this
   simp only [hg] at this
   rwa [Nat.blt_eq] at this
structure Wd where
 lend : List Nat
 nrT : List Nat
 pan : List Nat
def alnB (W : Wd) (o : Oper) : Bool := match o.op with
 | .call cl => (match cl.callee with | .value (.func g) => lentB W.lend g o.dst | _ => false)
 | .buildSlice T .. => memb T W.nrT
 | _ => false
def mksF (W : Wd) : List Oper → Nat → List Nat
 | [], _ => []
 | o :: r, i => match alnB W o with | true => i :: mksF W r (i + 1) | false => mksF W r (i + 1)
def panB (W : Wd) (o : Oper) : Bool := match o.guard, o.op with
 | none, .call cl => (match cl.callee with | .value (.func g) => memb g W.pan | _ => false)
 | _, _ => false
def tlB (cls : List Nat) (n m : Nat) : Bool := (List.range (n - m)).all fun i => (List.range (m + i)).all fun j => mB (cls.getD (m + i) 0) j
def lsF (W : Wd) (cls : List Nat) (n : Nat) : List Oper → Nat → Nat
 | [], _ => n
 | o :: r, i => match panB W o with
   | true => (match tlB cls n i with | true => i | false => lsF W cls n r (i + 1))
   | false => lsF W cls n r (i + 1)
def lstF (W : Wd) (ops : List Oper) : Nat := lsF W (clsF ops []) ops.length ops 0
theorem tlB_end {cls : List Nat} {n : Nat} : tlB cls n n = true := by simp [tlB]
theorem lsF_ok {W : Wd} {cls : List Nat} {n : Nat} : ∀ {l : List Oper} {i : Nat}, tlB cls n (lsF W cls n l i) = true
 | [], _ => tlB_end
 | o :: r, i => by
   simp only [lsF]
   split
   · split
     · rename_i e; exact e
     · exact lsF_ok
   · exact lsF_ok
structure Pln where
 m : Nat
 pos : List Nat
 ops : List Oper
def plnOf (ops : List Oper) (m : Nat) (ord mks : List Nat) : Option Pln :=
 let pos := (List.range m).map fun i => ixF i ord 0
 match chkPm ops m ord pos with
 | true => (match flB (prmF ops ord pos mks) with | true => some ⟨m, pos, prmF ops ord pos mks⟩ | false => none)
 | false => none
def plnF (W : Wd) (ops : List Oper) : Option Pln :=
 match plnOf ops (lstF W ops) (List.range (lstF W ops)) (mksF W ops 0) with
 | some p => some p
 | none => plnOf ops (lstF W ops) (schF ops (lstF W ops) (List.range (lstF W ops))) (mksF W ops 0)
theorem plnOf_ok {ops : Array Oper} {m : Nat} {ord mks : List Nat} {p : Pln} (h : plnOf ops.toList m ord mks = some p) : PmOK ops p.m p.ops.toArray p.pos ∧ flB p.ops = true ∧ p.m = m := by
 unfold plnOf at h
 simp only at h
 split at h
 case h_2 => cases h
 rename_i e1
 split at h
 case h_2 => cases h
 rename_i e2
 cases h
 exact ⟨chkPm_ok (mks := mks) e1, e2, rfl⟩
theorem plnF_ok {W : Wd} {ops : Array Oper} {p : Pln} (h : plnF W ops.toList = some p) : PmOK ops p.m p.ops.toArray p.pos ∧ flB p.ops = true ∧ p.m = lstF W ops.toList := by
 unfold plnF at h
 split at h
 · rename_i e; cases h; exact plnOf_ok e
 · exact plnOf_ok h
theorem lstF_ok {W : Wd} {ops : List Oper} : ∀ k, lstF W ops ≤ k → k < ops.length → ∀ j, j < k → Bef ops k j := by
 intro k h1 h2 j hj
 have h := lsF_ok (W := W) (cls := clsF ops []) (n := ops.length) (l := ops) (i := 0)
 simp only [tlB, List.all_eq_true, List.mem_range] at h
 have := h (k - lstF W ops) (by unfold lstF at h1 ⊢; omega) j (by unfold lstF at h1 ⊢; omega)
 have e : lsF W (clsF ops []) ops.length ops 0 + (k - lstF W ops) = k := by unfold lstF at h1 ⊢; omega
 rw [e] at this
 exact clsF_ok (ops := ops) (l := ops) (cls := []) (k := 0) rfl (fun i o ho => by simpa using ho) (fun i j h => by rw [mB_eq] at h; simp at h) _ _ this
theorem pm_dst {ops ops' : Array Oper} {m N : Nat} {pos : List Nat} (pm : PmOK ops m ops' pos) (hd : ∀ o ∈ ops.toList, ∀ d, o.dst = some d → d < N) : ∀ o ∈ ops'.toList, ∀ d, o.dst = some d → d < N := by
 intro o ho d hdst
 obtain ⟨k, hk⟩ := List.mem_iff_getElem?.1 ho
 rw [Array.getElem?_toList] at hk
 have hlt : k < m := by
  obtain ⟨h, _⟩ := Array.getElem?_eq_some_iff.1 hk
  rw [← pm.size]; exact h
 obtain ⟨i, hi, he⟩ := pm.sur k hlt
 have hil : i < ops.size := Nat.lt_of_lt_of_le hi pm.le
 obtain ⟨tg, h⟩ := pm.op i ops[i] hi (Array.getElem?_eq_getElem hil)
 rw [he, hk] at h
 cases h
 exact hd ops[i] (by simp) d hdst
theorem fnV_add (f : Nat) (us : Array Value) : Value.func (.func f) us #[] = fnV (Nat.add f 1000000) us := by
 obtain ⟨N, hN⟩ : ∃ N, N = 1000000 := ⟨_, rfl⟩
 have h : Nat.ble 1000000 (Nat.add f 1000000) = true := by
  rw [← hN, Nat.ble_eq]; exact Nat.le_add_left _ _
 rw [fnV_hi h, ← hN, show Nat.add f N - N = f from Nat.add_sub_cancel ..]
def nrL (h : Heap) (v : SV) : Option (Nat × List SV) := match v with
 | .osl b _ => (match lkB h b with | some (.nr (.agg fs)) => some (b, fs) | _ => none)
 | _ => none
def allP (b : Nat) : List SV → Bool
 | [] => true
 | v :: r => match v with | .ptr b' _ => (match Nat.beq b' b with | true => false | false => allP b r) | _ => false
theorem allP_nms {b : Nat} {q : Nat → Prop} (hq : ∀ b', b' ≠ b → q b') : ∀ {l : List SV}, allP b l = true → nmsL q l
 | [], _ => trivial
 | v :: r, h => by
   simp only [allP] at h
   split at h
   · rename_i b' p
     split at h
     · cases h
     · rename_i e
       exact ⟨hq b' (beq_ne e), allP_nms hq h⟩
   · cases h
theorem szs_split (i : Nat) : ∀ fs : List SV, szs fs = szs (fs.take i) + szs (fs.drop i) := by
 induction i with
 | zero => intro fs; simp [szs]
 | succ i ih =>
   intro fs
   cases fs with
   | nil => simp [szs]
   | cons f r => simp only [List.take_succ_cons, List.drop_succ_cons, szs]; rw [ih r]; omega
def spV (E : Env) (sl : Slots) (h : Heap) (n : Nat) (o : Op) : Option (SV × EA) := match o with
 | .buildSlice T len ps => (match memb T E.nrT, Nat.beq len 1, ps.toList, (lkT E.tt T).d with
   | true, true, [(0, x)], .sl e => (match ev E sl x, (lkT E.tt e).zero, Nat.beq (lkT E.tt e).size 1 with
     | .ptr b p, .nilp, true => some (.osl n 1, .new (.nr (.agg [.ptr b p])))
     | _, _, _ => none)
   | _, _, _, _ => none)
 | .load T x => (match ev E sl x with
   | .ptr b [.fld i off] => (match lkB h b with
     | some (.nr (.agg fs)) => (match Nat.beq off (szs (fs.take i)), fs[i]?, (lkT E.tt T).d with
       | true, some (.ptr b' p'), .ptr _ => some (.ptr b' p', .nil)
       | _, _, _ => none)
     | _ => none)
   | _ => none)
 | .indexAddr T x i => (match nrL h (ev E sl x), ev E sl i, (lkT E.tt T).d with
   | some (b, fs), .int _ i, .sl e => (match Nat.beq (lkT E.tt e).size 1, decide (0 ≤ i ∧ i < szs fs) with
     | true, true => some (.ptr b [.fld i.toNat i.toNat], .nil)
     | _, _ => none)
   | _, _, _ => none)
 | .slice T x none (some y) none => (match nrL h (ev E sl x), ev E sl y, (lkT E.tt T).d with
   | some (b, fs), .int _ k, .sl e => (match Nat.beq (lkT E.tt e).size 1, decide (0 ≤ k ∧ k ≤ szs fs), Nat.beq (szs (fs.take k.toNat)) k.toNat && allP b (fs.take k.toNat) with
     | true, true, true => some (.osl b 1, .app b (.nr (.agg (fs.take k.toNat))))
     | _, _, _ => none)
   | _, _, _ => none)
 | .call c => (match c.callee with
   | .builtin .len => (match c.args.toList, c.argTypes.toList with
     | [x], [T] => (match nrL h (ev E sl x), (lkT E.tt T).d with
       | some (_, fs), .sl _ => some (.int .i64 (szs fs), .nil)
       | _, _ => none)
     | _, _ => none)
   | .builtin .append => (match c.args.toList, c.argTypes.toList with
     | [x, y], [T, T'] => (match Nat.beq T T', ev E sl x, nrL h (ev E sl y), (lkT E.tt T).d with
       | true, .nils, some (_, fs), .sl e => (match Nat.beq (lkT E.tt e).size 1, Nat.ble 1 (szs fs), Nat.ble (szs fs) 1000000, (lkT E.tt e).zero, Nat.ble (lkT E.tt e).bytes 1000000 with
         | true, true, true, .nilp, true => some (.osl n 1, .new (.nr (.agg fs)))
         | _, _, _, _, _ => none)
       | _, _, _, _ => none)
     | _, _ => none)
   | _ => none)
 | .makeFunc (.func f) fst caps => (match fst.toList, caps.toList, Nat.ble 1000000 f with
   | [x], [], false => (match ev E sl x with
     | .ptr b p => some (.fn (Nat.add f 1000000) [.ptr b p], .nil)
     | _ => none)
   | _, _, _ => none)
 | .typeAssert x _ T true => (match (lkT E.tt T).d with
   | .ifc | .other => none
   | _ => (match ev E sl x with
     | .ifc T' [v] => (match Nat.beq T' T, noTup [v] with
       | true, true => some (.tup [v, .tru], .nil)
       | false, _ => (match (lkT E.tt T).zero with | .any => none | z => (match noTup [z] with | true => some (.tup [z, .fls], .nil) | false => none))
       | _, _ => none)
     | .nili => (match (lkT E.tt T).zero with | .any => none | z => (match noTup [z] with | true => some (.tup [z, .fls], .nil) | false => none))
     | _ => none))
 | _ => none
def eqNI (E : Env) (sl : Slots) (o : Op) : Option SV := match o with
 | .binOp op T x (.const .nilIface) _ => (match (lkT E.tt T).d with
   | .ifc => (match op, ev E sl x with
     | .eql, .ifc .. => some .fls
     | .eql, .nili => some .tru
     | .neq, .ifc .. => some .tru
     | .neq, .nili => some .fls
     | _, _ => none)
   | _ => none)
 | _ => none
theorem relC_of1 {w : World} {X : Nat → Prop} {β : Beta} {v : SV} {u : Value} (h : relP w X v β [u]) : relP w X (.agg [v]) β [u] := by
 simp only [relP]
 exact relC_cons.2 ⟨[u], [], rfl, h, relC_nil.2 rfl⟩
theorem relC_take {w : World} {X : Nat → Prop} {β : Beta} : ∀ {fs : List SV} {cs : List Value} (k : Nat), relC w X fs β cs → relC w X (fs.take k) β (cs.take (szs (fs.take k)))
 | [], cs, k, h => by
   rw [relC_nil] at h; subst h
   simp [szs, relC]
 | f :: r, cs, 0, h => by simp [szs, relC]
 | f :: r, cs, k + 1, h => by
   obtain ⟨c1, c2, rfl, h1, h2⟩ := relC_cons.1 h
   have hl := relP_len _ _ h1
   rw [List.take_succ_cons, relC_cons]
   refine ⟨c1, c2.take (szs (r.take k)), ?_, h1, relC_take k h2⟩
   simp only [szs]
   rw [List.take_append, hl, Nat.add_sub_cancel_left, List.take_of_length_le (by omega)]
section
variable {c : Cx} (ok : EnvOK c.E) {o : Oper} {a : Act} {sl : Slots} {h : Heap} {n : Nat} {F : Nat → Prop} {β : Beta} {Y : Nat → Prop} {w : World} (m : Mem c h F β Y w) (hF : F n)
 (hev : ∀ x, rel w (XX c.Z Y β h) (ev c.E sl x) β (a.eval x))
include m
theorem nrL_ok {v : SV} {u : Value} {b : Nat} {fs : List SV} (h1 : nrL h v = some (b, fs)) (hv : rel w (XX c.Z Y β h) v β u) : ∃ l ad, lkB h b = some (.nr (.agg fs)) ∧ β b = some l ∧ u = .slice ad l.len l.cap ∧ (l.cap ≠ 0 → ad = some ⟨l.r, 0, none⟩) ∧ l.len = szs fs ∧ l.len ≤ l.cap ∧
 (l.cap = 0 ∨ ∃ cs ty lo hi, w.heap[l.r]? = some (.cells cs ty (lo, hi)) ∧ (cs.size ≤ lo ∨ hi ≤ lo) ∧ l.cap ≤ cs.size ∧ ∃ c1 c2, cs.toList = c1 ++ c2 ∧ relC w (XX c.Z Y β h) fs β c1) := by
 unfold nrL at h1
 split at h1
 case h_2 => cases h1
 rename_i b' s
 split at h1
 case h_2 => cases h1
 rename_i fs' hb
 cases h1
 obtain ⟨l, ad, hl, hu, had⟩ := rel_osl.1 hv
 obtain ⟨l', hl', g1, g2, g3⟩ := m.blk b _ hb
 rw [hl] at hl'; cases hl'
 simp only [SV.sz, relP] at g1 g3
 exact ⟨l, ad, hb, hl, hu, had, g1, g2, g3⟩
include hF in
theorem Res.newNr {fs : List SV} {cap : Nat} {cs : Array Value} {ty : TypeId} {c1 c2 : List Value} (hle : szs fs ≤ cap) (hcs : cap ≤ cs.size) (hd : cs.toList = c1 ++ c2) (hp : relC w (XX c.Z Y β h) fs β c1) :
 Res c h n F β Y w (.osl n 1) [] (.new (.nr (.agg fs))) (.slice (some ⟨w.heap.size, 0, none⟩) (szs fs) cap) (w.alloc (.cells cs ty)) (setβ β n ⟨w.heap.size, szs fs, cap⟩) := by
 have hn : β n = none := m.fresh n hF
 have hβ : ∀ b l', β b = some l' → setβ β n ⟨w.heap.size, szs fs, cap⟩ b = some l' := fun b l' hb => by
  rw [setβ_ne]; · exact hb
  · rintro rfl; rw [hn] at hb; cases hb
 obtain ⟨m', e⟩ := m.new (k := .nr (.agg fs)) (l := ⟨w.heap.size, szs fs, cap⟩) (o := .cells cs ty) hF rfl (fun w' X' β' e hβ' hh =>
  ⟨rfl, hle, .inr ⟨cs, ty, 0, 0, hh, .inr (Nat.le_refl _), hcs, c1, c2, hd, relP_ext e (.agg fs) c1 (nms_true hβ' _) (by simp only [relP]; exact hp)⟩⟩)
 exact ⟨m', rel_osl.2 ⟨_, _, setβ_same .., rfl, fun _ => rfl⟩, fun v0 u0 h0 => rel_ext e (nms_true hβ _) h0⟩
include hF in
omit m hF in
theorem bs_run1 (ok : EnvOK c.E) {T e : TypeId} (hd : (lkT c.E.tt T).d = .sl e) (hs : (lkT c.E.tt e).size = 1) (hz : (lkT c.E.tt e).zero = .nilp) {ad : Option Addr} : (Instr.buildSlice T 1 #[(0, .pointer ad)]).run c.E.P w = .ok (.slice (some ⟨w.heap.size, 0, none⟩) 1 1) (w.alloc (.cells #[.pointer ad] e)) := by
 have tok := ok.tt T (by rw [hd]; simp)
 have toke := ok.ts e (by omega)
 have desc := tok.desc
 simp only [hd] at desc
 obtain ⟨i, hi, hsi, _, hzz⟩ := toke.info
 obtain ⟨z, hz1, hz2⟩ := hzz (by rw [hz]; simp)
 have hz3 : z = .pointer none := by
  have := hz2 default (fun _ => False)
  rw [hz] at this
  simpa [relV, SV.isAgg, relP] using this
 subst hz3
 simp only [Instr.buildSlice, Sem.run_bind, run_underlying desc, Result.andThen_ok, toke.sz, hs]
 have hf : Instr.fill (fun i => some (i, 1)) (Array.map (fun x => (Value.pointer none).cells[x % (Value.pointer none).cells.size]!) (Array.range 1)) [(0, Value.pointer ad)] = some #[Value.pointer ad] := by
  simp [Instr.fill, Value.cells, Array.range]
  rfl
 simp [zeroValue, typeInfo, run_program, hi, hz1, newRow]
 rw [hf]
 rfl
include ok hF hev in
theorem spV_ok {v : SV} {ea : EA} (hK : spV c.E sl h n o.op = some (v, ea)) : OpOK c o a h n F β Y w v [] ea := by
 unfold spV at hK
 split at hK
 · rename_i T len ps ho
   split at hK
   case h_2 => cases hK
   rename_i x e _ hlen hps hd
   have hlen := beq_of hlen
   subst hlen
   split at hK
   case h_2 => cases hK
   rename_i b p hx hz hs
   cases hK
   have hs := beq_of hs
   have hxr := hev x
   rw [hx] at hxr
   obtain ⟨l, hl, hu⟩ := rel_ptr.1 hxr
   have hps' : ps = #[(0, x)] := by apply Array.toList_inj.1; rw [hps]
   have hsz : szs [SV.ptr b p] = 1 := rfl
   have := Res.newNr m hF (fs := [.ptr b p]) (cap := 1) (cs := #[.pointer (some ⟨l.r, pOff p, none⟩)]) (ty := e) (c1 := [.pointer (some ⟨l.r, pOff p, none⟩)]) (c2 := []) (Nat.le_refl _) (by simp) (by simp) (by
    have := relC_of1 (w := w) (X := XX c.Z Y β h) (β := β) (v := .ptr b p) (u := .pointer (some ⟨l.r, pOff p, none⟩)) (by simp only [relP]; exact ⟨l, hl, rfl⟩)
    simpa only [relP] using this)
   rw [hsz] at this
   refine .value ?_ this
   simp only [execOp, ho]
   refine run_val ?_
   rw [hps']
   have e1 : (Array.map (fun x => (x.fst, a.eval x.snd)) #[(0, x)] : Array (Nat × Value)) = #[(0, .pointer (some ⟨l.r, pOff p, none⟩))] := by simp [hu]
   rw [e1]
   exact bs_run1 ok hd hs hz
 · rename_i T x ho
   split at hK
   case h_2 => cases hK
   rename_i b i off hx
   split at hK
   case h_2 => cases hK
   rename_i fs hb
   split at hK
   case h_2 => cases hK
   rename_i b' p' e' hoff hfi hd
   cases hK
   have hoff := beq_of hoff
   have hxr := hev x
   rw [hx] at hxr
   obtain ⟨l, hl, hu⟩ := rel_ptr.1 hxr
   obtain ⟨l', hl', g1, g2, g3⟩ := m.blk b _ hb
   rw [hl] at hl'; cases hl'
   have hlt : i < fs.length := by
    rcases Nat.lt_or_ge i fs.length with g | g
    · exact g
    · rw [List.getElem?_eq_none g] at hfi; cases hfi
   have hszi : szs (fs.take i) < szs fs := by
    have := szs_split i fs
    rw [List.drop_eq_getElem_cons hlt] at this
    have hv : fs[i] = .ptr b' p' := by
     rw [List.getElem?_eq_getElem hlt] at hfi
     exact Option.some.inj hfi
    simp only [szs, hv, SV.sz] at this
    omega
   simp only [SV.sz] at g1
   rcases g3 with g3 | ⟨cs, ty, lo, hi, q1, q2, q3, c1, c2, q4, q5⟩
   · omega
   have hn : nav (.agg fs) [.fld i off] fun u => u = .ptr b' p' := by
    simp only [nav, hoff, Nat.beq_refl, hfi, frc_eq]
   obtain ⟨u, pre, mid, post, k1, k2, k3, k4⟩ := nav_ok _ _ _ _ hn q5
   subst k1
   simp only [relP] at k4
   obtain ⟨l2, hl2, rfl⟩ := k4
   refine .pure m (u := .pointer (some ⟨l2.r, pOff p', none⟩)) ?_ (rel_ptr.2 ⟨l2, hl2, rfl⟩)
   simp only [execOp, ho, hu]
   refine run_val ?_
   have tok := ok.tt T (by rw [hd]; simp)
   have hcell : w.cell? ⟨l.r, pOff [.fld i off], none⟩ = some (.pointer (some ⟨l2.r, pOff p', none⟩)) := by
    have : cs[pOff [.fld i off]]? = some (.pointer (some ⟨l2.r, pOff p', none⟩)) := by
     rw [← Array.getElem?_toList, q4, k2, ← k3]
     simp
    simp [World.cell?, q1, this]
   simp only [Instr.loadAt, Instr.sureAddr, loadVar, Sem.run_bind, Sem.run_pure, Result.andThen_ok, isAgg_run tok (by rw [hd]; simp)]
   rw [hd]
   simp [aggT, hcell]
 · rename_i T x i ho
   split at hK
   case h_2 => cases hK
   rename_i b fs k j e hx hy hd
   split at hK
   case h_2 => cases hK
   rename_i hs hi
   cases hK
   have hs := beq_of hs
   rw [decide_eq_true_eq] at hi
   obtain ⟨l, ad, hb, hl, hu, had, g1, g2, g3⟩ := nrL_ok m hx (hev x)
   have hyr := hev i
   rw [hy, relP_int] at hyr
   have hcap : l.cap ≠ 0 := by omega
   have tok := ok.tt T (by rw [hd]; simp)
   have toke := ok.ts e (by omega)
   refine .pure m (u := .pointer (some ⟨l.r, 0 + j.toNat * (lkT c.E.tt e).size, none⟩)) ?_ (rel_ptr.2 ⟨l, hl, ?_⟩)
   · simp only [execOp, ho, hyr, hu, had hcap]
     exact run_val (indexAt_slice_run tok hd toke hi.1 (by omega))
   · simp [pOff, hs]
 · rename_i T x y ho
   split at hK
   case h_2 => cases hK
   rename_i b fs k j e hx hy hd
   split at hK
   case h_2 => cases hK
   rename_i hs hj hsz
   cases hK
   have hs := beq_of hs
   rw [Bool.and_eq_true] at hsz
   have hall := hsz.2
   have hsz := beq_of hsz.1
   rw [decide_eq_true_eq] at hj
   obtain ⟨l, ad, hb, hl, hu, had, g1, g2, g3⟩ := nrL_ok m hx (hev x)
   have hyr := hev y
   rw [hy, relP_int] at hyr
   have tok := ok.tt T (by rw [hd]; simp)
   have desc := tok.desc
   simp only [hd] at desc
   have toke := ok.ts e (by omega)
   obtain ⟨m', e'⟩ := m.appK (b := b) (k0 := .nr (.agg fs)) (kN := .nr (.agg (fs.take j.toNat))) (l := l) (l' := ⟨l.r, j.toNat, l.cap⟩) (w' := w) hb hl (fun _ => rfl) (fun _ => rfl) ⟨_, by rw [lkB_killH, hb]; rfl⟩ (Nat.le_refl _) rfl rfl rfl (fun _ _ _ => rfl) (fun hc => .inl ⟨rfl, hc⟩) fun X' ex => by
    refine ⟨by simp only [SV.sz]; exact hsz.symm, by show j.toNat ≤ l.cap; omega, ?_⟩
    rcases g3 with g3 | ⟨cs, ty, lo, hi, q1, q2, q3, c1, c2, q4, q5⟩
    · exact .inl g3
    · refine .inr ⟨cs, ty, lo, hi, q1, q2, q3, c1.take (szs (fs.take j.toNat)), c1.drop (szs (fs.take j.toNat)) ++ c2, by rw [q4, ← List.append_assoc, List.take_append_drop], ?_⟩
      exact relP_ext ex (.agg (fs.take j.toNat)) _ (allP_nms (fun b' hb' l hl => by rw [setβ_ne hb']; exact hl) hall) (by simp only [relP]; exact relC_take _ q5)
   have hbd : (Instr.sliceBounds true l.len l.cap none (some (.int k j)) none).run c.E.P w = .ok (0, j.toNat, l.cap) w := by
    simp only [Instr.sliceBounds, Sem.run_bind, Sem.run_pure, Result.andThen_ok]
    rw [run_bound hj.1 (by omega)]
    rfl
   refine .value (u := .slice (if l.cap = 0 then ad else ad.map (·.add (0 * (lkT c.E.tt e).size))) (j.toNat - 0) (l.cap - 0)) ?_ ⟨m', rel_osl.2 ⟨⟨l.r, j.toNat, l.cap⟩, _, setβ_same .., rfl, fun hc => ?_⟩, fun v0 u0 h0 => kill_nms_ne (fun b' l hb hl => by rw [setβ_ne hb]; exact hl) e' h0⟩
   · simp only [execOp, ho, hu, hyr]
     refine run_val ?_
     simp only [Instr.sliceAt, Sem.run_bind, run_underlying desc, Result.andThen_ok, Instr.slice, toke.sz, Option.map_none, Option.map_some, hyr, hbd, Sem.run_pure]
   · rw [if_neg hc, had hc]
     simp [add_plain]
 · rename_i cl ho
   split at hK
   · rename_i hcb
     split at hK
     case h_2 => cases hK
     rename_i x T hargs htys
     split at hK
     case h_2 => cases hK
     rename_i b fs e hx hd
     cases hK
     have ha : cl.args = #[x] := by apply Array.toList_inj.1; simpa using hargs
     have ht : cl.argTypes = #[T] := by apply Array.toList_inj.1; simpa using htys
     have desc := (ok.tt T (by rw [hd]; simp)).desc
     simp only [hd] at desc
     obtain ⟨l, ad, hb, hl, hu, had, g1, g2, g3⟩ := nrL_ok m hx (hev x)
     refine .pure m (u := goInt (szs fs)) (builtin_run (a := a) ho hcb ?_) (relP_int.2 rfl)
     rw [ha, ht]
     simp only [builtin]
     refine run_val ?_
     unfold Builtin.len_
     simp [hu, run_underlying desc, g1]
   · rename_i hcb
     split at hK
     case h_2 => cases hK
     rename_i x y T T' hargs htys
     split at hK
     case h_2 => cases hK
     rename_i b fs e hT hx hy hd
     split at hK
     case h_2 => cases hK
     rename_i hs hle1 hle2 hz hby
     cases hK
     have hT := beq_of hT
     subst hT
     have hs := beq_of hs
     rw [Nat.ble_eq] at hle1 hle2 hby
     have ha : cl.args = #[x, y] := by apply Array.toList_inj.1; simpa using hargs
     have ht : cl.argTypes = #[T, T] := by apply Array.toList_inj.1; simpa using htys
     have tok := ok.tt T (by rw [hd]; simp)
     have toke := ok.ts e (by omega)
     have desc := tok.desc
     simp only [hd] at desc
     have hxr := hev x
     rw [hx, rel_nils] at hxr
     obtain ⟨l, ad, hb, hl, hu, had, g1, g2, g3⟩ := nrL_ok m hy (hev y)
     have hcap : l.cap ≠ 0 := by omega
     rcases g3 with g3 | ⟨cs, ty, lo, hi, q1, q2, q3, c1, c2, q4, q5⟩
     · exact absurd g3 hcap
     have hc1 : c1.length = szs fs := by
      have := relP_len (w := w) (X := XX c.Z Y β h) (β := β) (.agg fs) c1 (by simp only [relP]; exact q5)
      exact this
     obtain ⟨i, hi', hsi, hbi, hzz⟩ := toke.info
     obtain ⟨z, hz1, hz2⟩ := hzz (by rw [hz]; simp)
     have hz3 : z = .pointer none := by
      have := hz2 default (fun _ => False)
      rw [hz] at this
      simpa [relV, SV.isAgg, relP] using this
     have hzl : z.cells.size = 1 := by rw [hz3]; rfl
     have hbound : szs fs * i.bytes ≤ 281474976710656 := by
      rw [hbi]
      have := Nat.mul_le_mul hle2 hby
      omega
     have hr := run_append_nil (P := c.E.P) (w := w) T o.type e i z desc hi' hz1 ⟨l.r, 0, none⟩ l.len l.cap c1 (by rw [hc1, hsi, hs, g1]; omega) (fun j v hj => by
      have hjl : j < c1.length := by
       rcases Nat.lt_or_ge j c1.length with g | g
       · exact g
       · rw [List.getElem?_eq_none g] at hj; cases hj
      have : cs[j]? = some v := by rw [← Array.getElem?_toList, q4, List.getElem?_append_left hjl]; exact hj
      rw [add_plain]
      simp [World.cell?, q1, this]) (by omega) (by omega) (by rw [g1]; exact hbound)
     have hge := grownCap_ge w l.len 0 e
     have hres := Res.newNr (w := w.drew) (m.step ((Below.refl _ _).drew)).1 hF (fs := fs) (cap := grownCap w l.len 0 e) (cs := c1.toArray ++ Builtin.zeroCells z.cells (grownCap w l.len 0 e - l.len)) (ty := e) (c1 := c1) (c2 := (Builtin.zeroCells z.cells (grownCap w l.len 0 e - l.len)).toList) (by omega) (by simp only [Array.size_append, List.size_toArray, size_zeroCells, hzl, hc1]; omega) (by simp) (by
      have := relP_ext (m.step ((Below.refl _ _).drew)).2 (.agg fs) c1 (nms_true (fun _ _ k => k) _) (by simp only [relP]; exact q5)
      simpa only [relP] using this)
     have hres := Res.from_step m ((Below.refl _ _).drew) hres
     rw [← g1] at hres
     refine .value (builtin_run (a := a) ho hcb ?_) hres
     rw [ha, ht]
     simp only [builtin]
     refine run_val ?_
     simp only [List.map_toArray, List.map_cons, List.map_nil, hxr, hu, had hcap]
     exact hr
   · cases hK
 · rename_i f fst caps ho
   split at hK
   case h_2 => cases hK
   rename_i x hfst hcaps hlt
   split at hK
   case h_2 => cases hK
   rename_i b p hx
   cases hK
   have hf : fst = #[x] := by apply Array.toList_inj.1; simpa using hfst
   have hc : caps = #[] := by apply Array.toList_inj.1; simpa using hcaps
   have hxr := hev x
   rw [hx] at hxr
   refine .pure m (u := .func (.func f) #[a.eval x] #[]) (by simp [execOp, ho, Instr.makeFunc, hf, hc]) ?_
   rw [rel_fn]
   refine ⟨#[a.eval x], ?_, ?_⟩
   · exact fnV_add f _
   · rw [relL_cons]
     exact ⟨_, [], rfl, by rw [relV_leaf rfl (by simp)]; exact relP_of_rel rfl (by simp) (by simp) hxr, relL_nil.2 rfl⟩
 · rename_i x S T ho
   have main : (lkT c.E.tt T).d ≠ .ifc → (lkT c.E.tt T).d ≠ .other → (match ev c.E sl x with
    | .ifc T' [v] => (match Nat.beq T' T, noTup [v] with
      | true, true => some (SV.tup [v, .tru], EA.nil)
      | false, _ => (match (lkT c.E.tt T).zero with | .any => none | z => (match noTup [z] with | true => some (.tup [z, .fls], .nil) | false => none))
      | _, _ => none)
    | .nili => (match (lkT c.E.tt T).zero with | .any => none | z => (match noTup [z] with | true => some (.tup [z, .fls], .nil) | false => none))
    | _ => none) = some (v, ea) → OpOK c o a h n F β Y w v [] ea := by
    intro hd1 hd2 hK
    have tok := ok.tt T hd2
    have desc := tok.desc
    have hun : ∃ d, c.E.P.underlying T = some d ∧ ∀ ms, d ≠ .interface ms := by
     cases hd : (lkT c.E.tt T).d <;> simp only [hd] at desc hd1 hd2
     case int k => exact ⟨_, desc, by simp⟩
     case bool => exact ⟨_, desc, by simp⟩
     case str => exact ⟨_, desc, by simp⟩
     case fn => obtain ⟨ps, rs, v, desc⟩ := desc; exact ⟨_, desc, by simp⟩
     case ptr e => exact ⟨_, desc, by simp⟩
     case ifc => exact absurd rfl hd1
     case strct fs => obtain ⟨F, desc, _⟩ := desc; exact ⟨_, desc, by simp⟩
     case arr n e => exact ⟨_, desc.1, by simp⟩
     case sl e => exact ⟨_, desc, by simp⟩
     case mp k e => exact ⟨_, desc, by simp⟩
     case other => exact absurd rfl hd2
    obtain ⟨d, hun, hni⟩ := hun
    have hxr := hev x
    have fails : ∀ {v : SV} {ea : EA}, (match (lkT c.E.tt T).zero with | .any => none | z => (match noTup [z] with | true => some (SV.tup [z, .fls], EA.nil) | false => none)) = some (v, ea) → ∃ z, (zeroValue T).run c.E.P w = .ok z w ∧ ea = .nil ∧ rel w (XX c.Z Y β h) v β (.tuple #[z, .bool false]) := by
     intro v ea hz
     split at hz
     · cases hz
     rename_i z0 hne
     split at hz
     case h_2 => cases hz
     rename_i hnt
     cases hz
     obtain ⟨i, hi, _, _, hzz⟩ := tok.info
     obtain ⟨z, hz1, hz2⟩ := hzz (fun e => hne e)
     refine ⟨z, by simp [zeroValue, typeInfo, run_program, hi, hz1], rfl, #[z, .bool false], rfl, ?_⟩
     show relL w _ [(lkT c.E.tt T).zero, .fls] β [z, .bool false]
     rw [relL_cons]
     refine ⟨z, _, rfl, ?_, ?_⟩
     · have := rel_ext (Ext.refl w (XX c.Z Y β h)) (β := nob) (β' := β) (nms_true (fun b l k => by cases k) _) (v := (lkT c.E.tt T).zero) (u := z) (relV_rel (hz2 w (XX c.Z Y β h)))
       rwa [rel_eq (fun vs e => by rw [e] at hnt; simp [noTup] at hnt)] at this
     · rw [relL_cons]
       exact ⟨_, [], rfl, by rw [relV_leaf rfl (by simp)]; rfl, relL_nil.2 rfl⟩
    split at hK
    · rename_i T' v0 hx
      rw [hx] at hxr
      have hxp := relP_of_rel rfl (by simp) (by simp) hxr
      simp only [relP] at hxp
      obtain ⟨u, hu, hl⟩ := hxp
      simp only [List.cons.injEq, and_true] at hu
      split at hK
      · rename_i hT hnt
        cases hK
        have hT := beq_of hT
        subst hT
        refine .pure m (u := .tuple #[u, .bool true]) ?_ ⟨_, rfl, ?_⟩
        · simp only [execOp, ho, hu]
          refine run_val ?_
          simp only [Instr.typeAssert, Sem.run_bind, run_underlying hun, Result.andThen_ok]
          cases d <;> first | (exact absurd rfl (hni _)) | simp
        · show relL w _ [v0, .tru] β [u, .bool true]
          rw [relL_cons] at hl ⊢
          obtain ⟨u1, us, h1, h2, h3⟩ := hl
          rw [relL_nil] at h3
          subst h3
          cases h1
          refine ⟨u, _, rfl, h2, ?_⟩
          rw [relL_cons]
          exact ⟨_, [], rfl, by rw [relV_leaf rfl (by simp)]; rfl, relL_nil.2 rfl⟩
      · rename_i hT
        have hT := beq_ne hT
        obtain ⟨z, hz, rfl, hr⟩ := fails hK
        refine .pure m (u := .tuple #[z, .bool false]) ?_ hr
        simp only [execOp, ho, hu]
        refine run_val ?_
        simp only [Instr.typeAssert, Sem.run_bind, run_underlying hun, Result.andThen_ok]
        cases d <;> first | (exact absurd rfl (hni _)) | simp [hT, hz]
      · cases hK
    · rename_i hx
      rw [hx] at hxr
      have hxp := relP_of_rel rfl (by simp) (by simp) hxr
      simp only [relP, List.cons.injEq, and_true] at hxp
      obtain ⟨z, hz, rfl, hr⟩ := fails hK
      refine .pure m (u := .tuple #[z, .bool false]) ?_ hr
      simp only [execOp, ho, hxp]
      refine run_val ?_
      simp only [Instr.typeAssert, Sem.run_bind, run_underlying hun, Result.andThen_ok]
      cases d <;> first | (exact absurd rfl (hni _)) | simp [hz]
    · cases hK
   split at hK
   · cases hK
   · cases hK
   · rename_i h1 h2
     exact main (fun e => h1 e) (fun e => h2 e) hK
 · cases hK
end
open Go.RowKit (Below)
section
variable {c : Cx} (ok : EnvOK c.E) {o : Oper} {a : Act} {sl : Slots} {h : Heap} {n : Nat} {F : Nat → Prop} {β : Beta} {Y : Nat → Prop} {w : World} (m : Mem c h F β Y w)
 (hev : ∀ x, rel w (XX c.Z Y β h) (ev c.E sl x) β (a.eval x))
include ok m hev
theorem eqNI_ok {v : SV} (hK : eqNI c.E sl o.op = some v) : OpOK c o a h n F β Y w v [] .nil := by
 unfold eqNI at hK
 split at hK
 case h_2 => cases hK
 rename_i op T x T' ho
 split at hK
 case h_2 => cases hK
 rename_i hd
 have desc := (ok.tt T (by rw [hd]; simp)).desc
 simp only [hd] at desc
 obtain ⟨ms, desc⟩ := desc
 have hx := hev x
 have hy : a.eval (.const .nilIface) = .nilIface := rfl
 have key : ∀ (u : Value) (b : Bool), a.eval x = u → ((∃ t u', u = .iface t u') ∧ b = false ∨ u = .nilIface ∧ b = true) → (op = .eql ∧ v = (if b then .tru else .fls) ∨ op = .neq ∧ v = (if b then .fls else .tru)) → OpOK c o a h n F β Y w v [] .nil := by
  intro u b hu hb hop
  have heq : (Op.equal T u .nilIface).run c.E.P w = .ok b w := by
   have hall : ∀ d, (Op.equalIn (d + 1) T u .nilIface).run c.E.P w = .ok b w := fun d => by
    unfold Op.equalIn
    simp only [Sem.run_bind, run_underlying desc, Result.andThen_ok]
    rcases hb with ⟨⟨t, u', rfl⟩, rfl⟩ | ⟨rfl, rfl⟩ <;> rfl
   exact hall 9999
  have hg : eqGuard op T x (.const .nilIface) u .nilIface = pure () := by
   unfold eqGuard
   rcases hb with ⟨⟨t, u', rfl⟩, rfl⟩ | ⟨rfl, rfl⟩ <;> rcases hop with ⟨rfl, _⟩ | ⟨rfl, _⟩ <;> simp
  have hb2 : binOp .eql T u .nilIface = (do pure (.bool (← Op.equal T u .nilIface))) ∧ binOp .neq T u .nilIface = (do pure (.bool (!(← Op.equal T u .nilIface)))) := by
   rcases hb with ⟨⟨t, u', rfl⟩, rfl⟩ | ⟨rfl, rfl⟩ <;> exact ⟨rfl, rfl⟩
  have hr : (execOp a.eval o).run c.E.P w = .ok (.value (.bool (match op with | .eql => b | _ => !b))) w := by
   simp only [execOp, ho, hu, hy]
   refine run_val ?_
   rw [hg]
   rcases hop with ⟨rfl, _⟩ | ⟨rfl, _⟩
   · rw [hb2.1]; simp [heq]
   · rw [hb2.2]; simp [heq]
  refine .pure m hr ?_
  rcases hop with ⟨rfl, rfl⟩ | ⟨rfl, rfl⟩ <;> cases b <;> first | exact rel_tru.2 rfl | exact rel_fls.2 rfl
 have hifc : ∀ {t vs}, ev c.E sl x = .ifc t vs → ∃ u', a.eval x = .iface t u' := by
  intro t vs e
  rw [e] at hx
  have hxp := relP_of_rel rfl (by simp) (by simp) hx
  simp only [relP] at hxp
  obtain ⟨u, hu, _⟩ := hxp
  simp only [List.cons.injEq, and_true] at hu
  exact ⟨u, hu⟩
 have hnil : ev c.E sl x = .nili → a.eval x = .nilIface := by
  intro e
  rw [e] at hx
  have hxp := relP_of_rel rfl (by simp) (by simp) hx
  simpa only [relP, List.cons.injEq, and_true] using hxp
 split at hK
 · rename_i e; cases hK; obtain ⟨u', hu⟩ := hifc e; exact key _ false hu (.inl ⟨⟨_, _, rfl⟩, rfl⟩) (.inl ⟨rfl, rfl⟩)
 · rename_i e; cases hK; exact key _ true (hnil e) (.inr ⟨rfl, rfl⟩) (.inl ⟨rfl, rfl⟩)
 · rename_i e; cases hK; obtain ⟨u', hu⟩ := hifc e; exact key _ false hu (.inl ⟨⟨_, _, rfl⟩, rfl⟩) (.inr ⟨rfl, rfl⟩)
 · rename_i e; cases hK; exact key _ true (hnil e) (.inr ⟨rfl, rfl⟩) (.inr ⟨rfl, rfl⟩)
 · cases hK
end
end Go.Sx
