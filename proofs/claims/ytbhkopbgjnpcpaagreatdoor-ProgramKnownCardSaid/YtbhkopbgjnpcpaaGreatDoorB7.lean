/-
  CLOSED RUNS OF THE EXECUTOR WITH PANICS: operations, regions. Generic: no program in sight. An own text.
-/
import Derived.Test.YtbhkopbgjnpcpaaGreatDoorB6
namespace Go.Sx
abbrev SKC := Slots → Heap → Nat → Rt
inductive RqP where
 | old (q : Rq)
 | semP (f : FuncId) (az : List SV) (sl : Slots) (h : Heap) (n : Nat) (K : SV → SKC) (KP : SKC)
structure RunP (E : Env) (run : RqP → Rt) : Prop where
 old : RunOK E fun q => run (.old q)
 semP : ∀ f az sl h n K KP r (K' : SV → SK) (KP' : SK), run (.semP f az sl h n K KP) = some r → (∀ v s h n, K v s h n = some r → K' v s h n) → (∀ s h n, KP s h n = some r → KP' s h n) → SemCallP E f az sl h n K' KP'
section
variable {r : SV} {E : Env}
def opQC (E : Env) (CR : FuncId → List SV → Rt) (sl : Slots) (h : Heap) (n : Nat) (o : Oper) (K : KC) : Rt := match b2sB E o.op with
 | some _ => none
 | none => opC E CR sl h n o.op K
theorem opQ_c {CR : FuncId → List SV → Rt} (hCR : ∀ f args r, CR f args = some r → Ret E f args r) {sl : Slots} {h : Heap} {n : Nat} {o : Oper} {K : KC} {K' : KE} (hk : opQC E CR sl h n o K = some r) (g : ∀ a b c, K a b c = some r → K' a b c) : opQ E sl h n o K' := by
 unfold opQC at hk
 unfold opQ
 split at hk
 · cases hk
 · rename_i e
   rw [e]
   exact op_c hCR hk g
def setlC (all : List Oper) : List Oper → Slots → (Slots → Rt) → Rt
 | [], sl, K => K sl
 | o :: r, sl, K => match o.guard with
   | none => setlC all r sl K
   | some _ => grdC all o.guard sl (fun sl => setlC all r sl K) (fun sl => setlC all r sl K)
theorem setl_c {all : List Oper} : ∀ {l : List Oper} {sl : Slots} {K : Slots → Rt} {K' : Slots → Prop}, setlC all l sl K = some r → (∀ s, K s = some r → K' s) → setl all l sl K'
 | [], sl, K, K', hk, g => g _ hk
 | o :: l, sl, K, K', hk, g => by
   simp only [setlC] at hk
   simp only [setl]
   split at hk
   · rename_i e; simp only [e]; exact setl_c hk g
   · rename_i e
     simp only [e] at hk ⊢
     exact grd_c hk (fun s hs => setl_c hs g) (fun s hs => setl_c hs g)
def ClC (E : Env) (CR : FuncId → List SV → Rt) (ops : List Oper) (cls : List Nat) (w : Bool) (s n0 : Nat) : List Oper → Nat → Slots → Heap → Nat → SKC → Rt
 | [], _, sl, h, n, K => K sl h n
 | o :: r, i, sl, h, n, K => match o.dst with
   | none => none
   | some d => match gdV ops o.guard sl with
     | some true => opQC E CR sl (rsH n0 s (cls.getD i 0) h) n o fun v ns ea => (match efB n0 s (cls.getD i 0) (floB ops cls i) w ns ea with
       | true => appC v ns ea (some d) sl h n fun sl h => ClC E CR ops cls w s n0 r (i + 1) sl h (n + 1) K
       | false => none)
     | some false => ClC E CR ops cls w s n0 r (i + 1) ((d, und) :: sl) h (n + 1) K
     | none => none
theorem cl_c {CR : FuncId → List SV → Rt} (hCR : ∀ f args r, CR f args = some r → Ret E f args r) {ops : List Oper} {cls : List Nat} {w : Bool} {s n0 : Nat} : ∀ {l : List Oper} {i : Nat} {sl : Slots} {h : Heap} {n : Nat} {K : SKC} {K' : SK}, ClC E CR ops cls w s n0 l i sl h n K = some r → (∀ s h n, K s h n = some r → K' s h n) → ClX E ops cls w s n0 l i sl h n K'
 | [], i, sl, h, n, K, K', hk, g => g _ _ _ hk
 | o :: l, i, sl, h, n, K, K', hk, g => by
   simp only [ClC] at hk
   simp only [ClX]
   split at hk
   · cases hk
   rename_i d hd
   simp only [hd]
   split at hk
   · rename_i e
     simp only [e]
     refine opQ_c hCR hk fun v ns ea hs => ?_
     split at hs
     case h_2 => cases hs
     rename_i e2
     simp only [e2]
     exact app_c hs fun s h hs => cl_c hCR hs g
   · rename_i e
     simp only [e]
     exact cl_c hCR hk g
   · cases hk
def eqPt : List Step → List Step → Bool
 | [], [] => true
 | .fld i o :: p, .fld i' o' :: q => (match Nat.beq i i', Nat.beq o o' with | true, true => eqPt p q | _, _ => false)
 | .idx i o :: p, .idx i' o' :: q => (match Nat.beq i i', Nat.beq o o' with | true, true => eqPt p q | _, _ => false)
 | _, _ => false
theorem eqPt_ok : ∀ {p q : List Step}, eqPt p q = true → p = q
 | [], [], _ => rfl
 | .fld i o :: p, .fld i' o' :: q, h => by
   simp only [eqPt] at h
   split at h
   · rename_i e1 e2; rw [beq_of e1, beq_of e2, eqPt_ok h]
   · cases h
 | .idx i o :: p, .idx i' o' :: q, h => by
   simp only [eqPt] at h
   split at h
   · rename_i e1 e2; rw [beq_of e1, beq_of e2, eqPt_ok h]
   · cases h
 | [], _ :: _, h => by simp [eqPt] at h
 | _ :: _, [], h => by simp [eqPt] at h
 | .fld .. :: _, .idx .. :: _, h => by simp [eqPt] at h
 | .idx .. :: _, .fld .. :: _, h => by simp [eqPt] at h
mutual
def eqZ : SV → SV → Bool
 | .ptr b p, .ptr b' p' => (match Nat.beq b b' with | true => eqPt p p' | false => false)
 | .osl b n, .osl b' n' => (match Nat.beq b b' with | true => Nat.beq n n' | false => false)
 | .mpr b, .mpr b' => Nat.beq b b'
 | .fn f l, .fn f' l' => (match Nat.beq f f' with | true => eqZL l l' | false => false)
 | .ifc f l, .ifc f' l' => (match Nat.beq f f' with | true => eqZL l l' | false => false)
 | .iptr t, .iptr t' => eqZ t t'
 | .agg l, .agg l' => eqZL l l'
 | .tup l, .tup l' => eqZL l l'
 | .sl n l, .sl n' l' => (match Nat.beq n n' with | true => eqZL l l' | false => false)
 | .any, .any => true
 | a, b => eqSV a b
def eqZL : List SV → List SV → Bool
 | [], [] => true
 | v :: r, v' :: r' => (match eqZ v v' with | true => eqZL r r' | false => false)
 | _, _ => false
end
mutual
theorem eqZ_ok : ∀ {a b : SV}, eqZ a b = true → a = b := fun {a b} h => by
 unfold eqZ at h
 split at h
 · split at h
   · rename_i e; rw [beq_of e, eqPt_ok h]
   · cases h
 · split at h
   · rename_i e; rw [beq_of e, beq_of h]
   · cases h
 · rw [beq_of h]
 · split at h
   · rename_i e; rw [beq_of e, eqZL_ok h]
   · cases h
 · split at h
   · rename_i e; rw [beq_of e, eqZL_ok h]
   · cases h
 · rw [eqZ_ok h]
 · rw [eqZL_ok h]
 · rw [eqZL_ok h]
 · split at h
   · rename_i e; rw [beq_of e, eqZL_ok h]
   · cases h
 · rfl
 · exact eqSV_ok h
theorem eqZL_ok : ∀ {a b : List SV}, eqZL a b = true → a = b := fun {a b} h => by
 unfold eqZL at h
 split at h
 · rfl
 · split at h
   · rename_i e; rw [eqZ_ok e, eqZL_ok h]
   · cases h
 · cases h
end
def agC (E : Env) (CR : FuncId → List SV → Rt) (ops : List Oper) (sl : Slots) (h : Heap) (n : Nat) : List Nat → Rt → Rt
 | [], K => K
 | p :: r, K => match ops[p]? with
   | some o => (match o.dst with
     | some d => (match gdV ops o.guard sl with
       | some true => opQC E CR sl h n o fun v ns ea => (match ns, ea with
         | [], .nil => (match eqZ v (lk sl d) with | true => agC E CR ops sl h n r K | false => none)
         | _, _ => none)
       | some false => (match eqZ (lk sl d) und with | true => agC E CR ops sl h n r K | false => none)
       | none => none)
     | none => none)
   | none => none
theorem ag_c {CR : FuncId → List SV → Rt} (hCR : ∀ f args r, CR f args = some r → Ret E f args r) {ops : List Oper} {sl : Slots} {h : Heap} {n : Nat} : ∀ {l : List Nat} {K : Rt} {K' : Prop}, agC E CR ops sl h n l K = some r → (K = some r → K') → agX E ops sl h n l K'
 | [], K, K', hk, g => g hk
 | p :: l, K, K', hk, g => by
   simp only [agC] at hk
   simp only [agX]
   split at hk
   case h_2 => cases hk
   rename_i o ho
   split at hk
   case h_2 => cases hk
   rename_i d hd
   simp only [ho, hd]
   split at hk
   · rename_i e1
     simp only [e1]
     refine opQ_c hCR hk fun v ns ea hs => ?_
     split at hs
     case h_2 => cases hs
     split at hs
     case h_2 => cases hs
     rename_i e
     exact ⟨eqZ_ok e, ag_c hCR hs g⟩
   · rename_i e1
     simp only [e1]
     split at hk
     case h_2 => cases hk
     rename_i e
     exact ⟨eqZ_ok e, ag_c hCR hk g⟩
   · cases hk
def zWC (E : Env) (run : RqP → Rt) (all : List Oper) (o : Oper) (sl : Slots) (h : Heap) (n : Nat) (K : SKC) : Rt := match spV E sl h n o.op with
 | some (v, ea) => frc v fun v => appC v [] ea o.dst sl h n fun sl h => K sl h (n + 1)
 | none => match eqNI E sl o.op with
   | some v => frc v fun v => appC v [] .nil o.dst sl h n fun sl h => K sl h (n + 1)
   | none => opZC E (fun q => run (.old q)) all o sl h n K
theorem zW_c {run : RqP → Rt} (ok : RunP E run) {all : List Oper} {o : Oper} {sl : Slots} {h : Heap} {n : Nat} {K : SKC} {K' : SK} (hk : zWC E run all o sl h n K = some r) (g : ∀ s h n, K s h n = some r → K' s h n) : zW E all o sl h n K' := by
 unfold zWC at hk
 unfold zW
 split at hk
 · rename_i e
   simp only [e]
   rw [frc_eq] at hk
   exact app_c hk fun s h hs => g _ _ _ hs
 · rename_i e
   simp only [e]
   split at hk
   · rename_i e2
     simp only [e2]
     rw [frc_eq] at hk
     exact app_c hk fun s h hs => g _ _ _ hs
   · rename_i e2
     simp only [e2]
     exact opZ_c ok.old hk g
def gWC (E : Env) (run : RqP → Rt) (all : List Oper) (o : Oper) (sl : Slots) (h : Heap) (n : Nat) (K : SKC) : Rt :=
 grdC all o.guard sl (fun sl => zWC E run all o sl h n K) (fun sl => match o.dst with
  | some d => K ((d, und) :: sl) h n
  | none => K sl h n)
theorem gW_c {run : RqP → Rt} (ok : RunP E run) {all : List Oper} {o : Oper} {sl : Slots} {h : Heap} {n : Nat} {K : SKC} {K' : SK} (hk : gWC E run all o sl h n K = some r) (g : ∀ s h n, K s h n = some r → K' s h n) : gW E all o sl h n K' := by
 unfold gWC at hk
 unfold gW
 refine grd_c hk (fun s hs => zW_c ok hs g) (fun s hs => ?_)
 split at hs <;> (rename_i e; simp only [e]; exact g _ _ _ hs)
def sgOC (E : Env) (run : RqP → Rt) (ops : List Oper) (fl : List Nat) (o : Oper) (S : Slots) (h : Heap) (n : Nat) (K : SKC) : Rt := match calK E o S with
 | some (g, caps, cl) => (match inhA ops S h fl with
   | true => frcL (cl.args.toList.map (ev E S)) fun az => (match noTup az with
     | true => (match o.dst with
       | some d => run (.old (.sem g (az ++ caps) ((d, .any) :: S) h n fun r sl h n => K ((d, r) :: sl) h n))
       | none => run (.old (.sem g (az ++ caps) S h n fun _ sl h n => K sl h n)))
     | false => none)
   | false => none)
 | none => match isTA o.op with
   | true => none
   | false => match spV E S h n o.op with
     | some (v, ea) => frc v fun v => appC v [] ea o.dst S h n fun sl h => K sl h (n + 1)
     | none => match eqNI E S o.op with
       | some v => frc v fun v => appC v [] .nil o.dst S h n fun sl h => K sl h (n + 1)
       | none => opQC E (fun f az => run (.old (.ret f az))) S h n o fun v ns ea => appC v ns ea o.dst S h n fun sl h => K sl h (n + 1)
theorem sgO_c {run : RqP → Rt} (ok : RunP E run) {ops : List Oper} {fl : List Nat} {o : Oper} {S : Slots} {h : Heap} {n : Nat} {K : SKC} {K' : SK} (hk : sgOC E run ops fl o S h n K = some r) (g : ∀ s h n, K s h n = some r → K' s h n) : sgO E (wlk E) ops fl o S h n K' := by
 unfold sgOC at hk
 unfold sgO
 split at hk
 · rename_i e
   simp only [e]
   split at hk
   case h_2 => cases hk
   rename_i e2
   simp only [e2]
   rw [frcL_eq] at hk ⊢
   split at hk
   case h_2 => cases hk
   rename_i e3
   simp only [e3]
   split at hk <;> (rename_i e4; simp only [e4]; exact ok.old.sem _ _ _ _ _ _ _ _ hk fun _ _ _ _ hs => g _ _ _ hs)
 · rename_i e
   simp only [e]
   show qW E S h n o (fun v ns ea => app v ns ea o.dst S h n fun sl h => K' sl h (n + 1))
   unfold qW
   split at hk
   · cases hk
   rename_i e1
   simp only [e1]
   split at hk
   · rename_i e2
     simp only [e2]
     rw [frc_eq] at hk
     exact app_c hk fun s h hs => g _ _ _ hs
   · rename_i e2
     simp only [e2]
     split at hk
     · rename_i e3
       simp only [e3]
       rw [frc_eq] at hk
       exact app_c hk fun s h hs => g _ _ _ hs
     · rename_i e3
       simp only [e3]
       exact opQ_c ok.old.ret hk fun v ns ea hs => app_c hs fun s h hs => g _ _ _ hs
def sgC (E : Env) (run : RqP → Rt) (ops : List Oper) (fl : List Nat) (o : Oper) (S : Slots) (h : Heap) (n : Nat) (K : SKC) : Rt := match gdV ops o.guard S with
 | some true => sgOC E run ops fl o S h n K
 | some false => K (putS o.dst und S) h n
 | none => none
theorem sg_c {run : RqP → Rt} (ok : RunP E run) {ops : List Oper} {fl : List Nat} {o : Oper} {S : Slots} {h : Heap} {n : Nat} {K : SKC} {K' : SK} (hk : sgC E run ops fl o S h n K = some r) (g : ∀ s h n, K s h n = some r → K' s h n) : sgX E (wlk E) ops fl o S h n K' := by
 unfold sgC at hk
 unfold sgX
 split at hk
 · rename_i e
   simp only [e]
   exact sgO_c ok hk g
 · rename_i e
   simp only [e]
   exact g _ _ _ hk
 · cases hk
def FlC (E : Env) (run : RqP → Rt) (ops : List Oper) (cls : List Nat) : List Nat → Nat → Slots → Heap → Nat → SKC → Rt
 | [], _, sl, h, n, K => K sl h n
 | e :: r, s, sl, h, n, K => match isR ops s with
   | true => setlC ops ((ops.take e).drop s) sl fun sl => ClC E (fun f az => run (.old (.ret f az))) ops cls (hotL ((ops.take e).drop s)) s n ((ops.take e).drop s) s sl h n fun sl h n => FlC E run ops cls r e sl h n K
   | false => match ops[s]? with
     | none => none
     | some o => match flL ops cls s with
       | [] => gWC E run ops o sl h n fun sl h n => FlC E run ops cls r e sl h n K
       | p :: ps => sgC E run ops (p :: ps) o sl h n fun sl h n => agC E (fun f az => run (.old (.ret f az))) ops sl h n (p :: ps) (FlC E run ops cls r e sl h n K)
theorem fl_c {run : RqP → Rt} (ok : RunP E run) {ops : List Oper} {cls : List Nat} : ∀ {l : List Nat} {s : Nat} {sl : Slots} {h : Heap} {n : Nat} {K : SKC} {K' : SK}, FlC E run ops cls l s sl h n K = some r → (∀ s h n, K s h n = some r → K' s h n) → FlX E (wlk E) ops cls l s sl h n K'
 | [], s, sl, h, n, K, K', hk, g => g _ _ _ hk
 | e :: l, s, sl, h, n, K, K', hk, g => by
   simp only [FlC] at hk
   simp only [FlX]
   split at hk
   · rename_i e1
     simp only [e1]
     exact setl_c hk fun s hs => cl_c ok.old.ret hs fun s h n hs => fl_c ok hs g
   · rename_i e1
     simp only [e1]
     split at hk
     · cases hk
     rename_i o ho
     simp only [ho]
     split at hk
     · rename_i e2
       simp only [e2]
       exact gW_c ok hk fun s h n hs => fl_c ok hs g
     · rename_i e2
       simp only [e2]
       exact sg_c ok hk fun s h n hs => ag_c ok.old.ret hs fun hs => fl_c ok hs g
def opP1C (E : Env) (run : RqP → Rt) (all : List Oper) (o : Oper) (sl : Slots) (h : Heap) (n : Nat) (K KP : SKC) : Rt := match o.guard with
 | some _ => gWC E run all o sl h n K
 | none => match o.op with
   | .panic x => (match ev E sl x with
     | .ifc T vs => KP ((1999998, .ifc T vs) :: sl) h n
     | _ => none)
   | .call cl => (match panC E cl sl with
     | some (g, caps) => frcL (cl.args.toList.map (ev E sl)) fun az => (match noTup az with
       | true => run (.semP g (az ++ caps) sl h n (fun r sl h n => match o.dst with
         | some d => K ((d, r) :: sl) h n
         | none => K sl h n) KP)
       | false => none)
     | none => (match bndM E cl sl with
       | some (g, az) => run (.semP g az sl h n (fun r sl h n => match o.dst with
         | some d => K ((d, r) :: sl) h n
         | none => K sl h n) KP)
       | none => gWC E run all o sl h n K))
   | _ => gWC E run all o sl h n K
theorem opP1_c {run : RqP → Rt} (ok : RunP E run) {all : List Oper} {o : Oper} {sl : Slots} {h : Heap} {n : Nat} {K KP : SKC} {K' KP' : SK} (hk : opP1C E run all o sl h n K KP = some r) (g : ∀ s h n, K s h n = some r → K' s h n) (gp : ∀ s h n, KP s h n = some r → KP' s h n) : opP1 E all o sl h n K' KP' := by
 unfold opP1C at hk
 unfold opP1
 split at hk
 · rename_i e
   simp only [e]
   exact gW_c ok hk g
 rename_i e
 simp only [e]
 split at hk
 · rename_i x e1
   simp only [e1]
   split at hk
   case h_2 => cases hk
   rename_i e2
   simp only [e2]
   exact gp _ _ _ hk
 · rename_i cl e1
   simp only [e1]
   split at hk
   · rename_i e2
     simp only [e2]
     rw [frcL_eq] at hk ⊢
     split at hk
     case h_2 => cases hk
     rename_i e3
     simp only [e3]
     refine ok.semP _ _ _ _ _ _ _ _ _ _ hk (fun v s h n hs => ?_) gp
     split at hs <;> (rename_i e4; simp only [e4]; exact g _ _ _ hs)
   · rename_i e2
     simp only [e2]
     split at hk
     · rename_i e3
       simp only [e3]
       refine ok.semP _ _ _ _ _ _ _ _ _ _ hk (fun v s h n hs => ?_) gp
       split at hs <;> (rename_i e4; simp only [e4]; exact g _ _ _ hs)
     · rename_i e3
       simp only [e3]
       exact gW_c ok hk g
 · rename_i e1 e2
   split
   · rename_i x e3; exact absurd e3 (e1 x)
   · rename_i x e3; exact absurd e3 (e2 x)
   · exact gW_c ok hk g
def opsPC (E : Env) (run : RqP → Rt) (all : List Oper) : List Oper → Slots → Heap → Nat → SKC → SKC → Rt
 | [], sl, h, n, K, _ => K sl h n
 | o :: r, sl, h, n, K, KP => opP1C E run all o sl h n (fun sl h n => opsPC E run all r sl h n K KP) KP
theorem opsP_c {run : RqP → Rt} (ok : RunP E run) {all : List Oper} : ∀ {l : List Oper} {sl : Slots} {h : Heap} {n : Nat} {K KP : SKC} {K' KP' : SK}, opsPC E run all l sl h n K KP = some r → (∀ s h n, K s h n = some r → K' s h n) → (∀ s h n, KP s h n = some r → KP' s h n) → opsP E all l sl h n K' KP'
 | [], sl, h, n, K, KP, K', KP', hk, g, gp => g _ _ _ hk
 | o :: l, sl, h, n, K, KP, K', KP', hk, g, gp => by
   rw [opsP_cons]
   simp only [opsPC] at hk
   exact opP1_c ok hk (fun s h n hs => opsP_c ok hs g gp) gp
def lstC (E : Env) (run : RqP → Rt) (ops : List Oper) (m : Nat) (sl : Slots) (h : Heap) (n : Nat) (K KP : SKC) : Rt := opsPC E run ops (ops.drop m) sl h n K KP
theorem lst_c {run : RqP → Rt} (ok : RunP E run) {ops : List Oper} {m : Nat} {sl : Slots} {h : Heap} {n : Nat} {K KP : SKC} {K' KP' : SK} (hk : lstC E run ops m sl h n K KP = some r) (g : ∀ s h n, K s h n = some r → K' s h n) (gp : ∀ s h n, KP s h n = some r → KP' s h n) : lstP E ops m sl h n K' KP' := opsP_c ok hk g gp
def npC (K : KXC) : KXC := fun e sl h n => match e with
 | .panic _ => none
 | .outgrown => none
 | e => K e sl h n
theorem np_c {K : KXC} {K' : KX} (g : ∀ e s h n, K e s h n = some r → K' e s h n) : ∀ e s h n, npC K e s h n = some r → npK K' e s h n := by
 intro e s h n hs
 cases e <;> first | (cases hs; done) | exact g _ _ _ _ hs
def exPC (E : Env) (run : RqP → Rt) (fuel N : Nat) : Code → Slots → Heap → Nat → KXC → Rt
 | .skip, sl, h, n, K => K .normal sl h n
 | .seq a b, sl, h, n, K => exPC E run fuel N a sl h n fun e sl h n => match e with
   | .normal => exPC E run fuel N b sl h n K
   | e => K e sl h n
 | .cond c a b, sl, h, n, K => (match ev E sl c with
   | .bool t => (match t with | true => exPC E run fuel N a sl h n K | false => exPC E run fuel N b sl h n K)
   | .tru => exPC E run fuel N a sl h n K
   | .fls => exPC E run fuel N b sl h n K
   | _ => none)
 | .block id b, sl, h, n, K => exPC E run fuel N b sl h n fun e sl h n => (match e with
    | .exit i => (match Nat.beq i id with | true => K .normal sl h n | false => K (.exit i) sl h n)
    | e => K e sl h n)
 | .exit i, sl, h, n, K => K (.exit i) sl h n
 | .ret, sl, h, n, K => K .ret sl h n
 | .region id ops true, sl, h, n, K => (match plnF E.wd ops.toList with
   | some p => FlC E run p.ops (clsF p.ops []) (prtF p.ops (clsF p.ops []) p.ops.length 0) 0 sl h n fun sl h n => lstC E run ops.toList p.m sl h n (fun sl h n => K .normal sl h n) fun sl h n => K (.panic []) sl h n
   | none => execC E (fun q => run (.old q)) fuel N (.region id ops true) sl h n (npC K))
 | .region _ ops false, sl, h, n, K => opsPC E run ops.toList ops.toList sl h n (fun sl h n => K .normal sl h n) fun sl h n => K (.panic []) sl h n
 | .loop b, sl, h, n, K => loopC (exPC E run fuel N b) fuel sl h n K
 | .scope b, sl, h, n, K => exPC E run fuel N b sl h n fun e sl h n => match e with
   | .goto _ => none
   | e => K e sl h n
 | .label _, sl, h, n, K => K .normal sl h n
 | _, _, _, _, _ => none
theorem mtK_nil {b : Bool} : mtK [] b = false := by cases b <;> rfl
theorem exP_c {run : RqP → Rt} (ok : RunP E run) {fuel N : Nat} : ∀ (code : Code) {sl : Slots} {h : Heap} {n : Nat} {K : KXC} {K' : KX}, exPC E run fuel N code sl h n K = some r → (∀ e s h n, K e s h n = some r → K' e s h n) → exP E N [] code sl h n K'
 | .skip, sl, h, n, K, K', hk, g => by simp only [exPC, exP] at hk ⊢; exact g _ _ _ _ hk
 | .exit i, sl, h, n, K, K', hk, g => by simp only [exPC, exP] at hk ⊢; exact g _ _ _ _ hk
 | .ret, sl, h, n, K, K', hk, g => by simp only [exPC, exP] at hk ⊢; exact g _ _ _ _ hk
 | .label _, sl, h, n, K, K', hk, g => by simp only [exPC, exP] at hk ⊢; exact g _ _ _ _ hk
 | .seq a b, sl, h, n, K, K', hk, g => by
   simp only [exPC, exP] at hk ⊢
   refine exP_c ok a hk fun e s h n hs => ?_
   cases e with
   | normal => exact exP_c ok b hs g
   | _ => exact g _ _ _ _ hs
 | .cond c a b, sl, h, n, K, K', hk, g => by
   simp only [exPC, exP, mtK_nil] at hk ⊢
   split at hk
   · rename_i t e
     rw [e]
     cases t with
     | true => exact ⟨fun _ => exP_c ok a hk g, fun h => (by cases h)⟩
     | false => exact ⟨fun h => (by cases h), fun _ => exP_c ok b hk g⟩
   · rename_i e; rw [e]; exact exP_c ok a hk g
   · rename_i e; rw [e]; exact exP_c ok b hk g
   · cases hk
 | .block id b, sl, h, n, K, K', hk, g => by
   simp only [exPC, exP] at hk ⊢
   have : memb id [] = false := rfl
   simp only [this]
   refine exP_c ok b hk fun e s h n hs => ?_
   cases e with
   | exit i =>
     simp only at hs ⊢
     split at hs <;> (rename_i e; simp only [e]; exact g _ _ _ _ hs)
   | _ => exact g _ _ _ _ hs
 | .region id ops true, sl, h, n, K, K', hk, g => by
   simp only [exPC, exP, mtK_nil, regP] at hk ⊢
   split at hk
   · rename_i e
     simp only [e]
     unfold flRun
     exact fl_c ok hk fun s h n hs => lst_c ok hs (fun s h n hs => g _ _ _ _ hs) (fun s h n hs => g _ _ _ _ hs)
   · rename_i e
     simp only [e]
     exact exec_c ok.old _ hk (np_c g)
 | .region id ops false, sl, h, n, K, K', hk, g => by
   simp only [exPC, exP, mtK_nil, regP] at hk ⊢
   exact opsP_c ok hk (fun s h n hs => g _ _ _ _ hs) (fun s h n hs => g _ _ _ _ hs)
 | .loop b, sl, h, n, K, K', hk, g => by
   simp only [exPC, exP] at hk ⊢
   unfold LoopVC
   intro I h1 _ h3
   have go : ∀ f sl h n, loopC (exPC E run fuel N b) f sl h n K = some r → I sl h n := by
    intro f
    induction f with
    | zero => intro sl h n hk; simp only [loopC] at hk; cases hk
    | succ f ih =>
      intro sl h n hk
      simp only [loopC] at hk
      obtain ⟨s, hs, hl⟩ := dedS_ok hk
      refine h3 s sl h n (fun t => .inr (hl t (by simp))) (h1 _ _ _ ?_)
      refine exP_c ok b hs fun e s h n hs => ?_
      cases e with
      | normal => exact ih _ _ _ hs
      | _ => exact g _ _ _ _ hs
   exact go _ _ _ _ hk
 | .scope b, sl, h, n, K, K', hk, g => by
   simp only [exPC, exP] at hk ⊢
   refine exP_c ok b hk fun e s h n hs => ?_
   cases e with
   | goto l => cases hs
   | _ => exact g _ _ _ _ hs
 | .goto _, sl, h, n, K, K', hk, g => by simp only [exPC] at hk; cases hk
 | .refuse _, sl, h, n, K, K', hk, g => by simp only [exPC] at hk; cases hk
 | .rangeFunc .., sl, h, n, K, K', hk, g => by simp only [exPC] at hk; cases hk
end
end Go.Sx
