/-
  CLOSED RUNS OF THE EXECUTOR WITH PANICS: the machine. Generic: no program in sight. An own text.
-/
import Derived.Test.YtbhkopbgjnpcpaaGreatDoorB8
namespace Go.Sx
section
variable {r : SV} {E : Env}
def dfrC (E : Env) (run : RqP → Rt) (fuel : Nat) (D : DoorD) (caps : List SV) (x : SV) (sl : Slots) (h : Heap) (n : Nat) (K : SKC) : Rt := match eqZ (lk sl 1999997) (.fn D.g caps) with
 | true => shSK sl fun sl1 => ini caps 0 sl1 fun sl2 => exPC E run fuel D.fg.ntmps D.cr ((D.d, x) :: sl2) h n fun e sl3 h3 n3 => (match e with
   | .normal | .ret => unSK sl3 fun sl4 => K ((1999997, .any) :: (1999998, .any) :: sl4) h3 n3
   | _ => none)
 | false => none
theorem dfr_c {run : RqP → Rt} (ok : RunP E run) {fuel : Nat} {D : DoorD} {caps : List SV} {x : SV} {sl : Slots} {h : Heap} {n : Nat} {K : SKC} {K' : SK} (hk : dfrC E run fuel D caps x sl h n K = some r) (g : ∀ s h n, K s h n = some r → K' s h n) : dfrX E D.fg D.cr D.d [] D.g caps x sl h n K' := by
 unfold dfrC at hk
 unfold dfrX
 split at hk
 case h_2 => cases hk
 rename_i e
 refine ⟨eqZ_ok e, ?_⟩
 rw [shSK_eq] at hk ⊢
 refine ini_c hk fun s hs => exP_c ok _ hs fun e s h n hs => ?_
 split at hs
 · rw [unSK_eq] at hs ⊢; exact g _ _ _ hs
 · rw [unSK_eq] at hs ⊢; exact g _ _ _ hs
 · cases hs
def doorC (E : Env) (run : RqP → Rt) (fuel N : Nat) (D : DoorD) : List Code → Slots → Heap → Nat → SKC → SKC → Rt
 | [], sl, h, n, K, _ => gWC E run [D.o1, D.o2] D.o1 sl h n fun sl h n => (match lk sl D.t with
   | .fn g' caps => (match Nat.beq g' D.g, Nat.ble caps.length D.fg.ntmps with
     | true, true => exPC E run fuel N D.B ((1999997, .fn D.g caps) :: sl) h n fun e sl h n => (match e with
       | .normal | .ret => dfrC E run fuel D caps .nili sl h n K
       | .panic _ => frc (lk sl 1999998) fun x => dfrC E run fuel D caps x sl h n K
       | _ => none)
     | _, _ => none)
   | _ => none)
 | a :: l, sl, h, n, K, KP => exPC E run fuel N a sl h n fun e sl h n => match e with
   | .normal => doorC E run fuel N D l sl h n K KP
   | .ret => K sl h n
   | .panic _ => KP sl h n
   | _ => none
theorem door_c {run : RqP → Rt} (ok : RunP E run) {fuel N : Nat} {D : DoorD} : ∀ {l : List Code} {sl : Slots} {h : Heap} {n : Nat} {K KP : SKC} {K' KP' : SK}, doorC E run fuel N D l sl h n K KP = some r → (∀ s h n, K s h n = some r → K' s h n) → (∀ s h n, KP s h n = some r → KP' s h n) → doorX E N [] D.g D.fg D.cr D.d [] D.o1 D.o2 D.t D.B l sl h n K' KP'
 | [], sl, h, n, K, KP, K', KP', hk, g, gp => by
   simp only [doorC] at hk
   simp only [doorX]
   refine gW_c ok hk fun s h n hs => ?_
   split at hs
   case h_2 => cases hs
   rename_i g' caps e1
   simp only [e1]
   split at hs
   case h_2 => cases hs
   rename_i e2 e3
   simp only [e2, e3]
   refine exP_c ok _ hs fun e s h n hs => ?_
   split at hs
   · exact dfr_c ok hs g
   · exact dfr_c ok hs g
   · rw [frc_eq] at hs; exact dfr_c ok hs g
   · cases hs
 | a :: l, sl, h, n, K, KP, K', KP', hk, g, gp => by
   simp only [doorC] at hk
   simp only [doorX]
   refine exP_c ok _ hk fun e s h n hs => ?_
   split at hs
   · exact door_c ok hs g gp
   · exact g _ _ _ hs
   · exact gp _ _ _ hs
   · cases hs
theorem semP_of_sem {f : FuncId} {az : List SV} {sl : Slots} {h : Heap} {n : Nat} {K : SV → SK} {KP : SK} (hx : SemCall E f az sl h n K) : SemCallP E f az sl h n K KP := by
 unfold SemCallP
 unfold SemCall at hx
 refine ⟨hx.1, fun c a w β Y us hE m hs hus => (hx.2 c a w β Y us hE m hs hus).mono ?_⟩
 rintro e w' h1
 exact .inl h1
end
def resMC (E : Env) (CR : FuncId → List SV → Rt) (sl : Slots) (h : Heap) : List ResultVar → (List SV → Rt) → Rt
 | [], K => K []
 | .tmp t :: r, K => frzC h 60 (bm (ev E sl (.tmp t))) [] fun v _ => resMC E CR sl h r fun vs => K (v :: vs)
 | .cell t T :: r, K => opC E CR sl h 0 (.load T (.tmp t)) fun v _ _ => frzC h 60 (bm v) [] fun v _ => resMC E CR sl h r fun vs => K (v :: vs)
def resXC (E : Env) (CR : FuncId → List SV → Rt) (fn : Func) (sl : Slots) (h : Heap) (K : SV → Rt) : Rt :=
 resMC E CR sl h fn.results.toList fun vs => match vs with
  | [v] => K v
  | vs => match noTup vs with | true => K (.tup vs) | false => none
theorem resM_c {r : SV} {E : Env} {CR : FuncId → List SV → Rt} (hCR : ∀ f args r, CR f args = some r → Ret E f args r) {sl : Slots} {h : Heap} : ∀ {l : List ResultVar} {K : List SV → Rt} {K' : List SV → Prop}, resMC E CR sl h l K = some r → (∀ vs, K vs = some r → K' vs) → resM E sl h l K'
 | [], K, K', hk, g => by simp only [resMC, resM] at hk ⊢; exact g _ hk
 | .tmp t :: l, K, K', hk, g => by
   simp only [resMC, resM] at hk ⊢
   exact frz_c hk fun s ns hs => resM_c hCR hs fun vs hv => g _ hv
 | .cell t T :: l, K, K', hk, g => by
   simp only [resMC, resM] at hk ⊢
   exact op_c hCR hk fun a b c hs => frz_c hs fun s ns hs => resM_c hCR hs fun vs hv => g _ hv
theorem resX_c {r : SV} {E : Env} {CR : FuncId → List SV → Rt} (hCR : ∀ f args r, CR f args = some r → Ret E f args r) {sl : Slots} {h : Heap} {fn : Func} {K : SV → Rt} {K' : SV → Prop} (hk : resXC E CR fn sl h K = some r) (g : ∀ v, K v = some r → K' v) : resXM E fn sl h K' := by
 unfold resXC at hk
 unfold resXM
 refine resM_c hCR hk fun vs hv => ?_
 split at hv
 · exact g _ hv
 · split at hv
   case h_2 => cases hv
   rename_i e1 e2
   simp only [e2]
   exact g _ hv
def lkD : List (Nat × Func × Nat × Func) → Nat → Option (Func × Nat × Func)
 | [], _ => none
 | (i, v) :: r, t => match Nat.beq i t with | true => some v | false => lkD r t
def fdOK (P : Program) : List (Nat × Func × Nat × Func) → Prop
 | [] => True
 | (f, fn, g, fg) :: r => (P.funcs[f]? = some fn ∧ P.funcs[g]? = some fg) ∧ fdOK P r
theorem fdOK_lk {P : Program} : ∀ {ft : List (Nat × Func × Nat × Func)}, fdOK P ft → ∀ f fn g fg, lkD ft f = some (fn, g, fg) → P.funcs[f]? = some fn ∧ P.funcs[g]? = some fg
 | [], _, _, _, _, _, hl => by cases hl
 | (i, fn', g', fg') :: r, h, f, fn, g, fg, hl => by
   simp only [lkD] at hl
   split at hl
   · rename_i e
     have := beq_of e; subst this
     cases hl; exact h.1
   · exact fdOK_lk h.2 f fn g fg hl
def ftOKP (P : Program) (ld : Wd) : List (Nat × Func) → Prop
 | [] => True
 | (f, fn) :: r => (P.funcs[f]? = some fn ∧ fnBP ld fn = true) ∧ ftOKP P ld r
theorem ftOKP_lk {P : Program} {ld : Wd} : ∀ {ft : List (Nat × Func)}, ftOKP P ld ft → ∀ f fn, lkF ft f = some fn → P.funcs[f]? = some fn ∧ fnBP ld fn = true
 | [], _, _, _, hl => by cases hl
 | (i, v) :: r, h, f, fn, hl => by
   simp only [lkF] at hl
   split at hl
   · rename_i e
     have := beq_of e; subst this
     cases hl; exact h.1
   · exact ftOKP_lk h.2 f fn hl
def pnOutC (sl : Slots) (h : Heap) (n : Nat) (KP : SKC) : Rt := frc (lk sl 1999998) fun x => unSK sl fun sl4 => KP ((1999998, x) :: (999998, .any) :: sl4) h n
def resIPC (E : Env) (run : RqP → Rt) (fn : Func) (K : SV → SKC) (sl : Slots) (h : Heap) (n : Nat) : Rt := resIC E (fun f az => run (.old (.ret f az))) fn sl h fun r => unSK sl fun sl4 => K r sl4 h n
def semPC (E : Env) (ft : List (Nat × Func)) (fd : List (Nat × Func × Nat × Func)) (hk : Hk) (fuel : Nat) (run : RqP → Rt) (f : FuncId) (az : List SV) (sl : Slots) (h : Heap) (n : Nat) (K : SV → SKC) (KP : SKC) : Rt := match lkF ft f with
 | some fn => (match fn.body, Nat.ble az.length fn.ntmps with
   | some code, true => shSK sl fun sl1 => ini az 0 sl1 fun sl2 => exPC E run fuel fn.ntmps code sl2 h n fun e sl3 h3 n3 => (match e with
     | .normal | .ret => resIPC E run fn K sl3 h3 n3
     | .panic _ => pnOutC sl3 h3 n3 KP
     | _ => none)
   | _, _ => none)
 | none => (match lkD fd f with
   | some (fn, g, fg) => (match dorB E.wd fn g fg, Nat.ble az.length fn.ntmps with
     | some D, true => shSK sl fun sl1 => ini az 0 sl1 fun sl2 => doorC E run fuel fn.ntmps D D.pre sl2 h n (fun sl h n => resIPC E run fn K sl h n) fun sl h n => pnOutC sl h n KP
     | _, _ => none)
   | none => lkY hk.s f az sl h n K)
def runE (E : Env) (ft : List (Nat × Func)) (fd : List (Nat × Func × Nat × Func)) (hk : Hk) (fuel : Nat) : Nat → RqP → Rt
 | 0, _ => none
 | d + 1, q => match q with
   | .old (.ret f xs) => (match lkF ft f with
     | some fn => (match fn.body, Nat.ble xs.length fn.ntmps with
       | some code, true => ini xs 0 [] fun sl => exPC E (runE E ft fd hk fuel d) fuel fn.ntmps code sl [] 0 fun e sl h _ => (match e with
         | .normal | .ret => resXC E (fun f xs => runE E ft fd hk fuel d (.old (.ret f xs))) fn sl h some
         | _ => none)
       | _, _ => none)
     | none => (match lkD fd f with
       | some (fn, g, fg) => (match dorB E.wd fn g fg, Nat.ble xs.length fn.ntmps with
         | some D, true => ini xs 0 [] fun sl => doorC E (runE E ft fd hk fuel d) fuel fn.ntmps D D.pre sl [] 0 (fun sl h _ => resXC E (fun f xs => runE E ft fd hk fuel d (.old (.ret f xs))) fn sl h some) fun _ _ _ => none
         | _, _ => none)
       | none => lkX hk.x f xs))
   | .old (.sem f xs sl h n K) => semPC E ft fd hk fuel (runE E ft fd hk fuel d) f xs sl h n K fun _ _ _ => none
   | .old (.yld ..) => none
   | .semP f xs sl h n K KP => semPC E ft fd hk fuel (runE E ft fd hk fuel d) f xs sl h n K KP
section
variable {E : Env} {ft : List (Nat × Func)} {fd : List (Nat × Func × Nat × Func)} {hkk : Hk} {fuel : Nat}
theorem semPC_ok (ok : EnvOK E) (hft : ftOKP E.P E.wd ft) (hfd : fdOK E.P fd) (hx : HkOK E hkk) {run : RqP → Rt} (ih : RunP E run) {f : FuncId} {az : List SV} {sl : Slots} {h : Heap} {n : Nat} {K : SV → SKC} {KP : SKC} {r : SV} {K' : SV → SK} {KP' : SK} (hk : semPC E ft fd hkk fuel run f az sl h n K KP = some r) (g : ∀ v s h n, K v s h n = some r → K' v s h n) (gp : ∀ s h n, KP s h n = some r → KP' s h n) : SemCallP E f az sl h n K' KP' := by
 have res : ∀ {fn : Func} {s h n}, resIPC E run fn K s h n = some r → resI E fn s h fun r => unSK s fun sl4 => K' r sl4 h n := by
  intro fn s h n hs
  unfold resIPC at hs
  refine resI_c ih.old.ret hs fun v hv => ?_
  rw [unSK_eq] at hv ⊢
  exact g _ _ _ _ hv
 have pan : ∀ {s h n}, pnOutC s h n KP = some r → pnOut s h n KP' := by
  intro s h n hs
  unfold pnOutC at hs
  unfold pnOut
  rw [frc_eq, unSK_eq] at hs ⊢
  exact gp _ _ _ hs
 unfold semPC at hk
 split at hk
 · rename_i fn hl
   obtain ⟨h1, h2⟩ := ftOKP_lk hft _ _ hl
   obtain ⟨h3, h4, code', h5, h6⟩ := fnBP_ok h2
   split at hk
   case h_2 => cases hk
   rename_i code e1 e2
   rw [e1] at h5; cases h5
   rw [Nat.ble_eq] at e2
   rw [shSK_eq] at hk
   refine inlineP (cuts := []) ok h1 e1 h3 e2 (by omega) (codePB_ok ok h6) ?_
   unfold inP
   rw [shSK_eq]
   refine ini_c hk fun s hs => bodyK_nil (exP_c ih _ hs fun e s h n hs => ?_)
   split at hs
   · exact res hs
   · exact res hs
   · exact pan hs
   · cases hs
 · split at hk
   · rename_i fn g' fg hl
     obtain ⟨h1, h2⟩ := fdOK_lk hfd _ _ _ _ hl
     split at hk
     case h_2 => cases hk
     rename_i D e1 e2
     rw [Nat.ble_eq] at e2
     rw [shSK_eq] at hk
     refine semDoor ok (dorB_ok ok h2 e1) (cuts := []) (cutsg := []) h1 e2 ?_
     rw [shSK_eq]
     exact ini_c hk fun s hs => door_c ih hs (fun s h n hs => res hs) (fun s h n hs => pan hs)
   · exact semP_of_sem (hx.s _ _ _ _ _ _ _ _ hk g)
theorem runE_ok (ok : EnvOK E) (hft : ftOKP E.P E.wd ft) (hfd : fdOK E.P fd) (hx : HkOK E hkk) : ∀ d, RunP E (runE E ft fd hkk fuel d)
 | 0 => ⟨⟨fun _ _ _ h => (by simp only [runE] at h; cases h), fun _ _ _ _ _ _ _ _ h => (by simp only [runE] at h; cases h), fun _ _ _ _ _ _ _ _ h => (by simp only [runE] at h; cases h)⟩, fun _ _ _ _ _ _ _ _ _ _ h => (by simp only [runE] at h; cases h)⟩
 | d + 1 => by
   have ih := runE_ok ok hft hfd hx d
   refine ⟨⟨fun f xs r h => ?_, fun f xs sl h n K r K' hk g => ?_, fun b xs sl h n K r K' hk g => ?_⟩, fun f xs sl h n K KP r K' KP' hk g gp => ?_⟩
   · simp only [runE] at h
     split at h
     · rename_i fn hl
       obtain ⟨h1, h2⟩ := ftOKP_lk hft _ _ hl
       obtain ⟨h3, h4, code', h5, h6⟩ := fnBP_ok h2
       split at h
       case h_2 => cases h
       rename_i code e1 e2
       rw [e1] at h5; cases h5
       rw [Nat.ble_eq] at e2
       refine ret_of_exP (cuts := []) ok h1 e1 h3 e2 (by omega) (codePB_ok ok h6) (ini_c h fun s hs => exP_c ih _ hs fun e s h n hs => ?_)
       split at hs
       · exact resX_c ih.old.ret hs fun v hv => by cases hv; exact .refl _
       · exact resX_c ih.old.ret hs fun v hv => by cases hv; exact .refl _
       · cases hs
     · split at h
       · rename_i fn g' fg hl
         obtain ⟨h1, h2⟩ := fdOK_lk hfd _ _ _ _ hl
         split at h
         case h_2 => cases h
         rename_i D e1 e2
         rw [Nat.ble_eq] at e2
         exact retDoor ok (dorB_ok ok h2 e1) (cuts := []) (cutsg := []) h1 e2 (ini_c h fun s hs => door_c ih hs (fun s h n hs => resX_c ih.old.ret hs fun v hv => by cases hv; exact .refl _) (fun s h n hs => by cases hs))
       · exact hx.x _ _ _ h
   · simp only [runE] at hk
     exact sem_of_semP (semPC_ok ok hft hfd hx ih hk g (fun s h n hs => by cases hs))
   · simp only [runE] at hk; cases hk
   · simp only [runE] at hk
     exact semPC_ok ok hft hfd hx ih hk g gp
theorem ret_of_runE (ok : EnvOK E) (hft : ftOKP E.P E.wd ft) (hfd : fdOK E.P fd) (hx : HkOK E hkk) {d : Nat} {f : FuncId} {xs : List SV} {r : SV} (h : runE E ft fd hkk fuel d (.old (.ret f xs)) = some r) : Ret E f xs r := (runE_ok ok hft hfd hx d).old.ret f xs r h
end
end Go.Sx
