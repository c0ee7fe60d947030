/-
  An own text of this claim.
-/
import Derived.Test.YtfonolbnhhidmaaGreatDoorA3
namespace Go.Sx
def lkF : List (Nat × Func) -> Nat -> Option Func
 | [], _ => none
 | (i, v) :: r, t => match Nat.beq i t with | true => some v | false => lkF r t
def fnB (fn : Func) (ld : List Nat := []) : Bool :=
 match fn.name == "runtime.NumGoroutine", Nat.ble fn.ntmps 999999, fn.body with
 | false, true, some code => yb ld fn.ntmps code
 | _, _, _ => false
def zb5 (P : Program) (ft : List (Nat × Func)) (ld : List Nat := []) : Prop := match ft with
 | [] => True
 | (f, fn) :: r => (P.funcs[f]? = some fn /\ fnB fn ld = true) /\ zb5 P r ld
theorem zki {P : Program} {ld : List Nat} : ∀ {ft : List (Nat × Func)}, zb5 P ft ld -> ∀ f fn, lkF ft f = some fn -> P.funcs[f]? = some fn /\ fnB fn ld = true
 | (i, v) :: r, h, f, fn, hl => by
   simp only [lkF] at hl
   split at hl
   . rename_i e
     have := zk e; subst this
     cases hl; exact h.1
   . exact zki h.2 f fn hl
def zdh (E : Env) (CR : FuncId -> List SV -> Rt) (sl : Slots) (h : Heap) : List ResultVar -> (List SV -> Rt) -> Rt
 | [], K => K []
 | .tmp t :: r, K => yU h 60 (bl (ev E sl (.tmp t))) [] fun v _ => zdh E CR sl h r fun vs => K (v :: vs)
 | .cell t T :: r, K => opC E CR sl h 0 (.load T (.tmp t)) fun v _ _ => yU h 60 v [] fun v _ => zdh E CR sl h r fun vs => K (v :: vs)
def za0 (E : Env) (CR : FuncId -> List SV -> Rt) (sl : Slots) (h : Heap) : List ResultVar -> (List SV -> Rt) -> Rt
 | [], K => K []
 | .tmp t :: r, K => frc (ev E sl (.tmp t)) fun v => za0 E CR sl h r fun vs => K (v :: vs)
 | .cell t T :: r, K => opC E CR sl h 0 (.load T (.tmp t)) fun v _ _ => za0 E CR sl h r fun vs => K (v :: vs)
def zn9 (E : Env) (CR : FuncId -> List SV -> Rt) (fn : Func) (sl : Slots) (h : Heap) (K : SV -> Rt) : Rt :=
 zdh E CR sl h fn.results.toList fun vs => match vs with
  | [v] => K v
  | vs => match wh vs with | true => K (.tup vs) | false => none
def zti (E : Env) (CR : FuncId -> List SV -> Rt) (fn : Func) (sl : Slots) (h : Heap) (K : SV -> Rt) : Rt :=
 za0 E CR sl h fn.results.toList fun vs => match vs with
  | [v] => K v
  | vs => match wh vs with | true => K (.tup vs) | false => none
section
variable {r : SV} {E : Env} {CR : FuncId -> List SV -> Rt} (hCR : ∀ f args r, CR f args = some r -> Ret E f args r) {sl : Slots} {h : Heap}
include hCR in
theorem zpb : ∀ {l : List ResultVar} {K : List SV -> Rt} {K' : List SV -> Prop}, zdh E CR sl h l K = some r -> (∀ vs, K vs = some r -> K' vs) -> za5 E sl h l K'
 | [], K, K', hk, g => by simp only [zdh, za5] at hk ⊢; exact g _ hk
 | .tmp t :: l, K, K', hk, g => by
   simp only [zdh, za5] at hk ⊢
   exact zc7 hk fun s ns hs => zpb hs fun vs hv => g _ hv
 | .cell t T :: l, K, K', hk, g => by
   simp only [zdh, za5] at hk ⊢
   exact zs3 hCR hk fun a b c hs => zc7 hs fun s ns hs => zpb hs fun vs hv => g _ hv
include hCR in
theorem zkh : ∀ {l : List ResultVar} {K : List SV -> Rt} {K' : List SV -> Prop}, za0 E CR sl h l K = some r -> (∀ vs, K vs = some r -> K' vs) -> xF E sl h l K'
 | [], K, K', hk, g => by simp only [za0, xF] at hk ⊢; exact g _ hk
 | .tmp t :: l, K, K', hk, g => by
   simp only [za0, xF, zB] at hk ⊢
   exact zkh hk fun vs hv => g _ hv
 | .cell t T :: l, K, K', hk, g => by
   simp only [za0, xF] at hk ⊢
   exact zs3 hCR hk fun a b c hs => zkh hs fun vs hv => g _ hv
include hCR in
theorem zl8 {fn : Func} {K : SV -> Rt} {K' : SV -> Prop} (hk : zn9 E CR fn sl h K = some r) (g : ∀ v, K v = some r -> K' v) : jT E fn sl h K' := by
 unfold zn9 at hk
 unfold jT
 refine zpb hCR hk fun vs hv => ?_
 split at hv
 . exact g _ hv
 . split at hv
   case h_2 => cases hv
   rename_i e1 e2
   simp only [e2]
   exact g _ hv
include hCR in
theorem zwd {fn : Func} {K : SV -> Rt} {K' : SV -> Prop} (hk : zti E CR fn sl h K = some r) (g : ∀ v, K v = some r -> K' v) : zg9 E fn sl h K' := by
 unfold zti at hk
 unfold zg9
 refine zkh hCR hk fun vs hv => ?_
 split at hv
 . exact g _ hv
 . split at hv
   case h_2 => cases hv
   rename_i e1 e2
   simp only [e2]
   exact g _ hv
end
theorem zid {r : SV} : ∀ {l : List SV} {i : Nat} {sl : Slots} {K : Slots -> Rt} {K' : Slots -> Prop}, ini l i sl K = some r -> (∀ s, K s = some r -> K' s) -> ini l i sl K'
 | [], i, sl, K, K', hk, g => by simp only [ini] at hk ⊢; exact g _ hk
 | v :: l, i, sl, K, K', hk, g => by
   simp only [ini, zB] at hk ⊢
   exact zid hk g
def wO : List Nat -> List SV -> Slots -> (Slots -> Rt) -> Rt
 | [], [], sl, K => K sl
 | t :: ts, v :: vs, sl, K => frc v fun v => wO ts vs ((t, v) :: sl) K
 | _, _, _, _ => none
theorem zAh {r : SV} : ∀ {ts : List Nat} {vs : List SV} {sl : Slots} {K : Slots -> Rt} {K' : Slots -> Prop}, wO ts vs sl K = some r -> (∀ s, K s = some r -> K' s) -> zgy ts vs sl K'
 | [], [], sl, K, K', hk, g => by simp only [wO, zgy] at hk ⊢; exact g _ hk
 | t :: ts, v :: vs, sl, K, K', hk, g => by
   simp only [wO, zgy, zB] at hk ⊢
   exact zAh hk g
 | [], _ :: _, _, _, _, hk, _ => by simp only [wO] at hk; cases hk
 | _ :: _, [], _, _, _, hk, _ => by simp only [wO] at hk; cases hk
structure Hk where
 x : List (Nat × (List SV -> Rt))
 s : List (Nat × (List SV -> Slots -> Heap -> Nat -> (SV -> Slots -> Heap -> Nat -> Rt) -> Rt))
def lkX : List (Nat × (List SV -> Rt)) -> Nat -> List SV -> Rt
 | [], _, _ => none
 | (g, k) :: r, f, as => match Nat.beq g f with | true => k as | false => lkX r f as
def lkY : List (Nat × (List SV -> Slots -> Heap -> Nat -> (SV -> Slots -> Heap -> Nat -> Rt) -> Rt)) -> Nat -> List SV -> Slots -> Heap -> Nat -> (SV -> Slots -> Heap -> Nat -> Rt) -> Rt
 | [], _, _, _, _, _, _ => none
 | (g, k) :: r, f, as, sl, h, n, K => match Nat.beq g f with | true => k as sl h n K | false => lkY r f as sl h n K
structure HkOK (E : Env) (hk : Hk) : Prop where
 x : ∀ f as r, lkX hk.x f as = some r -> Ret E f as r
 s : ∀ f as sl h n K r (K' : SV -> Slots -> Heap -> Nat -> Prop), lkY hk.s f as sl h n K = some r -> (∀ v s h n, K v s h n = some r -> K' v s h n) -> qp E f as sl h n K'
abbrev Hk.no : Hk := ⟨[], []⟩
theorem HkOK.no {E : Env} : HkOK E Hk.no := ⟨fun _ _ _ h => (by cases h), fun _ _ _ _ _ _ _ _ h => (by cases h)⟩
def qL (E : Env) (ft : List (Nat × Func)) (hk : Hk) (fuel : Nat) : Nat -> Rq -> Rt
 | 0, _ => none
 | d + 1, q => match q with
   | .ret f as => (match lkF ft f with
     | some fn => (match fn.body, Nat.ble as.length fn.ntmps with
       | some code, true => ini as 0 [] fun sl => qK E (qL E ft hk fuel d) fuel fn.ntmps code sl [] 0 fun e sl h _ => (match e with
         | .normal | .ret => zn9 E (fun f as => qL E ft hk fuel d (.ret f as)) fn sl h some
         | _ => none)
       | _, _ => none)
     | none => lkX hk.x f as)
   | .sem f as sl h n K => (match lkF ft f with
     | some fn => (match fn.body, Nat.ble as.length fn.ntmps with
       | some code, true => jn sl fun sl1 => ini as 0 sl1 fun sl2 => qK E (qL E ft hk fuel d) fuel fn.ntmps code sl2 h n fun e sl3 h3 n3 => (match e with
         | .normal | .ret => zti E (fun f as => qL E ft hk fuel d (.ret f as)) fn sl3 h3 fun r => yQ sl3 fun sl4 => K r sl4 h3 n3
         | _ => none)
       | _, _ => none)
     | none => lkY hk.s f as sl h n K)
   | .yld b as sl h n K => (match lkB h b with
     | some (.gho q s) => (match q.dead, zig q.N q.ps.toList, Nat.ble q.N 999999, yb [] q.N q.asg, yb [] q.N q.body, rfB q.asg, rfB q.body with
       | false, true, true, true, true, false, false => jn sl fun sl1 => zfd s sl1 fun sl1 => wO q.ps.toList as sl1 fun sl2 => qK E (qL E ft hk fuel d) fuel q.N q.asg ((1999999, .yld b) :: sl2) h n fun e sl3 h3 n3 => (match e with
         | .normal => (match lkB h3 b with
           | some (.gho q3 s3) => (match zun q3.st .ready, q3.dead, zfi (lk sl3 1999999) b with
             | true, false, true => stK h3 b (.gho { q3 with st := .busy } s3) fun h4 => qK E (qL E ft hk fuel d) fuel q.N q.body sl3 h4 n3 fun e sl5 h5 n5 => (match lkB h5 b with
               | some (.gho q5 s5) => (match q5.dead, zCa q5 e, zfi (lk sl5 1999999) b with
                 | false, some q6, true => stK h5 b (.gho q6 s5) fun h6 => yQ sl5 fun sl6 => K (match e with | .normal => .tru | _ => .fls) ((999999, .any) :: sl6) h6 n5
                 | _, _, _ => none)
               | _ => none)
             | _, _, _ => none)
           | _ => none)
         | _ => none)
       | _, _, _, _, _, _, _ => none)
     | _ => none)
theorem zi1 {fn : Func} {ld : List Nat} (h : fnB fn ld = true) : (fn.name == "runtime.NumGoroutine") = false /\ fn.ntmps <= 999999 /\ ∃ code, fn.body = some code /\ yb ld fn.ntmps code = true := by
 unfold fnB at h
 split at h
 . rename_i code e1 e2 e3
   rw [Nat.ble_eq] at e2
   exact ⟨e1, e2, code, e3, h⟩
 . cases h
theorem zfo {E : Env} (ok : EnvOK E) {ft : List (Nat × Func)} {ld : List Nat} (hft : zb5 E.P ft ld) (hld : ld = [] \/ ld = E.lend) {hkk : Hk} (hx : HkOK E hkk) {fuel : Nat} : ∀ d, RunOK E (qL E ft hkk fuel d)
 | 0 => ⟨fun _ _ _ h => (by simp only [qL] at h; cases h), fun _ _ _ _ _ _ _ _ h => (by simp only [qL] at h; cases h), fun _ _ _ _ _ _ _ _ h => (by simp only [qL] at h; cases h)⟩
 | d + 1 => by
   have ih := zfo ok hft hld hx (fuel := fuel) d
   refine ⟨fun f as r h => ?_, fun f as sl h n K r K' hk g => ?_, fun b as sl h n K r K' hk g => ?_⟩
   . simp only [qL] at h
     split at h
     case h_2 => exact hx.x _ _ _ h
     rename_i fn hl
     obtain ⟨h1, h2⟩ := zki hft _ _ hl
     obtain ⟨h3, h4, code', h5, h6⟩ := zi1 h2
     split at h
     case h_2 => cases h
     rename_i code e1 e2
     rw [e1] at h5; cases h5
     rw [Nat.ble_eq] at e2
     refine zgd (cuts := []) ok h1 e1 h3 e2 (by omega) (qF ok hld h6) (zid h fun s hs => wT ih _ hs fun e s h n hs => ?_)
     split at hs
     . exact zl8 ih.ret hs fun v hv => by cases hv; exact .r
     . exact zl8 ih.ret hs fun v hv => by cases hv; exact .r
     . cases hs
   . simp only [qL] at hk
     split at hk
     case h_2 => exact hx.s _ _ _ _ _ _ _ _ hk g
     rename_i fn hl
     obtain ⟨h1, h2⟩ := zki hft _ _ hl
     obtain ⟨h3, h4, code', h5, h6⟩ := zi1 h2
     split at hk
     case h_2 => cases hk
     rename_i code e1 e2
     rw [e1] at h5; cases h5
     rw [Nat.ble_eq] at e2
     rw [xS] at hk
     refine zvc (cuts := []) ok h1 e1 h3 e2 (by omega) (qF ok hld h6) ?_
     rw [xS]
     refine zid hk fun s hs => wT ih _ hs fun e s h n hs => ?_
     split at hs
     . refine zwd ih.ret hs fun v hv => ?_
       rw [xl] at hv ⊢
       exact g _ _ _ _ hv
     . refine zwd ih.ret hs fun v hv => ?_
       rw [xl] at hv ⊢
       exact g _ _ _ _ hv
     . cases hs
   . simp only [qL] at hk
     split at hk
     case h_2 => cases hk
     rename_i q s hq
     split at hk
     case h_2 => cases hk
     rename_i e1 e2 e3 e4 e5 e6 e7
     refine zn7 (cuts := []) ok hq (qF ok (.inl rfl) e4) (qF ok (.inl rfl) e5) e6 e7 ?_
     unfold zom
     simp only [hq, e1, e2, e3]
     rw [xS, zoo] at hk ⊢
     refine zAh hk fun s hs => wT ih _ hs fun e s h n hs => ?_
     cases e with
     | normal =>
       simp only at hs ⊢
       split at hs
       case h_2 => cases hs
       rename_i q3 s3 q1
       simp only [q1]
       split at hs
       case h_2 => cases hs
       rename_i q2 q4 q5
       simp only [q2, q4, q5]
       simp only [q4] at hs
       rw [qS] at hs ⊢
       refine wT ih _ hs fun e s h n hs => ?_
       split at hs
       case h_2 => cases hs
       rename_i q6 s6 p1
       simp only [p1]
       split at hs
       case h_2 => cases hs
       rename_i q7 p2 p3 p4
       simp only [p2, p3, p4]
       rw [qS, xl] at hs ⊢
       exact g _ _ _ _ hs
     | _ => cases hs
theorem ju {E : Env} (ok : EnvOK E) {ft : List (Nat × Func)} (hft : zb5 E.P ft) {hk : Hk} (hx : HkOK E hk) {fuel d : Nat} {f : FuncId} {as : List SV} {r : SV} (h : qL E ft hk fuel d (.ret f as) = some r) : Ret E f as r := (zfo ok hft (.inl rfl) hx d).ret f as r h
theorem qC {E : Env} (ok : EnvOK E) {ft : List (Nat × Func)} (hft : zb5 E.P ft E.lend) {hk : Hk} (hx : HkOK E hk) {fuel d : Nat} {f : FuncId} {as : List SV} {r : SV} (h : qL E ft hk fuel d (.ret f as) = some r) : Ret E f as r := (zfo ok hft (.inr rfl) hx d).ret f as r h
end Go.Sx
