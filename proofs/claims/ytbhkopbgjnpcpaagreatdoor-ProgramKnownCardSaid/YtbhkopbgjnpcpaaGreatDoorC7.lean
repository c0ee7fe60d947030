/-
  ROWS OF SLICES WHOSE CONTENTS NOBODY ASKS FOR: closed runs. Generic: no program in sight. An own text.
-/
import Derived.Test.YtbhkopbgjnpcpaaGreatDoorC6
namespace Go.Sx
section
variable {r : SV} {E : Env}
def JRegC (p : JP) (sl : Slots) (h : Heap) (K : Slots → Rt) : Rt :=
 match lk sl p.tS, lk sl p.ti, lk sl p.ta, lk sl 1000007, lk sl 1000008, lk sl 1000009 with
 | .ptr b2 [], .int .i64 i, .int .i64 _, .osl bk _, .int .i64 m, .int .i64 q => (match lkB h b2 with
   | some (.var true (.agg fs)) => (match nthS fs p.fld, Nat.beq (szs (fs.take p.fld)) p.off with
     | .osl bk' _, true => (match Nat.beq bk' bk with
       | true => sideC (0 ≤ i ∧ i < m ∧ q < 1000000000) (frI (q + 1) fun q => K ((1000009, .int .i64 q) :: anyS p.d 12 sl))
       | false => none)
     | _, _ => none)
   | _ => none)
 | _, _, _, _, _, _ => none
theorem jreg_c {p : JP} {sl : Slots} {h : Heap} {K : Slots → Rt} {K' : Slots → Prop} (hk : JRegC p sl h K = some r) (g : ∀ s, K s = some r → K' s) : JReg p sl h K' := by
 unfold JRegC at hk
 unfold JReg
 split at hk
 case h_2 => cases hk
 rename_i e1 e2 e3 e4 e5 e6
 simp only [e1, e2, e3, e4, e5, e6]
 split at hk
 case h_2 => cases hk
 rename_i e7
 simp only [e7]
 split at hk
 case h_2 => cases hk
 rename_i e8 e9
 simp only [e8, e9]
 split at hk
 case h_2 => cases hk
 rename_i e10
 simp only [e10]
 refine side_c hk fun hk => ?_
 rw [frI_eq] at hk
 exact g _ hk
def exJC (E : Env) (run : RqP → Rt) (fuel N : Nat) (p : JP) : Code → Slots → Heap → Nat → KXC → Rt
 | .skip, sl, h, n, K => K .normal sl h n
 | .seq a b, sl, h, n, K => exJC E run fuel N p a sl h n fun e sl h n => match e with
   | .normal => exJC E run fuel N p b sl h n K
   | e => K e sl h n
 | .cond c a b, sl, h, n, K => (match ev E sl c with
   | .bool t => (match t with | true => exJC E run fuel N p a sl h n K | false => exJC E run fuel N p b sl h n K)
   | .tru => exJC E run fuel N p a sl h n K
   | .fls => exJC E run fuel N p b sl h n K
   | _ => none)
 | .block id b, sl, h, n, K => exJC E run fuel N p b sl h n fun e sl h n => (match e with
    | .exit i => (match Nat.beq i id with | true => K .normal sl h n | false => K (.exit i) sl h n)
    | e => K e sl h n)
 | .exit i, sl, h, n, K => K (.exit i) sl h n
 | .ret, sl, h, n, K => K .ret sl h n
 | .region id ops d, sl, h, n, K => (match hasApp ops.toList with
   | true => JRegC p sl h fun sl => K .normal sl h n
   | false => exPC E run fuel N (.region id ops d) sl h n (npC K))
 | .loop b, sl, h, n, K => loopC (exJC E run fuel N p b) fuel sl h n K
 | _, _, _, _, _ => none
theorem exJ_c {run : RqP → Rt} (ok : RunP E run) {fuel N : Nat} {p : JP} : ∀ (code : Code) {sl : Slots} {h : Heap} {n : Nat} {K : KXC} {K' : KX}, exJC E run fuel N p code sl h n K = some r → (∀ e s h n, K e s h n = some r → K' e s h n) → execJ E N [] p code sl h n K'
 | .skip, sl, h, n, K, K', hk, g => by simp only [exJC, execJ] at hk ⊢; exact g _ _ _ _ hk
 | .exit i, sl, h, n, K, K', hk, g => by simp only [exJC, execJ] at hk ⊢; exact g _ _ _ _ hk
 | .ret, sl, h, n, K, K', hk, g => by simp only [exJC, execJ] at hk ⊢; exact g _ _ _ _ hk
 | .seq a b, sl, h, n, K, K', hk, g => by
   simp only [exJC, execJ] at hk ⊢
   refine exJ_c ok a hk fun e s h n hs => ?_
   cases e with
   | normal => exact exJ_c ok b hs g
   | _ => exact g _ _ _ _ hs
 | .cond c a b, sl, h, n, K, K', hk, g => by
   have go : ∀ K' : KX, (∀ e s h n, K e s h n = some r → K' e s h n) → brk (ev E sl c) (execJ E N [] p a sl h n K') (execJ E N [] p b sl h n K') := by
    intro K' g
    simp only [exJC] at hk
    split at hk
    · rename_i t e
      rw [e]
      cases t with
      | true => exact ⟨fun _ => exJ_c ok a hk g, fun h => (by cases h)⟩
      | false => exact ⟨fun h => (by cases h), fun _ => exJ_c ok b hk g⟩
    · rename_i e; rw [e]; exact exJ_c ok a hk g
    · rename_i e; rw [e]; exact exJ_c ok b hk g
    · cases hk
   simp only [execJ]
   split
   · exact go _ g
   · unfold CutVC
     refine go _ fun e s h n hs => ⟨s, h, n, ?_, g _ _ _ _ hs⟩
     unfold SubX
     exact fun _ _ _ _ D => D
 | .block id b, sl, h, n, K, K', hk, g => by
   simp only [exJC, execJ] at hk ⊢
   have : memb id [] = false := rfl
   simp only [this]
   refine exJ_c ok b hk fun e s h n hs => ?_
   cases e with
   | exit i =>
     simp only at hs ⊢
     split at hs <;> (rename_i e; simp only [e]; exact g _ _ _ _ hs)
   | _ => exact g _ _ _ _ hs
 | .region id ops d, sl, h, n, K, K', hk, g => by
   simp only [exJC, execJ] at hk ⊢
   split at hk
   · rename_i e
     simp only [e]
     exact jreg_c hk fun s hs => g _ _ _ _ hs
   · rename_i e
     simp only [e]
     have := exP_c ok _ hk (np_c g)
     simp only [exP, mtK_nil] at this
     exact this
 | .loop b, sl, h, n, K, K', hk, g => by
   simp only [exJC, execJ] at hk ⊢
   unfold LoopVC
   intro I h1 _ h3
   have go : ∀ f sl h n, loopC (exJC E run fuel N p b) f sl h n K = some r → I sl h n := by
    intro f
    induction f with
    | zero => intro sl h n hk; simp only [loopC] at hk; cases hk
    | succ f ih =>
      intro sl h n hk
      simp only [loopC] at hk
      obtain ⟨s, hs, hl⟩ := dedS_ok hk
      refine h3 s sl h n (fun t => .inr (hl t (by simp))) (h1 _ _ _ ?_)
      refine exJ_c ok b hs fun e s h n hs => ?_
      cases e with
      | normal => exact ih _ _ _ hs
      | _ => exact g _ _ _ _ hs
   exact go _ _ _ _ hk
 | .scope b, sl, h, n, K, K', hk, g => by simp only [exJC] at hk; cases hk
 | .label _, sl, h, n, K, K', hk, g => by simp only [exJC] at hk; cases hk
 | .goto _, sl, h, n, K, K', hk, g => by simp only [exJC] at hk; cases hk
 | .refuse _, sl, h, n, K, K', hk, g => by simp only [exJC] at hk; cases hk
 | .rangeFunc .., sl, h, n, K, K', hk, g => by simp only [exJC] at hk; cases hk
def allNil : List SV → Option Nat
 | [] => some 0
 | .nils :: r => (match allNil r with | some n => some (n + 1) | none => none)
 | _ => none
theorem allNil_ok : ∀ {l : List SV} {n : Nat}, allNil l = some n → l = List.replicate n .nils
 | [], n, h => by cases h; rfl
 | .nils :: l, n, h => by
   simp only [allNil] at h
   split at h
   case h_2 => cases h
   rename_i m e
   cases h
   rw [allNil_ok e]
   rfl
 | .any :: _, _, h => by cases h
 | .int .. :: _, _, h => by cases h
 | .bool _ :: _, _, h => by cases h
 | .tru :: _, _, h => by cases h
 | .fls :: _, _, h => by cases h
 | .str _ :: _, _, h => by cases h
 | .agg _ :: _, _, h => by cases h
 | .arr .. :: _, _, h => by cases h
 | .tup _ :: _, _, h => by cases h
 | .sl .. :: _, _, h => by cases h
 | .mt :: _, _, h => by cases h
 | .iptr _ :: _, _, h => by cases h
 | .ptr .. :: _, _, h => by cases h
 | .osl .. :: _, _, h => by cases h
 | .fn .. :: _, _, h => by cases h
 | .nilf :: _, _, h => by cases h
 | .nilp :: _, _, h => by cases h
 | .nili :: _, _, h => by cases h
 | .yld _ :: _, _, h => by cases h
 | .mpr _ :: _, _, h => by cases h
 | .vsl .. :: _, _, h => by cases h
 | .ifc .. :: _, _, h => by cases h
def jInC (p : JP) (sl : Slots) (h : Heap) (K : Slots → Heap → Rt) : Rt := match lk sl p.tS with
 | .ptr b2 [] => (match lkB h b2 with
   | some (.var true (.agg fs)) => (match nthS fs p.fld with
     | .osl bk s => (match lkB h bk with
       | some (.row true 1 xs) => (match allNil xs with
         | some m => frI (.ofNat m) fun m => K ((1000007, .osl bk s) :: (1000008, .int .i64 m) :: (1000009, .int .i64 0) :: sl) (rmB bk h)
         | none => none)
       | _ => none)
     | _ => none)
   | _ => none)
 | _ => none
theorem jIn_c {p : JP} {sl : Slots} {h : Heap} {K : Slots → Heap → Rt} {K' : Slots → Heap → Prop} (hk : jInC p sl h K = some r) (g : ∀ s h, K s h = some r → K' s h) : jIn p sl h K' := by
 unfold jInC at hk
 unfold jIn
 split at hk
 case h_2 => cases hk
 rename_i e1
 simp only [e1]
 split at hk
 case h_2 => cases hk
 rename_i e2
 simp only [e2]
 split at hk
 case h_2 => cases hk
 rename_i e3
 simp only [e3]
 split at hk
 case h_2 => cases hk
 rename_i e4
 simp only [e4]
 split at hk
 case h_2 => cases hk
 rename_i e5
 rw [frI_eq] at hk
 rw [allNil_ok e5]
 exact jlen_rep (g _ _ hk)
def jOutC (p : JP) (sl : Slots) (h : Heap) (K : Slots → Heap → Rt) : Rt := match lk sl p.tS, lk sl 1000007 with
 | .ptr b2 [], .osl bk _ => (match lkB h b2 with
   | some (.var true (.agg fs)) => frV (anyF bk fs) fun fs => K ((1000007, .any) :: (1000008, .any) :: (1000009, .any) :: sl) ((b2, .var true (.agg fs)) :: h)
   | _ => none)
 | _, _ => none
theorem jOut_c {p : JP} {sl : Slots} {h : Heap} {K : Slots → Heap → Rt} {K' : Slots → Heap → Prop} (hk : jOutC p sl h K = some r) (g : ∀ s h, K s h = some r → K' s h) : jOut p sl h K' := by
 unfold jOutC at hk
 unfold jOut
 split at hk
 case h_2 => cases hk
 rename_i e1 e2
 simp only [e1, e2]
 split at hk
 case h_2 => cases hk
 rename_i e3
 simp only [e3]
 rw [frV_eq] at hk
 exact g _ _ hk
def ex1C (E : Env) (run : RqP → Rt) (fuel N jid : Nat) (p : JP) : Code → Slots → Heap → Nat → KXC → Rt
 | .seq a b, sl, h, n, K => ex1C E run fuel N jid p a sl h n fun e sl h n => match e with
   | .normal => ex1C E run fuel N jid p b sl h n K
   | e => K e sl h n
 | .block id b, sl, h, n, K => match Nat.beq id jid with
   | true => (match Nat.blt jid 999999 with
     | true => jInC p sl h fun sl h => exJC E run fuel N p (.block id b) sl h n fun e sl h n => jOutC p sl h fun sl h => K e sl h n
     | false => none)
   | false => exPC E run fuel N (.block id b) sl h n (npC K)
 | c, sl, h, n, K => exPC E run fuel N c sl h n (npC K)
theorem ex1_c {run : RqP → Rt} (ok : RunP E run) {fuel N jid : Nat} {p : JP} : ∀ (code : Code) {sl : Slots} {h : Heap} {n : Nat} {K : KXC} {K' : KX}, ex1C E run fuel N jid p code sl h n K = some r → (∀ e s h n, K e s h n = some r → K' e s h n) → exec1 E N [] jid p code sl h n K'
 | .seq a b, sl, h, n, K, K', hk, g => by
   simp only [ex1C, exec1] at hk ⊢
   refine ex1_c ok a hk fun e s h n hs => ?_
   cases e with
   | normal => exact ex1_c ok b hs g
   | _ => exact g _ _ _ _ hs
 | .block id b, sl, h, n, K, K', hk, g => by
   simp only [ex1C, exec1] at hk ⊢
   split at hk
   · rename_i e
     simp only [e]
     split at hk
     case h_2 => cases hk
     rename_i e2
     simp only [e2]
     exact jIn_c hk fun s h hs => exJ_c ok _ hs fun e s h n hs => jOut_c hs fun s h hs => g _ _ _ _ hs
   · rename_i e
     simp only [e]
     exact exP_c ok _ hk (np_c g)
 | .skip, sl, h, n, K, K', hk, g => exP_c ok .skip hk (np_c g)
 | .exit i, sl, h, n, K, K', hk, g => exP_c ok (.exit i) hk (np_c g)
 | .ret, sl, h, n, K, K', hk, g => exP_c ok .ret hk (np_c g)
 | .cond c a b, sl, h, n, K, K', hk, g => exP_c ok (.cond c a b) hk (np_c g)
 | .region id ops d, sl, h, n, K, K', hk, g => exP_c ok (.region id ops d) hk (np_c g)
 | .loop b, sl, h, n, K, K', hk, g => exP_c ok (.loop b) hk (np_c g)
 | .scope b, sl, h, n, K, K', hk, g => exP_c ok (.scope b) hk (np_c g)
 | .label l, sl, h, n, K, K', hk, g => exP_c ok (.label l) hk (np_c g)
 | .goto l, sl, h, n, K, K', hk, g => exP_c ok (.goto l) hk (np_c g)
 | .refuse x, sl, h, n, K, K', hk, g => exP_c ok (.refuse x) hk (np_c g)
 | .rangeFunc .., sl, h, n, K, K', hk, g => exP_c ok _ hk (np_c g)
def fnJC (E : Env) (run : RqP → Rt) (fuel jid : Nat) (p : JP) (fn : Func) (args : List SV) : Rt := match fn.body, Nat.ble args.length fn.ntmps with
 | some c, true => ini args 0 [] fun sl => ex1C E run fuel fn.ntmps jid p c sl [] 0 fun e sl h _ => match e with
   | .normal | .ret => resXC E (fun f xs => run (.old (.ret f xs))) fn sl h some
   | _ => none
 | _, _ => none
theorem ret_of_fnJC {run : RqP → Rt} (ok : EnvOK E) (hrun : RunP E run) {f : FuncId} {fn : Func} {fuel jid : Nat} {p : JP} {args : List SV} (hf : E.P.funcs[f]? = some fn) (hB : fnBJ E.wd fn jid = true) (hj : JH E fn.ntmps jid p) (ha : jAllF p jid fn) (h : fnJC E run fuel jid p fn args = some r) : Ret E f args r := by
 unfold fnJC at h
 split at h
 case h_2 => cases h
 rename_i c e1 e2
 refine ret_of_fnJ (cuts := []) ok hf hB e2 hj ha ?_
 unfold fnJ
 rw [e1]
 refine ini_c h fun s hs => ex1_c hrun _ hs fun e s h n hs => ?_
 split at hs
 · exact resX_c hrun.old.ret hs fun v hv => by cases hv; exact .refl _
 · exact resX_c hrun.old.ret hs fun v hv => by cases hv; exact .refl _
 · cases hs
end
end Go.Sx
