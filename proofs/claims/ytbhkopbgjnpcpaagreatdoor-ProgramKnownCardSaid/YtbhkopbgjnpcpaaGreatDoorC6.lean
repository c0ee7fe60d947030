/-
  FUNCTIONS WITH SUCH ROWS; functions that return maps. Generic: no program in sight. An own text.
-/
import Derived.Test.YtbhkopbgjnpcpaaGreatDoorC5
namespace Go.Sx
open Go.RowKit (Below)
def fnJ (E : Env) (cuts : List Nat) (jid : Nat) (p : JP) (fn : Func) (args : List SV) (KR : SV → Prop) : Prop :=
 match fn.body with
 | some c => ini args 0 [] fun sl => exec1 E fn.ntmps cuts jid p c sl [] 0 fun e sl h _ => match e with
   | .normal | .ret => resXM E fn sl h KR
   | _ => False
 | none => False
theorem ret_of_exec1 {E : Env} (ok : EnvOK E) {f : FuncId} {fn : Func} {code : Code} {cuts : List Nat} {args : List SV} {r : SV} {jid : Nat} {p : JP} (hf : E.P.funcs[f]? = some fn) (hb : fn.body = some code) (hname : (fn.name == "runtime.NumGoroutine") = false)
 (hargs : args.length ≤ fn.ntmps) (hN : fn.ntmps ≤ 1000000) (hj : JH E fn.ntmps jid p) (hc : code1 E fn.ntmps jid p code)
 (hx : ini args 0 [] fun sl => exec1 E fn.ntmps cuts jid p code sl [] 0 fun e sl h _ => match e with
   | .normal | .ret => resXM E fn sl h fun v => Wk v r
   | _ => False) : Ret E f args r := by
 refine ⟨⟨fn, hf, by rw [hb]; rfl, hname⟩, fun w X us g hus => ?_⟩
 obtain ⟨sl, hx, h1, h2⟩ := ini_ok args 0 [] hx
 have D := enter0 g hus hargs hN h1 h2
 refine callsIn_wide.1 (callsIn_of_wp_marks (n := 0) hf hb trivial (exec1_sound (c0 := cx0 E w X) ok hj (fun _ => id) ⟨rfl, rfl⟩ code sl [] 0 _ hx hc _ w D _ ?_))
 intro e sl' h' n' a' w' k D'
 have fin : resXM E fn sl' h' (fun v => Wk v r) → LeavesInM Fence.wide 0 E.P fn a'.tmps (fun e w' => ∃ u, e = .returned u ∧ Below w.heap.size w w' ∧ rel w' X r nob u) a'.defers .returning w' := by
  intro hres
  refine body_end (c := cx0 E w X) rfl D' fun β Y w' m hs _ => ?_
  obtain ⟨v, k1, k2, k3⟩ := resX_end (c := cx0 E w X) ok (fun _ h => h) m hs hres
  exact ⟨v, k1, _, rfl, k2, k3⟩
 cases e with
 | normal => exact fin k
 | ret => exact fin k
 | _ => exact k.elim
def codeBJ (W : Wd) (N : Nat) : Code → Bool
 | .region id ops d => (match hasApp ops.toList with | true => true | false => codePB W N (.region id ops d))
 | .seq a b => (match codeBJ W N a with | true => codeBJ W N b | false => false)
 | .cond _ a b => (match codeBJ W N a with | true => codeBJ W N b | false => false)
 | .block _ b => codeBJ W N b
 | .loop b => codeBJ W N b
 | _ => true
def code1B (W : Wd) (N jid : Nat) : Code → Bool
 | .seq a b => (match code1B W N jid a with | true => code1B W N jid b | false => false)
 | .block id b => (match Nat.beq id jid with | true => codeBJ W N b | false => codePB W N b)
 | c => codePB W N c
def jAll (p : JP) : Code → Prop
 | .region _ ops d => (match hasApp ops.toList with | true => ops = jOps p ∧ d = true | false => True)
 | .seq a b => jAll p a ∧ jAll p b
 | .cond _ a b => jAll p a ∧ jAll p b
 | .block _ b => jAll p b
 | .loop b => jAll p b
 | _ => True
def jAll1 (p : JP) (jid : Nat) : Code → Prop
 | .seq a b => jAll1 p jid a ∧ jAll1 p jid b
 | .block id b => (match Nat.beq id jid with | true => jAll p b | false => True)
 | _ => True
theorem codeJ_ok {E : Env} (ok : EnvOK E) {N : Nat} {p : JP} : ∀ {c : Code}, codeBJ E.wd N c = true → jAll p c → codeJ E N p c
 | .region id ops d, h, k => by
   simp only [codeBJ] at h
   simp only [jAll] at k
   simp only [codeJ]
   cases e : hasApp ops.toList with
   | true => rw [e] at k; exact k
   | false => rw [e] at h; exact codePB_ok ok h
 | .seq a b, h, k => by
   simp only [codeBJ] at h
   split at h
   · rename_i e; exact ⟨codeJ_ok ok e k.1, codeJ_ok ok h k.2⟩
   · cases h
 | .cond _ a b, h, k => by
   simp only [codeBJ] at h
   split at h
   · rename_i e; exact ⟨codeJ_ok ok e k.1, codeJ_ok ok h k.2⟩
   · cases h
 | .block _ b, h, k => codeJ_ok (c := b) ok h k
 | .loop b, h, k => codeJ_ok (c := b) ok h k
 | .skip, _, _ | .exit _, _, _ | .ret, _, _ | .scope _, _, _ | .label _, _, _ | .goto _, _, _ | .refuse _, _, _ | .rangeFunc .., _, _ => trivial
theorem code1_ok {E : Env} (ok : EnvOK E) {N jid : Nat} {p : JP} : ∀ {c : Code}, code1B E.wd N jid c = true → jAll1 p jid c → code1 E N jid p c
 | .seq a b, h, k => by
   simp only [code1B] at h
   split at h
   · rename_i e; exact ⟨code1_ok ok e k.1, code1_ok ok h k.2⟩
   · cases h
 | .block id b, h, k => by
   simp only [code1B] at h
   simp only [jAll1] at k
   simp only [code1]
   cases e : Nat.beq id jid with
   | true =>
     rw [e] at h k
     simp only
     split
     · exact codeJ_ok ok h k
     · trivial
   | false => rw [e] at h; exact codePB_ok ok h
 | .region id ops d, h, _ => codePB_ok (c := .region id ops d) ok h
 | .cond x a b, h, _ => codePB_ok (c := .cond x a b) ok h
 | .loop b, h, _ => codePB_ok (c := .loop b) ok h
 | .skip, h, _ => codePB_ok (c := .skip) ok h
 | .exit i, h, _ => codePB_ok (c := .exit i) ok h
 | .ret, h, _ => codePB_ok (c := .ret) ok h
 | .label l, h, _ => codePB_ok (c := .label l) ok h
 | .goto l, h, _ => codePB_ok (c := .goto l) ok h
 | .refuse x, h, _ => codePB_ok (c := .refuse x) ok h
 | .rangeFunc .., h, _ => codePB_ok ok h
 | .scope b, h, _ => codePB_ok (c := .scope b) ok h
def fnBJ (W : Wd) (fn : Func) (jid : Nat) : Bool := match fn.body, fn.name == "runtime.NumGoroutine", Nat.ble fn.ntmps 100000 with
 | some c, false, true => code1B W fn.ntmps jid c
 | _, _, _ => false
def jAllF (p : JP) (jid : Nat) (fn : Func) : Prop := match fn.body with
 | some c => jAll1 p jid c
 | none => True
theorem ret_of_fnJ {E : Env} (ok : EnvOK E) {f : FuncId} {fn : Func} {cuts : List Nat} {args : List SV} {r : SV} {jid : Nat} {p : JP} (hf : E.P.funcs[f]? = some fn) (hB : fnBJ E.wd fn jid = true) (hl : Nat.ble args.length fn.ntmps = true)
 (hj : JH E fn.ntmps jid p) (ha : jAllF p jid fn) (hx : fnJ E cuts jid p fn args fun v => Wk v r) : Ret E f args r := by
 unfold fnBJ at hB
 split at hB
 case h_2 => cases hB
 rename_i c e1 e2 e3
 unfold fnJ at hx
 unfold jAllF at ha
 rw [e1] at hx ha
 rw [Nat.ble_eq] at hl e3
 exact ret_of_exec1 ok hf e1 e2 hl (by omega) hj (code1_ok ok hB ha) hx
end Go.Sx
