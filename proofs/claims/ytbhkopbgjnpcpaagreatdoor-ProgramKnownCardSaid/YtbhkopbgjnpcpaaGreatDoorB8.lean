/-
  CLOSED RUNS OF THE EXECUTOR WITH PANICS: whole calls. Generic: no program in sight. An own text.
-/
import Derived.Test.YtbhkopbgjnpcpaaGreatDoorB7
namespace Go.Sx
def dsB (N : Nat) : List Oper → Bool
 | [] => true
 | o :: r => match o.dst with
   | none => dsB N r
   | some d => match Nat.blt d N with | true => dsB N r | false => false
theorem dsB_ok {N : Nat} : ∀ {l : List Oper}, dsB N l = true → ∀ o ∈ l, ∀ d, o.dst = some d → d < N
 | [], _ => fun _ h => (by cases h)
 | o :: l, h => by
   simp only [dsB] at h
   intro o' ho' d hd
   split at h
   · rename_i e
     rcases List.mem_cons.1 ho' with rfl | ho'
     · rw [e] at hd; cases hd
     · exact dsB_ok h _ ho' _ hd
   · rename_i d' e
     split at h
     · rename_i e2
       rcases List.mem_cons.1 ho' with rfl | ho'
       · rw [e] at hd; cases hd
         rw [Nat.blt_eq] at e2; exact e2
       · exact dsB_ok h _ ho' _ hd
     · cases h
def codePB (ld : Wd) (N : Nat) : Code → Bool
 | .seq a b => match codePB ld N a with | true => codePB ld N b | false => false
 | .cond _ a b => match codePB ld N a with | true => codePB ld N b | false => false
 | .block _ b => codePB ld N b
 | .loop b => codePB ld N b
 | .scope b => codePB ld N b
 | .region id ops true => match plnF ld ops.toList with
   | some _ => dsB N ops.toList
   | none => codeB N (.region id ops true)
 | .region _ ops false => dsB N ops.toList
 | c => codeB N c
theorem codePB_ok {E : Env} (ok : EnvOK E) {N : Nat} : ∀ {c : Code}, codePB E.wd N c = true → codeP E N c
 | .seq a b, h => by
   simp only [codePB] at h
   split at h
   · rename_i e; exact ⟨codePB_ok ok e, codePB_ok ok h⟩
   · cases h
 | .cond _ a b, h => by
   simp only [codePB] at h
   split at h
   · rename_i e; exact ⟨codePB_ok ok e, codePB_ok ok h⟩
   · cases h
 | .block _ b, h => codePB_ok (c := b) ok h
 | .loop b, h => codePB_ok (c := b) ok h
 | .scope b, h => codePB_ok (c := b) ok h
 | .region id ops true, h => by
   simp only [codePB] at h
   simp only [codeP]
   split at h
   · rename_i e; rw [e]; exact dsB_ok h
   · rename_i e; rw [e]; exact codeB_ok ok h
 | .region _ ops false, h => dsB_ok h
 | .skip, h => by simp only [codeP]; exact codeB_ok ok h
 | .exit _, h => by simp only [codeP]; exact codeB_ok ok h
 | .ret, h => by simp only [codeP]; exact codeB_ok ok h
 | .label _, h => by simp only [codeP]; exact codeB_ok ok h
 | .goto _, h => by simp only [codeP]; exact codeB_ok ok h
 | .refuse _, h => by simp only [codeP]; exact codeB_ok ok h
 | .rangeFunc .., h => by simp only [codeP]; exact codeB_ok ok h
def fnBP (ld : Wd) (fn : Func) : Bool :=
 match fn.name == "runtime.NumGoroutine", Nat.ble fn.ntmps 999999, fn.body with
 | false, true, some code => codePB ld fn.ntmps code
 | _, _, _ => false
theorem fnBP_ok {ld : Wd} {fn : Func} (h : fnBP ld fn = true) : (fn.name == "runtime.NumGoroutine") = false ∧ fn.ntmps ≤ 999999 ∧ ∃ code, fn.body = some code ∧ codePB ld fn.ntmps code = true := by
 unfold fnBP at h
 split at h
 · rename_i code e1 e2 e3
   rw [Nat.ble_eq] at e2
   exact ⟨e1, e2, code, e3, h⟩
 · cases h
def isDf (ops : List Oper) : Option (Oper × Oper × Nat) := match ops with
 | [o1, o2] => (match o2.op, o2.guard, o2.dst with
   | .defer cl, none, none => (match cl.callee, cl.args.toList with
     | .value (.tmp t), [] => (match Nat.ble t 999999 with | true => some (o1, o2, t) | false => none)
     | _, _ => none)
   | _, _, _ => none)
 | _ => none
theorem isDf_ok {ops : List Oper} {o1 o2 : Oper} {t : Nat} (h : isDf ops = some (o1, o2, t)) : ops = [o1, o2] ∧ (∃ cl, o2.op = .defer cl ∧ cl.callee = .value (.tmp t) ∧ cl.args = #[]) ∧ o2.guard = none ∧ o2.dst = none ∧ t ≤ 999999 := by
 unfold isDf at h
 split at h
 case h_2 => cases h
 split at h
 case h_2 => cases h
 rename_i cl e1 e2 e3
 split at h
 case h_2 => cases h
 rename_i e4 e5
 split at h
 case h_2 => cases h
 rename_i e6
 cases h
 rw [Nat.ble_eq] at e6
 exact ⟨rfl, ⟨cl, e1, e4, Array.toList_inj.1 e5⟩, e2, e3, e6⟩
def splD : Code → Option (List Code × Oper × Oper × Nat × Code)
 | .seq a b => (match a with
   | .region _ ops false => (match isDf ops.toList with
     | some (o1, o2, t) => some ([], o1, o2, t, b)
     | none => (match splD b with
       | some (l, r) => some (a :: l, r)
       | none => none))
   | _ => (match splD b with
     | some (l, r) => some (a :: l, r)
     | none => none))
 | _ => none
theorem splD_ok : ∀ {c : Code} {pre : List Code} {o1 o2 : Oper} {t : Nat} {B : Code}, splD c = some (pre, o1, o2, t, B) → (∃ id, c = spine pre (.seq (.region id #[o1, o2] false) B)) ∧ isDf [o1, o2] = some (o1, o2, t)
 | .seq a b, pre, o1, o2, t, B, h => by
   have tl : (match splD b with
    | some (l, r) => some (a :: l, r)
    | none => none) = some (pre, o1, o2, t, B) → (∃ id, Code.seq a b = spine pre (.seq (.region id #[o1, o2] false) B)) ∧ isDf [o1, o2] = some (o1, o2, t) := by
    intro h
    split at h
    case h_2 => cases h
    rename_i l r e
    cases h
    obtain ⟨⟨id, h1⟩, h2⟩ := splD_ok e
    exact ⟨⟨id, by rw [spine, ← h1]⟩, h2⟩
   simp only [splD] at h
   split at h
   · split at h
     · rename_i ops o1' o2' t' e
       cases h
       have e1 := isDf_ok e
       exact ⟨⟨_, by rw [spine]; congr 2; exact Array.toList_inj.1 e1.1⟩, by rw [← e1.1]; exact e⟩
     · exact tl h
   · exact tl h
 | .skip, _, _, _, _, _, h => by simp only [splD] at h; cases h
 | .cond .., _, _, _, _, _, h => by simp only [splD] at h; cases h
 | .block .., _, _, _, _, _, h => by simp only [splD] at h; cases h
 | .loop .., _, _, _, _, _, h => by simp only [splD] at h; cases h
 | .scope .., _, _, _, _, _, h => by simp only [splD] at h; cases h
 | .region .., _, _, _, _, _, h => by simp only [splD] at h; cases h
 | .exit .., _, _, _, _, _, h => by simp only [splD] at h; cases h
 | .ret, _, _, _, _, _, h => by simp only [splD] at h; cases h
 | .label .., _, _, _, _, _, h => by simp only [splD] at h; cases h
 | .goto .., _, _, _, _, _, h => by simp only [splD] at h; cases h
 | .refuse .., _, _, _, _, _, h => by simp only [splD] at h; cases h
 | .rangeFunc .., _, _, _, _, _, h => by simp only [splD] at h; cases h
def splR : Code → Option (Code × Nat)
 | .seq (.region _ ops false) cr => (match ops.toList with
   | [o] => (match o.op, o.guard, o.dst with
     | .call cl, none, some d => (match cl.callee, cl.args.toList with
       | .builtin .recover, [] => some (cr, d)
       | _, _ => none)
     | _, _, _ => none)
   | _ => none)
 | _ => none
theorem splR_ok {c : Code} {cr : Code} {d : Nat} (h : splR c = some (cr, d)) : ∃ id oR clR, c = .seq (.region id #[oR] false) cr ∧ oR.op = .call clR ∧ clR.callee = .builtin .recover ∧ clR.args = #[] ∧ oR.dst = some d ∧ oR.guard = none := by
 unfold splR at h
 split at h
 case h_2 => cases h
 split at h
 case h_2 => cases h
 rename_i e0
 split at h
 case h_2 => cases h
 rename_i e1 e2 e3
 split at h
 case h_2 => cases h
 rename_i e4 e5
 cases h
 have e0' := congrArg List.toArray e0
 simp only [Array.toArray_toList] at e0'
 subst e0'
 exact ⟨_, _, _, rfl, e1, e4, Array.toList_inj.1 e5, e3, e2⟩
structure DoorD where
 g : Nat
 fg : Func
 cr : Code
 d : Nat
 pre : List Code
 o1 : Oper
 o2 : Oper
 t : Nat
 B : Code
def codeLB (ld : Wd) (N : Nat) : List Code → Bool
 | [] => true
 | a :: r => match codePB ld N a with | true => codeLB ld N r | false => false
theorem codeLB_ok {E : Env} (ok : EnvOK E) {N : Nat} : ∀ {l : List Code}, codeLB E.wd N l = true → ∀ x ∈ l, codeP E N x
 | [], _ => fun _ h => (by cases h)
 | a :: l, h => by
   simp only [codeLB] at h
   split at h
   case h_2 => cases h
   rename_i e
   intro x hx
   rcases List.mem_cons.1 hx with rfl | hx
   · exact codePB_ok ok e
   · exact codeLB_ok ok h _ hx
def dorB (ld : Wd) (fn : Func) (g : Nat) (fg : Func) : Option DoorD :=
 match fn.name == "runtime.NumGoroutine", Nat.ble fn.ntmps 1000000, fg.name == "runtime.NumGoroutine", Nat.ble fg.ntmps 1000000, fg.results.toList with
 | false, true, false, true, [] => (match fn.body, fg.body with
   | some c, some cg => (match splD c, splR cg with
     | some (pre, o1, o2, t, B), some (cr, d) => (match codePB ld fg.ntmps cr, rfB cr, Nat.blt d fg.ntmps, codePB ld fn.ntmps B, codeLB ld fn.ntmps pre, dsB fn.ntmps [o1] with
       | true, false, true, true, true, true => some ⟨g, fg, cr, d, pre, o1, o2, t, B⟩
       | _, _, _, _, _, _ => none)
     | _, _ => none)
   | _, _ => none)
 | _, _, _, _, _ => none
theorem dorB_ok {E : Env} (ok : EnvOK E) {fn fg : Func} {g : Nat} {D : DoorD} (hg : E.P.funcs[g]? = some fg) (h : dorB E.wd fn g fg = some D) : DoorF E fn D.g D.fg D.cr D.d D.pre D.o1 D.o2 D.t D.B := by
 unfold dorB at h
 split at h
 case h_2 => cases h
 rename_i e1 e2 e3 e4 e5
 split at h
 case h_2 => cases h
 rename_i c cg e6 e7
 split at h
 case h_2 => cases h
 rename_i e8 e9
 split at h
 case h_2 => cases h
 rename_i f1 f2 f3 f4 f5 f6
 cases h
 obtain ⟨⟨id, h1⟩, h2⟩ := splD_ok e8
 obtain ⟨_, h4, h5, h6, h7⟩ := isDf_ok h2
 rw [Nat.ble_eq] at e2 e4
 rw [Nat.blt_eq] at f3
 obtain ⟨id2, oR, clR, g1, g2⟩ := splR_ok e9
 exact ⟨⟨id, by rw [e6, h1]⟩, e1, e2, ⟨hg, ⟨id2, oR, clR, by rw [e7, g1], g2⟩, f3, e4, codePB_ok ok f1, f2, Array.toList_inj.1 e5, e3⟩, h4, h5, h6, h7, dsB_ok f6 _ (by simp), codePB_ok ok f4, codeLB_ok ok f5⟩
end Go.Sx
