/-
  EACH OPERATION OF THE EXECUTOR IS SOUND: one by one. Generic: no program in sight. An own text.
-/
import Derived.Test.YtcgehmlhafjfkaaGreatDoorSx9
set_option linter.unusedSectionVars false
namespace Go.Sx
open Go.RowKit (Below)

theorem noTup_cons {v : SV} {r : List SV} (h : noTup (v :: r) = true) : (∀ vs, v ≠ .tup vs) ∧ noTup r = true := by
  cases v <;> first | (simp only [noTup] at h; exact ⟨by simp, h⟩) | (simp [noTup] at h)

theorem evL_ok {E : Env} {sl : Slots} {w : World} {X : Nat → Prop} {β : Beta} {a : Act} : ∀ l : List Operand, (∀ x ∈ l, rel w X (ev E sl x) β (a.eval x)) → noTup (l.map (ev E sl)) = true → relL w X (l.map (ev E sl)) β (l.map a.eval)
  | [], _, _ => by simp [relL_nil]
  | x :: r, hl, hn => by
    simp only [List.map_cons] at hn ⊢
    obtain ⟨h1, h2⟩ := noTup_cons hn
    rw [relL_cons]
    refine ⟨_, _, rfl, ?_, evL_ok r (fun y hy => hl y (by simp [hy])) h2⟩
    have := hl x (by simp)
    rw [rel_eq h1] at this
    exact this

section
variable {c : Cx} (ok : EnvOK c.E) {o : Oper} {a : Act} {sl : Slots} {h : Heap} {n : Nat} {F : Nat → Prop} {β : Beta} {Y : Nat → Prop} {w : World} (m : Mem c h F β Y w) (hF : F n)
  (hev : ∀ x ∈ o.op.operands.toList, rel w (XX c.Z Y β h) (ev c.E sl x) β (a.eval x)) {K : KE} (hK : opE c.E sl h n o.op K)
include m hF hev hK

theorem ok_move {x : Operand} (ho : o.op = .move x ∨ o.op = .assign x) : ∃ v ns ea, K v ns ea ∧ OpOK c o a h n F β Y w v ns ea := by
  rcases ho with ho | ho
  all_goals
    rw [ho] at hK hev
    simp only [opE, frc_eq] at hK
    exact ⟨_, _, _, hK, .pure m (by simp [execOp, ho]) (hev x (by simp [Op.operands]))⟩

theorem ok_pick {x y z : Operand} (ho : o.op = .pick x y z) : ∃ v ns ea, K v ns ea ∧ OpOK c o a h n F β Y w v ns ea := by
  rw [ho] at hK hev
  simp only [opE] at hK
  have hx := hev x (by simp [Op.operands])
  have hy := hev y (by simp [Op.operands])
  have hz := hev z (by simp [Op.operands])
  split at hK
  · rename_i he
    rw [he, rel_tru] at hx
    simp only [frc_eq] at hK
    exact ⟨_, _, _, hK, .pure m (by simp [execOp, ho, hx, asBool]) hy⟩
  · rename_i he
    rw [he, rel_fls] at hx
    simp only [frc_eq] at hK
    exact ⟨_, _, _, hK, .pure m (by simp [execOp, ho, hx, asBool]) hz⟩
  · exact hK.elim

theorem ok_nilCheck {x : Operand} (ho : o.op = .nilCheck x) : ∃ v ns ea, K v ns ea ∧ OpOK c o a h n F β Y w v ns ea := by
  rw [ho] at hK hev
  simp only [opE] at hK
  have hx := hev x (by simp [Op.operands])
  split at hK
  · rename_i t he
    rw [he] at hx
    refine ⟨_, _, _, hK, .pure m (u := a.eval x) ?_ hx⟩
    obtain ⟨b, off, ds, hu, _⟩ := rel_iptr.1 hx
    simp [execOp, ho, hu]
  · rename_i b p he
    rw [he] at hx
    refine ⟨_, _, _, hK, .pure m (u := a.eval x) ?_ hx⟩
    obtain ⟨l, _, hu⟩ := rel_ptr.1 hx
    simp [execOp, ho, hu]
  · rename_i f cs he
    rw [he] at hx
    refine ⟨_, _, _, hK, .pure m (u := a.eval x) ?_ hx⟩
    obtain ⟨us, hu, _⟩ := rel_fn.1 hx
    simp [execOp, ho, hu]
  · exact hK.elim

theorem ok_extract {x : Operand} {i : Nat} (ho : o.op = .extract x i) : ∃ v ns ea, K v ns ea ∧ OpOK c o a h n F β Y w v ns ea := by
  rw [ho] at hK hev
  simp only [opE] at hK
  have hx := hev x (by simp [Op.operands])
  split at hK
  · rename_i vs he
    rw [he] at hx
    split at hK
    · rename_i v hv
      simp only [frc_eq] at hK
      obtain ⟨us, hu, hl⟩ := hx
      have key : ∀ (vs : List SV) (us : List Value) (i : Nat), relL w (XX c.Z Y β h) vs β us → vs[i]? = some v → ∃ u, us[i]? = some u ∧ relV w (XX c.Z Y β h) v β u := by
        intro vs
        induction vs with
        | nil => intro us i _ h; simp at h
        | cons v0 r ih =>
          intro us i hl hi
          rw [relL_cons] at hl
          obtain ⟨u, us', rfl, h1, h2⟩ := hl
          cases i with
          | zero => simp at hi; subst hi; exact ⟨u, rfl, h1⟩
          | succ i => simpa using ih us' i h2 (by simpa using hi)
      obtain ⟨u, h1, h2⟩ := key vs us.toList i hl hv
      rw [Array.getElem?_toList] at h1
      by_cases hvt : ∃ ws, v = .tup ws
      · obtain ⟨ws, rfl⟩ := hvt
        simp only [relV, SV.isAgg, relP] at h2
      · refine ⟨_, _, _, hK, .pure m (u := u) ?_ ?_⟩
        · simp [execOp, ho, hu, Instr.extract, h1]
        · rw [rel_eq fun ws e => hvt ⟨ws, e⟩]; exact h2
    · exact hK.elim
  · exact hK.elim

theorem ok_unOp {op : UnOp} {T : TypeId} {x : Operand} (ho : o.op = .unOp op T x) : ∃ v ns ea, K v ns ea ∧ OpOK c o a h n F β Y w v ns ea := by
  rw [ho] at hK hev
  have hx := hev x (by simp [Op.operands])
  cases op with
  | not =>
    simp only [opE] at hK
    split at hK
    · rename_i b he
      rw [he, rel_bool] at hx
      exact ⟨_, _, _, hK, .pure m (u := .bool (!b)) (by simp [execOp, ho, hx, Op.unary]) (rel_bool.2 rfl)⟩
    · rename_i he
      rw [he, rel_tru] at hx
      exact ⟨_, _, _, hK, .pure m (u := .bool false) (by simp [execOp, ho, hx, Op.unary]) (rel_fls.2 rfl)⟩
    · rename_i he
      rw [he, rel_fls] at hx
      exact ⟨_, _, _, hK, .pure m (u := .bool true) (by simp [execOp, ho, hx, Op.unary]) (rel_tru.2 rfl)⟩
    · exact hK.elim
  | neg =>
    simp only [opE] at hK
    split at hK
    · rename_i k b he
      rw [he, relP_int] at hx
      exact ⟨_, _, _, arith_ok hK, .pure m (u := .int k (k.wrap (0 - b))) (by simp [execOp, ho, hx, Op.unary, Op.intArith]) (relP_int.2 rfl)⟩
    · exact hK.elim
  | xor => simp only [opE] at hK
  | plus => simp only [opE] at hK

theorem ok_makeFunc {f : Fn} {fst caps : Array Operand} (ho : o.op = .makeFunc f fst caps) : ∃ v ns ea, K v ns ea ∧ OpOK c o a h n F β Y w v ns ea := by
  rw [ho] at hK hev
  cases f <;> simp only [opE] at hK
  rename_i f
  split at hK
  · rename_i hfst
    simp only [frcL_eq] at hK
    split at hK
    case h_2 => exact hK.elim
    rename_i hnt
    have hf : fst = #[] := by simpa using hfst
    subst hf
    refine ⟨_, _, _, hK, .pure m (u := .func (.func f) #[] (caps.map a.eval)) (by simp [execOp, ho, Instr.makeFunc]) ?_⟩
    rw [rel_fn]
    refine ⟨_, rfl, ?_⟩
    rw [Array.toList_map]
    exact evL_ok caps.toList (fun x hx => hev x (by simpa [Op.operands] using hx)) hnt
  · exact hK.elim
end
end Go.Sx
