/-
  PLAIN LAWS: the lattice's check, exactly; the reference's too: names. An own text.
  PLAIN LAWS: lattice.of, .bound, exactly. An own text.
  PLAIN LAWS: the order's check, exactly, the program's and the reference's. An own text.
  PLAIN LAWS: the reference's check of a lattice, exactly. An own text.
  PLAIN LAWS: lattice.Check and the reference's Check say the same. An own text.
  PLAIN LAWS: lattice.Check, exactly. An own text.
  PLAIN LAWS: the reference's Leq; events that are the same. An own text.
  PLAIN LAWS: lattices: joins, meets, top, bottom. An own text.
  PLAIN LAWS: names, exactly: runes.Class, lexer.Check of a word, prims.Find, expr.Name, on both sides. An own text.
  PLAIN LAWS: expr.Name is the reference's. An own text.
  PLAIN LAWS: arrays.Check is the reference's. An own text.
  PLAIN LAWS: arrays.Check is the reference's, cells. An own text.
  PLAIN LAWS of layer 28: folds, names, values: the program's and the reference's. An own text.
  PLAIN LAWS of layer 28: the sum that stays at the ends; the values of folds. An own text.
  PLAIN LAWS of layer 28: the values of folds; Value. An own text.
  THE LAW ReleaseValues FOR DATA AS THEY COME. An own text.
-/
import Derived.Test.YtefjegpcbdkckaaGreatDoorP1
namespace Go.Sx.O
open Go
end Go.Sx.O
namespace Go.Sx.O
open Go
theorem sideO_pos {ρ : Type} {p : Prop} [Decidable p] {x : Option ρ} (h : p) : sideO p x = x := by unfold sideO; rw [if_pos h]
end Go.Sx.O
namespace Go.Sx.O
open Go
end Go.Sx.O
namespace Go.Sx.O
open Go
end Go.Sx.O
namespace Go.Sx.O
open Go
end Go.Sx.O
namespace Go.Sx.O
open Go
end Go.Sx.O
namespace Go.Sx.O
open Go
end Go.Sx.O
namespace Go.Sx.O
open Go
end Go.Sx.O
namespace Go.Sx.O
open Go
end Go.Sx.O
namespace Go.Sx.O
open Go
end Go.Sx.O
namespace Go.Sx.O
open Go
def manyC (r : Int) (l : Int × Int) : Int := if r = 2 then l.1 * l.2 else if r = 1 then l.1 else 1
def shC (r : Int) (l : Int × Int) : Int :=
  if r = 0 then (if l.1 = 0 then (if l.2 = 0 then 0 else 6) else 6)
  else if r = 1 then (if l.1 < 0 then 7 else if l.2 = 0 then (if 400 < l.1 then 15 else 0) else 6)
  else if r = 2 then (if l.1 < 0 then 7 else if l.2 < 0 then 7 else if 400 < l.1 then 15 else if 400 < l.2 then 15 else if 400 < l.1 * l.2 then 15 else 0)
  else 7
theorem mul400 {a b : Int} (h0 : 0 ≤ a) (h1 : a ≤ 400) (h2 : 0 ≤ b) (h3 : b ≤ 400) : 0 ≤ a * b ∧ a * b ≤ 160000 :=
  ⟨Int.mul_nonneg h0 h2, by have := Int.mul_le_mul h1 h3 h2 (by omega : (0 : Int) ≤ 400); omega⟩
theorem wone : IntKind.wrap .i64 1 = 1 := by decide
theorem wtwo : IntKind.wrap .i64 2 = 2 := by decide
theorem m1 : max (1 : Int) 0 = 1 := by decide
theorem product_spec (r : Int) (l : Int × Int) (h : shC r l = 0) : F_shapes_product r l = some (manyC r l) := by
  unfold F_shapes_product manyC
  unfold shC at h
  by_cases h2 : r = 2
  · subst h2
    simp only [decide_true, cond_true, letO, if_true]
    simp (config := { decide := true }) only [if_false, if_true] at h
    split at h
    · cases h
    split at h
    · cases h
    split at h
    · cases h
    split at h
    · cases h
    have hm := mul400 (a := l.1) (b := l.2) (by omega) (by omega) (by omega) (by omega)
    rw [w64 (e := 1 * l.2) (by omega) (by omega), Int.one_mul, Int.mul_comm l.2 l.1, w64 (by omega) (by omega)]
  by_cases h1 : r = 1
  · subst h1
    simp (config := { decide := true }) only [if_false, if_true] at h ⊢
    split at h
    · cases h
    split at h
    case isFalse => cases h
    split at h
    · cases h
    simp only [decide_true, cond_true, decide_false, cond_false, letO]
    rw [w64 (e := 1 * l.1) (by omega) (by omega), Int.one_mul]
  · simp [h1, h2]
theorem shapes_Check_spec (r : Int) (l : Int × Int) : F_shapes_Check r l = some (shC r l) := by
  unfold F_shapes_Check
  by_cases hr : r < 0
  · have : shC r l = 7 := by unfold shC; rw [if_neg (by omega), if_neg (by omega), if_neg (by omega)]
    simp [hr, this]
  by_cases hr2 : 2 < r
  · have : shC r l = 7 := by unfold shC; rw [if_neg (by omega), if_neg (by omega), if_neg (by omega)]
    simp [hr, hr2, this]
  have e1 : decide (r < 0) = false := by simp; omega
  have e2 : decide (2 < r) = false := by simp; omega
  simp only [e1, e2, cond_false]
  rw [sideO_pos ⟨by omega, by omega⟩, sideO_pos ⟨by omega, by omega⟩]
  rw [ContainsFunc1 _ (by simp; omega), ContainsFunc2 _ (by simp; omega), ContainsFunc3 _ (by simp; omega)]
  obtain ⟨a, b⟩ := l
  have hp := product_spec r (a, b)
  rcases (by omega : r = 0 ∨ r = 1 ∨ r = 2) with rfl | rfl | rfl
  · by_cases ha : a = 0 <;> by_cases hb : b = 0 <;> simp [shC, ha, hb, F_shapes_product]
  · by_cases ha : a < 0
    · simp [shC, ha]
    by_cases hb : b = 0
    case neg => simp [shC, ha, hb]
    by_cases h4 : 400 < a
    · simp [shC, ha, hb, h4]
    have hs : shC 1 (a, b) = 0 := by simp [shC, ha, hb, h4]
    have hp' := hp hs
    rw [hb] at hp' hs
    simp [hp', hs, ha, hb, h4, manyC]
  · by_cases ha : a < 0
    · simp [shC, ha]
    by_cases hb : b < 0
    · simp [shC, ha, hb]
    by_cases h4 : 400 < a
    · simp [shC, ha, hb, h4]
    by_cases h5 : 400 < b
    · simp [shC, ha, hb, h4, h5]
    have hm := mul400 (a := a) (b := b) (by omega) (by omega) (by omega) (by omega)
    have hq : F_shapes_product 2 (a, b) = some (a * b) := by
      unfold F_shapes_product
      simp only [decide_true, cond_true, letO]
      rw [w64 (e := 1 * b) (by omega) (by omega), Int.one_mul, Int.mul_comm b a, w64 (by omega) (by omega)]
    by_cases h6 : 400 < a * b
    · simp [shC, ha, hb, h4, h5, h6, hq]
    · simp [shC, ha, hb, h4, h5, h6, hq]
theorem shapes_Cells_spec (r : Int) (l : Int × Int) : F_shapes_Cells r l = some (if shC r l = 0 then manyC r l else 0, shC r l) := by
  unfold F_shapes_Cells
  rw [shapes_Check_spec, Option.bind_some]
  by_cases h : shC r l = 0
  · simp [h, product_spec r l h]
  · simp [h]
theorem Many_spec (r : Int) (l : Int × Int) (h : shC r l = 0 ∨ (r = 2 ∧ 0 ≤ l.1 ∧ l.1 ≤ 400 ∧ 0 ≤ l.2 ∧ l.2 ≤ 400)) : F_invigilatorref05_Many r l = some (manyC r l) := by
  unfold F_invigilatorref05_Many
  obtain ⟨a, b⟩ := l
  by_cases h2 : r = 2
  · subst h2
    have hb : 0 ≤ a ∧ a ≤ 400 ∧ 0 ≤ b ∧ b ≤ 400 := by
      rcases h with h | ⟨_, h⟩
      · unfold shC at h
        simp (config := { decide := true }) only [if_false, if_true] at h
        split at h
        · cases h
        split at h
        · cases h
        split at h
        · cases h
        split at h
        · cases h
        omega
      · exact h
    have hm := mul400 (a := a) (b := b) hb.1 hb.2.1 hb.2.2.1 hb.2.2.2
    have w1 : IntKind.wrap .i64 a = a := w64 (by omega) (by omega)
    have w2 : IntKind.wrap .i64 (a * b) = a * b := w64 (by omega) (by omega)
    rw [lpO_eq]
    simp [sideO, idxO, letO, m1, wone, w1]
    rw [lpO_eq]
    simp [sideO, idxO, letO, m1, wtwo, w2]
    rw [lpO_eq]
    simp [manyC]
  by_cases h1 : r = 1
  · subst h1
    have hb : 0 ≤ a ∧ a ≤ 400 := by
      rcases h with h | ⟨h, _⟩
      · unfold shC at h
        simp (config := { decide := true }) only [if_false, if_true] at h
        split at h
        · cases h
        split at h
        case isFalse => cases h
        split at h
        · cases h
        omega
      · cases h
    have w1 : IntKind.wrap .i64 a = a := w64 (by omega) (by omega)
    rw [lpO_eq]
    simp [sideO, idxO, letO, m1, wone, w1]
    rw [lpO_eq]
    simp [manyC]
  · have h0 : r ≤ 0 := by
      rcases h with h | ⟨h, _⟩
      · unfold shC at h
        rw [if_neg h1, if_neg h2] at h
        split at h
        · omega
        · cases h
      · exact absurd h h2
    have : ¬ 0 < r := by omega
    rw [lpO_eq]
    simp [manyC, h1, h2, this]
theorem ref05_Check_spec (r : Int) (l : Int × Int) : F_invigilatorref05_Check r l = some (shC r l) := by
  unfold F_invigilatorref05_Check
  by_cases hr : r < 0
  · have : shC r l = 7 := by unfold shC; rw [if_neg (by omega), if_neg (by omega), if_neg (by omega)]
    simp [hr, this]
  by_cases hr2 : 2 < r
  · have : shC r l = 7 := by unfold shC; rw [if_neg (by omega), if_neg (by omega), if_neg (by omega)]
    simp [hr, hr2, this]
  have e1 : decide (r < 0) = false := by simp; omega
  have e2 : decide (2 < r) = false := by simp; omega
  simp only [e1, e2, cond_false]
  obtain ⟨a, b⟩ := l
  have hp := Many_spec r (a, b)
  rcases (by omega : r = 0 ∨ r = 1 ∨ r = 2) with rfl | rfl | rfl
  · rw [lpO_eq]
    simp only [decide_false, Int.lt_irrefl, cond_false, Option.bind_some, Sum.elim_inr, Sum.elim_inl]
    rw [lpO_eq]
    by_cases ha : a = 0
    case neg => simp [sideO, idxO, letO, m1, shC, ha]
    simp [sideO, idxO, letO, m1, ha, wone]
    rw [lpO_eq]
    by_cases hb : b = 0
    case neg => simp [sideO, idxO, letO, m1, shC, ha, hb]
    have hs : shC 0 (a, b) = 0 := by simp [shC, ha, hb]
    have hp' := hp (.inl hs)
    rw [ha, hb] at hp' hs
    simp [sideO, idxO, letO, m1, hb, wtwo]
    rw [lpO_eq]
    simp [hp', hs, manyC]
  · rw [lpO_eq]
    by_cases ha : a < 0
    · simp [sideO, idxO, letO, m1, shC, ha]
    simp [sideO, idxO, letO, m1, ha, wone]
    rw [lpO_eq]
    simp
    rw [lpO_eq]
    by_cases hb : b = 0
    case neg => simp [sideO, idxO, letO, m1, shC, ha, hb]
    simp [sideO, idxO, letO, m1, hb, wtwo]
    rw [lpO_eq]
    by_cases h4 : 400 < a
    · simp [shC, ha, h4]
    have hs : shC 1 (a, b) = 0 := by simp [shC, ha, hb, h4]
    have hp' := hp (.inl hs)
    rw [hb] at hp' hs
    simp [hp', hs, manyC, h4]
  · rw [lpO_eq]
    by_cases ha : a < 0
    · simp [sideO, idxO, letO, m1, shC, ha]
    simp [sideO, idxO, letO, m1, ha, wone]
    rw [lpO_eq]
    by_cases hb : b < 0
    · simp [sideO, idxO, letO, m1, shC, ha, hb]
    simp [sideO, idxO, letO, m1, hb, wtwo]
    rw [lpO_eq]
    simp
    rw [lpO_eq]
    by_cases h4 : 400 < a
    · simp [shC, ha, hb, h4]
    by_cases h5 : 400 < b
    · simp [shC, ha, hb, h4, h5]
    have hp' := hp (.inr ⟨rfl, by simp; omega, by simp; omega, by simp; omega, by simp; omega⟩)
    by_cases h6 : 400 < a * b
    · simp [shC, ha, hb, h4, h5, h6, hp', manyC]
    · simp [shC, ha, hb, h4, h5, h6, hp', manyC]
theorem ref05_Cells_spec (r : Int) (l : Int × Int) : F_invigilatorref05_Cells r l = some (if shC r l = 0 then manyC r l else 0, shC r l) := by
  unfold F_invigilatorref05_Cells
  rw [ref05_Check_spec, Option.bind_some]
  by_cases h : shC r l = 0
  · simp [h, Many_spec r l (.inl h)]
  · simp [h]
end Go.Sx.O
namespace Go.Sx.O
open Go
def runeB (c : Int) : Bool := decide (0 ≤ c) && decide (c ≤ 1114111) && (decide (c < 55296) || decide (57343 < c))
def arrC (a : TArray) : Int :=
  if a.Kind = 1 ∨ a.Kind = 2 then
    if shC a.Rank a.Lens = 0 then
      if (a.Cells.length : Int) = manyC a.Rank a.Lens then
        if a.Kind = 2 ∧ (a.Cells.any fun c => !runeB c) = true then 7 else 0
      else 6
    else shC a.Rank a.Lens
  else 2
theorem wrap_i32' {r : Int} (h0 : 0 ≤ r) (h1 : r ≤ 1114111) : IntKind.wrap .i32 r = r := by
  simp only [IntKind.wrap, IntKind.signed, IntKind.bits]
  have h3 : (2 : Int) ^ 32 = 4294967296 := by decide
  have h4 : (2 : Int) ^ (32 - 1) = 2147483648 := by decide
  simp only [h3, h4, Bool.true_and, decide_eq_true_eq, ge_iff_le]
  split <;> omega
theorem ValidRune_spec (c : Int) : F_unicode_utf8_ValidRune c = some (runeB c) := by
  unfold F_unicode_utf8_ValidRune runeB
  by_cases h0 : 0 ≤ c <;> by_cases h1 : c < 55296 <;> by_cases h2 : 57343 < c <;> by_cases h3 : c ≤ 1114111 <;> simp [h0, h1, h2, h3] <;> omega
theorem right_spec (k c : Int) : F_arrays_right k c = some (decide (k = 1) || runeB c) := by
  unfold F_arrays_right
  by_cases hk : k = 1
  · simp [hk]
  by_cases h0 : 0 ≤ c
  case neg => simp [hk, h0, runeB]
  by_cases h1 : c ≤ 1114111
  case neg => simp [hk, h0, h1, runeB]
  simp only [hk, h0, h1, decide_true, decide_false, cond_true, cond_false, letO, wrap_i32' h0 h1, ValidRune_spec, Option.bind_some, Bool.false_or]
theorem rune64_spec (c : Int) : F_invigilatorref06_rune64 c = some (runeB c) := by
  unfold F_invigilatorref06_rune64 runeB
  by_cases h0 : 0 ≤ c <;> by_cases h1 : c < 55296 <;> by_cases h2 : 57343 < c <;> by_cases h3 : c ≤ 1114111 <;> simp [h0, h1, h2, h3]
theorem ContainsFunc4_spec (l : List Int) (a : TArray) (h : l.length ≤ 1000000000) : F_slices_ContainsFunc___int64_int64__of_arrays_Check_1 l a = some (l.any fun c => !(decide (a.Kind = 1) || runeB c)) := by
  unfold F_slices_ContainsFunc___int64_int64__of_arrays_Check_1 F_slices_IndexFunc___int64_int64__of_arrays_Check_1
  refine any_loop (l := l) (fun c => !(decide (a.Kind = 1) || runeB c)) (e := ()) rfl (fun k x hx hlt => ?_) (by simp)
  simp only [List.length_map, Int.ofNat_lt, hlt, decide_true, cond_true, idxO, Int.toNat_natCast, hx, Option.bind_some, letO, Int.natCast_nonneg, if_true, F_arrays_Check_1, right_spec]
  rw [w64 (by omega) (by omega)]
  cases decide (a.Kind = 1) || runeB x <;> rfl
theorem arrays_Check_spec (a : TArray) (h : a.Cells.length ≤ 1000000000) : F_arrays_Check a = some (arrC a) := by
  unfold F_arrays_Check arrC
  rw [shapes_Cells_spec, ContainsFunc4_spec _ _ h]
  simp only [Option.bind_some, List.length_map]
  have key : cond (!decide (shC a.Rank a.Lens = 0)) (some (shC a.Rank a.Lens)) (cond (!decide ((a.Cells.length : Int) = if shC a.Rank a.Lens = 0 then manyC a.Rank a.Lens else 0)) (some 6) (cond (a.Cells.any fun c => !(decide (a.Kind = 1) || runeB c)) (some 7) (some (0 : Int)))) = some (if shC a.Rank a.Lens = 0 then if (a.Cells.length : Int) = manyC a.Rank a.Lens then if (a.Cells.any fun c => !(decide (a.Kind = 1) || runeB c)) = true then 7 else 0 else 6 else shC a.Rank a.Lens) := by
    by_cases h1 : shC a.Rank a.Lens = 0
    case neg => simp [h1]
    by_cases h2 : (a.Cells.length : Int) = manyC a.Rank a.Lens
    case neg => simp [h1, h2]
    simp only [h1, h2, if_true, decide_true, Bool.not_true, cond_false]
    cases (a.Cells.any fun c => !(decide (a.Kind = 1) || runeB c)) <;> rfl
  rw [key]
  by_cases k1 : a.Kind = 1
  · have : (a.Cells.any fun c => !(decide (a.Kind = 1) || runeB c)) = false := by
      rw [List.any_eq_false]; intro c _; simp [k1]
    rw [this]
    simp [k1]
  by_cases k2 : a.Kind = 2
  · have : (a.Cells.any fun c => !(decide (a.Kind = 1) || runeB c)) = a.Cells.any fun c => !runeB c := by
      congr 1; funext c; simp [k1]
    rw [this]
    simp [k2]
  · simp [k1, k2]
theorem ref06_Check_spec (a : TArray) (h : a.Cells.length ≤ 1000000000) : F_invigilatorref06_Check a = some (arrC a) := by
  unfold F_invigilatorref06_Check arrC
  rw [ref05_Cells_spec]
  simp only [Option.bind_some, List.length_map]
  have lp0 : ∀ (v : Int), Option.bind (lpO (fun (_ : Unit) => cond (decide ((0 : Int) < (a.Cells.length : Int))) (some (Sum.inr (Sum.inl ()) : Unit ⊕ (Unit ⊕ Int))) (some (Sum.inr (Sum.inl ())))) ()) (Sum.elim (fun _ => some v) some) = some v := by
    intro v
    rw [lpO_eq]
    cases decide ((0 : Int) < (a.Cells.length : Int)) <;> rfl
  have lp1 : Option.bind (lpO (fun (s : Int × Int) => cond (decide (s.1 < (a.Cells.length : Int))) (cond (decide (s.2 = 0)) (cond (decide (a.Kind = 2)) (idxO a.Cells s.1 fun x => Option.bind (F_invigilatorref06_rune64 x) fun y => cond (!y) (letO (IntKind.wrap .i64 (s.1 + 1)) fun z => some (Sum.inl (z, (7 : Int)))) (letO (IntKind.wrap .i64 (s.1 + 1)) fun z => some (Sum.inl (z, s.2)))) (letO (IntKind.wrap .i64 (s.1 + 1)) fun z => some (Sum.inl (z, s.2)))) (some (Sum.inr (Sum.inl s.2 : Int ⊕ Int)))) (some (Sum.inr (Sum.inl s.2)))) ((0 : Int), (0 : Int))) (Sum.elim (fun v => some v) some) = some (if a.Kind = 2 ∧ (a.Cells.any fun c => !runeB c) = true then 7 else 0) := by
    apply Tot.eq
    rw [tot_bind]
    refine Tot.count a.Cells.length (fun k s => s.1 = (k : Int) ∧ s.2 = if a.Kind = 2 ∧ ((a.Cells.take k).any fun c => !runeB c) = true then 7 else 0) ?_ ⟨rfl, by simp⟩
    rintro k ⟨i, e⟩ hk ⟨rfl, he⟩
    simp only at he
    simp only [tot_cond, tot_some, tot_let, tot_idx, tot_bind, Sum.elim_inl, Sum.elim_inr, decide_eq_true_eq, decide_eq_false_iff_not, Int.toNat_natCast, rune64_spec]
    refine ⟨fun hlt => ⟨fun e0 => ⟨fun k2 => ?_, fun k2 => ?_⟩, fun e0 => ?_⟩, fun hge => ?_⟩
    · obtain ⟨x, hx⟩ := get_lt (l := a.Cells) (i := k) (by omega)
      refine ⟨by omega, x, hx, ?_⟩
      have hp : ((a.Cells.take k).any fun c => !runeB c) = false := by
        rw [e0] at he
        cases hh : (a.Cells.take k).any fun c => !runeB c with
        | false => rfl
        | true => rw [if_pos ⟨k2, hh⟩] at he; cases he
      rw [w64 (by omega) (by omega), List.take_add_one, hx, List.any_append, hp]
      refine ⟨fun g => ⟨by omega, by omega, ?_⟩, fun g => ⟨by omega, by omega, ?_⟩⟩
      · simp at g; simp [k2, g]
      · simp at g; simp [g, e0]
    · rw [w64 (by omega) (by omega)]
      refine ⟨by omega, by omega, ?_⟩
      rw [if_neg (fun h => k2 h.1)]; exact e0
    · have k2 : a.Kind = 2 ∧ ((a.Cells.take k).any fun c => !runeB c) = true := by
        by_cases hh : a.Kind = 2 ∧ ((a.Cells.take k).any fun c => !runeB c) = true
        · exact hh
        · rw [if_neg hh] at he; exact absurd he e0
      rw [if_pos k2] at he
      rw [he, if_pos]
      refine ⟨k2.1, ?_⟩
      obtain ⟨x, hx, hb⟩ := List.any_eq_true.1 k2.2
      exact List.any_eq_true.2 ⟨x, List.mem_of_mem_take hx, hb⟩
    · rw [List.take_of_length_le (by omega)] at he
      exact he
  by_cases h1 : shC a.Rank a.Lens = 0
  case neg =>
    simp only [h1, decide_false, cond_false, if_false, lp0]
    by_cases k1 : a.Kind = 1
    · simp [k1]
    by_cases k2 : a.Kind = 2
    · simp [k2]
    · simp [k1, k2]
  simp only [h1, decide_true, cond_true, if_true]
  by_cases h2 : (a.Cells.length : Int) = manyC a.Rank a.Lens
  case neg =>
    simp only [h2, decide_false, Bool.not_false, cond_true, if_false, lp0]
    by_cases k1 : a.Kind = 1
    · simp [k1]
    by_cases k2 : a.Kind = 2
    · simp [k2]
    · simp [k1, k2]
  rw [lp1]
  simp only [h2, decide_true, Bool.not_true, cond_false, if_true]
  by_cases k1 : a.Kind = 1
  · simp [k1]
  by_cases k2 : a.Kind = 2
  · simp [k2]
  · simp [k1, k2]
end Go.Sx.O
namespace Go.Sx.O
open Go
theorem lp_scanSE {σ τ ε : Type} {step : σ → Option (σ ⊕ (ε ⊕ τ))} {k1 : ε → Option τ} (n : Nat) (S : Nat → σ) (f : Nat → Option τ) (e : ε)
    (h1 : ∀ k : Nat, k < n → step (S k) = some (match f k with | some r => .inr (.inr r) | none => .inl (S (k + 1))))
    (h2 : step (S n) = some (.inr (.inl e))) {s0 : σ} (h0 : S 0 = s0) : (lpO step s0).bind (Sum.elim k1 some) = match scan f 0 n with | some r => some r | none => k1 e := by
  subst h0
  rw [lp_scanS n S (fun k => (f k).map Sum.inr) (.inl e) (fun k hk => by rw [h1 k hk]; cases f k <;> rfl) h2, scan_map]
  cases scan f 0 n <;> rfl
theorem lp_foldE {σ τ ε : Type} {step : σ → Option (σ ⊕ (ε ⊕ τ))} {k1 : ε → Option τ} (n : Nat) (S : Nat → σ) (e : ε)
    (h1 : ∀ k : Nat, k < n → step (S k) = some (.inl (S (k + 1)))) (h2 : step (S n) = some (.inr (.inl e))) {s0 : σ} (h0 : S 0 = s0) : (lpO step s0).bind (Sum.elim k1 some) = k1 e := by
  subst h0
  rw [lp_fold n S (.inl e) h1 h2]; rfl
def foldN : List (List UInt8) := [[], [115, 117, 109], [99, 111, 117, 110, 116], [108, 101, 97, 115, 116], [109, 111, 115, 116]]
theorem rel_Find_eq (s : List UInt8) : F_release_Find s = F_invigilatorref28_Find s := by
  have hR : F_invigilatorref28_Find s = some (if [115, 117, 109] = s then (1, 0) else if [99, 111, 117, 110, 116] = s then (2, 0) else if [108, 101, 97, 115, 116] = s then (3, 0) else if [109, 111, 115, 116] = s then (4, 0) else (0, 4)) := by
    unfold F_invigilatorref28_Find F_invigilatorref28_names
    simp only [Option.bind_some]
    have := lp_scanSE (k1 := fun (_ : Unit) => some (((0 : Int), (4 : Int)))) (step := fun (s13 : Int) => cond (decide (s13 < (5 : Int))) (idxO foldN s13 fun x19 => cond (decide (x19 = s)) (some (Sum.inr (Sum.inr ((s13, (0 : Int)))))) (letO (IntKind.wrap IntKind.i64 (s13 + (1 : Int))) fun x21 => some (Sum.inl x21))) (some (Sum.inr (Sum.inl ()))))
      4 (fun k => ((k + 1 : Nat) : Int)) (fun k => match foldN[k + 1]? with | some x => if x = s then some (((k + 1 : Nat) : Int), (0 : Int)) else none | none => none) ()
      (fun k hk => by
        rcases k with _ | _ | _ | _ | k
        all_goals first | (exfalso; omega) | skip
        all_goals (simp only [foldN]; split <;> (rename_i h; simp at h; simp [idxO, letO, h]) <;> rfl)) rfl rfl
    refine Eq.trans this ?_
    by_cases h1 : [115, 117, 109] = s
    · simp [scan, foldN, h1]
    by_cases h2 : [99, 111, 117, 110, 116] = s
    · simp [scan, foldN, h1, h2]
    by_cases h3 : [108, 101, 97, 115, 116] = s
    · simp [scan, foldN, h1, h2, h3]
    by_cases h4 : [109, 111, 115, 116] = s
    · simp [scan, foldN, h1, h2, h3, h4]
    simp [scan, foldN, h1, h2, h3, h4]
  rw [hR]
  unfold F_release_Find
  by_cases h1 : [115, 117, 109] = s
  · simp [h1]
  by_cases h2 : [99, 111, 117, 110, 116] = s
  · simp [h1, h2]
  by_cases h3 : [108, 101, 97, 115, 116] = s
  · simp [h1, h2, h3]
  by_cases h4 : [109, 111, 115, 116] = s
  · simp [h1, h2, h3, h4]
  simp [h1, h2, h3, h4]
def nameC (n : Int) : List UInt8 × Int := if n < 1 ∨ 4 < n then ([], 2) else (foldN.getD n.toNat [], 0)
theorem fold_cases {n : Int} (h : ¬ (n < 1 ∨ 4 < n)) : n = 1 ∨ n = 2 ∨ n = 3 ∨ n = 4 := by omega
theorem rel_Name_eq (n : Int) : F_release_Name n = some (nameC n) := by
  unfold F_release_Name nameC
  by_cases h : n < 1 ∨ 4 < n
  · rw [if_pos h]
    rcases h with h | h
    · simp [h]
    · have : ¬ n < 1 := by omega
      simp [this, h]
  · rw [if_neg h]
    rcases fold_cases h with rfl | rfl | rfl | rfl <;> rfl
theorem ref_Name_eq (n : Int) : F_invigilatorref28_Name n = some (nameC n) := by
  unfold F_invigilatorref28_Name nameC F_invigilatorref28_names
  by_cases h : n < 1 ∨ 4 < n
  · rw [if_pos h]
    rcases h with h | h
    · simp [h]
    · have : ¬ n < 1 := by omega
      simp [this, h]
  · rw [if_neg h]
    rcases fold_cases h with rfl | rfl | rfl | rfl <;> rfl
def satP (a b : Int) : Int := if 9223372036854775807 < a + b then 9223372036854775807 else if a + b < -9223372036854775808 then -9223372036854775808 else a + b
def i64 (n : Int) : Prop := -9223372036854775808 ≤ n ∧ n ≤ 9223372036854775807
theorem satP_i64 (a b : Int) : i64 (satP a b) := by
  unfold satP i64
  split
  · omega
  · split <;> omega
theorem ref_plus_eq {a b : Int} (ha : i64 a) (hb : i64 b) : F_invigilatorref28_plus a b = some (satP a b) := by
  unfold i64 at ha hb
  unfold F_invigilatorref28_plus satP
  by_cases h1 : 0 < b
  · have w1 : IntKind.wrap .i64 ((9223372036854775807 : Int) - b) = 9223372036854775807 - b := w64 (by omega) (by omega)
    simp only [h1, decide_true, cond_true, letO, w1]
    by_cases h2 : 9223372036854775807 - b < a
    · have : 9223372036854775807 < a + b := by omega
      simp [h2, this]
    · have n1 : ¬ 9223372036854775807 < a + b := by omega
      have n2 : ¬ b < 0 := by omega
      have n3 : ¬ a + b < -9223372036854775808 := by omega
      simp only [h2, n1, n2, n3, decide_false, cond_false, if_false]
      rw [w64 (by omega) (by omega)]
  · simp only [h1, decide_false, cond_false, letO]
    by_cases h3 : b < 0
    · have w1 : IntKind.wrap .i64 ((-9223372036854775808 : Int) - b) = -9223372036854775808 - b := w64 (by omega) (by omega)
      simp only [h3, decide_true, cond_true, w1]
      have n1 : ¬ 9223372036854775807 < a + b := by omega
      by_cases h2 : a < -9223372036854775808 - b
      · have : a + b < -9223372036854775808 := by omega
        simp [h2, n1, this]
      · have n3 : ¬ a + b < -9223372036854775808 := by omega
        simp only [h2, n1, n3, decide_false, cond_false, if_false]
        rw [w64 (by omega) (by omega)]
    · have : b = 0 := by omega
      subst this
      have n1 : ¬ 9223372036854775807 < a + 0 := by omega
      have n3 : ¬ a + 0 < -9223372036854775808 := by omega
      simp only [h3, n1, n3, decide_false, cond_false, if_false]
      rw [w64 (by omega) (by omega)]
end Go.Sx.O
namespace Go.Sx.O
open Go
theorem wrap_i64' (e : Int) (h1 : -18446744073709551616 ≤ e) (h2 : e ≤ 18446744073709551615) : IntKind.wrap .i64 e = if 9223372036854775807 < e then e - 18446744073709551616 else if e < -9223372036854775808 then e + 18446744073709551616 else e := by
  unfold IntKind.wrap
  simp only [IntKind.bits, IntKind.signed]
  simp
  split <;> (try split) <;> (try split) <;> omega
theorem wrap_toNat (v : BitVec 64) : IntKind.wrap .i64 (v.toNat : Int) = v.toInt := by
  rw [BitVec.toInt_eq_toNat_bmod]
  have h := v.isLt
  rw [wrap_i64' _ (by omega) (by omega)]
  simp only [Int.bmod]
  split <;> (try split) <;> omega
theorem bits64 (x y : Int) : bits .xor .i64 x y = (BitVec.ofInt 64 x ^^^ BitVec.ofInt 64 y).toInt ∧ bits .and .i64 x y = (BitVec.ofInt 64 x &&& BitVec.ofInt 64 y).toInt :=
  ⟨wrap_toNat _, wrap_toNat _⟩
theorem toInt_of {x : Int} (h : i64 x) : (BitVec.ofInt 64 x).toInt = x := by
  unfold i64 at h
  rw [BitVec.toInt_ofInt]
  simp only [Int.bmod]
  split <;> omega
theorem sign_and {a b z : Int} (ha : i64 a) (hb : i64 b) (hz : i64 z) : (bits .and .i64 (bits .xor .i64 a z) (bits .xor .i64 b z) < 0) ↔ ((a < 0) ≠ (z < 0) ∧ (b < 0) ≠ (z < 0)) := by
  rw [(bits64 _ _).2, (bits64 a z).1, (bits64 b z).1, BitVec.ofInt_toInt, BitVec.ofInt_toInt]
  have h := BitVec.msb_eq_toInt (x := (BitVec.ofInt 64 a ^^^ BitVec.ofInt 64 z) &&& (BitVec.ofInt 64 b ^^^ BitVec.ofInt 64 z))
  rw [BitVec.msb_and, BitVec.msb_xor, BitVec.msb_xor, BitVec.msb_eq_toInt, BitVec.msb_eq_toInt, BitVec.msb_eq_toInt, toInt_of ha, toInt_of hb, toInt_of hz] at h
  have h2 : (((BitVec.ofInt 64 a ^^^ BitVec.ofInt 64 z) &&& (BitVec.ofInt 64 b ^^^ BitVec.ofInt 64 z)).toInt < 0) ↔ ((decide (a < 0) ^^ decide (z < 0)) && (decide (b < 0) ^^ decide (z < 0))) = true := by
    rw [h]; simp
  rw [h2]
  by_cases h1 : a < 0 <;> by_cases h2 : b < 0 <;> by_cases h3 : z < 0 <;> simp [h1, h2, h3]
theorem plus_eq {a b : Int} (ha : i64 a) (hb : i64 b) : F__scalars_number__plus a b = some (satP a b, 0) := by
  unfold F__scalars_number__plus F__scalars_number__add
  have ha' := ha
  have hb' := hb
  unfold i64 at ha' hb'
  have hw := wrap_i64' (a + b) (by omega) (by omega)
  have hz : i64 (IntKind.wrap .i64 (a + b)) := by rw [hw]; unfold i64; split <;> (try split) <;> omega
  simp only [letO, sign_and ha hb hz]
  unfold satP
  by_cases h1 : 9223372036854775807 < a + b
  · rw [if_pos h1] at hw
    have : (a < 0) ≠ (IntKind.wrap .i64 (a + b) < 0) ∧ (b < 0) ≠ (IntKind.wrap .i64 (a + b) < 0) := by rw [hw]; constructor <;> (intro e; have := Iff.of_eq e; omega)
    have n1 : ¬ a < 0 := by omega
    rw [decide_eq_true this]
    simp only [cond_true, Option.bind_some, F_scalars_limit, n1, h1, if_true, decide_false, cond_false]
    rfl
  · rw [if_neg h1] at hw
    by_cases h2 : a + b < -9223372036854775808
    · rw [if_pos h2] at hw
      have : (a < 0) ≠ (IntKind.wrap .i64 (a + b) < 0) ∧ (b < 0) ≠ (IntKind.wrap .i64 (a + b) < 0) := by rw [hw]; constructor <;> (intro e; have := Iff.of_eq e; omega)
      have n1 : a < 0 := by omega
      rw [decide_eq_true this]
      simp only [cond_true, Option.bind_some, F_scalars_limit, n1, h1, h2, if_true, if_false, decide_true]
      rfl
    · rw [if_neg h2] at hw
      have : ¬ ((a < 0) ≠ (IntKind.wrap .i64 (a + b) < 0) ∧ (b < 0) ≠ (IntKind.wrap .i64 (a + b) < 0)) := by
        rw [hw]
        rintro ⟨e1, e2⟩
        by_cases q1 : a < 0 <;> by_cases q2 : b < 0 <;> by_cases q3 : a + b < 0 <;> simp [q1, q2, q3] at e1 e2 <;> omega
      rw [decide_eq_false this]
      simp only [cond_false, Option.bind_some, F_scalars_limit, hw, h1, h2, if_false, decide_true, cond_true]
end Go.Sx.O
namespace Go.Sx.O
open Go
def sumS (l : List Int) : Int := l.foldl satP 0
def cntS (l : List Int) : Int := l.foldl (fun n c => if c = 0 then n else n + 1) 0
def minS (x : Int) (l : List Int) : Int := l.foldl min x
def maxS (x : Int) (l : List Int) : Int := l.foldl max x
theorem foldl_snoc {α β : Type} {f : β → α → β} {b : β} {l : List α} {k : Nat} {x : α} (h : l[k]? = some x) : (l.take (k + 1)).foldl f b = f ((l.take k).foldl f b) x := by
  rw [List.take_add_one, h, List.foldl_append]; rfl
theorem sumS_i64 (l : List Int) : i64 (sumS l) := by
  unfold sumS
  have : ∀ (l : List Int) (b : Int), i64 b → i64 (l.foldl satP b) := by
    intro l
    induction l with
    | nil => intro b h; exact h
    | cons x r ih => intro b _; exact ih _ (satP_i64 _ _)
  exact this l 0 ⟨by omega, by omega⟩
theorem cntS_le (l : List Int) : 0 ≤ cntS l ∧ cntS l ≤ l.length := by
  unfold cntS
  have : ∀ (l : List Int) (b : Int), b ≤ l.foldl (fun n c => if c = 0 then n else n + 1) b ∧ l.foldl (fun n c => if c = 0 then n else n + 1) b ≤ b + l.length := by
    intro l
    induction l with
    | nil => intro b; simp
    | cons x r ih =>
      intro b
      simp only [List.foldl_cons, List.length_cons]
      have := ih (if x = 0 then b else b + 1)
      split at this <;> (rename_i h; simp only [h]; simp; omega)
  have := this l 0
  omega
theorem total_eq (l : List Int) (h : ∀ c ∈ l, i64 c) (hl : l.length ≤ 1000000) : F_release_total l = some (sumS l) := by
  unfold F_release_total
  simp only [List.length_map]
  refine lp_foldE l.length (fun k => ((k : Int), sumS (l.take k))) (sumS l) (fun k hk => ?_) ?_ rfl
  · obtain ⟨x, hx⟩ := get_lt hk
    have hlt : (k : Int) < (l.length : Int) := by omega
    simp only [hlt, decide_true, cond_true, idxO, Int.toNat_natCast, hx, Option.bind_some, F_scalars_Two_of_20, F_scalars_two_of_20]
    rw [if_pos (by omega), plus_eq (sumS_i64 _) (h x (List.mem_of_getElem? hx))]
    simp only [Option.bind_some, letO]
    rw [w64 (by omega) (by omega)]
    unfold sumS
    rw [foldl_snoc hx]
    rfl
  · simp
theorem count_eq (l : List Int) (hl : l.length ≤ 1000000) : F_release_folds_1 l = some (cntS l) := by
  unfold F_release_folds_1
  simp only [List.length_map]
  refine lp_foldE l.length (fun k => ((k : Int), cntS (l.take k))) (cntS l) (fun k hk => ?_) ?_ rfl
  · obtain ⟨x, hx⟩ := get_lt hk
    have hlt : (k : Int) < (l.length : Int) := by omega
    have hc := cntS_le (l.take k)
    have hle : (l.take k).length ≤ 1000000 := by rw [List.length_take]; omega
    simp only [hlt, decide_true, cond_true, idxO, Int.toNat_natCast, hx, Option.bind_some, letO]
    rw [if_pos (by omega), w64 (by omega) (by omega), w64 (by omega) (by omega)]
    have e : cntS (l.take (k + 1)) = if x = 0 then cntS (l.take k) else cntS (l.take k) + 1 := by unfold cntS; rw [foldl_snoc hx]
    rw [e]
    by_cases h0 : x = 0
    · simp [h0]
    · simp [h0]
  · simp
theorem min_eq (l : List Int) (x : Int) (hx0 : l[0]? = some x) (hl : l.length ≤ 1000000) : F_release_folds_2 l = some (minS x l) := by
  have h1 : 0 < l.length := by
    rcases Nat.eq_zero_or_pos l.length with g | g
    · rw [List.getElem?_eq_none (by omega)] at hx0; cases hx0
    · exact g
  have hn : ¬ (l.length : Int) < 1 := by omega
  unfold F_release_folds_2 F_slices_Min___int64_int64_
  simp only [List.length_map, hn, decide_false, cond_false]
  have e0 : (0 : Int).toNat = 0 := rfl
  simp only [idxO, e0, hx0, Option.bind_some]
  rw [if_pos (by omega)]
  have := lp_foldE (k1 := fun (s : Int) => some s) (step := fun (s154 : Int × Int) => cond (decide (s154.fst < (l.length : Int))) (idxO l s154.fst fun x158 => letO (IntKind.wrap IntKind.i64 (s154.fst + (1 : Int))) fun x159 => some (Sum.inl (x159, min s154.snd x158))) (some (Sum.inr (Sum.inl s154.snd))))
    (l.length - 1) (fun k => (((k + 1 : Nat) : Int), minS x (l.take (k + 1)))) (minS x l) (fun k hk => by
      obtain ⟨y, hy⟩ := get_lt (l := l) (i := k + 1) (by omega)
      have hlt : ((k + 1 : Nat) : Int) < (l.length : Int) := by omega
      simp only [hlt, decide_true, cond_true, idxO, Int.toNat_natCast, hy, Option.bind_some, letO]
      rw [if_pos (by omega), w64 (by omega) (by omega)]
      unfold minS
      rw [foldl_snoc hy]
      rfl) (by
      have e : l.length - 1 + 1 = l.length := by omega
      simp only [e, List.take_length]
      simp) (s0 := (1, x)) (by
      simp only [Nat.zero_add]
      unfold minS
      rw [List.take_add_one, hx0]
      simp)
  simp only [idxO] at this
  rw [this]
  rfl
theorem max_eq (l : List Int) (x : Int) (hx0 : l[0]? = some x) (hl : l.length ≤ 1000000) : F_release_folds_3 l = some (maxS x l) := by
  have h1 : 0 < l.length := by
    rcases Nat.eq_zero_or_pos l.length with g | g
    · rw [List.getElem?_eq_none (by omega)] at hx0; cases hx0
    · exact g
  have hn : ¬ (l.length : Int) < 1 := by omega
  unfold F_release_folds_3 F_slices_Max___int64_int64_
  simp only [List.length_map, hn, decide_false, cond_false]
  have e0 : (0 : Int).toNat = 0 := rfl
  simp only [idxO, e0, hx0, Option.bind_some]
  rw [if_pos (by omega)]
  have := lp_foldE (k1 := fun (s : Int) => some s) (step := fun (s154 : Int × Int) => cond (decide (s154.fst < (l.length : Int))) (idxO l s154.fst fun x158 => letO (IntKind.wrap IntKind.i64 (s154.fst + (1 : Int))) fun x159 => some (Sum.inl (x159, max s154.snd x158))) (some (Sum.inr (Sum.inl s154.snd))))
    (l.length - 1) (fun k => (((k + 1 : Nat) : Int), maxS x (l.take (k + 1)))) (maxS x l) (fun k hk => by
      obtain ⟨y, hy⟩ := get_lt (l := l) (i := k + 1) (by omega)
      have hlt : ((k + 1 : Nat) : Int) < (l.length : Int) := by omega
      simp only [hlt, decide_true, cond_true, idxO, Int.toNat_natCast, hy, Option.bind_some, letO]
      rw [if_pos (by omega), w64 (by omega) (by omega)]
      unfold maxS
      rw [foldl_snoc hy]
      rfl) (by
      have e : l.length - 1 + 1 = l.length := by omega
      simp only [e, List.take_length]
      simp) (s0 := (1, x)) (by
      simp only [Nat.zero_add]
      unfold maxS
      rw [List.take_add_one, hx0]
      simp)
  simp only [idxO] at this
  rw [this]
  rfl
def valC (n : Int) (x : Int) (l : List Int) : Int := if n = 1 then sumS l else if n = 2 then cntS l else if n = 3 then minS x l else maxS x l
theorem ref_value_eq (n : Int) (hn : 1 ≤ n ∧ n ≤ 4) (l : List Int) (x : Int) (hx0 : l[0]? = some x) (h : ∀ c ∈ l, i64 c) (hl : l.length ≤ 1000000) : F_invigilatorref28_value n l = some (valC n x l) := by
  unfold F_invigilatorref28_value
  have e0 : (0 : Int).toNat = 0 := rfl
  simp only [List.length_map]
  simp only [idxO, e0, hx0, Option.bind_some]
  rw [if_pos (by omega), if_pos (by omega)]
  refine (lp_foldE l.length (fun k => ((k : Int), maxS x (l.take k), minS x (l.take k), cntS (l.take k), sumS (l.take k))) (maxS x l, minS x l, cntS l, sumS l) (fun k hk => ?_) (by simp) rfl).trans ?_
  · obtain ⟨y, hy⟩ := get_lt hk
    have hlt : (k : Int) < (l.length : Int) := by omega
    have hc := cntS_le (l.take k)
    have hle : (l.take k).length ≤ 1000000 := by rw [List.length_take]; omega
    have e : cntS (l.take (k + 1)) = if y = 0 then cntS (l.take k) else cntS (l.take k) + 1 := by unfold cntS; rw [foldl_snoc hy]
    have e1 : sumS (l.take (k + 1)) = satP (sumS (l.take k)) y := by unfold sumS; rw [foldl_snoc hy]
    have e2 : maxS x (l.take (k + 1)) = max (maxS x (l.take k)) y := by unfold maxS; rw [foldl_snoc hy]
    have e3 : minS x (l.take (k + 1)) = min (minS x (l.take k)) y := by unfold minS; rw [foldl_snoc hy]
    have hk0 : (0 : Int) ≤ (k : Int) := by omega
    simp only [hlt, hk0, if_true, decide_true, cond_true, Int.toNat_natCast, hy, Option.bind_some, letO]
    rw [ref_plus_eq (sumS_i64 _) (h y (List.mem_of_getElem? hy))]
    simp only [Option.bind_some]
    rw [w64 (by omega) (by omega), w64 (by omega) (by omega), e, e1, e2, e3]
    by_cases h0 : y = 0
    · simp [h0]
    · simp [h0]
  · simp only
    obtain ⟨h1, h2⟩ := hn
    have : n = 1 ∨ n = 2 ∨ n = 3 ∨ n = 4 := by omega
    rcases this with rfl | rfl | rfl | rfl <;> rfl
def valE (n k : Int) (v : TArray) : Int := if ¬ (1 ≤ n ∧ n ≤ 4) then 2 else if k < 2 ∨ 400 < k then 7 else if arrC v ≠ 0 then arrC v else if v.Kind ≠ 1 then 21 else if v.Rank ≠ 1 then 22 else 0
def valV (n k : Int) (v : TArray) : Int × Int := if valE n k v = 0 then (if (v.Cells.length : Int) < k then (0, 0) else (1, valC n (v.Cells.headD 0) v.Cells)) else (0, 0)
theorem head_get {l : List Int} (h : 0 < l.length) : l[0]? = some (l.headD 0) := by
  cases l with
  | nil => simp at h
  | cons a r => rfl
theorem nameC_e {n : Int} : (nameC n).2 = if ¬ (1 ≤ n ∧ n ≤ 4) then 2 else 0 := by
  unfold nameC
  split <;> split <;> first | rfl | (exfalso; omega)
theorem rel_Value_eq (n k : Int) (v : TArray) (hc : ∀ c ∈ v.Cells, i64 c) (hl : v.Cells.length ≤ 1000000) : F_release_Value n k v = some (valV n k v, valE n k v) := by
  unfold F_release_Value
  rw [rel_Name_eq, arrays_Check_spec v (by omega)]
  simp only [Option.bind_some, List.length_map, nameC_e]
  unfold valV valE
  by_cases h1 : 1 ≤ n ∧ n ≤ 4
  case neg => simp [h1]
  by_cases h2 : k < 2
  · simp [h1, h2]
  by_cases h3 : 400 < k
  · simp [h1, h2, h3]
  by_cases h4 : arrC v = 0
  case neg => simp [h1, h2, h3, h4]
  by_cases h5 : v.Kind = 1
  case neg => simp [h1, h2, h3, h4, h5]
  by_cases h6 : v.Rank = 1
  case neg => simp [h1, h2, h3, h4, h5, h6]
  by_cases h7 : (v.Cells.length : Int) < k
  · simp [h1, h2, h3, h4, h5, h6, h7]
  have hx := head_get (l := v.Cells) (by omega)
  simp only [h1, h2, h3, h4, h5, h6, h7, not_true, if_false, decide_true, decide_false, Bool.not_true, cond_false, or_self, ne_eq, if_true, and_self]
  have : n = 1 ∨ n = 2 ∨ n = 3 ∨ n = 4 := by omega
  rcases this with rfl | rfl | rfl | rfl
  · show (F_release_total v.Cells).bind _ = _
    rw [total_eq _ hc hl]; rfl
  · show (F_release_folds_1 v.Cells).bind _ = _
    rw [count_eq _ hl]; rfl
  · show (F_release_folds_2 v.Cells).bind _ = _
    rw [min_eq _ _ hx hl]; rfl
  · show (F_release_folds_3 v.Cells).bind _ = _
    rw [max_eq _ _ hx hl]; rfl
theorem ref_Value_eq (n k : Int) (v : TArray) (hc : ∀ c ∈ v.Cells, i64 c) (hl : v.Cells.length ≤ 1000000) : F_invigilatorref28_Value n k v = some (valV n k v, valE n k v) := by
  unfold F_invigilatorref28_Value
  rw [ref_Name_eq, ref06_Check_spec v (by omega)]
  simp only [Option.bind_some, List.length_map, nameC_e]
  unfold valV valE
  by_cases h1 : 1 ≤ n ∧ n ≤ 4
  case neg => simp [h1]
  by_cases h2 : k < 2
  · simp [h1, h2]
  by_cases h3 : 400 < k
  · simp [h1, h2, h3]
  by_cases h4 : arrC v = 0
  case neg => simp [h1, h2, h3, h4]
  by_cases h5 : v.Kind = 1
  case neg => simp [h1, h2, h3, h4, h5]
  by_cases h6 : v.Rank = 1
  case neg => simp [h1, h2, h3, h4, h5, h6]
  by_cases h7 : (v.Cells.length : Int) < k
  · simp [h1, h2, h3, h4, h5, h6, h7]
  have hx := head_get (l := v.Cells) (by omega)
  simp [h1, h2, h3, h4, h5, h6, h7, ref_value_eq n h1 v.Cells _ hx hc hl]
theorem ReleaseValues_law (s : List UInt8) (x : Int × Int) (v : TArray) (hc : ∀ c ∈ v.Cells, i64 c) : F_invigilatorlaw28_ReleaseValues s x v = some true := by
  unfold F_invigilatorlaw28_ReleaseValues
  by_cases h1 : (100 : Int) < (s.length : Int)
  · simp [h1]
  simp only [List.length_map]
  by_cases h2 : (500 : Int) < (v.Cells.length : Int)
  · simp [h1, h2]
  simp only [h1, h2, decide_false, cond_false]
  have ht : ∃ r, F_invigilatorref28_Find s = some r := by
    rw [← rel_Find_eq]
    unfold F_release_Find
    simp only [cond_eq_ite]
    repeat' split
    all_goals exact ⟨_, rfl⟩
  obtain ⟨r, hr⟩ := ht
  rw [rel_Find_eq, hr, rel_Name_eq, ref_Name_eq, rel_Value_eq _ _ _ hc (by omega), ref_Value_eq _ _ _ hc (by omega)]
  simp
end Go.Sx.O
namespace Go.Sx.O
open Go
theorem inK_i64 {n : Int} (h : inK .i64 n) : i64 n := by
  have e1 : IntKind.i64.min = -9223372036854775808 := by decide
  have e2 : IntKind.i64.max = 9223372036854775807 := by decide
  unfold inK at h
  unfold i64
  omega
theorem ReleaseValues_W (s : List UInt8) (x : Int × Int) (v : TArray) (_ : True) (_ : w2 (inK .i64) x) (w3 : W_TArray v) : F_invigilatorlaw28_ReleaseValues s x v = some true :=
  ReleaseValues_law s x v fun c hc => inK_i64 (w3.Cells c hc)
end Go.Sx.O
