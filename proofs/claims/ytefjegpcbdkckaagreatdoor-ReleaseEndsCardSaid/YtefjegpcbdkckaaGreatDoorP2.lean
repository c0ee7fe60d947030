/-
  PLAIN LAWS: the lattice's check, exactly; the reference's too: names. An own text.
  PLAIN LAWS: lattice.of, .bound, exactly. An own text.
  PLAIN LAWS: the order's check, exactly, the program's and the reference's. An own text.
  PLAIN LAWS: the reference's check of a lattice, exactly. An own text.
  PLAIN LAWS: lattice.Check and the reference's Check say the same. An own text.
  PLAIN LAWS: lattice.Check, exactly. An own text.
  PLAIN LAWS: the reference's Leq; events that are the same. An own text.
  PLAIN LAWS: lattices: joins, meets, top, bottom. An own text.
  PLAIN LAWS: names, exactly: runes.Class, lexer.Check of a word, prims.Find, expr.Name, on both sides. An own text.
  PLAIN LAWS: expr.Name is the reference's. An own text.
  PLAIN LAWS: arrays.Check is the reference's. An own text.
  PLAIN LAWS: arrays.Check is the reference's, cells. An own text.
  PLAIN LAWS of layer 28: folds, names, values: the program's and the reference's. An own text.
  PLAIN LAWS of layer 28: the sum that stays at the ends; the values of folds. An own text.
  PLAIN LAWS of layer 28: the values of folds; Value. An own text.
  THE LAW ReleaseValues FOR DATA AS THEY COME. An own text.
  THE LAW ReleaseOrders: the order of cells, one cell more. An own text.
  THE LAW ReleaseEnds RETURNS TRUE. An own text.
-/
import Derived.Test.YtefjegpcbdkckaaGreatDoorP1
namespace Go.Sx.O
open Go
end Go.Sx.O
namespace Go.Sx.O
open Go
theorem sideO_pos {ρ : Type} {p : Prop} [Decidable p] {x : Option ρ} (h : p) : sideO p x = x := by unfold sideO; rw [if_pos h]
end Go.Sx.O
namespace Go.Sx.O
open Go
end Go.Sx.O
namespace Go.Sx.O
open Go
end Go.Sx.O
namespace Go.Sx.O
open Go
end Go.Sx.O
namespace Go.Sx.O
open Go
end Go.Sx.O
namespace Go.Sx.O
open Go
end Go.Sx.O
namespace Go.Sx.O
open Go
end Go.Sx.O
namespace Go.Sx.O
open Go
end Go.Sx.O
namespace Go.Sx.O
open Go
end Go.Sx.O
namespace Go.Sx.O
open Go
def manyC (r : Int) (l : Int × Int) : Int := if r = 2 then l.1 * l.2 else if r = 1 then l.1 else 1
def shC (r : Int) (l : Int × Int) : Int :=
  if r = 0 then (if l.1 = 0 then (if l.2 = 0 then 0 else 6) else 6)
  else if r = 1 then (if l.1 < 0 then 7 else if l.2 = 0 then (if 400 < l.1 then 15 else 0) else 6)
  else if r = 2 then (if l.1 < 0 then 7 else if l.2 < 0 then 7 else if 400 < l.1 then 15 else if 400 < l.2 then 15 else if 400 < l.1 * l.2 then 15 else 0)
  else 7
theorem mul400 {a b : Int} (h0 : 0 ≤ a) (h1 : a ≤ 400) (h2 : 0 ≤ b) (h3 : b ≤ 400) : 0 ≤ a * b ∧ a * b ≤ 160000 :=
  ⟨Int.mul_nonneg h0 h2, by have := Int.mul_le_mul h1 h3 h2 (by omega : (0 : Int) ≤ 400); omega⟩
theorem product_spec (r : Int) (l : Int × Int) (h : shC r l = 0) : F_shapes_product r l = some (manyC r l) := by
  unfold F_shapes_product manyC
  unfold shC at h
  by_cases h2 : r = 2
  · subst h2
    simp only [decide_true, cond_true, letO, if_true]
    simp (config := { decide := true }) only [if_false, if_true] at h
    split at h
    · cases h
    split at h
    · cases h
    split at h
    · cases h
    split at h
    · cases h
    have hm := mul400 (a := l.1) (b := l.2) (by omega) (by omega) (by omega) (by omega)
    rw [w64 (e := 1 * l.2) (by omega) (by omega), Int.one_mul, Int.mul_comm l.2 l.1, w64 (by omega) (by omega)]
  by_cases h1 : r = 1
  · subst h1
    simp (config := { decide := true }) only [if_false, if_true] at h ⊢
    split at h
    · cases h
    split at h
    case isFalse => cases h
    split at h
    · cases h
    simp only [decide_true, cond_true, decide_false, cond_false, letO]
    rw [w64 (e := 1 * l.1) (by omega) (by omega), Int.one_mul]
  · simp [h1, h2]
theorem shapes_Check_spec (r : Int) (l : Int × Int) : F_shapes_Check r l = some (shC r l) := by
  unfold F_shapes_Check
  by_cases hr : r < 0
  · have : shC r l = 7 := by unfold shC; rw [if_neg (by omega), if_neg (by omega), if_neg (by omega)]
    simp [hr, this]
  by_cases hr2 : 2 < r
  · have : shC r l = 7 := by unfold shC; rw [if_neg (by omega), if_neg (by omega), if_neg (by omega)]
    simp [hr, hr2, this]
  have e1 : decide (r < 0) = false := by simp; omega
  have e2 : decide (2 < r) = false := by simp; omega
  simp only [e1, e2, cond_false]
  rw [sideO_pos ⟨by omega, by omega⟩, sideO_pos ⟨by omega, by omega⟩]
  rw [ContainsFunc1 _ (by simp; omega), ContainsFunc2 _ (by simp; omega), ContainsFunc3 _ (by simp; omega)]
  obtain ⟨a, b⟩ := l
  have hp := product_spec r (a, b)
  rcases (by omega : r = 0 ∨ r = 1 ∨ r = 2) with rfl | rfl | rfl
  · by_cases ha : a = 0 <;> by_cases hb : b = 0 <;> simp [shC, ha, hb, F_shapes_product]
  · by_cases ha : a < 0
    · simp [shC, ha]
    by_cases hb : b = 0
    case neg => simp [shC, ha, hb]
    by_cases h4 : 400 < a
    · simp [shC, ha, hb, h4]
    have hs : shC 1 (a, b) = 0 := by simp [shC, ha, hb, h4]
    have hp' := hp hs
    rw [hb] at hp' hs
    simp [hp', hs, ha, hb, h4, manyC]
  · by_cases ha : a < 0
    · simp [shC, ha]
    by_cases hb : b < 0
    · simp [shC, ha, hb]
    by_cases h4 : 400 < a
    · simp [shC, ha, hb, h4]
    by_cases h5 : 400 < b
    · simp [shC, ha, hb, h4, h5]
    have hm := mul400 (a := a) (b := b) (by omega) (by omega) (by omega) (by omega)
    have hq : F_shapes_product 2 (a, b) = some (a * b) := by
      unfold F_shapes_product
      simp only [decide_true, cond_true, letO]
      rw [w64 (e := 1 * b) (by omega) (by omega), Int.one_mul, Int.mul_comm b a, w64 (by omega) (by omega)]
    by_cases h6 : 400 < a * b
    · simp [shC, ha, hb, h4, h5, h6, hq]
    · simp [shC, ha, hb, h4, h5, h6, hq]
theorem shapes_Cells_spec (r : Int) (l : Int × Int) : F_shapes_Cells r l = some (if shC r l = 0 then manyC r l else 0, shC r l) := by
  unfold F_shapes_Cells
  rw [shapes_Check_spec, Option.bind_some]
  by_cases h : shC r l = 0
  · simp [h, product_spec r l h]
  · simp [h]
end Go.Sx.O
namespace Go.Sx.O
open Go
def runeB (c : Int) : Bool := decide (0 ≤ c) && decide (c ≤ 1114111) && (decide (c < 55296) || decide (57343 < c))
def arrC (a : TArray) : Int :=
  if a.Kind = 1 ∨ a.Kind = 2 then
    if shC a.Rank a.Lens = 0 then
      if (a.Cells.length : Int) = manyC a.Rank a.Lens then
        if a.Kind = 2 ∧ (a.Cells.any fun c => !runeB c) = true then 7 else 0
      else 6
    else shC a.Rank a.Lens
  else 2
theorem wrap_i32' {r : Int} (h0 : 0 ≤ r) (h1 : r ≤ 1114111) : IntKind.wrap .i32 r = r := by
  simp only [IntKind.wrap, IntKind.signed, IntKind.bits]
  have h3 : (2 : Int) ^ 32 = 4294967296 := by decide
  have h4 : (2 : Int) ^ (32 - 1) = 2147483648 := by decide
  simp only [h3, h4, Bool.true_and, decide_eq_true_eq, ge_iff_le]
  split <;> omega
theorem ValidRune_spec (c : Int) : F_unicode_utf8_ValidRune c = some (runeB c) := by
  unfold F_unicode_utf8_ValidRune runeB
  by_cases h0 : 0 ≤ c <;> by_cases h1 : c < 55296 <;> by_cases h2 : 57343 < c <;> by_cases h3 : c ≤ 1114111 <;> simp [h0, h1, h2, h3] <;> omega
theorem right_spec (k c : Int) : F_arrays_right k c = some (decide (k = 1) || runeB c) := by
  unfold F_arrays_right
  by_cases hk : k = 1
  · simp [hk]
  by_cases h0 : 0 ≤ c
  case neg => simp [hk, h0, runeB]
  by_cases h1 : c ≤ 1114111
  case neg => simp [hk, h0, h1, runeB]
  simp only [hk, h0, h1, decide_true, decide_false, cond_true, cond_false, letO, wrap_i32' h0 h1, ValidRune_spec, Option.bind_some, Bool.false_or]
theorem ContainsFunc4_spec (l : List Int) (a : TArray) (h : l.length ≤ 1000000000) : F_slices_ContainsFunc___int64_int64__of_arrays_Check_1 l a = some (l.any fun c => !(decide (a.Kind = 1) || runeB c)) := by
  unfold F_slices_ContainsFunc___int64_int64__of_arrays_Check_1 F_slices_IndexFunc___int64_int64__of_arrays_Check_1
  refine any_loop (l := l) (fun c => !(decide (a.Kind = 1) || runeB c)) (e := ()) rfl (fun k x hx hlt => ?_) (by simp)
  simp only [List.length_map, Int.ofNat_lt, hlt, decide_true, cond_true, idxO, Int.toNat_natCast, hx, Option.bind_some, letO, Int.natCast_nonneg, if_true, F_arrays_Check_1, right_spec]
  rw [w64 (by omega) (by omega)]
  cases decide (a.Kind = 1) || runeB x <;> rfl
theorem arrays_Check_spec (a : TArray) (h : a.Cells.length ≤ 1000000000) : F_arrays_Check a = some (arrC a) := by
  unfold F_arrays_Check arrC
  rw [shapes_Cells_spec, ContainsFunc4_spec _ _ h]
  simp only [Option.bind_some, List.length_map]
  have key : cond (!decide (shC a.Rank a.Lens = 0)) (some (shC a.Rank a.Lens)) (cond (!decide ((a.Cells.length : Int) = if shC a.Rank a.Lens = 0 then manyC a.Rank a.Lens else 0)) (some 6) (cond (a.Cells.any fun c => !(decide (a.Kind = 1) || runeB c)) (some 7) (some (0 : Int)))) = some (if shC a.Rank a.Lens = 0 then if (a.Cells.length : Int) = manyC a.Rank a.Lens then if (a.Cells.any fun c => !(decide (a.Kind = 1) || runeB c)) = true then 7 else 0 else 6 else shC a.Rank a.Lens) := by
    by_cases h1 : shC a.Rank a.Lens = 0
    case neg => simp [h1]
    by_cases h2 : (a.Cells.length : Int) = manyC a.Rank a.Lens
    case neg => simp [h1, h2]
    simp only [h1, h2, if_true, decide_true, Bool.not_true, cond_false]
    cases (a.Cells.any fun c => !(decide (a.Kind = 1) || runeB c)) <;> rfl
  rw [key]
  by_cases k1 : a.Kind = 1
  · have : (a.Cells.any fun c => !(decide (a.Kind = 1) || runeB c)) = false := by
      rw [List.any_eq_false]; intro c _; simp [k1]
    rw [this]
    simp [k1]
  by_cases k2 : a.Kind = 2
  · have : (a.Cells.any fun c => !(decide (a.Kind = 1) || runeB c)) = a.Cells.any fun c => !runeB c := by
      congr 1; funext c; simp [k1]
    rw [this]
    simp [k2]
  · simp [k1, k2]
end Go.Sx.O
namespace Go.Sx.O
open Go
theorem lp_scanSE {σ τ ε : Type} {step : σ → Option (σ ⊕ (ε ⊕ τ))} {k1 : ε → Option τ} (n : Nat) (S : Nat → σ) (f : Nat → Option τ) (e : ε)
    (h1 : ∀ k : Nat, k < n → step (S k) = some (match f k with | some r => .inr (.inr r) | none => .inl (S (k + 1))))
    (h2 : step (S n) = some (.inr (.inl e))) {s0 : σ} (h0 : S 0 = s0) : (lpO step s0).bind (Sum.elim k1 some) = match scan f 0 n with | some r => some r | none => k1 e := by
  subst h0
  rw [lp_scanS n S (fun k => (f k).map Sum.inr) (.inl e) (fun k hk => by rw [h1 k hk]; cases f k <;> rfl) h2, scan_map]
  cases scan f 0 n <;> rfl
theorem lp_foldE {σ τ ε : Type} {step : σ → Option (σ ⊕ (ε ⊕ τ))} {k1 : ε → Option τ} (n : Nat) (S : Nat → σ) (e : ε)
    (h1 : ∀ k : Nat, k < n → step (S k) = some (.inl (S (k + 1)))) (h2 : step (S n) = some (.inr (.inl e))) {s0 : σ} (h0 : S 0 = s0) : (lpO step s0).bind (Sum.elim k1 some) = k1 e := by
  subst h0
  rw [lp_fold n S (.inl e) h1 h2]; rfl
def foldN : List (List UInt8) := [[], [115, 117, 109], [99, 111, 117, 110, 116], [108, 101, 97, 115, 116], [109, 111, 115, 116]]
def nameC (n : Int) : List UInt8 × Int := if n < 1 ∨ 4 < n then ([], 2) else (foldN.getD n.toNat [], 0)
theorem fold_cases {n : Int} (h : ¬ (n < 1 ∨ 4 < n)) : n = 1 ∨ n = 2 ∨ n = 3 ∨ n = 4 := by omega
theorem rel_Name_eq (n : Int) : F_release_Name n = some (nameC n) := by
  unfold F_release_Name nameC
  by_cases h : n < 1 ∨ 4 < n
  · rw [if_pos h]
    rcases h with h | h
    · simp [h]
    · have : ¬ n < 1 := by omega
      simp [this, h]
  · rw [if_neg h]
    rcases fold_cases h with rfl | rfl | rfl | rfl <;> rfl
def satP (a b : Int) : Int := if 9223372036854775807 < a + b then 9223372036854775807 else if a + b < -9223372036854775808 then -9223372036854775808 else a + b
def i64 (n : Int) : Prop := -9223372036854775808 ≤ n ∧ n ≤ 9223372036854775807
theorem satP_i64 (a b : Int) : i64 (satP a b) := by
  unfold satP i64
  split
  · omega
  · split <;> omega
end Go.Sx.O
namespace Go.Sx.O
open Go
theorem wrap_i64' (e : Int) (h1 : -18446744073709551616 ≤ e) (h2 : e ≤ 18446744073709551615) : IntKind.wrap .i64 e = if 9223372036854775807 < e then e - 18446744073709551616 else if e < -9223372036854775808 then e + 18446744073709551616 else e := by
  unfold IntKind.wrap
  simp only [IntKind.bits, IntKind.signed]
  simp
  split <;> (try split) <;> (try split) <;> omega
theorem wrap_toNat (v : BitVec 64) : IntKind.wrap .i64 (v.toNat : Int) = v.toInt := by
  rw [BitVec.toInt_eq_toNat_bmod]
  have h := v.isLt
  rw [wrap_i64' _ (by omega) (by omega)]
  simp only [Int.bmod]
  split <;> (try split) <;> omega
theorem bits64 (x y : Int) : bits .xor .i64 x y = (BitVec.ofInt 64 x ^^^ BitVec.ofInt 64 y).toInt ∧ bits .and .i64 x y = (BitVec.ofInt 64 x &&& BitVec.ofInt 64 y).toInt :=
  ⟨wrap_toNat _, wrap_toNat _⟩
theorem toInt_of {x : Int} (h : i64 x) : (BitVec.ofInt 64 x).toInt = x := by
  unfold i64 at h
  rw [BitVec.toInt_ofInt]
  simp only [Int.bmod]
  split <;> omega
theorem sign_and {a b z : Int} (ha : i64 a) (hb : i64 b) (hz : i64 z) : (bits .and .i64 (bits .xor .i64 a z) (bits .xor .i64 b z) < 0) ↔ ((a < 0) ≠ (z < 0) ∧ (b < 0) ≠ (z < 0)) := by
  rw [(bits64 _ _).2, (bits64 a z).1, (bits64 b z).1, BitVec.ofInt_toInt, BitVec.ofInt_toInt]
  have h := BitVec.msb_eq_toInt (x := (BitVec.ofInt 64 a ^^^ BitVec.ofInt 64 z) &&& (BitVec.ofInt 64 b ^^^ BitVec.ofInt 64 z))
  rw [BitVec.msb_and, BitVec.msb_xor, BitVec.msb_xor, BitVec.msb_eq_toInt, BitVec.msb_eq_toInt, BitVec.msb_eq_toInt, toInt_of ha, toInt_of hb, toInt_of hz] at h
  have h2 : (((BitVec.ofInt 64 a ^^^ BitVec.ofInt 64 z) &&& (BitVec.ofInt 64 b ^^^ BitVec.ofInt 64 z)).toInt < 0) ↔ ((decide (a < 0) ^^ decide (z < 0)) && (decide (b < 0) ^^ decide (z < 0))) = true := by
    rw [h]; simp
  rw [h2]
  by_cases h1 : a < 0 <;> by_cases h2 : b < 0 <;> by_cases h3 : z < 0 <;> simp [h1, h2, h3]
theorem plus_eq {a b : Int} (ha : i64 a) (hb : i64 b) : F__scalars_number__plus a b = some (satP a b, 0) := by
  unfold F__scalars_number__plus F__scalars_number__add
  have ha' := ha
  have hb' := hb
  unfold i64 at ha' hb'
  have hw := wrap_i64' (a + b) (by omega) (by omega)
  have hz : i64 (IntKind.wrap .i64 (a + b)) := by rw [hw]; unfold i64; split <;> (try split) <;> omega
  simp only [letO, sign_and ha hb hz]
  unfold satP
  by_cases h1 : 9223372036854775807 < a + b
  · rw [if_pos h1] at hw
    have : (a < 0) ≠ (IntKind.wrap .i64 (a + b) < 0) ∧ (b < 0) ≠ (IntKind.wrap .i64 (a + b) < 0) := by rw [hw]; constructor <;> (intro e; have := Iff.of_eq e; omega)
    have n1 : ¬ a < 0 := by omega
    rw [decide_eq_true this]
    simp only [cond_true, Option.bind_some, F_scalars_limit, n1, h1, if_true, decide_false, cond_false]
    rfl
  · rw [if_neg h1] at hw
    by_cases h2 : a + b < -9223372036854775808
    · rw [if_pos h2] at hw
      have : (a < 0) ≠ (IntKind.wrap .i64 (a + b) < 0) ∧ (b < 0) ≠ (IntKind.wrap .i64 (a + b) < 0) := by rw [hw]; constructor <;> (intro e; have := Iff.of_eq e; omega)
      have n1 : a < 0 := by omega
      rw [decide_eq_true this]
      simp only [cond_true, Option.bind_some, F_scalars_limit, n1, h1, h2, if_true, if_false, decide_true]
      rfl
    · rw [if_neg h2] at hw
      have : ¬ ((a < 0) ≠ (IntKind.wrap .i64 (a + b) < 0) ∧ (b < 0) ≠ (IntKind.wrap .i64 (a + b) < 0)) := by
        rw [hw]
        rintro ⟨e1, e2⟩
        by_cases q1 : a < 0 <;> by_cases q2 : b < 0 <;> by_cases q3 : a + b < 0 <;> simp [q1, q2, q3] at e1 e2 <;> omega
      rw [decide_eq_false this]
      simp only [cond_false, Option.bind_some, F_scalars_limit, hw, h1, h2, if_false, decide_true, cond_true]
end Go.Sx.O
namespace Go.Sx.O
open Go
def sumS (l : List Int) : Int := l.foldl satP 0
def cntS (l : List Int) : Int := l.foldl (fun n c => if c = 0 then n else n + 1) 0
def minS (x : Int) (l : List Int) : Int := l.foldl min x
def maxS (x : Int) (l : List Int) : Int := l.foldl max x
theorem foldl_snoc {α β : Type} {f : β → α → β} {b : β} {l : List α} {k : Nat} {x : α} (h : l[k]? = some x) : (l.take (k + 1)).foldl f b = f ((l.take k).foldl f b) x := by
  rw [List.take_add_one, h, List.foldl_append]; rfl
theorem sumS_i64 (l : List Int) : i64 (sumS l) := by
  unfold sumS
  have : ∀ (l : List Int) (b : Int), i64 b → i64 (l.foldl satP b) := by
    intro l
    induction l with
    | nil => intro b h; exact h
    | cons x r ih => intro b _; exact ih _ (satP_i64 _ _)
  exact this l 0 ⟨by omega, by omega⟩
theorem cntS_le (l : List Int) : 0 ≤ cntS l ∧ cntS l ≤ l.length := by
  unfold cntS
  have : ∀ (l : List Int) (b : Int), b ≤ l.foldl (fun n c => if c = 0 then n else n + 1) b ∧ l.foldl (fun n c => if c = 0 then n else n + 1) b ≤ b + l.length := by
    intro l
    induction l with
    | nil => intro b; simp
    | cons x r ih =>
      intro b
      simp only [List.foldl_cons, List.length_cons]
      have := ih (if x = 0 then b else b + 1)
      split at this <;> (rename_i h; simp only [h]; simp; omega)
  have := this l 0
  omega
theorem total_eq (l : List Int) (h : ∀ c ∈ l, i64 c) (hl : l.length ≤ 1000000) : F_release_total l = some (sumS l) := by
  unfold F_release_total
  simp only [List.length_map]
  refine lp_foldE l.length (fun k => ((k : Int), sumS (l.take k))) (sumS l) (fun k hk => ?_) ?_ rfl
  · obtain ⟨x, hx⟩ := get_lt hk
    have hlt : (k : Int) < (l.length : Int) := by omega
    simp only [hlt, decide_true, cond_true, idxO, Int.toNat_natCast, hx, Option.bind_some, F_scalars_Two_of_20, F_scalars_two_of_20]
    rw [if_pos (by omega), plus_eq (sumS_i64 _) (h x (List.mem_of_getElem? hx))]
    simp only [Option.bind_some, letO]
    rw [w64 (by omega) (by omega)]
    unfold sumS
    rw [foldl_snoc hx]
    rfl
  · simp
theorem count_eq (l : List Int) (hl : l.length ≤ 1000000) : F_release_folds_1 l = some (cntS l) := by
  unfold F_release_folds_1
  simp only [List.length_map]
  refine lp_foldE l.length (fun k => ((k : Int), cntS (l.take k))) (cntS l) (fun k hk => ?_) ?_ rfl
  · obtain ⟨x, hx⟩ := get_lt hk
    have hlt : (k : Int) < (l.length : Int) := by omega
    have hc := cntS_le (l.take k)
    have hle : (l.take k).length ≤ 1000000 := by rw [List.length_take]; omega
    simp only [hlt, decide_true, cond_true, idxO, Int.toNat_natCast, hx, Option.bind_some, letO]
    rw [if_pos (by omega), w64 (by omega) (by omega), w64 (by omega) (by omega)]
    have e : cntS (l.take (k + 1)) = if x = 0 then cntS (l.take k) else cntS (l.take k) + 1 := by unfold cntS; rw [foldl_snoc hx]
    rw [e]
    by_cases h0 : x = 0
    · simp [h0]
    · simp [h0]
  · simp
theorem min_eq (l : List Int) (x : Int) (hx0 : l[0]? = some x) (hl : l.length ≤ 1000000) : F_release_folds_2 l = some (minS x l) := by
  have h1 : 0 < l.length := by
    rcases Nat.eq_zero_or_pos l.length with g | g
    · rw [List.getElem?_eq_none (by omega)] at hx0; cases hx0
    · exact g
  have hn : ¬ (l.length : Int) < 1 := by omega
  unfold F_release_folds_2 F_slices_Min___int64_int64_
  simp only [List.length_map, hn, decide_false, cond_false]
  have e0 : (0 : Int).toNat = 0 := rfl
  simp only [idxO, e0, hx0, Option.bind_some]
  rw [if_pos (by omega)]
  have := lp_foldE (k1 := fun (s : Int) => some s) (step := fun (s154 : Int × Int) => cond (decide (s154.fst < (l.length : Int))) (idxO l s154.fst fun x158 => letO (IntKind.wrap IntKind.i64 (s154.fst + (1 : Int))) fun x159 => some (Sum.inl (x159, min s154.snd x158))) (some (Sum.inr (Sum.inl s154.snd))))
    (l.length - 1) (fun k => (((k + 1 : Nat) : Int), minS x (l.take (k + 1)))) (minS x l) (fun k hk => by
      obtain ⟨y, hy⟩ := get_lt (l := l) (i := k + 1) (by omega)
      have hlt : ((k + 1 : Nat) : Int) < (l.length : Int) := by omega
      simp only [hlt, decide_true, cond_true, idxO, Int.toNat_natCast, hy, Option.bind_some, letO]
      rw [if_pos (by omega), w64 (by omega) (by omega)]
      unfold minS
      rw [foldl_snoc hy]
      rfl) (by
      have e : l.length - 1 + 1 = l.length := by omega
      simp only [e, List.take_length]
      simp) (s0 := (1, x)) (by
      simp only [Nat.zero_add]
      unfold minS
      rw [List.take_add_one, hx0]
      simp)
  simp only [idxO] at this
  rw [this]
  rfl
theorem max_eq (l : List Int) (x : Int) (hx0 : l[0]? = some x) (hl : l.length ≤ 1000000) : F_release_folds_3 l = some (maxS x l) := by
  have h1 : 0 < l.length := by
    rcases Nat.eq_zero_or_pos l.length with g | g
    · rw [List.getElem?_eq_none (by omega)] at hx0; cases hx0
    · exact g
  have hn : ¬ (l.length : Int) < 1 := by omega
  unfold F_release_folds_3 F_slices_Max___int64_int64_
  simp only [List.length_map, hn, decide_false, cond_false]
  have e0 : (0 : Int).toNat = 0 := rfl
  simp only [idxO, e0, hx0, Option.bind_some]
  rw [if_pos (by omega)]
  have := lp_foldE (k1 := fun (s : Int) => some s) (step := fun (s154 : Int × Int) => cond (decide (s154.fst < (l.length : Int))) (idxO l s154.fst fun x158 => letO (IntKind.wrap IntKind.i64 (s154.fst + (1 : Int))) fun x159 => some (Sum.inl (x159, max s154.snd x158))) (some (Sum.inr (Sum.inl s154.snd))))
    (l.length - 1) (fun k => (((k + 1 : Nat) : Int), maxS x (l.take (k + 1)))) (maxS x l) (fun k hk => by
      obtain ⟨y, hy⟩ := get_lt (l := l) (i := k + 1) (by omega)
      have hlt : ((k + 1 : Nat) : Int) < (l.length : Int) := by omega
      simp only [hlt, decide_true, cond_true, idxO, Int.toNat_natCast, hy, Option.bind_some, letO]
      rw [if_pos (by omega), w64 (by omega) (by omega)]
      unfold maxS
      rw [foldl_snoc hy]
      rfl) (by
      have e : l.length - 1 + 1 = l.length := by omega
      simp only [e, List.take_length]
      simp) (s0 := (1, x)) (by
      simp only [Nat.zero_add]
      unfold maxS
      rw [List.take_add_one, hx0]
      simp)
  simp only [idxO] at this
  rw [this]
  rfl
def valC (n : Int) (x : Int) (l : List Int) : Int := if n = 1 then sumS l else if n = 2 then cntS l else if n = 3 then minS x l else maxS x l
def valE (n k : Int) (v : TArray) : Int := if ¬ (1 ≤ n ∧ n ≤ 4) then 2 else if k < 2 ∨ 400 < k then 7 else if arrC v ≠ 0 then arrC v else if v.Kind ≠ 1 then 21 else if v.Rank ≠ 1 then 22 else 0
def valV (n k : Int) (v : TArray) : Int × Int := if valE n k v = 0 then (if (v.Cells.length : Int) < k then (0, 0) else (1, valC n (v.Cells.headD 0) v.Cells)) else (0, 0)
theorem head_get {l : List Int} (h : 0 < l.length) : l[0]? = some (l.headD 0) := by
  cases l with
  | nil => simp at h
  | cons a r => rfl
theorem nameC_e {n : Int} : (nameC n).2 = if ¬ (1 ≤ n ∧ n ≤ 4) then 2 else 0 := by
  unfold nameC
  split <;> split <;> first | rfl | (exfalso; omega)
theorem rel_Value_eq (n k : Int) (v : TArray) (hc : ∀ c ∈ v.Cells, i64 c) (hl : v.Cells.length ≤ 1000000) : F_release_Value n k v = some (valV n k v, valE n k v) := by
  unfold F_release_Value
  rw [rel_Name_eq, arrays_Check_spec v (by omega)]
  simp only [Option.bind_some, List.length_map, nameC_e]
  unfold valV valE
  by_cases h1 : 1 ≤ n ∧ n ≤ 4
  case neg => simp [h1]
  by_cases h2 : k < 2
  · simp [h1, h2]
  by_cases h3 : 400 < k
  · simp [h1, h2, h3]
  by_cases h4 : arrC v = 0
  case neg => simp [h1, h2, h3, h4]
  by_cases h5 : v.Kind = 1
  case neg => simp [h1, h2, h3, h4, h5]
  by_cases h6 : v.Rank = 1
  case neg => simp [h1, h2, h3, h4, h5, h6]
  by_cases h7 : (v.Cells.length : Int) < k
  · simp [h1, h2, h3, h4, h5, h6, h7]
  have hx := head_get (l := v.Cells) (by omega)
  simp only [h1, h2, h3, h4, h5, h6, h7, not_true, if_false, decide_true, decide_false, Bool.not_true, cond_false, or_self, ne_eq, if_true, and_self]
  have : n = 1 ∨ n = 2 ∨ n = 3 ∨ n = 4 := by omega
  rcases this with rfl | rfl | rfl | rfl
  · show (F_release_total v.Cells).bind _ = _
    rw [total_eq _ hc hl]; rfl
  · show (F_release_folds_1 v.Cells).bind _ = _
    rw [count_eq _ hl]; rfl
  · show (F_release_folds_2 v.Cells).bind _ = _
    rw [min_eq _ _ hx hl]; rfl
  · show (F_release_folds_3 v.Cells).bind _ = _
    rw [max_eq _ _ hx hl]; rfl
end Go.Sx.O
namespace Go.Sx.O
open Go
theorem inK_i64 {n : Int} (h : inK .i64 n) : i64 n := by
  have e1 : IntKind.i64.min = -9223372036854775808 := by decide
  have e2 : IntKind.i64.max = 9223372036854775807 := by decide
  unfold inK at h
  unfold i64
  omega
end Go.Sx.O
namespace Go.Sx.O
open Go
theorem vector_eq (l : List Int) : F_invigilatorlaw28_vector l = some (TArray.mk 1 1 ((l.length : Int), 0) l) := by
  unfold F_invigilatorlaw28_vector
  rw [List.length_map]
theorem vec_val {n : Int} (hn : 1 ≤ n ∧ n ≤ 4) {l : List Int} (h2 : 2 ≤ l.length) (hl : l.length ≤ 400) (hc : ∀ c ∈ l, i64 c) :
    F_release_Value n 2 (TArray.mk 1 1 ((l.length : Int), 0) l) = some ((1, valC n (l.headD 0) l), 0) := by
  have ha : arrC (TArray.mk 1 1 ((l.length : Int), 0) l) = 0 := by
    unfold arrC shC manyC
    simp
    omega
  have he : valE n 2 (TArray.mk 1 1 ((l.length : Int), 0) l) = 0 := by
    unfold valE
    rw [ha]
    simp [hn.1, hn.2]
  rw [rel_Value_eq n 2 _ hc (by simp only; omega)]
  unfold valV
  rw [he]
  have : ¬ (l.length : Int) < 2 := by omega
  simp [this]
end Go.Sx.O
namespace Go.Sx.O
open Go
def stepE (p : Bool × Int) (x : Int) : Bool × Int := if IntKind.wrap .i64 (9223372036854775807 - p.2) < x then (true, 9223372036854775807) else (p.1, IntKind.wrap .i64 (p.2 + x))
theorem stepE_ok {p : Bool × Int} {x : Int} (h0 : 0 ≤ p.2 ∧ p.2 ≤ 9223372036854775807) (hx : 0 ≤ x ∧ x ≤ 9223372036854775807) (hp : p.1 = true → p.2 = 9223372036854775807) :
    (stepE p x).2 = satP p.2 x ∧ ((stepE p x).1 = true → (stepE p x).2 = 9223372036854775807) ∧ 0 ≤ (stepE p x).2 ∧ (stepE p x).2 ≤ 9223372036854775807 := by
  unfold stepE satP
  rw [w64 (by omega) (by omega)]
  by_cases h : 9223372036854775807 - p.2 < x
  · rw [if_pos h, if_pos (by omega)]
    simp
  · rw [if_neg h, if_neg (by omega), if_neg (by omega), w64 (by omega) (by omega)]
    refine ⟨rfl, fun h1 => ?_, by simp only; omega, by simp only; omega⟩
    have := hp h1
    simp only
    omega
theorem foldE_ok : ∀ {l : List Int} {p : Bool × Int}, (0 ≤ p.2 ∧ p.2 ≤ 9223372036854775807) → (p.1 = true → p.2 = 9223372036854775807) → (∀ x ∈ l, 0 ≤ x ∧ x ≤ 9223372036854775807) →
    (l.foldl stepE p).2 = l.foldl satP p.2 ∧ ((l.foldl stepE p).1 = true → (l.foldl stepE p).2 = 9223372036854775807) ∧ 0 ≤ (l.foldl stepE p).2 := by
  intro l
  induction l with
  | nil => intro p h0 hp _; exact ⟨rfl, hp, h0.1⟩
  | cons x r ih =>
    intro p h0 hp hl
    obtain ⟨e1, e2, e3, e4⟩ := stepE_ok h0 (hl x (by simp)) hp
    obtain ⟨i1, i2, i3⟩ := ih ⟨e3, e4⟩ e2 fun y hy => hl y (by simp [hy])
    simp only [List.foldl_cons]
    exact ⟨by rw [i1, e1], i2, i3⟩
theorem ReleaseEnds_W (l : List Int) (m : Int) (w1 : allW (inK .i64) l) (w2 : inK .i64 m) : F_invigilatorlaw28_ReleaseEnds l m = some true := by
  have c1 : ∀ c ∈ l, i64 c := fun c hc => inK_i64 (w1 c hc)
  have c3 : i64 m := inK_i64 w2
  unfold F_invigilatorlaw28_ReleaseEnds
  simp only [List.length_map]
  by_cases h1 : (100 : Int) < (l.length : Int)
  · simp [h1]
  by_cases h3 : (l.length : Int) < 2
  · simp [h1, h3]
  simp only [h1, h3, decide_false, cond_false]
  have hl0 : 0 < l.length := by omega
  refine (lp_scanSE l.length (fun k => ((k : Int), (l.take k).foldl stepE (false, 0))) (fun k => match l[k]? with | some x => if x < 0 then some true else none | none => none) (l.foldl stepE (false, 0)) (fun k hk => ?_) ?_ rfl).trans ?_
  · obtain ⟨x, hx⟩ := get_lt hk
    have hlt : (k : Int) < (l.length : Int) := by omega
    have hw : IntKind.wrap .i64 ((k : Int) + 1) = ((k + 1 : Nat) : Int) := w64 (by omega) (by omega)
    have n1 : (0 : Int) ≤ (k : Int) := by omega
    simp only [hlt, decide_true, cond_true, idxO, n1, if_true, Int.toNat_natCast, hx, Option.bind_some, letO, hw]
    by_cases hn : x < 0
    · simp [hn]
    rw [foldl_snoc hx]
    unfold stepE
    by_cases hc : IntKind.wrap .i64 (9223372036854775807 - ((l.take k).foldl stepE (false, 0)).2) < x
    · unfold stepE at hc
      simp [hn, hc]
    · unfold stepE at hc
      simp [hn, hc]
  · simp
  split
  · rename_i r hr
    have : r = true := scan_val (v := true) (fun i => by
      cases l[i]? with
      | none => exact .inr rfl
      | some x =>
        by_cases hx : x < 0
        · exact .inl (by simp [hx])
        · exact .inr (by simp [hx])) hr
    rw [this]
  · rename_i hr
    have hnn : ∀ x ∈ l, 0 ≤ x ∧ x ≤ 9223372036854775807 := by
      intro x hx
      obtain ⟨i, hi, e⟩ := List.getElem_of_mem hx
      have := scan_none.1 hr i (by omega) (by omega)
      rw [List.getElem?_eq_getElem hi, e] at this
      have h2 := (c1 x hx).2
      by_cases hn : x < 0
      · simp [hn] at this
      · exact ⟨by omega, h2⟩
    obtain ⟨f1, f2, f3⟩ := foldE_ok (l := l) (p := (false, 0)) (by simp) (by simp) hnn
    generalize l.foldl stepE (false, 0) = p at f1 f2 f3
    obtain ⟨cap, tot⟩ := p
    simp only at f1 f2 f3
    have hml : (l ++ [m]).length = l.length + 1 := by simp
    have cm : ∀ c ∈ l ++ [m], i64 c := fun c hc => by
      rcases List.mem_append.1 hc with h | h
      · exact c1 c h
      · rw [List.mem_singleton.1 h]; exact c3
    have V1 := vec_val (n := 1) (by omega) (l := l) (by omega) (by omega) c1
    have V3 := vec_val (n := 1) (by omega) (l := l ++ [m]) (by omega) (by omega) cm
    have e1 : valC 1 (l.headD 0) l = tot := f1.symm
    have e3 : valC 1 ((l ++ [m]).headD 0) (l ++ [m]) = satP tot m := by
      show sumS (l ++ [m]) = _
      rw [f1]
      unfold sumS
      rw [List.foldl_append]; rfl
    have ht : i64 tot := by rw [f1]; exact sumS_i64 l
    simp only [List.nil_append, vector_eq, Option.bind_some, V1, V3, e1, e3, letO, sideO]
    rw [if_pos (by omega), if_pos (by simp; omega)]
    unfold i64 at ht c3
    by_cases hm : m ≤ 0
    · have es : satP tot m = tot + m := by unfold satP; rw [if_neg (by omega), if_neg (by omega)]
      rw [w64 (by omega) (by omega), es]
      cases cap with
      | true => simp [hm, f2]
      | false => simp [hm]
    · cases cap with
      | true =>
        have := f2 rfl
        have es : satP tot m = 9223372036854775807 := by unfold satP; rw [if_pos (by omega)]
        rw [es]
        simp [hm, this]
      | false =>
        by_cases ho : 9223372036854775807 < tot + m
        · have es : satP tot m = 9223372036854775807 := by unfold satP; rw [if_pos ho]
          rw [es]
          simp [hm, ht.2]
        · have es : satP tot m = tot + m := by unfold satP; rw [if_neg (by omega), if_neg (by omega)]
          rw [w64 (by omega) (by omega), es]
          have : tot ≤ tot + m := by omega
          by_cases hq : tot + m = 9223372036854775807
          · simp [hm, hq, ht.2]
          · simp [hm, hq, this]
end Go.Sx.O
