/-
  PLAIN LAWS: the lattice's check, exactly; the reference's too: names. An own text.
  PLAIN LAWS: lattice.of, .bound, exactly. An own text.
  PLAIN LAWS: the order's check, exactly, the program's and the reference's. An own text.
  PLAIN LAWS: the reference's check of a lattice, exactly. An own text.
  PLAIN LAWS: lattice.Check and the reference's Check say the same. An own text.
  PLAIN LAWS: lattice.Check, exactly. An own text.
  PLAIN LAWS: the reference's Leq; events that are the same. An own text.
  PLAIN LAWS: a lattice has a top; who sees what. An own text.
  PLAIN LAW: ViewMore returns true. An own text.
  PLAIN LAWS: view's Cut, Pairs, Channel; lists of arrays that are the same. An own text.
  PLAIN LAWS: names, exactly: runes.Class, lexer.Check of a word, prims.Find, expr.Name, on both sides. An own text.
  PLAIN LAWS: expr.Name is the reference's. An own text.
  PLAIN LAWS: arrays.Check is the reference's. An own text.
  PLAIN LAWS: arrays.Check is the reference's, cells. An own text.
  PLAIN LAWS: view.Check is the reference's. An own text.
  PLAIN LAWS: the reference's functions of views are the program's. An own text.
  PLAIN LAW: ViewCompares returns true. An own text.
  PLAIN LAW: ViewChecks returns true. An own text.
-/
import Derived.Test.YtcgehmlhafjfkaaGreatDoorP1
namespace Go.Sx.O
open Go
def namesF (ns : List (List UInt8)) (i : Nat) : Option (Int × Int) :=
  if wname (ns.getD i []) = true then (if ns.getD i [] ∈ ns.take i then some ((i : Int), 8) else none) else some ((i : Int), 6)
def namesR (ns : List (List UInt8)) : Int × Int := if ns.length < 1 ∨ 8 < ns.length then (-1, 3) else (scan (namesF ns) 0 ns.length).getD (0, 0)
theorem getD_lt {α : Type} {l : List α} {i : Nat} {d x : α} (h : l[i]? = some x) : l.getD i d = x := by rw [List.getD_eq_getElem?_getD, h]; rfl
theorem named_eq (ns : List (List UInt8)) (h : ns.length ≤ 20) (hn : ∀ s ∈ ns, s.length ≤ 50) : F_lattice_named ns = some (namesR ns) := by
  unfold F_lattice_named namesR
  simp only [List.length_map]
  by_cases h1 : ns.length < 1
  · have : (ns.length : Int) < 1 := by omega
    simp [h1, this]
  by_cases h2 : 8 < ns.length
  · have : (8 : Int) < ns.length := by omega
    have g1 : ¬ (ns.length : Int) < 1 := by omega
    simp [h2, this, g1]
  have g1 : ¬ (ns.length : Int) < 1 := by omega
  have g2 : ¬ (8 : Int) < ns.length := by omega
  simp only [g1, g2, h1, h2, decide_false, cond_false, or_self, if_false]
  rw [lp_scanE ns.length (namesF ns) () (fun k hk => ?_) (by simp)]
  · cases scan (namesF ns) 0 ns.length <;> rfl
  · obtain ⟨x, hx⟩ := get_lt (l := ns) (i := k) hk
    have hxl := hn x (List.mem_of_getElem? hx)
    simp only [Int.ofNat_lt, hk, decide_true, cond_true, idxO, Int.toNat_natCast, hx, Option.bind_some, letO, Int.natCast_nonneg, if_true]
    rw [Name_spec x (by omega), Contains_strings_spec _ _ (by simp; omega)]
    unfold namesF
    rw [getD_lt hx, w64 (by omega) (by omega)]
    cases e : wname x with
    | false => simp
    | true =>
      have hk' : k ≤ ns.length := by omega
      simp only [Option.bind_some, Bool.not_true, cond_false, Int.toNat_zero, List.drop_zero, if_true]
      by_cases hm : x ∈ ns.take k
      · simp [hm, sideO, hk']
      · simp [hm, sideO, hk']
theorem lower_spec (c : UInt8) : F_invigilatorref01_lower (c.toNat : Int) = some (decide (97 ≤ c.toNat) && decide (c.toNat ≤ 122)) := by
  unfold F_invigilatorref01_lower
  by_cases h : (97 : Int) ≤ c.toNat
  · have : 97 ≤ c.toNat := by omega
    simp only [h, this, decide_true, cond_true, Bool.true_and]
    congr 1
    rw [Bool.eq_iff_iff]; simp; omega
  · have : ¬ 97 ≤ c.toNat := by omega
    simp only [h, this, decide_false, cond_false, Bool.false_and]
theorem digit_spec (c : UInt8) : F_invigilatorref01_digit (c.toNat : Int) = some (decide (48 ≤ c.toNat) && decide (c.toNat ≤ 57)) := by
  unfold F_invigilatorref01_digit
  by_cases h : (48 : Int) ≤ c.toNat
  · have : 48 ≤ c.toNat := by omega
    simp only [h, this, decide_true, cond_true, Bool.true_and]
    congr 1
    rw [Bool.eq_iff_iff]; simp; omega
  · have : ¬ 48 ≤ c.toNat := by omega
    simp only [h, this, decide_false, cond_false, Bool.false_and]
theorem word_byte (c : UInt8) : decide (c ∈ wordSet) = (decide (97 ≤ c.toNat) && decide (c.toNat ≤ 122) || (decide (48 ≤ c.toNat) && decide (c.toNat ≤ 57)) || decide (c.toNat = 45)) := by
  have key : ∀ n : Fin 256, decide (UInt8.ofNat n ∈ wordSet) = (decide (97 ≤ n.val) && decide (n.val ≤ 122) || (decide (48 ≤ n.val) && decide (n.val ≤ 57)) || decide (n.val = 45)) := by decide +kernel
  have := key ⟨c.toNat, c.toNat_lt⟩
  simpa using this
theorem ref_Name_spec (s : List UInt8) (h : s.length ≤ 1000000000) : F_invigilatorref01_Name s = some (wname s) := by
  unfold F_invigilatorref01_Name
  cases s with
  | nil => rfl
  | cons a r =>
    have g1 : ¬ ((a :: r).length : Int) < 1 := by simp; omega
    simp only [g1, decide_false, cond_false]
    unfold wname
    by_cases h1 : (16 : Int) < ((a :: r).length : Int)
    · have : ¬ (a :: r).length ≤ 16 := by omega
      simp only [h1, decide_true, cond_true, this, decide_false, Bool.false_and]
    have h1' : (a :: r).length ≤ 16 := by omega
    have e5 : idxO (a :: r) 0 = fun f => (f a : Option Bool) := rfl
    simp only [h1, decide_false, cond_false, h1', decide_true, Bool.true_and, e5, lower_spec, Option.bind_some]
    cases e : (decide (97 ≤ a.toNat) && decide (a.toNat ≤ 122)) with
    | false => rfl
    | true =>
      simp only [Bool.not_true, cond_false, Bool.true_and]
      generalize a :: r = s at *
      rw [lp_scanE s.length (fun k => if decide (s.getD k 0 ∈ wordSet) = true then none else some false) () (fun k hk => ?_) (by simp)]
      · cases hs : scan (fun k => if decide (s.getD k 0 ∈ wordSet) = true then none else some false) 0 s.length with
        | none =>
          have := scan_none.1 hs
          simp only
          congr 1
          symm
          rw [List.all_eq_true]
          intro c hc
          obtain ⟨i, hi, rfl⟩ := List.getElem_of_mem hc
          have := this i (by omega) (by omega)
          rw [getD_lt (List.getElem?_eq_getElem hi)] at this
          split at this
          · assumption
          · cases this
        | some b =>
          simp only
          congr 1
          have hall : ¬ s.all (fun c => decide (c ∈ wordSet)) = true := by
            intro hall
            rw [List.all_eq_true] at hall
            have : scan (fun k => if decide (s.getD k 0 ∈ wordSet) = true then none else some false) 0 s.length = none := scan_none.2 fun i _ hi => by
              have hi' : i < s.length := by omega
              rw [getD_lt (List.getElem?_eq_getElem hi'), if_pos (hall _ (List.getElem_mem hi'))]
            rw [this] at hs; cases hs
          have hb : b = false := by
            have key : ∀ {j k : Nat}, scan (fun k => if decide (s.getD k 0 ∈ wordSet) = true then none else some false) k j = some b → b = false := by
              intro j
              induction j with
              | zero => intro k h; cases h
              | succ j ih =>
                intro k h
                simp only [scan] at h
                split at h
                · rename_i r hr
                  cases h
                  split at hr
                  · cases hr
                  · cases hr; rfl
                · exact ih h
            exact key hs
          rw [hb]
          cases e : s.all (fun c => decide (c ∈ wordSet)) with
          | false => rfl
          | true => exact absurd e hall
      · obtain ⟨x, hx⟩ := get_lt (l := s) (i := k) hk
        simp only [Int.ofNat_lt, hk, decide_true, cond_true, idxO, Int.toNat_natCast, hx, Option.bind_some, letO, Int.natCast_nonneg, if_true, lower_spec, digit_spec]
        rw [getD_lt hx, w64 (by omega) (by omega), word_byte]
        cases (decide (97 ≤ x.toNat) && decide (x.toNat ≤ 122)) with
        | true => simp
        | false =>
          cases (decide (48 ≤ x.toNat) && decide (x.toNat ≤ 57)) with
          | true => simp
          | false =>
            by_cases h45 : x.toNat = 45
            · simp [h45]
            · have : ¬ (x.toNat : Int) = 45 := by omega
              simp [h45, this]
theorem ref_names_eq (ns : List (List UInt8)) (h : ns.length ≤ 20) (hn : ∀ s ∈ ns, s.length ≤ 50) : F_invigilatorref03_names ns = some (namesR ns) := by
  unfold F_invigilatorref03_names namesR
  simp only [List.length_map]
  by_cases h1 : ns.length < 1
  · have : (ns.length : Int) < 1 := by omega
    simp [h1, this]
  by_cases h2 : 8 < ns.length
  · have : (8 : Int) < ns.length := by omega
    have g1 : ¬ (ns.length : Int) < 1 := by omega
    simp [h2, this, g1]
  have g1 : ¬ (ns.length : Int) < 1 := by omega
  have g2 : ¬ (8 : Int) < ns.length := by omega
  simp only [g1, g2, h1, h2, decide_false, cond_false, or_self, if_false]
  rw [lp_scanE ns.length (namesF ns) () (fun k hk => ?_) (by simp)]
  · cases scan (namesF ns) 0 ns.length <;> rfl
  · obtain ⟨x, hx⟩ := get_lt (l := ns) (i := k) hk
    have hxl := hn x (List.mem_of_getElem? hx)
    simp only [Int.ofNat_lt, hk, decide_true, cond_true, idxO, Int.toNat_natCast, hx, Option.bind_some, Int.natCast_nonneg, if_true]
    rw [ref_Name_spec x (by omega)]
    unfold namesF
    rw [getD_lt hx]
    cases e : wname x with
    | false => simp
    | true =>
      simp only [Option.bind_some, Bool.not_true, cond_false, if_true]
      rw [lp_scanE k (fun j => if ns.getD j [] = x then some (.inr (.inr ((k : Int), (8 : Int)))) else none) () (fun j hj => ?_) (by simp)]
      · by_cases hm : x ∈ ns.take k
        · obtain ⟨j, hj, rfl⟩ := List.getElem_of_mem hm
          have hj' : j < k ∧ j < ns.length := by simp at hj; omega
          cases hs : scan (fun i => if ns.getD i [] = (ns.take k)[j] then some ((.inr (.inr ((k : Int), (8 : Int)))) : Int ⊕ (Unit ⊕ (Int × Int))) else none) 0 k with
          | none =>
            have := scan_none.1 hs j (by omega) (by omega)
            rw [getD_lt (List.getElem?_eq_getElem hj'.2)] at this
            simp at this
          | some b =>
            have : b = .inr (.inr ((k : Int), (8 : Int))) := scan_val (fun i => by split <;> simp) hs
            rw [this, if_pos hm]
        · have : scan (fun j => if ns.getD j [] = x then some ((.inr (.inr ((k : Int), (8 : Int)))) : Int ⊕ (Unit ⊕ (Int × Int))) else none) 0 k = none := scan_none.2 fun i _ hi => by
            have hi' : i < ns.length := by omega
            rw [getD_lt (List.getElem?_eq_getElem hi'), if_neg]
            rintro rfl
            exact hm (List.mem_iff_getElem.2 ⟨i, by simp; omega, by simp⟩)
          rw [this]
          simp only [hm, if_false, letO]
          rw [w64 (by omega) (by omega)]
      · obtain ⟨y, hy⟩ := get_lt (l := ns) (i := j) (by omega)
        simp only [Int.ofNat_lt, hj, decide_true, cond_true, idxO, Int.toNat_natCast, hy, Option.bind_some, letO, Int.natCast_nonneg, if_true, hx]
        rw [getD_lt hy, w64 (by omega) (by omega)]
        by_cases hxy : y = x
        · simp [hxy]
        · simp [hxy]
end Go.Sx.O
namespace Go.Sx.O
open Go
def dn (l : TLattice) (b : Nat) : Nat → Nat
  | 0 => 0
  | k + 1 => dn l b k ||| (if up l k b = true then 2 ^ k else 0)
theorem dn_bit (l : TLattice) (b : Nat) : ∀ (k i : Nat), (dn l b k).testBit i = (decide (i < k) && up l i b)
  | 0, i => by simp [dn]
  | k + 1, i => by
    simp only [dn, Nat.testBit_or, dn_bit l b k i]
    by_cases h : up l k b = true
    · simp only [h, if_true, Nat.testBit_two_pow]
      by_cases hik : i = k
      · subst hik; simp [h]
      · have h1 : ¬ k = i := fun e => hik e.symm
        have h2 : (i < k + 1) = (i < k) := by simp; omega
        simp [h1, h2]
    · simp only [h, if_false, Nat.zero_testBit, Bool.or_false]
      by_cases hik : i = k
      · subst hik; simp [h]
      · have h2 : (i < k + 1) = (i < k) := by simp; omega
        simp [h2]
theorem dn_lt (l : TLattice) (b : Nat) : ∀ k : Nat, dn l b k < 2 ^ k
  | 0 => by simp [dn]
  | k + 1 => by
    simp only [dn]
    refine Nat.or_lt_two_pow (Nat.lt_of_lt_of_le (dn_lt l b k) (Nat.pow_le_pow_right (by omega) (by omega))) ?_
    split
    · exact Nat.pow_lt_pow_right (by omega) (by omega)
    · exact Nat.two_pow_pos _
theorem dn_256 (l : TLattice) (b : Nat) {k : Nat} (h : k ≤ 8) : dn l b k < 256 := Nat.lt_of_lt_of_le (dn_lt l b k) (Nat.pow_le_pow_right (n := 2) (by omega) h)
theorem shl_bit {c : Bool} {k : Nat} (h : k < 8) : IntKind.wrap .u8 ((if c = true then (1 : Int) else 0) * 2 ^ min k (IntKind.bits .u8)) = ((if c = true then 2 ^ k else 0 : Nat) : Int) := by
  have key : ∀ (c : Bool) (k : Fin 8), IntKind.wrap .u8 ((if c = true then (1 : Int) else 0) * 2 ^ min k.val (IntKind.bits .u8)) = ((if c = true then 2 ^ k.val else 0 : Nat) : Int) := by decide +kernel
  exact key c ⟨k, h⟩
theorem or_nat {a b : Nat} (ha : a < 256) (hb : b < 256) : bits .or .u8 (a : Int) (b : Int) = ((a ||| b : Nat) : Int) := by
  rw [bits_or (by omega) (by omega) (by omega) (by omega)]; rfl
theorem and_nat {a b : Nat} (ha : a < 256) (hb : b < 256) : bits .and .u8 (a : Int) (b : Int) = ((a &&& b : Nat) : Int) := by
  rw [bits_and (by omega) (by omega) (by omega) (by omega)]; rfl
theorem sh_lt {c : Bool} {k : Nat} (h : k < 8) : (if c = true then 2 ^ k else 0) < 256 := by
  split
  · exact Nat.lt_of_lt_of_le (Nat.pow_lt_pow_right (a := 2) (by omega) h) (by omega)
  · omega
theorem get_set {α : Type} {l : List α} {i j : Nat} {x : α} (h : i < l.length) : (l.set i x)[j]? = if i = j then some x else l[j]? := by
  rw [List.getElem?_set]
  split
  · simp [h]
  · rfl
theorem of_exact (l : TLattice) (hu : U8s l.Up) (hn : l.Names.length ≤ 8) (hl : l.Up.length = l.Names.length) :
    Tot (F_lattice_of l) fun o => o.n_ = l.Names.length ∧ o.up_.length = 8 ∧ o.down_.length = 8 ∧ (∀ j, j < l.Names.length → o.up_[j]? = l.Up[j]?) ∧ ∀ b, b < l.Names.length → o.down_[b]? = some (dn l b l.Names.length : Int) := by
  unfold F_lattice_of
  simp only [tot_bind, List.length_map]
  refine Tot.count l.Up.length (fun k s => s.1 = (k : Int) ∧ s.2.1.length = 8 ∧ s.2.2.length = 8 ∧ (∀ j, j < k → s.2.1[j]? = l.Up[j]?) ∧ ∀ b, b < l.Names.length → s.2.2[b]? = some (dn l b k : Int)) ?_ ⟨rfl, rfl, rfl, fun j hj => absurd hj (by omega), fun b hb => ?_⟩
  · rintro k ⟨i, up', down⟩ hk ⟨h0, h1, h2, h3, h4⟩
    simp only at h0 h1 h2 h3 h4
    subst h0
    simp only [tot_some, tot_cond, tot_let, tot_idx, tot_side, tot_bind, Sum.elim_inl, Sum.elim_inr, decide_eq_true_eq, decide_eq_false_iff_not, Int.toNat_natCast]
    refine ⟨fun hlt => ?_, fun hlt => ?_⟩
    · obtain ⟨x, hx⟩ := get_lt (l := l.Up) (i := k) (by omega)
      obtain ⟨y, hy⟩ := get_lt (l := up') (i := k) (by omega)
      refine ⟨by omega, x, hx, ⟨by omega, by omega⟩, by omega, y, hy, ?_⟩
      have hx' := hu.get hx
      refine Tot.count l.Names.length (fun j s => s.1 = (j : Int) ∧ s.2.length = 8 ∧ ∀ b, b < l.Names.length → s.2[b]? = some (dn l b (if b < j then k + 1 else k) : Int)) ?_ ⟨rfl, h2, fun b hb => by simpa using h4 b hb⟩
      rintro j ⟨i', d⟩ hj ⟨g0, g1, g2⟩
      simp only at g0 g1 g2
      subst g0
      simp only [tot_some, tot_cond, tot_let, tot_idx, tot_side, tot_bind, Sum.elim_inl, Sum.elim_inr, decide_eq_true_eq, decide_eq_false_iff_not, Int.toNat_natCast]
      refine ⟨fun hlt' => ?_, fun hlt' => ?_⟩
      · have hz := g2 j (by omega)
        rw [if_neg (by omega)] at hz
        rw [w64 (by omega) (by omega)]
        refine ⟨⟨by omega, by omega⟩, by omega, _, hz, by omega, by omega, ⟨by omega, by omega⟩, by omega, _, hz, by omega, by omega, by simpa using g1, fun b hb => ?_⟩
        rw [get_set (by omega)]
        by_cases hjb : j = b
        · subst hjb
          rw [if_pos rfl, if_pos (by omega), bitAt hx'.1 hx'.2 (by omega), ← up_of hx, shl_bit (by omega), or_nat (dn_256 l j (by omega)) (sh_lt (by omega))]
          rfl
        · rw [if_neg hjb, g2 b hb]
          have : (b < j + 1) = (b < j) := by simp; omega
          simp only [this]
      · rw [w64 (by omega) (by omega)]
        refine ⟨by omega, by omega, by simpa using h1, g1, fun q hq => ?_, fun b hb => ?_⟩
        · rw [get_set (by omega)]
          by_cases hkq : k = q
          · subst hkq; rw [if_pos rfl, hx]
          · rw [if_neg hkq]; exact h3 q (by omega)
        · rw [g2 b hb, if_pos (by omega)]
    · have hkn : k = l.Names.length := by omega
      subst hkn
      exact ⟨trivial, h1, h2, h3, h4⟩
  · have h8 : ∀ b : Fin 8, ([0, 0, 0, 0, 0, 0, 0, 0] : List Int)[b.val]? = some 0 := by decide
    exact h8 ⟨b, by omega⟩
theorem sideO_pos {ρ : Type} {p : Prop} [Decidable p] {x : Option ρ} (h : p) : sideO p x = x := by unfold sideO; rw [if_pos h]
def bnd (g : Nat → Nat) (n a b : Nat) : Option Nat := scan (fun c => if g c = g a &&& g b then some c else none) 0 n
def bndI (g : Nat → Nat) (n a b : Nat) : Int := match bnd g n a b with | some c => c | none => -1
theorem bound_exact (m : List Int) (g : Nat → Nat) (n a b : Nat) (hn : n ≤ 8) (hg : ∀ c, c < n → m[c]? = some (g c : Int)) (hg8 : ∀ c, c < n → g c < 256) (hs : ∀ c, c < n → (g c).testBit c = true) (ha : a < n) (hb : b < n) :
    F_lattice_bound_lattice_ups_ m n a b = some (bndI g n a b) := by
  unfold F_lattice_bound_lattice_ups_ bndI bnd
  have s1 : ((0 : Int) ≤ (a : Int) ∧ (a : Int) < ((8 : Nat) : Int)) := by omega
  have s2 : ((0 : Int) ≤ (b : Int) ∧ (b : Int) < ((8 : Nat) : Int)) := by omega
  simp only [sideO_pos s1, sideO_pos s2]
  simp only [idxO, Int.toNat_natCast, Int.natCast_nonneg, if_true, hg a ha, hg b hb, Option.bind_some, and_nat (hg8 a ha) (hg8 b hb)]
  have h8 : g a &&& g b < 256 := and_lt (hg8 a ha)
  generalize g a &&& g b = both at *
  rw [lp_scanE n (fun c => if g c = both then some (c : Int) else none) () (fun c hc => ?_) (by simp)]
  · have e : (fun c => if g c = both then some (c : Int) else none) = fun c => (if g c = both then some c else none).map (fun c : Nat => (c : Int)) := by
      funext c; split <;> rfl
    rw [e, scan_map]
    cases scan (fun c => if g c = both then some c else none) 0 n <;> rfl
  · have s3 : ((0 : Int) ≤ (c : Int) ∧ (c : Int) < ((8 : Nat) : Int)) := by omega
    simp only [sideO_pos s3]
    simp only [Int.ofNat_lt, hc, decide_true, cond_true, sideO, Int.natCast_nonneg, if_true, hg c hc, Option.bind_some, letO]
    rw [w64 (by omega) (by omega), bitAt (by omega) (by omega) (by omega)]
    simp only [Int.toNat_natCast]
    by_cases hbc : both.testBit c = true
    · simp only [hbc, if_true, decide_true, cond_true]
      rw [hg c hc]
      by_cases hgc : g c = both
      · simp [hgc]
      · have : ¬ (g c : Int) = (both : Int) := by omega
        simp [hgc, this]
    · have : g c ≠ both := fun e => hbc (e ▸ hs c hc)
      simp [hbc, this]
theorem nearest_exact (m : List Int) (g : Nat → Nat) (a b : Nat) (hn : m.length ≤ 8) (hg : ∀ c, c < m.length → m[c]? = some (g c : Int)) (hg8 : ∀ c, c < m.length → g c < 256) (ha : a < m.length) (hb : b < m.length) :
    F_invigilatorref03_nearest m a b = some (bndI g m.length a b) := by
  unfold F_invigilatorref03_nearest bndI bnd
  simp only [idxO, Int.toNat_natCast, Int.natCast_nonneg, if_true, hg a ha, hg b hb, Option.bind_some, and_nat (hg8 a ha) (hg8 b hb), List.length_map]
  have h8 : g a &&& g b < 256 := and_lt (hg8 a ha)
  generalize g a &&& g b = both at *
  rw [lp_scanE m.length (fun c => if g c = both then some (c : Int) else none) () (fun c hc => ?_) (by simp)]
  · have e : (fun c => if g c = both then some (c : Int) else none) = fun c => (if g c = both then some c else none).map (fun c : Nat => (c : Int)) := by
      funext c; split <;> rfl
    rw [e, scan_map]
    cases scan (fun c => if g c = both then some c else none) 0 m.length <;> rfl
  · simp only [Int.ofNat_lt, hc, decide_true, cond_true, hg c hc, Option.bind_some, letO]
    rw [w64 (by omega) (by omega), Int.toNat_natCast, if_pos (by omega), hg c hc]
    by_cases hgc : g c = both
    · simp [hgc]
    · have : ¬ (g c : Int) = (both : Int) := by omega
      simp [hgc, this]
end Go.Sx.O
namespace Go.Sx.O
open Go
def upN (l : TLattice) (a : Nat) : Nat := (l.Up.getD a 0).toNat
def ordB (l : TLattice) (a b : Nat) : Bool := !up l a b || ((decide (b = a) || !up l b a) && (List.range l.Names.length).all fun i => !up l b i || up l a i)
def ordA (l : TLattice) (a : Nat) : Bool := decide (upN l a < 2 ^ l.Names.length) && up l a a && (List.range l.Names.length).all fun b => ordB l a b
def dnN (l : TLattice) (b : Nat) : Nat := dn l b l.Names.length
def lacks (l : TLattice) (a b : Nat) : Bool := (bnd (upN l) l.Names.length a b).isNone || (bnd (dnN l) l.Names.length a b).isNone
def latC (l : TLattice) : Int × Int :=
  if (namesR l.Names).2 = 0 then
    if l.Up.length = l.Names.length then
      match scan (fun a => if ordA l a = true then none else some ((a : Int), (6 : Int))) 0 l.Names.length with
      | some r => r
      | none => (scan (fun a => scan (fun b => if lacks l a b = true then some ((a : Int), (4 : Int)) else none) 0 l.Names.length) 0 l.Names.length).getD (0, 0)
    else (-1, 6)
  else namesR l.Names
theorem scan_pv {α : Type} {p : Nat → Bool} {v : α} : ∀ {j k : Nat}, scan (fun i => if p i = true then none else some v) k j = if (List.range j).all (fun i => p (k + i)) = true then none else some v
  | 0, _ => by simp [scan]
  | j + 1, k => by
    simp only [scan, scan_pv (j := j) (k := k + 1)]
    have e : (List.range (j + 1)).all (fun i => p (k + i)) = (p k && (List.range j).all fun i => p (k + 1 + i)) := by
      rw [List.range_succ_eq_map, List.all_cons, List.all_map]
      congr 1
      congr 1
      funext i
      simp only [Function.comp]
      congr 1; omega
    rw [e]
    cases p k <;> simp
theorem scan_last {α : Type} {p : Nat → Bool} {u v : α} {n : Nat} : ∀ {j k : Nat}, k + j = n → 0 < j → scan (fun i => if p i = true then (if i + 1 = n then some u else none) else some v) k j = some (if (List.range j).all (fun i => p (k + i)) = true then u else v)
  | 0, _, _, h => by omega
  | j + 1, k, hk, _ => by
    have e : (List.range (j + 1)).all (fun i => p (k + i)) = (p k && (List.range j).all fun i => p (k + 1 + i)) := by
      rw [List.range_succ_eq_map, List.all_cons, List.all_map]
      congr 1
      congr 1
      funext i
      simp only [Function.comp]
      congr 1; omega
    rw [e]
    simp only [scan]
    cases hp : p k with
    | false => simp
    | true =>
      simp only [if_true, Bool.true_and]
      by_cases hj : j = 0
      · subst hj
        have : k + 1 = n := by omega
        simp [this]
      · have : ¬ k + 1 = n := by omega
        simp only [this, if_false]
        exact scan_last (by omega) (by omega)
theorem Len8_exact (x : Int) (h0 : 0 ≤ x) (h1 : x < 256) : Tot (F_math_bits_Len8 x) fun y => ∀ n : Nat, n ≤ 8 → decide ((n : Int) < y) = !decide (x.toNat < 2 ^ n) := by
  unfold F_math_bits_Len8
  rw [tot_idx]
  refine ⟨h0, ?_⟩
  have key : ∀ l : List UInt8, (∀ x : Fin 256, ∀ n : Fin 9, (l[x.val]?.map fun y => decide ((n.val : Int) < IntKind.wrap .i64 (y.toNat : Int))) = some (!decide (x.val < 2 ^ n.val))) →
      ∃ y, l[x.toNat]? = some y ∧ Tot (letO (IntKind.wrap .i64 (y.toNat : Int)) fun z => some z) fun y => ∀ n : Nat, n ≤ 8 → decide ((n : Int) < y) = !decide (x.toNat < 2 ^ n) := by
    intro l hl
    cases e : l[x.toNat]? with
    | none =>
      have := hl ⟨x.toNat, by omega⟩ ⟨0, by omega⟩
      simp only [e] at this
      cases this
    | some y =>
      refine ⟨y, rfl, .mk fun n hn => ?_⟩
      have := hl ⟨x.toNat, by omega⟩ ⟨n, by omega⟩
      simp only [e] at this
      exact Option.some.inj this
  exact key _ (by decide +kernel)
theorem Below_spec {l : TLattice} (hu : U8s l.Up) {a b : Nat} (ha : a < l.Up.length) (hb : b ≤ 8) : F_invigilatorref03_Below l a b = some (up l a b) := by
  unfold F_invigilatorref03_Below
  obtain ⟨x, hx⟩ := get_lt ha
  have hx' := hu.get hx
  have key : ∀ u : Fin 256, ∀ b : Fin 9, decide (Int.tmod (Int.fdiv (u.val : Int) (2 ^ min b.val (IntKind.bits .u8))) 2 = 1) = Nat.testBit u b := by decide +kernel
  have := key ⟨x.toNat, by omega⟩ ⟨b, by omega⟩
  simp only [Int.toNat_of_nonneg hx'.1] at this
  simp only [List.length_map, Int.natCast_nonneg, decide_true, cond_true, Int.ofNat_lt, ha, idxO, Int.toNat_natCast, if_true, hx, Option.bind_some, sideO, this, up_of hx]
theorem wrap_i64n {n : Nat} (h : n < 1000000) : IntKind.wrap .i64 (n : Int) = n := w64 (by omega) (by omega)
theorem ofInt_n (n : Nat) : BitVec.ofInt 64 (n : Int) = BitVec.ofNat 64 n := BitVec.ofInt_natCast 64 n
theorem and_i64 {a b : Nat} (ha : a < 1000000) (hb : b < 1000000) : bits .and .i64 (a : Int) (b : Int) = ((a &&& b : Nat) : Int) := by
  have e : bits .and .i64 (a : Int) (b : Int) = IntKind.wrap .i64 ((BitVec.ofInt 64 (a : Int) &&& BitVec.ofInt 64 (b : Int)).toNat : Int) := rfl
  rw [e, ofInt_n, ofInt_n, BitVec.toNat_and, BitVec.toNat_ofNat, BitVec.toNat_ofNat, Nat.mod_eq_of_lt (by omega), Nat.mod_eq_of_lt (by omega)]
  exact wrap_i64n (Nat.lt_of_le_of_lt Nat.and_le_left ha)
theorem sub_bits {x y n : Nat} : ((y &&& (2 ^ n - 1)) &&& x = y &&& (2 ^ n - 1)) ↔ ((List.range n).all fun i => !y.testBit i || x.testBit i) = true := by
  rw [List.all_eq_true]
  constructor
  · intro h i hi
    have hi' : i < n := by simpa using hi
    have := congrArg (fun z => z.testBit i) h
    simp only [Nat.testBit_and, Nat.testBit_two_pow_sub_one, hi', decide_true, Bool.and_true] at this
    cases e : y.testBit i with
    | false => rfl
    | true => rw [e] at this; simpa using this
  · intro h
    apply Nat.eq_of_testBit_eq
    intro i
    simp only [Nat.testBit_and, Nat.testBit_two_pow_sub_one]
    by_cases hi : i < n
    · have := h i (by simpa using hi)
      simp only [hi, decide_true, Bool.and_true]
      cases e : y.testBit i with
      | false => rfl
      | true => rw [e] at this; simpa using this
    · simp [hi]
end Go.Sx.O
namespace Go.Sx.O
open Go
theorem upN_of {l : TLattice} {a : Nat} {x : Int} (h : l.Up[a]? = some x) : upN l a = x.toNat := by unfold upN; rw [getD_lt h]
theorem upN_bit {l : TLattice} {a b : Nat} : (upN l a).testBit b = up l a b := rfl
theorem upN_lt {l : TLattice} (hu : U8s l.Up) {a : Nat} (ha : a < l.Up.length) : upN l a < 256 := by
  obtain ⟨x, hx⟩ := get_lt ha
  have := hu.get hx
  rw [upN_of hx]; omega
theorem upN_get {l : TLattice} (hu : U8s l.Up) {a : Nat} (ha : a < l.Up.length) : l.Up[a]? = some (upN l a : Int) := by
  obtain ⟨x, hx⟩ := get_lt ha
  have := hu.get hx
  rw [hx, upN_of hx, Int.toNat_of_nonneg this.1]
theorem ordered_spec {l : TLattice} (hu : U8s l.Up) (h8 : l.Names.length ≤ 8) (hl : l.Up.length = l.Names.length) {a : Nat} (ha : a < l.Names.length) : F_invigilatorref03_ordered l a = some (ordA l a) := by
  unfold F_invigilatorref03_ordered ordA
  have g0 : ((0 : Int) ≤ (l.Names.length : Int)) := by omega
  have hb := fun b (hb : b < l.Names.length) => Below_spec hu (a := a) (b := b) (by omega) (by omega)
  have hxa := upN_get hu (a := a) (by omega)
  have hlt := upN_lt hu (a := a) (by omega)
  have sh : decide ((0 : Int) < Int.fdiv (upN l a : Int) (2 ^ min l.Names.length (IntKind.bits .i64))) = !decide (upN l a < 2 ^ l.Names.length) := by
    have key : ∀ u : Fin 256, ∀ n : Fin 9, decide ((0 : Int) < Int.fdiv (u.val : Int) (2 ^ min n.val (IntKind.bits .i64))) = !decide (u.val < 2 ^ n.val) := by decide +kernel
    exact key ⟨upN l a, hlt⟩ ⟨l.Names.length, by omega⟩
  have mk : IntKind.wrap .i64 (IntKind.wrap .i64 (1 * 2 ^ min l.Names.length (IntKind.bits .i64)) - 1) = ((2 ^ l.Names.length - 1 : Nat) : Int) := by
    have key : ∀ n : Fin 9, IntKind.wrap .i64 (IntKind.wrap .i64 (1 * 2 ^ min n.val (IntKind.bits .i64)) - 1) = ((2 ^ n.val - 1 : Nat) : Int) := by decide +kernel
    exact key ⟨l.Names.length, by omega⟩
  have mk' : 2 ^ l.Names.length - 1 < 1000000 := by
    have : 2 ^ l.Names.length ≤ 2 ^ 8 := Nat.pow_le_pow_right (by omega) h8
    omega
  simp only [List.length_map, sideO_pos g0, Int.toNat_natCast]
  simp only [idxO, Int.toNat_natCast, Int.natCast_nonneg, if_true, hxa, Option.bind_some, letO]
  rw [wrap_i64n (by omega), sh, hb a ha, mk]
  cases e1 : decide (upN l a < 2 ^ l.Names.length) with
  | false => simp
  | true =>
    simp only [Bool.not_true, cond_false, Bool.true_and, Option.bind_some]
    cases e2 : up l a a with
    | false => simp
    | true =>
      simp only [Bool.not_true, cond_false, Bool.true_and]
      rw [lp_scanE l.Names.length (fun b => if ordB l a b = true then none else some false) () (fun b hbn => ?_) (by simp)]
      · rw [scan_pv]
        simp only [Nat.zero_add]
        cases (List.range l.Names.length).all fun b => ordB l a b <;> rfl
      · have hxb := upN_get hu (a := b) (by omega)
        have hltb := upN_lt hu (a := b) (by omega)
        simp only [Int.ofNat_lt, hbn, decide_true, cond_true, Option.bind_some, Int.toNat_natCast, hxb]
        rw [hb b hbn, wrap_i64n (n := upN l b) (by omega), and_i64 (by omega) mk', w64 (by omega) (by omega), Below_spec hu (by omega) (by omega)]
        have hand : upN l b &&& (2 ^ l.Names.length - 1) < 1000000 := Nat.lt_of_le_of_lt Nat.and_le_left (by omega)
        rw [and_i64 hand (by omega)]
        have hsub := sub_bits (x := upN l a) (y := upN l b) (n := l.Names.length)
        simp only [upN_bit] at hsub
        have hsub' : decide ((((upN l b &&& (2 ^ l.Names.length - 1)) &&& upN l a : Nat) : Int) = ((upN l b &&& (2 ^ l.Names.length - 1) : Nat) : Int)) = (List.range l.Names.length).all fun i => !up l b i || up l a i := by
          rw [Bool.eq_iff_iff, ← hsub, decide_eq_true_eq]; omega
        rw [hsub']
        unfold ordB
        cases e3 : up l a b with
        | false => simp
        | true =>
          simp only [Option.bind_some, Bool.not_true, cond_false, Bool.false_or]
          by_cases hba : b = a
          · subst hba
            simp only [decide_true, Bool.not_true, cond_false, Bool.true_or, Bool.true_and]
            cases (List.range l.Names.length).all fun i => !up l b i || up l b i <;> simp
          · have : ¬ (b : Int) = (a : Int) := by omega
            simp only [this, hba, decide_false, Bool.not_false, cond_true, Bool.false_or]
            cases up l b a with
            | true => simp
            | false =>
              cases (List.range l.Names.length).all fun i => !up l b i || up l a i <;> simp
theorem downs_spec {l : TLattice} (hu : U8s l.Up) (h8 : l.Names.length ≤ 8) (hl : l.Up.length = l.Names.length) : Tot (F_invigilatorref03_downs l) fun d => d.length = l.Names.length ∧ ∀ b, b < l.Names.length → d[b]? = some (dnN l b : Int) := by
  unfold F_invigilatorref03_downs
  simp only [tot_bind, tot_side, List.length_map, Int.toNat_natCast]
  refine ⟨⟨by omega, trivial, by omega, by omega⟩, ?_⟩
  refine Tot.count l.Names.length (fun k s => s.1 = (k : Int) ∧ s.2.length = l.Names.length ∧ ∀ b, b < l.Names.length → s.2[b]? = some (dn l b k : Int)) ?_ ⟨rfl, by simp, fun b hb => ?_⟩
  · rintro k ⟨i, down⟩ hk ⟨h0, h2, h4⟩
    simp only at h0 h2 h4
    subst h0
    simp only [tot_some, tot_cond, tot_let, tot_idx, tot_side, tot_bind, Sum.elim_inl, Sum.elim_inr, decide_eq_true_eq, decide_eq_false_iff_not, Int.toNat_natCast]
    refine ⟨fun hlt => ?_, fun hlt => ?_⟩
    · refine Tot.count l.Names.length (fun j s => s.1 = (j : Int) ∧ s.2.length = l.Names.length ∧ ∀ b, b < l.Names.length → s.2[b]? = some (dn l b (if b < j then k + 1 else k) : Int)) ?_ ⟨rfl, h2, fun b hb => by simpa using h4 b hb⟩
      rintro j ⟨i', d⟩ hj ⟨g0, g1, g2⟩
      simp only at g0 g1 g2
      subst g0
      simp only [tot_some, tot_cond, tot_let, tot_idx, tot_side, tot_bind, Sum.elim_inl, Sum.elim_inr, decide_eq_true_eq, decide_eq_false_iff_not, Int.toNat_natCast]
      refine ⟨fun hlt' => ?_, fun hlt' => ?_⟩
      · rw [Below_spec hu (by omega) (by omega), tot_some]
        have hz := g2 j (by omega)
        rw [if_neg (by omega)] at hz
        rw [w64 (by omega) (by omega)]
        refine ⟨fun hup => ⟨⟨by omega, by simp; omega⟩, by omega, _, hz, by omega, ⟨by omega, by simp; omega⟩, by omega, _, hz, by omega, by omega, by simpa using g1, fun b hb => ?_⟩, fun hup => ⟨by omega, by omega, g1, fun b hb => ?_⟩⟩
        · have hsh := shl_bit (c := true) (k := k) (by omega)
          simp only [if_true] at hsh
          rw [get_set (by omega), hsh]
          by_cases hjb : j = b
          · subst hjb
            have hp : 2 ^ k < 256 := Nat.lt_of_lt_of_le (Nat.pow_lt_pow_right (a := 2) (by omega) (show k < 8 by omega)) (by omega)
            rw [if_pos rfl, if_pos (by omega), or_nat (dn_256 l j (by omega)) hp]
            simp [dn, hup]
          · rw [if_neg hjb, g2 b hb]
            have : (b < j + 1) = (b < j) := by simp; omega
            simp only [this]
        · rw [g2 b hb]
          by_cases hjb : j = b
          · subst hjb
            rw [if_neg (by omega), if_pos (by omega)]
            simp [dn, hup]
          · have : (b < j + 1) = (b < j) := by simp; omega
            simp only [this]
      · rw [w64 (by omega) (by omega)]
        refine ⟨by omega, by omega, g1, fun b hb => ?_⟩
        rw [g2 b hb, if_pos (by omega)]
    · have hkn : k = l.Names.length := by omega
      subst hkn
      exact ⟨h2, h4⟩
  · rw [List.getElem?_replicate, if_pos hb]; rfl
end Go.Sx.O
namespace Go.Sx.O
open Go
theorem bnd_sign (g : Nat → Nat) (n a b : Nat) : decide (bndI g n a b < 0) = (bnd g n a b).isNone := by
  unfold bndI
  cases bnd g n a b with
  | none => rfl
  | some c => simp
theorem dnN_lt {l : TLattice} (h8 : l.Names.length ≤ 8) (b : Nat) : dnN l b < 256 := dn_256 l b h8
theorem ref_Check_eq (l : TLattice) (hu : U8s l.Up) (hn : l.Names.length ≤ 20) (hs : ∀ s ∈ l.Names, s.length ≤ 50) : F_invigilatorref03_Check l = some (latC l) := by
  unfold F_invigilatorref03_Check latC
  rw [ref_names_eq _ hn hs]
  simp only [Option.bind_some, List.length_map]
  by_cases h0 : (namesR l.Names).2 = 0
  case neg => simp [h0]
  simp only [h0, decide_true, Bool.not_true, cond_false, if_true]
  by_cases hlen : l.Up.length = l.Names.length
  case neg =>
    have : ¬ (l.Up.length : Int) = l.Names.length := by omega
    simp [hlen, this]
  have h8 : l.Names.length ≤ 8 := by
    unfold namesR at h0
    split at h0
    · cases h0
    · omega
  simp only [hlen, decide_true, Bool.not_true, cond_false, if_true]
  rw [lp_scanE l.Names.length (fun a => if ordA l a = true then none else some ((a : Int), (6 : Int))) () (fun a ha => ?_) (by simp)]
  · cases h1 : scan (fun a => if ordA l a = true then none else some ((a : Int), (6 : Int))) 0 l.Names.length with
    | some r => rfl
    | none =>
      simp only
      obtain ⟨d, ed, hdl, hd⟩ := downs_spec hu h8 hlen
      rw [ed, Option.bind_some]
      rw [lp_scanE l.Names.length (fun a => scan (fun b => if lacks l a b = true then some ((a : Int), (4 : Int)) else none) 0 l.Names.length) () (fun a ha => ?_) (by simp)]
      · cases scan (fun a => scan (fun b => if lacks l a b = true then some ((a : Int), (4 : Int)) else none) 0 l.Names.length) 0 l.Names.length <;> rfl
      · simp only [Int.ofNat_lt, ha, decide_true, cond_true]
        rw [lp_scanE l.Names.length (fun b => if lacks l a b = true then some (.inr (.inr ((a : Int), (4 : Int)))) else none) () (fun b hb => ?_) (by simp)]
        · have e : (fun b => if lacks l a b = true then some (Sum.inr (Sum.inr ((a : Int), (4 : Int))) : Int ⊕ (Unit ⊕ (Int × Int))) else none) = fun b => (if lacks l a b = true then some ((a : Int), (4 : Int)) else none).map fun v => .inr (.inr v) := by
            funext b; split <;> rfl
          rw [e, scan_map]
          cases scan (fun b => if lacks l a b = true then some ((a : Int), (4 : Int)) else none) 0 l.Names.length with
          | some r => rfl
          | none =>
            simp only [Option.map_none, letO]
            rw [w64 (by omega) (by omega)]
        · simp only [Int.ofNat_lt, hb, decide_true, cond_true]
          have n1 := nearest_exact l.Up (upN l) a b (by omega) (fun c hc => upN_get hu hc) (fun c hc => upN_lt hu hc) (by omega) (by omega)
          have n2 := nearest_exact d (dnN l) a b (by omega) (fun c hc => hd c (by omega)) (fun c hc => dnN_lt h8 c) (by omega) (by omega)
          rw [hlen] at n1
          rw [hdl] at n2
          rw [n1, n2]
          simp only [Option.bind_some, bnd_sign, letO]
          rw [w64 (by omega) (by omega)]
          unfold lacks
          cases (bnd (upN l) l.Names.length a b).isNone with
          | true => simp
          | false => cases (bnd (dnN l) l.Names.length a b).isNone <;> simp
  · simp only [Int.ofNat_lt, ha, decide_true, cond_true]
    rw [ordered_spec hu h8 hlen ha]
    simp only [Option.bind_some, letO]
    rw [w64 (by omega) (by omega)]
    cases ordA l a <;> simp
end Go.Sx.O
namespace Go.Sx.O
open Go
theorem Check_exact (l : TLattice) (hu : U8s l.Up) (hn : l.Names.length ≤ 20) (hs : ∀ s ∈ l.Names, s.length ≤ 50) : F_lattice_Check l = some (latC l) := by
  unfold F_lattice_Check latC
  rw [named_eq _ hn hs]
  simp only [Option.bind_some, List.length_map]
  by_cases h0 : (namesR l.Names).2 = 0
  case neg => simp [h0]
  simp only [h0, decide_true, Bool.not_true, cond_false, if_true]
  by_cases hlen : l.Up.length = l.Names.length
  case neg =>
    have : ¬ (l.Up.length : Int) = l.Names.length := by omega
    simp [hlen, this]
  have h8 : 1 ≤ l.Names.length ∧ l.Names.length ≤ 8 := by
    unfold namesR at h0
    split at h0
    · cases h0
    · omega
  obtain ⟨h1, h8⟩ := h8
  have g0 : ((0 : Int) ≤ (l.Names.length : Int)) := by omega
  simp only [hlen, decide_true, Bool.not_true, cond_false, if_true, sideO_pos g0, letO, Int.toNat_natCast]
  have hmask := mask_bit l.Names.length h8
  have hm0 := mod_u8 (e := IntKind.wrap .u8 (1 * 2 ^ min l.Names.length (IntKind.bits .u8)) - 1)
  rw [lp_scanE l.Names.length (fun a => if ordA l a = true then none else some ((a : Int), (6 : Int))) () (fun a ha => ?_) (by simp)]
  · cases h1 : scan (fun a => if ordA l a = true then none else some ((a : Int), (6 : Int))) 0 l.Names.length with
    | some r => rfl
    | none =>
      simp only
      have hself : ∀ a, a < l.Names.length → up l a a = true := by
        intro a ha
        have := scan_none.1 h1 a (by omega) (by omega)
        split at this
        · rename_i h
          unfold ordA at h
          simp only [Bool.and_eq_true] at h
          exact h.1.2
        · cases this
      obtain ⟨o, eo, _, o1, o2, o3, o4⟩ := of_exact l hu h8 hlen
      rw [eo, Option.bind_some]
      rw [lp_scanE l.Names.length (fun a => scan (fun b => if lacks l a b = true then some ((a : Int), (4 : Int)) else none) 0 l.Names.length) () (fun a ha => ?_) (by simp)]
      · cases scan (fun a => scan (fun b => if lacks l a b = true then some ((a : Int), (4 : Int)) else none) 0 l.Names.length) 0 l.Names.length <;> rfl
      · simp only [Int.ofNat_lt, ha, decide_true, cond_true]
        rw [lp_scanE l.Names.length (fun b => if lacks l a b = true then some (.inr (.inr ((a : Int), (4 : Int)))) else none) () (fun b hb => ?_) (by simp)]
        · have e : (fun b => if lacks l a b = true then some (Sum.inr (Sum.inr ((a : Int), (4 : Int))) : Int ⊕ (Unit ⊕ (Int × Int))) else none) = fun b => (if lacks l a b = true then some ((a : Int), (4 : Int)) else none).map fun v => .inr (.inr v) := by
            funext b; split <;> rfl
          rw [e, scan_map]
          cases scan (fun b => if lacks l a b = true then some ((a : Int), (4 : Int)) else none) 0 l.Names.length with
          | some r => rfl
          | none =>
            simp only [Option.map_none]
            rw [w64 (by omega) (by omega)]
        · simp only [Int.ofNat_lt, hb, decide_true, cond_true]
          have n1 := bound_exact o.up_ (upN l) l.Names.length a b h8 (fun c hc => by rw [o3 c hc]; exact upN_get hu (by omega)) (fun c hc => upN_lt hu (by omega)) (fun c hc => hself c hc) ha hb
          have n2 : F_lattice_bound_lattice_downs_ o.down_ l.Names.length a b = some (bndI (dnN l) l.Names.length a b) := bound_exact o.down_ (dnN l) l.Names.length a b h8 (fun c hc => o4 c hc) (fun c hc => dnN_lt h8 c) (fun c hc => by unfold dnN; rw [dn_bit, hself c hc]; simp [hc]) ha hb
          rw [n1, n2]
          simp only [Option.bind_some, bnd_sign]
          rw [w64 (by omega) (by omega)]
          unfold lacks
          cases (bnd (upN l) l.Names.length a b).isNone with
          | true => simp
          | false => cases (bnd (dnN l) l.Names.length a b).isNone <;> simp
  · -- one label's row
    have hxa := upN_get hu (a := a) (by omega)
    have hlt := upN_lt hu (a := a) (by omega)
    obtain ⟨y, ey, hy⟩ := Len8_exact (upN l a : Int) (by omega) (by omega)
    have hy := hy l.Names.length h8
    rw [Int.toNat_natCast] at hy
    have ga : ((0 : Int) ≤ (a : Int)) := by omega
    have hbit : ∀ b, b < l.Names.length → bits .and .u8 (Int.fdiv (upN l a : Int) (2 ^ min b (IntKind.bits .u8))) 1 = if up l a b = true then 1 else 0 := fun b hb => by
      rw [bitAt (by omega) (by omega) (by omega), Int.toNat_natCast]; rfl
    simp only [Int.ofNat_lt, ha, decide_true, cond_true, idxO, Int.toNat_natCast, if_pos ga, hxa, Option.bind_some, ey, hy, sideO_pos ga]
    simp only [hbit a ha]
    unfold ordA
    cases e1 : decide (upN l a < 2 ^ l.Names.length) with
    | false => simp
    | true =>
      simp only [Bool.not_true, cond_false, Bool.true_and]
      cases e2 : up l a a with
      | false => simp
      | true =>
        simp only [if_true, Int.reduceEq, decide_false, cond_false, Bool.true_and]
        rw [lp_scanE l.Names.length (fun b => if ordB l a b = true then (if b + 1 = l.Names.length then some (.inl ((a : Int) + 1)) else none) else some (.inr (.inr ((a : Int), (6 : Int))))) () (fun b hb => ?_) (by simp)]
        · rw [scan_last (by omega) (by omega)]
          simp only [Nat.zero_add]
          cases (List.range l.Names.length).all fun b => ordB l a b <;> rfl
        · have hxb := upN_get hu (a := b) (by omega)
          have hltb := upN_lt hu (a := b) (by omega)
          have gb : ((0 : Int) ≤ (b : Int)) := by omega
          have hbit' : bits .and .u8 (Int.fdiv (upN l b : Int) (2 ^ min a (IntKind.bits .u8))) 1 = if up l b a = true then 1 else 0 := by
            rw [bitAt (by omega) (by omega) (by omega), Int.toNat_natCast]; rfl
          simp only [Int.ofNat_lt, hb, decide_true, cond_true, Option.bind_some, Int.toNat_natCast, hxb, if_pos gb, sideO_pos gb]
          simp only [hbit b hb, hbit', w64 (e := (l.Names.length : Int) - 1) (by omega) (by omega), w64 (e := (a : Int) + 1) (by omega) (by omega), w64 (e := (b : Int) + 1) (by omega) (by omega)]
          have hnot : decide (bits .andNot .u8 (bits .and .u8 (upN l b : Int) (IntKind.wrap .u8 (IntKind.wrap .u8 (1 * 2 ^ min l.Names.length (IntKind.bits .u8)) - 1))) (upN l a : Int) = 0) = (List.range l.Names.length).all fun i => !up l b i || up l a i := by
            revert hmask hm0
            generalize IntKind.wrap .u8 (IntKind.wrap .u8 (1 * 2 ^ min l.Names.length (IntKind.bits .u8)) - 1) = mask
            intro hmask hm0
            have hand : bits .and .u8 (upN l b : Int) mask = ((upN l b &&& mask.toNat : Nat) : Int) := by
              rw [bits_and (by omega) (by omega) hm0.1 hm0.2, Int.toNat_natCast]
            have hlt2 : upN l b &&& mask.toNat < 256 := and_lt hltb
            rw [hand, Bool.eq_iff_iff, decide_eq_true_eq, bits_andNot (by omega) (by omega) (by omega) (by omega), List.all_eq_true]
            simp only [Int.toNat_natCast, Nat.testBit_and, hmask, upN_bit]
            constructor
            · intro h i hi
              have := h i
              have hi' : i < l.Names.length := by simpa using hi
              cases e : up l b i with
              | false => rfl
              | true => rw [e] at this; simpa [hi'] using this
            · intro h i hi
              simp only [Bool.and_eq_true, decide_eq_true_eq] at hi
              have := h i (by simpa using hi.2)
              rw [hi.1] at this; simpa using this
          simp only [hnot]
          have hlast : decide ((b : Int) = (l.Names.length : Int) - 1) = decide (b + 1 = l.Names.length) := by
            rw [Bool.eq_iff_iff, decide_eq_true_eq, decide_eq_true_eq]; omega
          simp only [hlast]
          unfold ordB
          cases e3 : up l a b with
          | false => by_cases hl : b + 1 = l.Names.length <;> simp [hl]
          | true =>
            by_cases hba : b = a
            · subst hba
              have d2 : decide ((b : Int) = (b : Int)) = true := by simp
              cases (List.range l.Names.length).all fun i => !up l b i || up l b i with
              | false => by_cases hl : b + 1 = l.Names.length <;> simp [hl]
              | true => by_cases hl : b + 1 = l.Names.length <;> simp [hl]
            · have d2 : decide ((b : Int) = (a : Int)) = false := by simp; omega
              have d3 : decide (b = a) = false := by simp [hba]
              simp only [d2, d3]
              cases up l b a with
              | true => by_cases hl : b + 1 = l.Names.length <;> simp [hl]
              | false =>
                cases (List.range l.Names.length).all fun i => !up l b i || up l a i with
                | false => by_cases hl : b + 1 = l.Names.length <;> simp [hl]
                | true => by_cases hl : b + 1 = l.Names.length <;> simp [hl]
theorem latR_eq {l : TLattice} (h : LatIn l) : latR l = latC l := by
  unfold latR; rw [Check_exact l h.u8 h.names h.name]; rfl
end Go.Sx.O
namespace Go.Sx.O
open Go
theorem ref_asked_spec {l : TLattice} (h : LatIn l) (a b : Int) : F_invigilatorref03_asked l a b = some (askE l [a, b]) := by
  unfold F_invigilatorref03_asked askE
  rw [ref_Check_eq l h.u8 h.names h.name, latR_eq h]
  simp only [Option.bind_some, List.length_map, List.all_cons, List.all_nil, Bool.and_true]
  by_cases h0 : (latC l).2 = 0
  · simp only [h0, decide_true, cond_true, if_true]
    unfold isLab
    by_cases a1 : a < 0
    · have : ¬ 0 ≤ a := by omega
      simp [a1, this]
    by_cases a2 : (l.Names.length : Int) ≤ a
    · have : ¬ a < (l.Names.length : Int) := by omega
      simp [a1, a2, this]
    by_cases b1 : b < 0
    · have : ¬ 0 ≤ b := by omega
      simp [a1, a2, b1, this]
    by_cases b2 : (l.Names.length : Int) ≤ b
    · have : ¬ b < (l.Names.length : Int) := by omega
      simp [a1, a2, b1, b2, this]
    have a1' : 0 ≤ a := by omega
    have a2' : a < (l.Names.length : Int) := by omega
    have b1' : 0 ≤ b := by omega
    have b2' : b < (l.Names.length : Int) := by omega
    simp [a1, a2, b1, b2, a1', a2', b1', b2']
  · simp [h0]
theorem ref_Leq_spec {l : TLattice} (h : LatIn l) (a b : Int) : F_invigilatorref03_Leq l a b = some (sees l a b, askE l [a, b]) := by
  unfold F_invigilatorref03_Leq
  rw [ref_asked_spec h]
  simp only [Option.bind_some]
  by_cases h0 : askE l [a, b] = 0
  · simp only [h0, decide_true, cond_true]
    have h0' := h0
    unfold askE at h0
    split at h0
    case isFalse h1 => exact absurd h0 h1
    rename_i h1
    split at h0
    case isFalse => cases h0
    rename_i h2
    simp only [List.all_cons, List.all_nil, Bool.and_true, Bool.and_eq_true] at h2
    have ok := lat_ok h h1
    have ha := h2.1
    have hb := h2.2
    unfold isLab at ha hb
    simp only [Bool.and_eq_true, decide_eq_true_eq] at ha hb
    have hB := Below_spec h.u8 (a := a.toNat) (b := b.toNat) (by rw [ok.len]; omega) (by have := ok.le; omega)
    rw [Int.toNat_of_nonneg ha.1, Int.toNat_of_nonneg hb.1] at hB
    rw [hB]
    unfold sees
    simp [h1, h2.1, h2.2]
  · have : sees l a b = false := by
      cases e : sees l a b with
      | false => rfl
      | true => exact absurd (sees_ok e) h0
    simp [h0, this]
theorem ref_SameArray_spec (a b : TArray) (h : a.Cells.length ≤ 1000000000) : Tot (F_invigilatorref24_SameArray a b) fun r => (r = true ↔ a = b) := by
  unfold F_invigilatorref24_SameArray
  obtain ⟨k1, r1, ⟨p1, q1⟩, c1⟩ := a
  obtain ⟨k2, r2, ⟨p2, q2⟩, c2⟩ := b
  simp only [TArray.mk.injEq, Prod.mk.injEq, List.length_map]
  by_cases e1 : k1 = k2
  case neg => simp [e1, tot_some]
  by_cases e2 : r1 = r2
  case neg => simp [e1, e2, tot_some]
  by_cases e3 : p1 = p2
  case neg => simp [e1, e2, e3, tot_some]
  by_cases e4 : q1 = q2
  case neg => simp [e1, e2, e3, e4, tot_some]
  by_cases e5 : c1.length = c2.length
  case neg =>
    have e6 : ¬ (c1.length : Int) = c2.length := by omega
    have e7 : c1 ≠ c2 := fun e => e5 (by rw [e])
    simp [e1, e2, e3, e4, e6, e7, tot_some]
  simp only [e1, e2, e3, e4, e5, decide_true, Bool.not_true, cond_false, Bool.and_true, true_and, tot_bind, and_self]
  simp only at h
  refine zip_loop (l := c1) (m := c2) c2.length (fun x y => decide (x = y)) (bad := fun _ => false) (e := ()) (by omega) (Nat.le_refl _) (fun k x y hx hy hk => ?_) (by simp) (fun hall => ?_) (fun k x y hx hy hk e _ => ?_)
  · simp only [Int.ofNat_lt, hk, decide_true, cond_true, idxO, Int.toNat_natCast, hx, hy, Option.bind_some, letO, Int.natCast_nonneg, if_true]
    rw [w64 (by omega) (by omega)]
    by_cases hxy : x = y <;> simp [hxy]
  · have : c1 = c2 := eq_of_get e5 fun k x y hx hy hk => by simpa using hall k x y hx hy (by omega)
    simp [this, tot_some]
  · have : c1 ≠ c2 := by
      rintro rfl
      rw [hx] at hy; cases hy
      simp at e
    simp [this, tot_some]
theorem SameEvents_spec (a b : List TEvEvent) (h : a.length ≤ 1000000) (hv : ∀ v ∈ a, v.Value.Cells.length ≤ 450) : Tot (F_invigilatorref29_SameEvents a b) fun r => (r = true ↔ a = b) := by
  unfold F_invigilatorref29_SameEvents
  simp only [List.length_map]
  by_cases e5 : a.length = b.length
  case neg =>
    have e6 : ¬ (a.length : Int) = b.length := by omega
    have e7 : a ≠ b := fun e => e5 (by rw [e])
    simp [e6, e7, tot_some]
  simp only [e5, decide_true, Bool.not_true, cond_false, tot_bind]
  open Classical in
  refine zip_loop (l := a) (m := b) b.length (fun x y => decide (x = y)) (bad := fun _ => false) (e := ()) (by omega) (Nat.le_refl _) (fun k x y hx hy hk => ?_) (by simp) (fun hall => ?_) (fun k x y hx hy hk e _ => ?_)
  · obtain ⟨r, e, hr⟩ := ref_SameArray_spec x.Value y.Value (by have := hv x (List.mem_of_getElem? hx); omega)
    simp only [Int.ofNat_lt, hk, decide_true, cond_true, idxO, Int.toNat_natCast, hx, hy, Option.bind_some, letO, Int.natCast_nonneg, if_true, e]
    rw [w64 (by omega) (by omega)]
    obtain ⟨x1, x2, x3, x4, x5, x6, x7⟩ := x
    obtain ⟨y1, y2, y3, y4, y5, y6, y7⟩ := y
    simp only [TEvEvent.mk.injEq]
    simp only at hr
    by_cases z1 : x1 = y1 <;> by_cases z2 : x2 = y2 <;> by_cases z3 : x3 = y3 <;> by_cases z4 : x4 = y4 <;> by_cases z5 : x5 = y5 <;> by_cases z6 : x6 = y6 <;> by_cases z7 : x7 = y7 <;> cases r <;> simp_all
  · have : a = b := eq_of_get e5 fun k x y hx hy hk => by simpa using hall k x y hx hy (by omega)
    simp [this, tot_some]
  · have : a ≠ b := by
      rintro rfl
      rw [hx] at hy; cases hy
      simp at e
    simp [this, tot_some]
end Go.Sx.O
namespace Go.Sx.O
open Go
end Go.Sx.O
namespace Go.Sx.O
open Go
end Go.Sx.O
namespace Go.Sx.O
open Go
noncomputable def chan (t : TEvTrace) (name : List UInt8) : List TArray := (t.Events.filter fun v => decide (v.Kind = 1) && decide (v.Channel = name)).map fun v => v.Value
theorem Channel_spec (t : TEvTrace) (name : List UInt8) (h : t.Events.length ≤ 60) : F_view_Channel t name = some (chan t name) := by
  unfold F_view_Channel
  apply Tot.eq
  rw [tot_bind]
  refine Tot.count t.Events.length (fun k s => s.1 = (k : Int) ∧ s.2 = ((t.Events.take k).filter fun v => decide (v.Kind = 1) && decide (v.Channel = name)).map fun v => v.Value) ?_ ⟨rfl, by simp⟩
  rintro k ⟨i, out⟩ hk ⟨h0, h1⟩
  simp only at h0 h1
  subst h0
  simp only [List.length_map, tot_cond, tot_some, tot_let, tot_idx, tot_side, tot_bind, Sum.elim_inl, Sum.elim_inr, decide_eq_true_eq, decide_eq_false_iff_not, Int.toNat_natCast]
  refine ⟨fun hlt => ?_, fun hlt => ?_⟩
  · obtain ⟨x, hx⟩ := get_lt (l := t.Events) (i := k) (by omega)
    refine ⟨by omega, x, hx, ?_⟩
    have hlen : out.length ≤ k := by
      rw [h1, List.length_map]; exact Nat.le_trans (List.length_filter_le _ _) (by simp; omega)
    rw [w64 (by omega) (by omega)]
    have hs : ((t.Events.take (k + 1)).filter fun v => decide (v.Kind = 1) && decide (v.Channel = name)).map (fun v => v.Value) = out ++ (if (decide (x.Kind = 1) && decide (x.Channel = name)) = true then [x.Value] else []) := by
      rw [List.take_add_one, hx, List.filter_append, List.map_append, ← h1]
      congr 1
      simp only [Option.toList_some, List.filter_cons, List.filter_nil]
      split <;> rfl
    refine ⟨fun g => ⟨fun g' => ⟨by omega, by omega, by omega, ?_⟩, fun g' => ⟨by omega, by omega, ?_⟩⟩, fun g => ⟨by omega, by omega, ?_⟩⟩
    · rw [hs]; simp [g, g']
    · rw [hs]; simp [g']
    · rw [hs]; simp [g]
  · rw [h1, List.take_of_length_le (by omega)]; rfl
theorem Pairs_spec {l : TLattice} {t : TEvTrace} (hl : LatIn l) (ht : TraceIn t) (o : Int) : F_view_Pairs l t o = some (if vask l o [t] = 0 then (seenL l t o).map fun x => x.Value else [], vask l o [t]) := by
  unfold F_view_Pairs
  rw [vasked_spec hl o [t] (by simpa using ht) (by simp), Option.bind_some]
  by_cases h : vask l o [t] = 0
  case neg => simp [h]
  rw [entries_spec hl t o (by have := ht.log; omega)]
  simp only [h, decide_true, Bool.not_true, cond_false, if_true, Option.bind_some]
  change Option.bind (lpO (fun (s : Int × List (Int × Int)) => cond (decide (s.1 < ((List.length (List.map enc_TReEntry (seenL l t o)) : Nat) : Int))) (idxO (seenL l t o) s.1 _) _) _) _ = _
  have hlen := seenL_len (l := l) (o := o) ht
  apply Tot.eq
  rw [tot_bind]
  refine Tot.count (seenL l t o).length (fun k s => s.1 = (k : Int) ∧ s.2 = ((seenL l t o).take k).map fun v => v.Value) ?_ ⟨rfl, by simp⟩
  rintro k ⟨i, out⟩ hk ⟨h0, h1⟩
  simp only at h0 h1
  subst h0
  simp only [List.length_map, tot_cond, tot_some, tot_let, tot_idx, tot_side, tot_bind, Sum.elim_inl, Sum.elim_inr, decide_eq_true_eq, decide_eq_false_iff_not, Int.toNat_natCast]
  refine ⟨fun hlt => ?_, fun hlt => ?_⟩
  · obtain ⟨x, hx⟩ := get_lt (l := seenL l t o) (i := k) (by omega)
    refine ⟨by omega, x, hx, ?_⟩
    have hlen' : out.length ≤ k := by
      rw [h1, List.length_map]; simp; omega
    rw [w64 (by omega) (by omega), List.take_add_one, hx, List.map_append, ← h1]
    exact ⟨by omega, by omega, by omega, by simp⟩
  · rw [h1, List.take_of_length_le (by omega)]
theorem SameArrays_spec (a b : List TArray) (h : a.length ≤ 1000000) (hv : ∀ v ∈ a, v.Cells.length ≤ 450) : Tot (F_invigilatorref31_SameArrays a b) fun r => (r = true ↔ a = b) := by
  unfold F_invigilatorref31_SameArrays
  simp only [List.length_map]
  by_cases e5 : a.length = b.length
  case neg =>
    have e6 : ¬ (a.length : Int) = b.length := by omega
    have e7 : a ≠ b := fun e => e5 (by rw [e])
    simp [e6, e7, tot_some]
  simp only [e5, decide_true, Bool.not_true, cond_false, tot_bind]
  open Classical in
  refine zip_loop (l := a) (m := b) b.length (fun x y => decide (x = y)) (bad := fun _ => false) (e := ()) (by omega) (Nat.le_refl _) (fun k x y hx hy hk => ?_) (by simp) (fun hall => ?_) (fun k x y hx hy hk e _ => ?_)
  · obtain ⟨r, e, hr⟩ := ref_SameArray_spec x y (by have := hv x (List.mem_of_getElem? hx); omega)
    simp only [Int.ofNat_lt, hk, decide_true, cond_true, idxO, Int.toNat_natCast, hx, hy, Option.bind_some, letO, Int.natCast_nonneg, if_true, e]
    rw [w64 (by omega) (by omega)]
    by_cases hxy : x = y
    · have : r = true := hr.2 hxy
      simp [hxy, this]
    · have : r = false := by cases r <;> simp_all
      simp [hxy, this]
  · have : a = b := eq_of_get e5 fun k x y hx hy hk => by simpa using hall k x y hx hy (by omega)
    simp [this, tot_some]
  · have : a ≠ b := by
      rintro rfl
      rw [hx] at hy; cases hy
      simp at e
    simp [this, tot_some]
end Go.Sx.O
namespace Go.Sx.O
open Go
theorem IndexByte_eq (s : List UInt8) (c : Int) : F_strings_IndexByte s c = some (Go.Lib.indexByte s c.toNat.toUInt8) := by
  unfold F_strings_IndexByte F_internal_stringslite_IndexByte
  rfl
theorem ContainsRune_nil (r : Int) (h0 : 0 ≤ r) (h1 : r < 256) : F_strings_ContainsRune [] r = some false := by
  unfold F_strings_ContainsRune
  have key : Tot (F_strings_IndexRune [] r) fun x => x < 0 := by
    unfold F_strings_IndexRune
    have e0 : decide (0 ≤ r) = true := by simp [h0]
    simp only [e0, cond_true]
    rw [tot_cond]
    refine ⟨fun _ => ?_, fun h2 => ?_⟩
    · rw [tot_let, tot_bind, IndexByte_eq]
      simp only [tot_some]
      simp [Go.Lib.indexByte]
    · simp only [decide_eq_false_iff_not] at h2
      obtain ⟨x, y, exy, hy⟩ := hi_enc (r := r) (by omega) h1
      have e1 : decide (r = 65533) = false := by simp; omega
      simp only [e1, cond_false, exy]
      rw [tot_bind]
      refine (ValidRune_total r).mono fun v _ => ?_
      rw [tot_cond]
      refine ⟨fun _ => .mk (by decide), fun _ => ?_⟩
      rw [tot_let]
      have e2 : IntKind.wrap .i64 (((List.length [x, y] : Nat) : Int) - 1) = 1 := rfl
      rw [e2, tot_bind]
      refine Tot.loop (fun _ => 0) (fun _ => True) (fun _ _ => ?_) trivial
      rw [tot_cond]
      refine ⟨fun h3 => ?_, fun _ => ?_⟩
      · simp only [decide_eq_true_eq, List.length_nil] at h3
        exact absurd h3 (by decide)
      · simp only [tot_some, Sum.elim_inr, Sum.elim_inl]
        decide
  obtain ⟨x, e, hx⟩ := key
  rw [e]
  have : decide (0 ≤ x) = false := by simp; omega
  simp [this]
theorem ValidRune_lo (r : Int) (h0 : 0 ≤ r) (h1 : r < 256) : F_unicode_utf8_ValidRune r = some true := by
  unfold F_unicode_utf8_ValidRune
  have e0 : decide (0 ≤ r) = true := by simp [h0]
  have e1 : decide (r < 55296) = true := by simp; omega
  simp only [e0, e1, cond_true]
theorem runes_is_lo (r : Int) (h0 : 0 ≤ r) (h1 : r < 256) : F_runes_is r = some true := by
  unfold F_runes_is
  simp only [letO, wrap_i32 h0 h1]
  rw [w64 (by omega) (by omega)]
  simp [ValidRune_lo r h0 h1]
def lowB (c : UInt8) : Bool := decide (97 ≤ c.toNat) && decide (c.toNat ≤ 122)
def digB (c : UInt8) : Bool := decide (48 ≤ c.toNat) && decide (c.toNat ≤ 57)
theorem class_loopE {cs : List (List UInt8)} (hcs : cs.length = 10) (h : ∀ s ∈ cs, s.length ≤ 1000 ∧ ∀ c ∈ s, c.toNat < 128) (h6 : cs[6]? = some []) (h8 : cs[8]? = some []) (r : Int) (h0 : 0 ≤ r) (h1 : r < 256) {Q : Unit ⊕ (Int × Int) → Prop} (hQ : Q (.inl ())) (hQ' : ∀ x, x ≠ 6 → x ≠ 8 → Q (.inr (x, 0))) :
    Tot (lpO (fun (s : Int) => cond (decide (s < 10)) (idxO cs s fun x => letO (IntKind.wrap IntKind.i32 r) fun y => Option.bind (F_strings_ContainsRune x y) fun z => cond z (some (Sum.inr (Sum.inr (s, (0 : Int))))) (letO (IntKind.wrap IntKind.i64 (s + 1)) fun u => some (Sum.inl u))) (some (Sum.inr (Sum.inl ())))) 0) Q := by
  refine Tot.count 10 (fun k s => s = (k : Int)) ?_ rfl
  rintro k _ hk rfl
  simp only [tot_cond, tot_some, tot_let, tot_idx, tot_bind, Sum.elim_inl, Sum.elim_inr, decide_eq_true_eq, decide_eq_false_iff_not, Int.toNat_natCast]
  refine ⟨fun hlt => ?_, fun _ => hQ⟩
  obtain ⟨x, hx⟩ := get_lt (l := cs) (i := k) (by omega)
  have hx' := h x (List.mem_of_getElem? hx)
  refine ⟨by omega, x, hx, ?_⟩
  rw [wrap_i32 h0 h1]
  have nx : k < 10 ∧ IntKind.wrap .i64 ((k : Int) + 1) = ((k + 1 : Nat) : Int) := by
    rw [w64 (by omega) (by omega)]; exact ⟨by omega, by omega⟩
  by_cases g6 : k = 6
  · subst g6
    rw [h6] at hx; cases hx
    rw [ContainsRune_nil r h0 h1, tot_some]
    exact ⟨fun e => (by cases e), fun _ => nx⟩
  by_cases g8 : k = 8
  · subst g8
    rw [h8] at hx; cases hx
    rw [ContainsRune_nil r h0 h1, tot_some]
    exact ⟨fun e => (by cases e), fun _ => nx⟩
  refine (ContainsRune_total x r hx'.2 hx'.1 h0 h1).mono fun _ _ => ⟨fun _ => hQ' _ (by omega) (by omega), fun _ => nx⟩
theorem Class_spec (c : UInt8) : Tot (F_runes_Class (IntKind.wrap .i64 (c.toNat : Int))) fun x => (decide (x.1 = 8) = lowB c) ∧ (decide (x.1 = 6) = digB c) := by
  have hc := c.toNat_lt
  rw [w64 (by omega) (by omega)]
  have h0 : (0 : Int) ≤ c.toNat := by omega
  have h1 : (c.toNat : Int) < 256 := by omega
  unfold F_runes_Class F_runes_classes lowB digB
  rw [runes_is_lo _ h0 h1]
  simp only [Option.bind_some, Bool.not_true, cond_false]
  have L : ¬ (48 ≤ c.toNat ∧ c.toNat ≤ 57) → ¬ (97 ≤ c.toNat ∧ c.toNat ≤ 122) → _ := fun d1 d2 => class_loopE (cs := [[], [32], [10], [40, 91], [41, 93], [34], [], [45], [], [60, 61]]) rfl (by decide) rfl rfl c.toNat h0 h1 (Q := fun a => Tot (Sum.elim (fun _ => some ((10 : Int), (0 : Int))) some a) fun (x : Int × Int) => (decide (x.1 = 8) = (decide (97 ≤ c.toNat) && decide (c.toNat ≤ 122))) ∧ (decide (x.1 = 6) = (decide (48 ≤ c.toNat) && decide (c.toNat ≤ 57))))
    (.mk (by
      have a1 : (decide (97 ≤ c.toNat) && decide (c.toNat ≤ 122)) = false := by simp; omega
      have a2 : (decide (48 ≤ c.toNat) && decide (c.toNat ≤ 57)) = false := by simp; omega
      rw [a1, a2]; exact ⟨rfl, rfl⟩)) (fun x e6 e8 => .mk (by
      have a1 : (decide (97 ≤ c.toNat) && decide (c.toNat ≤ 122)) = false := by simp; omega
      have a2 : (decide (48 ≤ c.toNat) && decide (c.toNat ≤ 57)) = false := by simp; omega
      rw [a1, a2]; simp [e6, e8]))
  simp only [tot_cond, tot_some, tot_bind, decide_eq_true_eq, decide_eq_false_iff_not]
  have six : 48 ≤ c.toNat → c.toNat ≤ 57 → decide ((6 : Int) = 8) = (decide (97 ≤ c.toNat) && decide (c.toNat ≤ 122)) ∧ decide ((6 : Int) = 6) = (decide (48 ≤ c.toNat) && decide (c.toNat ≤ 57)) := by
    intro d1 d2
    have a1 : (decide (97 ≤ c.toNat) && decide (c.toNat ≤ 122)) = false := by simp; omega
    have a2 : (decide (48 ≤ c.toNat) && decide (c.toNat ≤ 57)) = true := by simp; omega
    rw [a1, a2]; exact ⟨rfl, rfl⟩
  have eight : 97 ≤ c.toNat → c.toNat ≤ 122 → decide ((8 : Int) = 8) = (decide (97 ≤ c.toNat) && decide (c.toNat ≤ 122)) ∧ decide ((8 : Int) = 6) = (decide (48 ≤ c.toNat) && decide (c.toNat ≤ 57)) := by
    intro d1 d2
    have a1 : (decide (97 ≤ c.toNat) && decide (c.toNat ≤ 122)) = true := by simp; omega
    have a2 : (decide (48 ≤ c.toNat) && decide (c.toNat ≤ 57)) = false := by simp; omega
    rw [a1, a2]; exact ⟨rfl, rfl⟩
  refine ⟨fun d1 => ⟨fun d2 => six (by omega) (by omega), fun d2 => ⟨fun d3 => ⟨fun d4 => eight (by omega) (by omega), fun d4 => L (by omega) (by omega)⟩, fun d3 => L (by omega) (by omega)⟩⟩, fun d1 => ⟨fun d3 => ⟨fun d4 => eight (by omega) (by omega), fun d4 => L (by omega) (by omega)⟩, fun d3 => L (by omega) (by omega)⟩⟩
def lword (s : List UInt8) : Bool := (match s with | [] => false | c :: _ => lowB c) && s.all fun c => lowB c || digB c
theorem all_take {s : List UInt8} {p : UInt8 → Bool} {k : Nat} {c : UInt8} (h : (s.take k).all p = true) (hc : s[k]? = some c) (hp : p c = true) : (s.take (k + 1)).all p = true := by
  rw [List.take_add_one, hc, List.all_append, h]
  simp [hp]
theorem lexer_word_spec (s : List UInt8) (h : s.length ≤ 1000000) : Tot (F_lexer_Check (TLxToken.mk 1 0 0 0 s)) fun x => decide (x = 0) = (lword s && decide (s.length ≤ 16)) := by
  unfold F_lexer_Check
  dsimp only
  have e2 : decide ((1 : Int) < 1) = false := rfl
  have e3 : decide ((9 : Int) < 1) = false := rfl
  simp only [e2, e3, decide_true, cond_true, cond_false, Option.bind_some, Sum.elim_inl, Bool.and_self, Bool.not_true]
  rw [tot_bind]
  have Qn : ∀ x : Int, lword s = false → Tot (Sum.elim (fun (n : Int) => cond (decide (n < (s.length : Int))) (some (3 : Int)) (some (0 : Int))) some (Sum.inr 6 : Int ⊕ Int)) fun x => decide (x = 0) = (lword s && decide (s.length ≤ 16)) := by
    intro _ e
    rw [e]; exact .mk rfl
  have Qy : lword s = true → Tot (Sum.elim (fun (n : Int) => cond (decide (n < (s.length : Int))) (some (3 : Int)) (some (0 : Int))) some (Sum.inl 16 : Int ⊕ Int)) fun x => decide (x = 0) = (lword s && decide (s.length ≤ 16)) := by
    intro e
    rw [e]
    simp only [Sum.elim_inl, tot_cond, tot_some, decide_eq_true_eq, decide_eq_false_iff_not]
    refine ⟨fun g => ?_, fun g => ?_⟩
    · have : decide (s.length ≤ 16) = false := by simp; omega
      rw [this]; rfl
    · have : decide (s.length ≤ 16) = true := by simp; omega
      rw [this]; rfl
  rw [tot_cond]
  refine ⟨fun h1 => ?_, fun h1 => ?_⟩
  · simp only [tot_some]
    refine Qn 0 ?_
    have : s = [] := List.length_eq_zero_iff.1 (by simpa using h1)
    rw [this]; rfl
  simp only [decide_eq_false_iff_not] at h1
  obtain ⟨c, hc⟩ := get_lt (l := s) (i := 0) (by omega)
  have hs0 : ∃ r, s = c :: r := by
    cases s with
    | nil => simp at hc
    | cons a r => simp at hc; exact ⟨r, by rw [hc]⟩
  have e0 : (0 : Int).toNat = 0 := rfl
  simp only [tot_idx, tot_let, tot_bind, e0]
  refine ⟨by omega, c, hc, (Class_spec c).mono fun x hx => ?_⟩
  rw [tot_cond]
  refine ⟨fun g => ?_, fun g => ?_⟩
  · simp only [tot_some]
    refine Qn 0 ?_
    obtain ⟨r, rfl⟩ := hs0
    have : lowB c = false := by rw [← hx.1]; simpa using g
    unfold lword; simp [this]
  have hlow : lowB c = true := by rw [← hx.1]; simpa using g
  simp only [tot_idx, tot_let, tot_bind, e0]
  refine ⟨by omega, c, hc, (Class_spec c).mono fun y hy => ?_⟩
  refine Tot.loop (fun (p : Int × Int) => s.length - p.2.toNat) (fun (p : Int × Int) => 0 ≤ p.2 ∧ p.2 ≤ (s.length : Int) ∧ (s.take p.2.toNat).all (fun c => lowB c || digB c) = true ∧ ((p.2 = (s.length : Int) ∧ p.1 = 10) ∨ ∃ d, s[p.2.toNat]? = some d ∧ decide (p.1 = 8) = lowB d ∧ decide (p.1 = 6) = digB d)) ?_ ⟨by simp, by simp, by simp, .inr ⟨c, by simpa using hc, hy⟩⟩
  rintro ⟨k, a⟩ ⟨h2, h3, hall, h4⟩
  simp only at h2 h3 hall h4
  have round : (k = 8 ∨ k = 6) → ∀ {Q : (Bool × Int × Int) ⊕ (Int ⊕ Int) → Prop}, Tot (letO (IntKind.wrap .i64 (a + 1)) fun (u : Int) => cond (decide ((s.length : Int) ≤ u)) (some (Sum.inl ((10 : Int), u))) (idxO s u fun (v : UInt8) => letO (IntKind.wrap .i64 (v.toNat : Int)) fun (z : Int) => Option.bind (F_runes_Class z) fun r => some (Sum.inl (r.1, u)))) (Sum.elim (fun (s' : Int × Int) => (0 ≤ s'.2 ∧ s'.2 ≤ (s.length : Int) ∧ (s.take s'.2.toNat).all (fun c => lowB c || digB c) = true ∧ ((s'.2 = (s.length : Int) ∧ s'.1 = 10) ∨ ∃ d, s[s'.2.toNat]? = some d ∧ decide (s'.1 = 8) = lowB d ∧ decide (s'.1 = 6) = digB d)) ∧ s.length - s'.2.toNat < s.length - a.toNat) Q) := by
    intro hk Q
    rcases h4 with ⟨g1, g2⟩ | ⟨d, hd, d1, d2⟩
    · omega
    have hlt : a.toNat < s.length := by
      rcases Nat.lt_or_ge a.toNat s.length with g | g
      · exact g
      · rw [List.getElem?_eq_none g] at hd; cases hd
    have hp : (lowB d || digB d) = true := by
      rw [← d1, ← d2]
      rcases hk with rfl | rfl <;> rfl
    have e1 : (a + 1).toNat = a.toNat + 1 := by omega
    have hall' : (s.take (a + 1).toNat).all (fun c => lowB c || digB c) = true := by rw [e1]; exact all_take hall hd hp
    rw [tot_let, w64 (by omega) (by omega), tot_cond]
    refine ⟨fun g => ?_, fun g => ?_⟩
    · simp only [decide_eq_true_eq] at g
      simp only [tot_some, Sum.elim_inl]
      exact ⟨⟨by omega, by omega, hall', .inl ⟨by omega, trivial⟩⟩, by omega⟩
    · simp only [decide_eq_false_iff_not] at g
      obtain ⟨d', hd'⟩ := get_lt (l := s) (i := (a + 1).toNat) (by omega)
      simp only [tot_idx, tot_let, tot_bind]
      refine ⟨by omega, d', hd', (Class_spec d').mono fun z hz => ?_⟩
      simp only [tot_some, Sum.elim_inl]
      exact ⟨⟨by omega, by omega, hall', .inr ⟨d', hd', hz⟩⟩, by omega⟩
  rw [tot_cond]
  refine ⟨fun g => round (.inl (by simpa using g)), fun g => ?_⟩
  rw [tot_cond]
  refine ⟨fun g' => round (.inr (by simpa using g')), fun g' => ?_⟩
  simp only [tot_some, Sum.elim_inr, Sum.elim_inl, tot_side, tot_cond, e0, List.drop_zero]
  refine ⟨by omega, fun hne => ?_, fun heq => ?_⟩
  · refine (tot_some (Q := fun x => decide (x = 0) = (lword s && decide (s.length ≤ 16)))).1 (Qn 0 ?_)
    rcases h4 with ⟨g1, _⟩ | ⟨d, hd, d1, d2⟩
    · exfalso
      have : a.toNat = s.length := by omega
      rw [this, List.take_length] at hne
      simp at hne
    · unfold lword
      have : (s.all fun c => lowB c || digB c) = false := by
        rw [List.all_eq_false]
        refine ⟨d, List.mem_of_getElem? hd, ?_⟩
        rw [← d1, ← d2, g, g']
        simp
      rw [this, Bool.and_false]
  · have ht : s.take a.toNat = s := by simpa using heq
    rw [ht] at hall
    have hw : lword s = true := by
      unfold lword
      obtain ⟨r, rfl⟩ := hs0
      simp only [hall, hlow, Bool.and_self]
    rw [hw]
    refine ⟨fun g => ?_, fun g => ?_⟩
    · have : decide (s.length ≤ 16) = false := by simp at g ⊢; omega
      rw [this]; rfl
    · have : decide (s.length ≤ 16) = true := by simp at g ⊢; omega
      rw [this]; rfl
end Go.Sx.O
namespace Go.Sx.O
open Go
theorem letter14 (c : UInt8) : F_invigilatorref14_letter (c.toNat : Int) = some (lowB c) := by
  unfold F_invigilatorref14_letter lowB
  by_cases h : 97 ≤ c.toNat
  · have : decide ((97 : Int) ≤ (c.toNat : Int)) = true := by simp; omega
    rw [this]
    simp only [cond_true, h, decide_true, Bool.true_and, Option.some.injEq]
    rw [Bool.eq_iff_iff]; simp; omega
  · have : decide ((97 : Int) ≤ (c.toNat : Int)) = false := by simp; omega
    rw [this]
    simp [h]
theorem digit14 (c : UInt8) : F_invigilatorref14_digit (c.toNat : Int) = some (digB c) := by
  unfold F_invigilatorref14_digit digB
  by_cases h : 48 ≤ c.toNat
  · have : decide ((48 : Int) ≤ (c.toNat : Int)) = true := by simp; omega
    rw [this]
    simp only [cond_true, h, decide_true, Bool.true_and, Option.some.injEq]
    rw [Bool.eq_iff_iff]; simp; omega
  · have : decide ((48 : Int) ≤ (c.toNat : Int)) = false := by simp; omega
    rw [this]
    simp [h]
theorem named14 (s : List UInt8) (h : s.length ≤ 1000000) : F_invigilatorref14_named s = some (lword s) := by
  unfold F_invigilatorref14_named
  cases s with
  | nil => rfl
  | cons c r =>
    have e1 : decide (c :: r = (ByteArray.mk #[]).data.toList) = false := by
      exact decide_eq_false (fun e => by cases (show c :: r = [] from e))
    rw [e1]
    apply Tot.eq
    have e0 : (0 : Int).toNat = 0 := rfl
    simp only [cond_false, tot_idx, e0, tot_bind]
    refine ⟨by omega, c, rfl, ?_⟩
    rw [letter14, tot_some, tot_cond]
    refine ⟨fun g => ?_, fun g => ?_⟩
    · have : lowB c = false := by simpa using g
      simp [tot_some, lword, this]
    have hl : lowB c = true := by simpa using g
    rw [tot_bind]
    refine Tot.count (c :: r).length (fun k s => s = (k : Int) ∧ ((c :: r).take k).all (fun c => lowB c || digB c) = true) ?_ ⟨rfl, by simp⟩
    rintro k _ hk ⟨rfl, hall⟩
    simp only [tot_cond, tot_some, tot_let, tot_idx, tot_bind, Sum.elim_inl, Sum.elim_inr, decide_eq_true_eq, decide_eq_false_iff_not, Int.toNat_natCast]
    refine ⟨fun hlt => ?_, fun hge => ?_⟩
    · obtain ⟨d, hd⟩ := get_lt (l := c :: r) (i := k) (by omega)
      refine ⟨by omega, d, hd, ?_⟩
      rw [letter14, tot_some]
      have nx : k < (c :: r).length ∧ IntKind.wrap .i64 ((k : Int) + 1) = ((k + 1 : Nat) : Int) := by
        rw [w64 (by omega) (by omega)]; exact ⟨by omega, by omega⟩
      refine ⟨fun g1 => ⟨by omega, d, hd, ?_⟩, fun g1 => ⟨nx.1, nx.2, all_take hall hd (by simp at g1; simp [g1])⟩⟩
      rw [digit14, tot_some]
      refine ⟨fun g2 => ?_, fun g2 => ⟨nx.1, nx.2, all_take hall hd (by simp at g2; simp [g2])⟩⟩
      have : ((c :: r).all fun c => lowB c || digB c) = false := by
        rw [List.all_eq_false]
        refine ⟨d, List.mem_of_getElem? hd, ?_⟩
        simp at g1 g2
        simp [g1, g2]
      unfold lword
      rw [this, Bool.and_false]
    · rw [List.take_of_length_le (by omega)] at hall
      unfold lword
      rw [hall]
      show true = (lowB c && true)
      rw [hl]; rfl
theorem word14 (s : List UInt8) (h : s.length ≤ 1000000) : Tot (F_invigilatorref14_Check (TLxToken.mk 1 0 0 0 s)) fun x => decide (x = 0) = (lword s && decide (s.length ≤ 16)) := by
  unfold F_invigilatorref14_Check
  dsimp only
  have e2 : decide ((1 : Int) < 1) = false := rfl
  have e3 : decide ((9 : Int) < 1) = false := rfl
  have e4 : decide ((1 : Int) = 2) = false := rfl
  simp only [e2, e3, e4, decide_true, cond_true, cond_false, Bool.not_true, Bool.not_false, named14 s h, Option.bind_some, tot_cond, tot_some]
  refine ⟨fun g => ?_, fun g => ?_⟩
  · have : lword s = false := by simpa using g
    rw [this]; rfl
  · have : lword s = true := by simpa using g
    rw [this]
    refine ⟨fun g => ?_, fun g => ?_⟩
    · have : decide (s.length ≤ 16) = false := by simp at g ⊢; omega
      rw [this]; rfl
    · have : decide (s.length ≤ 16) = true := by simp at g ⊢; omega
      rw [this]; rfl
def primN : List (List UInt8) := [[110, 101, 103], [97, 98, 115], [110, 111, 116], [115, 104, 97, 112, 101], [114, 97, 118, 101, 108], [114, 101, 118, 101, 114, 115, 101], [102, 108, 105, 112], [105, 111, 116, 97], [115, 117, 109], [108, 101, 97, 115, 116], [109, 111, 115, 116], [99, 111, 117, 110, 116], [115, 99, 97, 110], [103, 114, 97, 100, 101], [97, 100, 100], [115, 117, 98], [109, 117, 108], [100, 105, 118], [109, 111, 100], [112, 108, 117, 115], [109, 105, 110, 117, 115], [116, 105, 109, 101, 115], [101, 113], [110, 101], [108, 116], [108, 101], [103, 116], [103, 101], [97, 110, 100], [111, 114], [109, 105, 110], [109, 97, 120], [116, 97, 107, 101], [100, 114, 111, 112], [102, 105, 108, 108], [103, 114, 105, 100], [99, 97, 116], [97, 116], [105, 110], [112, 105, 99, 107]]
theorem prims_Find_spec (s : List UInt8) : Tot (F_prims_Find s) fun x => decide (x.2 = 0) = decide (s ∈ primN) := by
  by_cases hm : s ∈ primN
  · have h2 : ∀ t ∈ primN, ∃ x, F_prims_Find t = some x ∧ decide (x.2 = 0) = true := by
      unfold primN
      simp only [List.forall_mem_cons]
      repeat' constructor
      intro t ht; cases ht
    obtain ⟨x, e, hx⟩ := h2 s hm
    exact ⟨x, e, by show decide (x.2 = 0) = _; rw [hx]; simp [hm]⟩
  · have hd : decide (s ∈ primN) = false := by simp [hm]
    rw [hd]
    unfold F_prims_Find
    unfold primN at hm
    simp only [List.mem_cons, List.not_mem_nil, or_false, not_or] at hm
    have sw : ∀ n : List UInt8, (n = s) = (s = n) := fun n => propext eq_comm
    simp only [sw, hm, decide_false, cond_false, Option.bind_some, Sum.elim_inl, tot_some]
    rfl
theorem ref_Find_spec (s : List UInt8) : Tot (F_invigilatorref12_Find s) fun x => decide (x.2 = 0) = decide (s ∈ primN) := by
  unfold F_invigilatorref12_Find F_invigilatorref12_names
  simp only [Option.bind_some]
  change Tot (Option.bind (lpO (fun (k : Int) => cond (decide (k < ((List.length (List.map SV.str primN) : Nat) : Int))) (idxO primN k _) _) 0) _) _
  rw [tot_bind]
  have hn : (List.map SV.str primN).length = 40 := rfl
  have hn' : primN.length = 40 := rfl
  rw [hn]
  refine Tot.count 40 (fun k x => x = (k : Int) ∧ s ∉ primN.take k) ?_ ⟨rfl, by simp⟩
  rintro k _ hk ⟨rfl, hmem⟩
  simp only [tot_cond, tot_some, tot_let, tot_idx, tot_bind, Sum.elim_inl, Sum.elim_inr, decide_eq_true_eq, decide_eq_false_iff_not, Int.toNat_natCast]
  refine ⟨fun hlt => ?_, fun hge => ?_⟩
  · obtain ⟨x, hx⟩ := get_lt (l := primN) (i := k) (by omega)
    refine ⟨by omega, x, hx, fun g => ?_, fun g => ?_⟩
    · subst g
      have := List.mem_of_getElem? hx
      simp [this]
    · rw [w64 (by omega) (by omega), List.take_add_one, hx]
      refine ⟨by omega, by omega, fun hm => ?_⟩
      rcases List.mem_append.1 hm with hm | hm
      · exact hmem hm
      · simp at hm; exact g hm.symm
  · rw [List.take_of_length_le (by omega)] at hmem
    simp [hmem]
def resN : List (List UInt8) := [[118, 97, 114], [100, 101, 102], [111, 117, 116], [105, 102], [101, 108, 115, 101], [119, 104, 105, 108, 101], [101, 110, 100], [114, 101, 108, 101, 97, 115, 101], [105, 110, 116], [99, 104, 97, 114]]
def exN (s : List UInt8) : Bool := !decide (s ∈ resN) && !decide (s ∈ primN) && (lword s && decide (s.length ≤ 16))
theorem expr_Name_spec (s : List UInt8) (h : s.length ≤ 1000000) : F_expr_Name s = some (exN s) := by
  apply Tot.eq
  unfold exN
  by_cases hm : s ∈ resN
  · have h2 : ∀ t ∈ resN, F_expr_Name t = some false := by
      unfold resN
      simp only [List.forall_mem_cons]
      repeat' constructor
      intro t ht; cases ht
    rw [h2 s hm, tot_some]
    simp [hm]
  · have hd : decide (s ∈ resN) = false := by simp [hm]
    rw [hd]
    unfold F_expr_Name
    unfold resN at hm
    simp only [List.mem_cons, List.not_mem_nil, or_false, not_or] at hm
    change Tot (cond (decide (s = [118, 97, 114])) _ (cond (decide (s = [100, 101, 102])) _ (cond (decide (s = [111, 117, 116])) _ (cond (decide (s = [105, 102])) _ (cond (decide (s = [101, 108, 115, 101])) _ (cond (decide (s = [119, 104, 105, 108, 101])) _ (cond (decide (s = [101, 110, 100])) _ (cond (decide (s = [114, 101, 108, 101, 97, 115, 101])) _ (cond (decide (s = [105, 110, 116])) _ (cond (decide (s = [99, 104, 97, 114])) _ _)))))))))) _
    simp only [hm, decide_false, cond_false, tot_bind]
    refine (prims_Find_spec s).mono fun x hx => ?_
    rw [hx, tot_cond]
    refine ⟨fun g => ?_, fun g => ?_⟩
    · rw [g]; exact .mk rfl
    · rw [g, tot_bind]
      refine (lexer_word_spec s h).mono fun y hy => .mk ?_
      rw [hy]; rfl
theorem reserved_spec (s : List UInt8) : F_invigilatorref15_reserved s = some (decide (s ∈ resN)) := by
  unfold F_invigilatorref15_reserved
  apply Tot.eq
  change Tot (Option.bind (lpO (fun (k : Int) => cond (decide (k < ((10 : Nat) : Int))) (sideO (0 ≤ k ∧ k < ((10 : Nat) : Int)) (idxO resN ((k.toNat : Nat) : Int) _)) _) 0) _) _
  rw [tot_bind]
  have hn' : resN.length = 10 := rfl
  refine Tot.count 10 (fun k x => x = (k : Int) ∧ s ∉ resN.take k) ?_ ⟨rfl, by simp⟩
  rintro k _ hk ⟨rfl, hmem⟩
  simp only [tot_cond, tot_some, tot_let, tot_idx, tot_side, tot_bind, Sum.elim_inl, Sum.elim_inr, decide_eq_true_eq, decide_eq_false_iff_not, Int.toNat_natCast]
  refine ⟨fun hlt => ?_, fun hge => ?_⟩
  · obtain ⟨x, hx⟩ := get_lt (l := resN) (i := k) (by omega)
    refine ⟨⟨by omega, by omega⟩, by omega, x, hx, fun g => ?_, fun g => ?_⟩
    · subst g
      have := List.mem_of_getElem? hx
      simp [this]
    · rw [w64 (by omega) (by omega), List.take_add_one, hx]
      refine ⟨by omega, by omega, fun hm => ?_⟩
      rcases List.mem_append.1 hm with hm | hm
      · exact hmem hm
      · simp at hm; exact g hm.symm
  · rw [List.take_of_length_le (by omega)] at hmem
    simp [hmem]
theorem ref15_Name_spec (s : List UInt8) (h : s.length ≤ 1000000) : F_invigilatorref15_Name s = some (exN s) := by
  unfold F_invigilatorref15_Name exN
  apply Tot.eq
  rw [tot_bind]
  refine (ref_Find_spec s).mono fun x hx => ?_
  rw [tot_bind]
  refine (word14 s h).mono fun y hy => ?_
  rw [hx, hy, reserved_spec]
  cases lword s && decide (s.length ≤ 16) <;> cases decide (s ∈ primN) <;> cases decide (s ∈ resN) <;> exact .mk rfl
end Go.Sx.O
namespace Go.Sx.O
open Go
def manyC (r : Int) (l : Int × Int) : Int := if r = 2 then l.1 * l.2 else if r = 1 then l.1 else 1
def shC (r : Int) (l : Int × Int) : Int :=
  if r = 0 then (if l.1 = 0 then (if l.2 = 0 then 0 else 6) else 6)
  else if r = 1 then (if l.1 < 0 then 7 else if l.2 = 0 then (if 400 < l.1 then 15 else 0) else 6)
  else if r = 2 then (if l.1 < 0 then 7 else if l.2 < 0 then 7 else if 400 < l.1 then 15 else if 400 < l.2 then 15 else if 400 < l.1 * l.2 then 15 else 0)
  else 7
theorem mul400 {a b : Int} (h0 : 0 ≤ a) (h1 : a ≤ 400) (h2 : 0 ≤ b) (h3 : b ≤ 400) : 0 ≤ a * b ∧ a * b ≤ 160000 :=
  ⟨Int.mul_nonneg h0 h2, by have := Int.mul_le_mul h1 h3 h2 (by omega : (0 : Int) ≤ 400); omega⟩
theorem wone : IntKind.wrap .i64 1 = 1 := by decide
theorem wtwo : IntKind.wrap .i64 2 = 2 := by decide
theorem m1 : max (1 : Int) 0 = 1 := by decide
theorem product_spec (r : Int) (l : Int × Int) (h : shC r l = 0) : F_shapes_product r l = some (manyC r l) := by
  unfold F_shapes_product manyC
  unfold shC at h
  by_cases h2 : r = 2
  · subst h2
    simp only [decide_true, cond_true, letO, if_true]
    simp (config := { decide := true }) only [if_false, if_true] at h
    split at h
    · cases h
    split at h
    · cases h
    split at h
    · cases h
    split at h
    · cases h
    have hm := mul400 (a := l.1) (b := l.2) (by omega) (by omega) (by omega) (by omega)
    rw [w64 (e := 1 * l.2) (by omega) (by omega), Int.one_mul, Int.mul_comm l.2 l.1, w64 (by omega) (by omega)]
  by_cases h1 : r = 1
  · subst h1
    simp (config := { decide := true }) only [if_false, if_true] at h ⊢
    split at h
    · cases h
    split at h
    case isFalse => cases h
    split at h
    · cases h
    simp only [decide_true, cond_true, decide_false, cond_false, letO]
    rw [w64 (e := 1 * l.1) (by omega) (by omega), Int.one_mul]
  · simp [h1, h2]
theorem shapes_Check_spec (r : Int) (l : Int × Int) : F_shapes_Check r l = some (shC r l) := by
  unfold F_shapes_Check
  by_cases hr : r < 0
  · have : shC r l = 7 := by unfold shC; rw [if_neg (by omega), if_neg (by omega), if_neg (by omega)]
    simp [hr, this]
  by_cases hr2 : 2 < r
  · have : shC r l = 7 := by unfold shC; rw [if_neg (by omega), if_neg (by omega), if_neg (by omega)]
    simp [hr, hr2, this]
  have e1 : decide (r < 0) = false := by simp; omega
  have e2 : decide (2 < r) = false := by simp; omega
  simp only [e1, e2, cond_false]
  rw [sideO_pos ⟨by omega, by omega⟩, sideO_pos ⟨by omega, by omega⟩]
  rw [ContainsFunc1 _ (by simp; omega), ContainsFunc2 _ (by simp; omega), ContainsFunc3 _ (by simp; omega)]
  obtain ⟨a, b⟩ := l
  have hp := product_spec r (a, b)
  rcases (by omega : r = 0 ∨ r = 1 ∨ r = 2) with rfl | rfl | rfl
  · by_cases ha : a = 0 <;> by_cases hb : b = 0 <;> simp [shC, ha, hb, F_shapes_product]
  · by_cases ha : a < 0
    · simp [shC, ha]
    by_cases hb : b = 0
    case neg => simp [shC, ha, hb]
    by_cases h4 : 400 < a
    · simp [shC, ha, hb, h4]
    have hs : shC 1 (a, b) = 0 := by simp [shC, ha, hb, h4]
    have hp' := hp hs
    rw [hb] at hp' hs
    simp [hp', hs, ha, hb, h4, manyC]
  · by_cases ha : a < 0
    · simp [shC, ha]
    by_cases hb : b < 0
    · simp [shC, ha, hb]
    by_cases h4 : 400 < a
    · simp [shC, ha, hb, h4]
    by_cases h5 : 400 < b
    · simp [shC, ha, hb, h4, h5]
    have hm := mul400 (a := a) (b := b) (by omega) (by omega) (by omega) (by omega)
    have hq : F_shapes_product 2 (a, b) = some (a * b) := by
      unfold F_shapes_product
      simp only [decide_true, cond_true, letO]
      rw [w64 (e := 1 * b) (by omega) (by omega), Int.one_mul, Int.mul_comm b a, w64 (by omega) (by omega)]
    by_cases h6 : 400 < a * b
    · simp [shC, ha, hb, h4, h5, h6, hq]
    · simp [shC, ha, hb, h4, h5, h6, hq]
theorem shapes_Cells_spec (r : Int) (l : Int × Int) : F_shapes_Cells r l = some (if shC r l = 0 then manyC r l else 0, shC r l) := by
  unfold F_shapes_Cells
  rw [shapes_Check_spec, Option.bind_some]
  by_cases h : shC r l = 0
  · simp [h, product_spec r l h]
  · simp [h]
theorem Many_spec (r : Int) (l : Int × Int) (h : shC r l = 0 ∨ (r = 2 ∧ 0 ≤ l.1 ∧ l.1 ≤ 400 ∧ 0 ≤ l.2 ∧ l.2 ≤ 400)) : F_invigilatorref05_Many r l = some (manyC r l) := by
  unfold F_invigilatorref05_Many
  obtain ⟨a, b⟩ := l
  by_cases h2 : r = 2
  · subst h2
    have hb : 0 ≤ a ∧ a ≤ 400 ∧ 0 ≤ b ∧ b ≤ 400 := by
      rcases h with h | ⟨_, h⟩
      · unfold shC at h
        simp (config := { decide := true }) only [if_false, if_true] at h
        split at h
        · cases h
        split at h
        · cases h
        split at h
        · cases h
        split at h
        · cases h
        omega
      · exact h
    have hm := mul400 (a := a) (b := b) hb.1 hb.2.1 hb.2.2.1 hb.2.2.2
    have w1 : IntKind.wrap .i64 a = a := w64 (by omega) (by omega)
    have w2 : IntKind.wrap .i64 (a * b) = a * b := w64 (by omega) (by omega)
    rw [lpO_eq]
    simp [sideO, idxO, letO, m1, wone, w1]
    rw [lpO_eq]
    simp [sideO, idxO, letO, m1, wtwo, w2]
    rw [lpO_eq]
    simp [manyC]
  by_cases h1 : r = 1
  · subst h1
    have hb : 0 ≤ a ∧ a ≤ 400 := by
      rcases h with h | ⟨h, _⟩
      · unfold shC at h
        simp (config := { decide := true }) only [if_false, if_true] at h
        split at h
        · cases h
        split at h
        case isFalse => cases h
        split at h
        · cases h
        omega
      · cases h
    have w1 : IntKind.wrap .i64 a = a := w64 (by omega) (by omega)
    rw [lpO_eq]
    simp [sideO, idxO, letO, m1, wone, w1]
    rw [lpO_eq]
    simp [manyC]
  · have h0 : r ≤ 0 := by
      rcases h with h | ⟨h, _⟩
      · unfold shC at h
        rw [if_neg h1, if_neg h2] at h
        split at h
        · omega
        · cases h
      · exact absurd h h2
    have : ¬ 0 < r := by omega
    rw [lpO_eq]
    simp [manyC, h1, h2, this]
theorem ref05_Check_spec (r : Int) (l : Int × Int) : F_invigilatorref05_Check r l = some (shC r l) := by
  unfold F_invigilatorref05_Check
  by_cases hr : r < 0
  · have : shC r l = 7 := by unfold shC; rw [if_neg (by omega), if_neg (by omega), if_neg (by omega)]
    simp [hr, this]
  by_cases hr2 : 2 < r
  · have : shC r l = 7 := by unfold shC; rw [if_neg (by omega), if_neg (by omega), if_neg (by omega)]
    simp [hr, hr2, this]
  have e1 : decide (r < 0) = false := by simp; omega
  have e2 : decide (2 < r) = false := by simp; omega
  simp only [e1, e2, cond_false]
  obtain ⟨a, b⟩ := l
  have hp := Many_spec r (a, b)
  rcases (by omega : r = 0 ∨ r = 1 ∨ r = 2) with rfl | rfl | rfl
  · rw [lpO_eq]
    simp only [decide_false, Int.lt_irrefl, cond_false, Option.bind_some, Sum.elim_inr, Sum.elim_inl]
    rw [lpO_eq]
    by_cases ha : a = 0
    case neg => simp [sideO, idxO, letO, m1, shC, ha]
    simp [sideO, idxO, letO, m1, ha, wone]
    rw [lpO_eq]
    by_cases hb : b = 0
    case neg => simp [sideO, idxO, letO, m1, shC, ha, hb]
    have hs : shC 0 (a, b) = 0 := by simp [shC, ha, hb]
    have hp' := hp (.inl hs)
    rw [ha, hb] at hp' hs
    simp [sideO, idxO, letO, m1, hb, wtwo]
    rw [lpO_eq]
    simp [hp', hs, manyC]
  · rw [lpO_eq]
    by_cases ha : a < 0
    · simp [sideO, idxO, letO, m1, shC, ha]
    simp [sideO, idxO, letO, m1, ha, wone]
    rw [lpO_eq]
    simp
    rw [lpO_eq]
    by_cases hb : b = 0
    case neg => simp [sideO, idxO, letO, m1, shC, ha, hb]
    simp [sideO, idxO, letO, m1, hb, wtwo]
    rw [lpO_eq]
    by_cases h4 : 400 < a
    · simp [shC, ha, h4]
    have hs : shC 1 (a, b) = 0 := by simp [shC, ha, hb, h4]
    have hp' := hp (.inl hs)
    rw [hb] at hp' hs
    simp [hp', hs, manyC, h4]
  · rw [lpO_eq]
    by_cases ha : a < 0
    · simp [sideO, idxO, letO, m1, shC, ha]
    simp [sideO, idxO, letO, m1, ha, wone]
    rw [lpO_eq]
    by_cases hb : b < 0
    · simp [sideO, idxO, letO, m1, shC, ha, hb]
    simp [sideO, idxO, letO, m1, hb, wtwo]
    rw [lpO_eq]
    simp
    rw [lpO_eq]
    by_cases h4 : 400 < a
    · simp [shC, ha, hb, h4]
    by_cases h5 : 400 < b
    · simp [shC, ha, hb, h4, h5]
    have hp' := hp (.inr ⟨rfl, by simp; omega, by simp; omega, by simp; omega, by simp; omega⟩)
    by_cases h6 : 400 < a * b
    · simp [shC, ha, hb, h4, h5, h6, hp', manyC]
    · simp [shC, ha, hb, h4, h5, h6, hp', manyC]
theorem ref05_Cells_spec (r : Int) (l : Int × Int) : F_invigilatorref05_Cells r l = some (if shC r l = 0 then manyC r l else 0, shC r l) := by
  unfold F_invigilatorref05_Cells
  rw [ref05_Check_spec, Option.bind_some]
  by_cases h : shC r l = 0
  · simp [h, Many_spec r l (.inl h)]
  · simp [h]
end Go.Sx.O
namespace Go.Sx.O
open Go
def runeB (c : Int) : Bool := decide (0 ≤ c) && decide (c ≤ 1114111) && (decide (c < 55296) || decide (57343 < c))
def arrC (a : TArray) : Int :=
  if a.Kind = 1 ∨ a.Kind = 2 then
    if shC a.Rank a.Lens = 0 then
      if (a.Cells.length : Int) = manyC a.Rank a.Lens then
        if a.Kind = 2 ∧ (a.Cells.any fun c => !runeB c) = true then 7 else 0
      else 6
    else shC a.Rank a.Lens
  else 2
theorem wrap_i32' {r : Int} (h0 : 0 ≤ r) (h1 : r ≤ 1114111) : IntKind.wrap .i32 r = r := by
  simp only [IntKind.wrap, IntKind.signed, IntKind.bits]
  have h3 : (2 : Int) ^ 32 = 4294967296 := by decide
  have h4 : (2 : Int) ^ (32 - 1) = 2147483648 := by decide
  simp only [h3, h4, Bool.true_and, decide_eq_true_eq, ge_iff_le]
  split <;> omega
theorem ValidRune_spec (c : Int) : F_unicode_utf8_ValidRune c = some (runeB c) := by
  unfold F_unicode_utf8_ValidRune runeB
  by_cases h0 : 0 ≤ c <;> by_cases h1 : c < 55296 <;> by_cases h2 : 57343 < c <;> by_cases h3 : c ≤ 1114111 <;> simp [h0, h1, h2, h3] <;> omega
theorem right_spec (k c : Int) : F_arrays_right k c = some (decide (k = 1) || runeB c) := by
  unfold F_arrays_right
  by_cases hk : k = 1
  · simp [hk]
  by_cases h0 : 0 ≤ c
  case neg => simp [hk, h0, runeB]
  by_cases h1 : c ≤ 1114111
  case neg => simp [hk, h0, h1, runeB]
  simp only [hk, h0, h1, decide_true, decide_false, cond_true, cond_false, letO, wrap_i32' h0 h1, ValidRune_spec, Option.bind_some, Bool.false_or]
theorem rune64_spec (c : Int) : F_invigilatorref06_rune64 c = some (runeB c) := by
  unfold F_invigilatorref06_rune64 runeB
  by_cases h0 : 0 ≤ c <;> by_cases h1 : c < 55296 <;> by_cases h2 : 57343 < c <;> by_cases h3 : c ≤ 1114111 <;> simp [h0, h1, h2, h3]
theorem ContainsFunc4_spec (l : List Int) (a : TArray) (h : l.length ≤ 1000000000) : F_slices_ContainsFunc___int64_int64_ l a = some (l.any fun c => !(decide (a.Kind = 1) || runeB c)) := by
  unfold F_slices_ContainsFunc___int64_int64_ F_slices_IndexFunc___int64_int64_
  refine any_loop (l := l) (fun c => !(decide (a.Kind = 1) || runeB c)) (e := ()) rfl (fun k x hx hlt => ?_) (by simp)
  simp only [List.length_map, Int.ofNat_lt, hlt, decide_true, cond_true, idxO, Int.toNat_natCast, hx, Option.bind_some, letO, Int.natCast_nonneg, if_true, F_arrays_Check_1, right_spec]
  rw [w64 (by omega) (by omega)]
  cases decide (a.Kind = 1) || runeB x <;> rfl
theorem arrays_Check_spec (a : TArray) (h : a.Cells.length ≤ 1000000000) : F_arrays_Check a = some (arrC a) := by
  unfold F_arrays_Check arrC
  rw [shapes_Cells_spec, ContainsFunc4_spec _ _ h]
  simp only [Option.bind_some, List.length_map]
  have key : cond (!decide (shC a.Rank a.Lens = 0)) (some (shC a.Rank a.Lens)) (cond (!decide ((a.Cells.length : Int) = if shC a.Rank a.Lens = 0 then manyC a.Rank a.Lens else 0)) (some 6) (cond (a.Cells.any fun c => !(decide (a.Kind = 1) || runeB c)) (some 7) (some (0 : Int)))) = some (if shC a.Rank a.Lens = 0 then if (a.Cells.length : Int) = manyC a.Rank a.Lens then if (a.Cells.any fun c => !(decide (a.Kind = 1) || runeB c)) = true then 7 else 0 else 6 else shC a.Rank a.Lens) := by
    by_cases h1 : shC a.Rank a.Lens = 0
    case neg => simp [h1]
    by_cases h2 : (a.Cells.length : Int) = manyC a.Rank a.Lens
    case neg => simp [h1, h2]
    simp only [h1, h2, if_true, decide_true, Bool.not_true, cond_false]
    cases (a.Cells.any fun c => !(decide (a.Kind = 1) || runeB c)) <;> rfl
  rw [key]
  by_cases k1 : a.Kind = 1
  · have : (a.Cells.any fun c => !(decide (a.Kind = 1) || runeB c)) = false := by
      rw [List.any_eq_false]; intro c _; simp [k1]
    rw [this]
    simp [k1]
  by_cases k2 : a.Kind = 2
  · have : (a.Cells.any fun c => !(decide (a.Kind = 1) || runeB c)) = a.Cells.any fun c => !runeB c := by
      congr 1; funext c; simp [k1]
    rw [this]
    simp [k2]
  · simp [k1, k2]
theorem ref06_Check_spec (a : TArray) (h : a.Cells.length ≤ 1000000000) : F_invigilatorref06_Check a = some (arrC a) := by
  unfold F_invigilatorref06_Check arrC
  rw [ref05_Cells_spec]
  simp only [Option.bind_some, List.length_map]
  have lp0 : ∀ (v : Int), Option.bind (lpO (fun (_ : Unit) => cond (decide ((0 : Int) < (a.Cells.length : Int))) (some (Sum.inr (Sum.inl ()) : Unit ⊕ (Unit ⊕ Int))) (some (Sum.inr (Sum.inl ())))) ()) (Sum.elim (fun _ => some v) some) = some v := by
    intro v
    rw [lpO_eq]
    cases decide ((0 : Int) < (a.Cells.length : Int)) <;> rfl
  have lp1 : Option.bind (lpO (fun (s : Int × Int) => cond (decide (s.1 < (a.Cells.length : Int))) (cond (decide (s.2 = 0)) (cond (decide (a.Kind = 2)) (idxO a.Cells s.1 fun x => Option.bind (F_invigilatorref06_rune64 x) fun y => cond (!y) (letO (IntKind.wrap .i64 (s.1 + 1)) fun z => some (Sum.inl (z, (7 : Int)))) (letO (IntKind.wrap .i64 (s.1 + 1)) fun z => some (Sum.inl (z, s.2)))) (letO (IntKind.wrap .i64 (s.1 + 1)) fun z => some (Sum.inl (z, s.2)))) (some (Sum.inr (Sum.inl s.2 : Int ⊕ Int)))) (some (Sum.inr (Sum.inl s.2)))) ((0 : Int), (0 : Int))) (Sum.elim (fun v => some v) some) = some (if a.Kind = 2 ∧ (a.Cells.any fun c => !runeB c) = true then 7 else 0) := by
    apply Tot.eq
    rw [tot_bind]
    refine Tot.count a.Cells.length (fun k s => s.1 = (k : Int) ∧ s.2 = if a.Kind = 2 ∧ ((a.Cells.take k).any fun c => !runeB c) = true then 7 else 0) ?_ ⟨rfl, by simp⟩
    rintro k ⟨i, e⟩ hk ⟨rfl, he⟩
    simp only at he
    simp only [tot_cond, tot_some, tot_let, tot_idx, tot_bind, Sum.elim_inl, Sum.elim_inr, decide_eq_true_eq, decide_eq_false_iff_not, Int.toNat_natCast, rune64_spec]
    refine ⟨fun hlt => ⟨fun e0 => ⟨fun k2 => ?_, fun k2 => ?_⟩, fun e0 => ?_⟩, fun hge => ?_⟩
    · obtain ⟨x, hx⟩ := get_lt (l := a.Cells) (i := k) (by omega)
      refine ⟨by omega, x, hx, ?_⟩
      have hp : ((a.Cells.take k).any fun c => !runeB c) = false := by
        rw [e0] at he
        cases hh : (a.Cells.take k).any fun c => !runeB c with
        | false => rfl
        | true => rw [if_pos ⟨k2, hh⟩] at he; cases he
      rw [w64 (by omega) (by omega), List.take_add_one, hx, List.any_append, hp]
      refine ⟨fun g => ⟨by omega, by omega, ?_⟩, fun g => ⟨by omega, by omega, ?_⟩⟩
      · simp at g; simp [k2, g]
      · simp at g; simp [g, e0]
    · rw [w64 (by omega) (by omega)]
      refine ⟨by omega, by omega, ?_⟩
      rw [if_neg (fun h => k2 h.1)]; exact e0
    · have k2 : a.Kind = 2 ∧ ((a.Cells.take k).any fun c => !runeB c) = true := by
        by_cases hh : a.Kind = 2 ∧ ((a.Cells.take k).any fun c => !runeB c) = true
        · exact hh
        · rw [if_neg hh] at he; exact absurd he e0
      rw [if_pos k2] at he
      rw [he, if_pos]
      refine ⟨k2.1, ?_⟩
      obtain ⟨x, hx, hb⟩ := List.any_eq_true.1 k2.2
      exact List.any_eq_true.2 ⟨x, List.mem_of_mem_take hx, hb⟩
    · rw [List.take_of_length_le (by omega)] at he
      exact he
  by_cases h1 : shC a.Rank a.Lens = 0
  case neg =>
    simp only [h1, decide_false, cond_false, if_false, lp0]
    by_cases k1 : a.Kind = 1
    · simp [k1]
    by_cases k2 : a.Kind = 2
    · simp [k2]
    · simp [k1, k2]
  simp only [h1, decide_true, cond_true, if_true]
  by_cases h2 : (a.Cells.length : Int) = manyC a.Rank a.Lens
  case neg =>
    simp only [h2, decide_false, Bool.not_false, cond_true, if_false, lp0]
    by_cases k1 : a.Kind = 1
    · simp [k1]
    by_cases k2 : a.Kind = 2
    · simp [k2]
    · simp [k1, k2]
  rw [lp1]
  simp only [h2, decide_true, Bool.not_true, cond_false, if_true]
  by_cases k1 : a.Kind = 1
  · simp [k1]
  by_cases k2 : a.Kind = 2
  · simp [k2]
  · simp [k1, k2]
end Go.Sx.O
namespace Go.Sx.O
open Go
theorem lp_scanSE {σ τ ε : Type} {step : σ → Option (σ ⊕ (ε ⊕ τ))} {k1 : ε → Option τ} (n : Nat) (S : Nat → σ) (f : Nat → Option τ) (e : ε)
    (h1 : ∀ k : Nat, k < n → step (S k) = some (match f k with | some r => .inr (.inr r) | none => .inl (S (k + 1))))
    {s0 : σ} (h0 : S 0 = s0) (h2 : step (S n) = some (.inr (.inl e))) : (lpO step s0).bind (Sum.elim k1 some) = match scan f 0 n with | some r => some r | none => k1 e := by
  subst h0
  rw [lp_scanS n S (fun k => (f k).map Sum.inr) (.inl e) (fun k hk => by rw [h1 k hk]; cases f k <;> rfl) h2, scan_map]
  cases scan f 0 n <;> rfl
def isZ (a : TArray) : Bool := decide (a.Kind = 0) && (decide (a.Rank = 0) && (decide (a.Lens.1 = 0) && (decide (a.Lens.2 = 0) && decide (a.Cells.length = 0))))
theorem isZ_iff {a : TArray} : isZ a = true ↔ a = TArray.mk 0 0 (0, 0) [] := by
  obtain ⟨k, r, ⟨p, q⟩, c⟩ := a
  unfold isZ
  simp only [Bool.and_eq_true, decide_eq_true_eq, TArray.mk.injEq, Prod.mk.injEq, List.length_eq_zero_iff]
  constructor
  · rintro ⟨h1, h2, h3, h4, h5⟩; exact ⟨h1, h2, ⟨h3, h4⟩, h5⟩
  · rintro ⟨h1, h2, ⟨h3, h4⟩, h5⟩; exact ⟨h1, h2, h3, h4, h5⟩
theorem none31_spec (a : TArray) : F_invigilatorref31_none a = some (isZ a) := by
  unfold F_invigilatorref31_none isZ
  have e : decide (((List.length (List.map (SV.int IntKind.i64) a.Cells) : Nat) : Int) = 0) = decide (a.Cells.length = 0) := by
    rw [List.length_map, Bool.eq_iff_iff]; simp
  rw [e]
  cases decide (a.Kind = 0) <;> cases decide (a.Rank = 0) <;> cases decide (a.Lens.1 = 0) <;> cases decide (a.Lens.2 = 0) <;> rfl
theorem sameZ_spec (a : TArray) (h : a.Cells.length ≤ 1000000000) : F_view_sameArray a (TArray.mk 0 0 (0, 0) []) = some (isZ a) := by
  apply Tot.eq
  refine (sameArray_spec a _ h).mono fun r hr => ?_
  rw [Bool.eq_iff_iff, hr, isZ_iff]
def evC (l : TLattice) (most : Int) (v : TEvEvent) (before : Int) (last : Bool) : Int :=
  if isLab l v.Label = false then 7 else if v.Site < 0 then 7 else if 1000000000 < v.Site then 7 else if v.Steps < before then 7 else if most < v.Steps then 7
  else if v.Kind < 1 then 6 else if 4 < v.Kind then 6 else if (decide (v.Kind = 1) == last) = true then 6 else if ((!decide (v.E = 0)) == decide (v.Kind = 2)) = false then 6
  else if v.Kind = 1 then (if exN v.Channel = true then (if arrC v.Value = 0 then 0 else 6) else 6)
  else if v.Channel = [] then (if isZ v.Value = true then 0 else 6) else 6
theorem bad_spec (l : TLattice) (v : TEvEvent) (before most : Int) (last : Bool) (h : v.Channel.length ≤ 100) (h2 : v.Value.Cells.length ≤ 450) : F_view_bad l v before most last = some (evC l most v before last) := by
  unfold F_view_bad evC
  rw [label_spec, expr_Name_spec _ (by omega), arrays_Check_spec _ (by omega), sameZ_spec _ (by omega)]
  have hnil : decide (v.Channel = (ByteArray.mk #[]).data.toList) = decide (v.Channel = []) := rfl
  simp only [Option.bind_some]
  cases g1 : isLab l v.Label with
  | false => simp
  | true =>
  by_cases g2 : v.Site < 0
  · simp [g2]
  by_cases g3 : 1000000000 < v.Site
  · simp [g2, g3]
  by_cases g4 : v.Steps < before
  · simp [g2, g3, g4]
  by_cases g5 : most < v.Steps
  · simp [g2, g3, g4, g5]
  by_cases g6 : v.Kind < 1
  · simp [g2, g3, g4, g5, g6]
  by_cases g7 : 4 < v.Kind
  · simp [g2, g3, g4, g5, g6, g7]
  cases g8 : (decide (v.Kind = 1) == last) with
  | true => simp only [g2, g3, g4, g5, g6, g7, decide_false, cond_false, cond_true, Bool.not_true, if_false, if_true, Bool.true_eq_false]
  | false =>
  cases g9 : ((!decide (v.E = 0)) == decide (v.Kind = 2)) with
  | false => simp only [g2, g3, g4, g5, g6, g7, decide_false, cond_false, cond_true, Bool.not_true, Bool.not_false, if_false, if_true, Bool.true_eq_false, Bool.false_eq_true]
  | true =>
  simp only [g2, g3, g4, g5, g6, g7, decide_false, cond_false, Bool.not_true, if_false, Bool.true_eq_false, Bool.false_eq_true]
  by_cases g10 : v.Kind = 1
  · simp only [g10, decide_true, cond_true, if_true]
    cases exN v.Channel with
    | false => simp
    | true =>
      by_cases g11 : arrC v.Value = 0
      · simp [g11]
      · simp [g11]
  · simp only [g10, decide_false, cond_false, if_false, hnil]
    by_cases g11 : v.Channel = []
    · simp only [g11, decide_true, Bool.not_true, cond_false, if_true]
      cases isZ v.Value <;> rfl
    · simp [g11]
theorem label20_spec (l : TLattice) (a : Int) : F_invigilatorref20_Label l a = some (isLab l a) := by
  unfold F_invigilatorref20_Label isLab
  rw [List.length_map]
  cases decide (0 ≤ a) <;> rfl
theorem event31_spec (l : TLattice) (t : TEvTrace) (v : TEvEvent) (before : Int) (last : Bool) (h : v.Channel.length ≤ 100) (h2 : v.Value.Cells.length ≤ 450) : F_invigilatorref31_event l t v before last = some (evC l t.Steps v before last) := by
  unfold F_invigilatorref31_event evC
  rw [label20_spec, ref15_Name_spec _ (by omega), ref06_Check_spec _ (by omega), none31_spec]
  have hnil : decide (v.Channel = (ByteArray.mk #[]).data.toList) = decide (v.Channel = []) := rfl
  simp only [Option.bind_some]
  cases g1 : isLab l v.Label with
  | false => simp
  | true =>
  by_cases g2 : v.Site < 0
  · simp [g2]
  by_cases g3 : 1000000000 < v.Site
  · simp [g2, g3]
  by_cases g4 : v.Steps < before
  · simp [g2, g3, g4]
  by_cases g5 : t.Steps < v.Steps
  · simp [g2, g3, g4, g5]
  by_cases g6 : v.Kind < 1
  · simp [g2, g3, g4, g5, g6]
  by_cases g7 : 4 < v.Kind
  · simp [g2, g3, g4, g5, g6, g7]
  cases g8 : (decide (v.Kind = 1) == last) with
  | true => simp only [g2, g3, g4, g5, g6, g7, decide_false, cond_false, cond_true, Bool.not_true, if_false, if_true, Bool.true_eq_false]
  | false =>
  cases g9 : ((!decide (v.E = 0)) == decide (v.Kind = 2)) with
  | false => simp only [g2, g3, g4, g5, g6, g7, decide_false, cond_false, cond_true, Bool.not_true, Bool.not_false, if_false, if_true, Bool.true_eq_false, Bool.false_eq_true]
  | true =>
  simp only [g2, g3, g4, g5, g6, g7, decide_false, cond_false, Bool.not_true, if_false, Bool.true_eq_false, Bool.false_eq_true]
  by_cases g10 : v.Kind = 1
  · simp only [g10, decide_true, Bool.not_true, cond_false, cond_true, if_true]
    cases exN v.Channel with
    | false => simp
    | true =>
      by_cases g11 : arrC v.Value = 0
      · simp [g11]
      · simp [g11]
  · simp only [g10, decide_false, Bool.not_false, cond_true, cond_false, if_false, hnil]
    by_cases g11 : v.Channel = []
    · simp only [g11, decide_true, Bool.not_true, cond_false, if_true]
      cases isZ v.Value <;> rfl
    · simp [g11]
def enC (l : TLattice) (x : TReEntry) : Int :=
  if isLab l x.From = false then 7 else if isLab l x.Goal = false then 7 else if x.Fold < 1 then 6 else if 4 < x.Fold then 6 else if x.Cells < 0 then 6 else if 400 < x.Cells then 6
  else if x.Site < 0 then 6 else if 1000000000 < x.Site then 6 else if x.Value.1 = 1 then 0 else if x.Value.1 = 0 ∧ x.Value.2 = 0 then 0 else 6
theorem entry31_spec (l : TLattice) (x : TReEntry) : F_invigilatorref31_entry l x = some (enC l x) := by
  unfold F_invigilatorref31_entry enC
  rw [label20_spec, label20_spec]
  simp only [Option.bind_some]
  cases g1 : isLab l x.From with
  | false => simp
  | true =>
  cases g2 : isLab l x.Goal with
  | false => simp
  | true =>
  by_cases g3 : x.Fold < 1
  · simp [g3]
  by_cases g4 : 4 < x.Fold
  · simp [g3, g4]
  by_cases g5 : x.Cells < 0
  · simp [g3, g4, g5]
  by_cases g6 : 400 < x.Cells
  · simp [g3, g4, g5, g6]
  by_cases g7 : x.Site < 0
  · simp [g3, g4, g5, g6, g7]
  by_cases g8 : 1000000000 < x.Site
  · simp [g3, g4, g5, g6, g7, g8]
  by_cases g9 : x.Value.1 = 1
  · simp [g3, g4, g5, g6, g7, g8, g9]
  by_cases g10 : x.Value.1 = 0
  · by_cases g11 : x.Value.2 = 0
    · simp [g3, g4, g5, g6, g7, g8, g10, g11]
    · simp [g3, g4, g5, g6, g7, g8, g10, g11]
  · simp [g3, g4, g5, g6, g7, g8, g9, g10]
def befS (t : TEvTrace) : Nat → Int
  | 0 => 0
  | k + 1 => match t.Events[k]? with | some v => v.Steps | none => 0
def evF (l : TLattice) (t : TEvTrace) (k : Nat) : Option (Int × Int) := match t.Events[k]? with
  | some v => if evC l t.Steps v (befS t k) (decide (k + 1 = t.Events.length)) = 0 then none else some ((k : Int), evC l t.Steps v (befS t k) (decide (k + 1 = t.Events.length)))
  | none => none
def enF (l : TLattice) (t : TEvTrace) (k : Nat) : Option (Int × Int) := match t.Log[k]? with
  | some x => if enC l x = 0 then none else some ((t.Events.length : Int), enC l x)
  | none => none
def trC (l : TLattice) (t : TEvTrace) : Int × Int :=
  if (latC l).2 = 0 then
    if t.Events.length = 0 then (-1, 6)
    else match scan (evF l t) 0 t.Events.length with
      | some r => r
      | none => match scan (enF l t) 0 t.Log.length with
        | some r => r
        | none => (0, 0)
  else (-1, (latC l).2)
theorem last_eq {n k : Nat} (h : n ≤ 60) (h0 : 0 < n) : decide ((k : Int) = IntKind.wrap .i64 ((n : Int) - 1)) = decide (k + 1 = n) := by
  rw [w64 (by omega) (by omega), Bool.eq_iff_iff]; simp; omega
theorem Check31_eq {l : TLattice} {t : TEvTrace} (hl : LatIn l) (ht : TraceIn t) : F_invigilatorref31_Check l t = some (trC l t) := by
  unfold F_invigilatorref31_Check trC
  rw [ref_Check_eq l hl.u8 hl.names hl.name]
  simp only [Option.bind_some, List.length_map]
  by_cases h0 : (latC l).2 = 0
  case neg => simp [h0]
  simp only [h0, decide_true, cond_true, Bool.not_true, cond_false, if_true]
  by_cases h1 : t.Events.length = 0
  · simp [h1]
  have h1' : decide ((t.Events.length : Int) = 0) = false := decide_eq_false (by omega)
  simp only [h1', cond_false, h1, if_false]
  have hev := ht.events
  have hlg := ht.log
  rw [lp_scanSE t.Events.length (fun k => ((k : Int), befS t k)) (evF l t) () (fun k hk => ?_) (s0 := ((0 : Int), (0 : Int))) rfl ?_]
  · cases scan (evF l t) 0 t.Events.length with
    | some r => rfl
    | none =>
      simp only
      rw [lp_scanE t.Log.length (enF l t) () (fun k hk => ?_) ?_]
      · cases scan (enF l t) 0 t.Log.length <;> rfl
      · simp
      · obtain ⟨x, hx⟩ := get_lt (l := t.Log) hk
        simp only [Int.ofNat_lt, hk, decide_true, cond_true, idxO, Int.toNat_natCast, hx, Option.bind_some, letO, Int.natCast_nonneg, if_true, entry31_spec, enF]
        rw [w64 (by omega) (by omega)]
        by_cases g : enC l x = 0
        · simp [g]
        · simp [g]
  · simp
  · obtain ⟨v, hv⟩ := get_lt (l := t.Events) hk
    have hvm := ht.event v (List.mem_of_getElem? hv)
    simp only [Int.ofNat_lt, hk, decide_true, cond_true, idxO, Int.toNat_natCast, hv, Option.bind_some, letO, Int.natCast_nonneg, if_true, evF, last_eq hev (by omega : 0 < t.Events.length)]
    rw [event31_spec _ _ _ _ _ hvm.1 hvm.2]
    rw [w64 (e := (k : Int) + 1) (by omega) (by omega)]
    have hb : befS t (k + 1) = v.Steps := by simp [befS, hv]
    by_cases g : evC l t.Steps v (befS t k) (decide (k + 1 = t.Events.length)) = 0
    · simp [g, hb]
    · simp [g]
theorem Check_view_eq {l : TLattice} {t : TEvTrace} (hl : LatIn l) (ht : TraceIn t) : F_view_Check l t = some (trC l t) := by
  unfold F_view_Check trC
  rw [Check_exact l hl.u8 hl.names hl.name]
  simp only [Option.bind_some, List.length_map]
  by_cases h0 : (latC l).2 = 0
  case neg => simp [h0]
  simp only [h0, decide_true, Bool.not_true, cond_false, if_true]
  by_cases h1 : t.Events.length = 0
  · simp [h1]
  have h1' : decide ((t.Events.length : Int) = 0) = false := decide_eq_false (by omega)
  simp only [h1', cond_false, h1, if_false]
  have hev := ht.events
  have hlg := ht.log
  simp only [letO]
  rw [lp_scanSE t.Events.length (fun k => ((k : Int), befS t k)) (evF l t) () (fun k hk => ?_) (s0 := ((0 : Int), (0 : Int))) rfl ?_]
  · cases scan (evF l t) 0 t.Events.length with
    | some r => rfl
    | none =>
      simp only
      rw [lp_scanE t.Log.length (enF l t) () (fun k hk => ?_) ?_]
      · cases scan (enF l t) 0 t.Log.length <;> rfl
      · simp
      · obtain ⟨x, hx⟩ := get_lt (l := t.Log) hk
        simp only [Int.ofNat_lt, hk, decide_true, cond_true, idxO, Int.toNat_natCast, hx, Option.bind_some, Int.natCast_nonneg, if_true, label_spec, enF]
        rw [w64 (by omega) (by omega)]
        by_cases g1 : isLab l x.From = false
        · have he : enC l x = 7 := by simp [enC, g1]
          simp [he, g1]
        rw [Bool.not_eq_false] at g1
        by_cases g2 : isLab l x.Goal = false
        · have he : enC l x = 7 := by simp [enC, g1, g2]
          simp [he, g1, g2]
        rw [Bool.not_eq_false] at g2
        by_cases g3 : x.Fold < 1
        · have he : enC l x = 6 := by simp [enC, g1, g2, g3]
          simp [he, g1, g2, g3]
        by_cases g4 : 4 < x.Fold
        · have he : enC l x = 6 := by simp [enC, g1, g2, g3, g4]
          simp [he, g1, g2, g3, g4]
        by_cases g5 : x.Cells < 0
        · have he : enC l x = 6 := by simp [enC, g1, g2, g3, g4, g5]
          simp [he, g1, g2, g3, g4, g5]
        by_cases g6 : 400 < x.Cells
        · have he : enC l x = 6 := by simp [enC, g1, g2, g3, g4, g5, g6]
          simp [he, g1, g2, g3, g4, g5, g6]
        by_cases g7 : x.Site < 0
        · have he : enC l x = 6 := by simp [enC, g1, g2, g3, g4, g5, g6, g7]
          simp [he, g1, g2, g3, g4, g5, g6, g7]
        by_cases g8 : 1000000000 < x.Site
        · have he : enC l x = 6 := by simp [enC, g1, g2, g3, g4, g5, g6, g7, g8]
          simp [he, g1, g2, g3, g4, g5, g6, g7, g8]
        by_cases g9 : x.Value.1 = 1
        · have he : enC l x = 0 := by simp [enC, g1, g2, g3, g4, g5, g6, g7, g8, g9]
          simp [he, g1, g2, g3, g4, g5, g6, g7, g8, g9]
        by_cases g10 : x.Value.1 = 0 ∧ x.Value.2 = 0
        · have he : enC l x = 0 := by simp [enC, g1, g2, g3, g4, g5, g6, g7, g8, g10]
          simp [he, g1, g2, g3, g4, g5, g6, g7, g8, g10]
        · have he : enC l x = 6 := by simp only [enC, g1, g2, g3, g4, g5, g6, g7, g8, g9, g10, if_false, Bool.true_eq_false]
          have hd : (!decide (x.Value.1 = 0) || !decide (x.Value.2 = 0)) = true := by
            by_cases q1 : x.Value.1 = 0
            · have q2 : ¬ x.Value.2 = 0 := fun q => g10 ⟨q1, q⟩
              simp [q2]
            · simp [q1]
          simp [he, g1, g2, g3, g4, g5, g6, g7, g8, g9, hd]
  · simp
  · obtain ⟨v, hv⟩ := get_lt (l := t.Events) hk
    have hvm := ht.event v (List.mem_of_getElem? hv)
    simp only [Int.ofNat_lt, hk, decide_true, cond_true, idxO, Int.toNat_natCast, hv, Option.bind_some, Int.natCast_nonneg, if_true, evF, last_eq hev (by omega : 0 < t.Events.length)]
    rw [bad_spec _ _ _ _ _ hvm.1 hvm.2]
    rw [w64 (e := (k : Int) + 1) (by omega) (by omega)]
    have hb : befS t (k + 1) = v.Steps := by simp [befS, hv]
    by_cases g : evC l t.Steps v (befS t k) (decide (k + 1 = t.Events.length)) = 0
    · simp [g, hb]
    · simp [g]
end Go.Sx.O
namespace Go.Sx.O
open Go
theorem asked31_eq {l : TLattice} (hl : LatIn l) (o : Int) (ts : List TEvTrace) (ht : ∀ t ∈ ts, TraceIn t) (hn : ts.length ≤ 3) : F_invigilatorref31_asked l o ts = some (vask l o ts) := by
  rw [← vasked_spec hl o ts ht hn]
  have e : F_invigilatorref31_asked l o ts = F_view_asked l o ts := by
    unfold F_invigilatorref31_asked F_view_asked
    congr 1
    · congr 1
      funext s
      simp only [List.length_map]
      by_cases hs : s < (ts.length : Int)
      case neg => simp [hs]
      by_cases h0 : 0 ≤ s
      case neg => simp [hs, idxO, h0]
      obtain ⟨t, hx⟩ := get_lt (l := ts) (i := s.toNat) (by omega)
      have := ht t (List.mem_of_getElem? hx)
      simp only [hs, idxO, h0, if_true, hx, Option.bind_some, Check31_eq hl this, Check_view_eq hl this]
  exact e
theorem sees31_spec {l : TLattice} (h : LatIn l) (a o : Int) : F_invigilatorref31_sees l a o = some (sees l a o) := by
  unfold F_invigilatorref31_sees
  rw [ref_Leq_spec h]; rfl
theorem seen31_spec {l : TLattice} (h : LatIn l) (t : TEvTrace) (o : Int) (ht : t.Events.length ≤ 60) : F_invigilatorref31_seen l t o = some (seenE l t o) := by
  unfold F_invigilatorref31_seen
  apply Tot.eq
  rw [tot_bind]
  refine Tot.count t.Events.length (fun k s => s.1 = (k : Int) ∧ s.2 = (t.Events.take k).filter fun v => sees l v.Label o) ?_ ⟨rfl, by simp⟩
  rintro k ⟨i, out⟩ hk ⟨h0, h1⟩
  simp only at h0 h1
  subst h0
  simp only [List.length_map, tot_cond, tot_some, tot_let, tot_idx, tot_side, tot_bind, Sum.elim_inl, Sum.elim_inr, decide_eq_true_eq, decide_eq_false_iff_not, Int.toNat_natCast]
  refine ⟨fun hlt => ?_, fun hlt => ?_⟩
  · obtain ⟨x, hx⟩ := get_lt (l := t.Events) (i := k) (by omega)
    refine ⟨by omega, x, hx, ?_⟩
    rw [sees31_spec h, tot_some]
    have hlen : out.length ≤ k := by
      rw [h1]
      refine Nat.le_trans (List.length_filter_le _ _) (by simp; omega)
    rw [w64 (by omega) (by omega)]
    have hs : ((t.Events.take (k + 1)).filter fun v => sees l v.Label o) = out ++ (if sees l x.Label o = true then [x] else []) := by
      rw [List.take_add_one, hx, List.filter_append, ← h1]
      congr 1
      simp only [Option.toList_some, List.filter_cons, List.filter_nil]
    refine ⟨fun g => ⟨by omega, x, hx, by omega, by omega, by omega, ?_⟩, fun g => ⟨by omega, by omega, ?_⟩⟩
    · rw [hs, g]; rfl
    · rw [hs, g]; simp
  · rw [h1, List.take_of_length_le (by omega)]; rfl
theorem log31_spec {l : TLattice} (h : LatIn l) (t : TEvTrace) (o : Int) (ht : t.Log.length ≤ 60) : F_invigilatorref31_log l t o = some (seenL l t o) := by
  unfold F_invigilatorref31_log
  apply Tot.eq
  rw [tot_bind]
  refine Tot.count t.Log.length (fun k s => s.1 = (k : Int) ∧ s.2 = (t.Log.take k).filter fun v => sees l v.Goal o) ?_ ⟨rfl, by simp⟩
  rintro k ⟨i, out⟩ hk ⟨h0, h1⟩
  simp only at h0 h1
  subst h0
  simp only [List.length_map, tot_cond, tot_some, tot_let, tot_idx, tot_side, tot_bind, Sum.elim_inl, Sum.elim_inr, decide_eq_true_eq, decide_eq_false_iff_not, Int.toNat_natCast]
  refine ⟨fun hlt => ?_, fun hlt => ?_⟩
  · obtain ⟨x, hx⟩ := get_lt (l := t.Log) (i := k) (by omega)
    refine ⟨by omega, x, hx, ?_⟩
    rw [sees31_spec h, tot_some]
    have hlen : out.length ≤ k := by
      rw [h1]
      refine Nat.le_trans (List.length_filter_le _ _) (by simp; omega)
    rw [w64 (by omega) (by omega)]
    have hs : ((t.Log.take (k + 1)).filter fun v => sees l v.Goal o) = out ++ (if sees l x.Goal o = true then [x] else []) := by
      rw [List.take_add_one, hx, List.filter_append, ← h1]
      congr 1
      simp only [Option.toList_some, List.filter_cons, List.filter_nil]
    refine ⟨fun g => ⟨by omega, x, hx, by omega, by omega, by omega, ?_⟩, fun g => ⟨by omega, by omega, ?_⟩⟩
    · rw [hs, g]; rfl
    · rw [hs, g]; simp
  · rw [h1, List.take_of_length_le (by omega)]; rfl
noncomputable def eqB {α : Type} (a b : α) : Bool := @decide (a = b) (Classical.propDecidable _)
theorem eqB_iff {α : Type} {a b : α} : eqB a b = true ↔ a = b := by unfold eqB; exact @decide_eq_true_iff _ (Classical.propDecidable _)
theorem eqB_of {α : Type} {a b : α} {r : Bool} (h : r = true ↔ a = b) : r = eqB a b := Bool.eq_iff_iff.2 (h.trans eqB_iff.symm)
theorem eqB_self {α : Type} (a : α) : eqB a a = true := eqB_iff.2 rfl
theorem SameEvents_eq (a b : List TEvEvent) (h : a.length ≤ 1000000) (hv : ∀ v ∈ a, v.Value.Cells.length ≤ 450) : F_invigilatorref29_SameEvents a b = some (eqB a b) :=
  Tot.eq ((SameEvents_spec a b h hv).mono fun _ hr => eqB_of hr)
section
variable {l : TLattice} {a b : TEvTrace} (hl : LatIn l) (ha : TraceIn a) (hb : TraceIn b) (o : Int)
include hl ha hb
omit hb in
theorem Pairs31_eq : F_invigilatorref31_Pairs l a o = some (if vask l o [a] = 0 then (seenL l a o).map fun x => x.Value else [], vask l o [a]) := by
  unfold F_invigilatorref31_Pairs
  rw [asked31_eq hl o [a] (by simpa using ha) (by simp), Option.bind_some]
  by_cases h : vask l o [a] = 0
  case neg => simp [h]
  rw [log31_spec hl a o ha.log]
  simp only [h, decide_true, Bool.not_true, cond_false, if_true, Option.bind_some]
  have hlen := seenL_len (l := l) (o := o) ha
  apply Tot.eq
  rw [tot_bind]
  refine Tot.count (seenL l a o).length (fun k s => s.1 = (k : Int) ∧ s.2 = ((seenL l a o).take k).map fun v => v.Value) ?_ ⟨rfl, by simp⟩
  rintro k ⟨i, out⟩ hk ⟨h0, h1⟩
  simp only at h0 h1
  subst h0
  simp only [List.length_map, tot_cond, tot_some, tot_let, tot_idx, tot_side, tot_bind, Sum.elim_inl, Sum.elim_inr, decide_eq_true_eq, decide_eq_false_iff_not, Int.toNat_natCast]
  refine ⟨fun hlt => ?_, fun hlt => ?_⟩
  · obtain ⟨x, hx⟩ := get_lt (l := seenL l a o) (i := k) (by omega)
    refine ⟨by omega, x, hx, ?_⟩
    have hlen' : out.length ≤ k := by
      rw [h1, List.length_map]; simp; omega
    rw [w64 (by omega) (by omega), List.take_add_one, hx, List.map_append, ← h1]
    exact ⟨by omega, by omega, by omega, by simp⟩
  · rw [h1, List.take_of_length_le (by omega)]
end
end Go.Sx.O
namespace Go.Sx.O
open Go
section
variable {l : TLattice} {a b : TEvTrace} (hl : LatIn l) (ha : TraceIn a) (hb : TraceIn b) (o : Int)
include hl ha hb
end
end Go.Sx.O
namespace Go.Sx.O
open Go
theorem Events31_eq {l : TLattice} {t : TEvTrace} (hl : LatIn l) (ht : TraceIn t) (o : Int) : F_invigilatorref31_Events l t o = some (if vask l o [t] = 0 then seenE l t o else [], vask l o [t]) := by
  rw [← Events_spec hl ht o]
  unfold F_invigilatorref31_Events F_view_Events
  rw [asked31_eq hl o [t] (by simpa using ht) (by simp), vasked_spec hl o [t] (by simpa using ht) (by simp), seen31_spec hl t o ht.events, events_spec hl t o (by have := ht.events; omega)]
  rfl
theorem SamePairs_refl (x : List (Int × Int)) (h : x.length ≤ 60) : F_invigilatorref31_SamePairs x x = some true := by
  unfold F_invigilatorref31_SamePairs
  apply Tot.eq
  simp only [List.length_map, tot_bind]
  refine Tot.count x.length (fun k s => s = (k : Int)) ?_ rfl
  rintro k _ hk rfl
  simp only [tot_cond, tot_some, tot_let, tot_idx, tot_bind, Sum.elim_inl, Sum.elim_inr, decide_eq_true_eq, decide_eq_false_iff_not, Int.toNat_natCast]
  refine ⟨fun hlt => ⟨fun _ => ?_, fun h => absurd hlt h⟩, fun _ => by simp⟩
  obtain ⟨u, hu⟩ := get_lt (l := x) (i := k) (by omega)
  refine ⟨by omega, u, hu, by omega, u, hu, fun e => by simp at e, fun _ => ?_⟩
  rw [w64 (by omega) (by omega)]
  exact ⟨by omega, by omega⟩
theorem Channel31_spec (t : TEvTrace) (name : List UInt8) (h : t.Events.length ≤ 60) : F_invigilatorref31_Channel t name = some (chan t name) := by
  unfold F_invigilatorref31_Channel
  apply Tot.eq
  rw [tot_bind]
  refine Tot.count t.Events.length (fun k s => s.1 = (k : Int) ∧ s.2 = ((t.Events.take k).filter fun v => decide (v.Kind = 1) && decide (v.Channel = name)).map fun v => v.Value) ?_ ⟨rfl, by simp⟩
  rintro k ⟨i, out⟩ hk ⟨h0, h1⟩
  simp only at h0 h1
  subst h0
  simp only [List.length_map, tot_cond, tot_some, tot_let, tot_idx, tot_side, tot_bind, Sum.elim_inl, Sum.elim_inr, decide_eq_true_eq, decide_eq_false_iff_not, Int.toNat_natCast]
  refine ⟨fun hlt => ?_, fun hlt => ?_⟩
  · obtain ⟨x, hx⟩ := get_lt (l := t.Events) (i := k) (by omega)
    refine ⟨by omega, x, hx, ?_⟩
    have hlen : out.length ≤ k := by
      rw [h1, List.length_map]; exact Nat.le_trans (List.length_filter_le _ _) (by simp; omega)
    rw [w64 (by omega) (by omega)]
    have hs : ((t.Events.take (k + 1)).filter fun v => decide (v.Kind = 1) && decide (v.Channel = name)).map (fun v => v.Value) = out ++ (if (decide (x.Kind = 1) && decide (x.Channel = name)) = true then [x.Value] else []) := by
      rw [List.take_add_one, hx, List.filter_append, List.map_append, ← h1]
      congr 1
      simp only [Option.toList_some, List.filter_cons, List.filter_nil]
      split <;> rfl
    refine ⟨fun g => ⟨by omega, x, hx, fun g' => ⟨by omega, x, hx, by omega, by omega, by omega, ?_⟩, fun g' => ⟨by omega, by omega, ?_⟩⟩, fun g => ⟨by omega, by omega, ?_⟩⟩
    · rw [hs]; simp [g, g']
    · rw [hs]; simp [g']
    · rw [hs]; simp [g]
  · rw [h1, List.take_of_length_le (by omega)]; rfl
theorem SameArrays_chan (t : TEvTrace) (ht : TraceIn t) (name : List UInt8) : F_invigilatorref31_SameArrays (chan t name) (chan t name) = some true := by
  have hcl : ∀ a ∈ chan t name, a.Cells.length ≤ 450 := by
    intro a ha
    unfold chan at ha
    obtain ⟨w, hw, rfl⟩ := List.mem_map.1 ha
    exact (ht.event w (List.mem_filter.1 hw).1).2
  have hcn : (chan t name).length ≤ 60 := by
    unfold chan; rw [List.length_map]; exact Nat.le_trans (List.length_filter_le _ _) ht.events
  exact Tot.eq ((SameArrays_spec _ _ (by omega) hcl).mono fun r hr => hr.2 rfl)
theorem ViewChecks_law (l : TLattice) (t : TEvTrace) (o : Int) (hu : U8s l.Up) : F_invigilatorlaw31_ViewChecks l t o = some true := by
  unfold F_invigilatorlaw31_ViewChecks
  obtain ⟨x0, e0, hl0⟩ := Large_spec l
  obtain ⟨xa, ea, ha0⟩ := far_spec t
  simp only [e0, ea, Option.bind_some]
  cases x0 with
  | true => rfl
  | false =>
  cases xa with
  | true => rfl
  | false =>
  simp only [cond_false]
  obtain ⟨n1, n2, n3⟩ := hl0 rfl
  have hl : LatIn l := ⟨hu, n1, n3⟩
  obtain ⟨p1, p2, p3⟩ := ha0 rfl
  have ht : TraceIn t := ⟨p1, p2, p3⟩
  rw [Check_view_eq hl ht, Check31_eq hl ht, Events_spec hl ht o, Events31_eq hl ht o, Pairs_spec hl ht o, Pairs31_eq hl ht o]
  have hse : F_invigilatorref29_SameEvents (if vask l o [t] = 0 then seenE l t o else []) (if vask l o [t] = 0 then seenE l t o else []) = some true := by
    split
    · rw [SameEvents_eq _ _ (by have := seenE_len (l := l) (o := o) ht; omega) (seenE_val ht), eqB_self]
    · rw [SameEvents_eq _ _ (by simp) (by simp), eqB_self]
  have hsp : F_invigilatorref31_SamePairs (if vask l o [t] = 0 then (seenL l t o).map fun x => x.Value else []) (if vask l o [t] = 0 then (seenL l t o).map fun x => x.Value else []) = some true := by
    split
    · exact SamePairs_refl _ (by rw [List.length_map]; exact seenL_len ht)
    · exact SamePairs_refl _ (by simp)
  have hch : ∀ name, F_view_Channel t name = some (chan t name) := fun name => Channel_spec t name ht.events
  have hch' : ∀ name, F_invigilatorref31_Channel t name = some (chan t name) := fun name => Channel31_spec t name ht.events
  simp only [Option.bind_some, decide_true, Bool.not_true, cond_false, cond_true, hse, hsp, hch, hch', SameArrays_chan t ht, List.length_map]
  cases g1 : decide (0 ≤ o) with
  | false => rfl
  | true =>
  cases g2 : decide ((0 : Int) < (t.Events.length : Int)) with
  | false => rfl
  | true =>
  simp only [decide_eq_true_eq] at g1 g2
  have h1 : 0 ≤ Int.tmod o (t.Events.length : Int) := Int.tmod_nonneg _ g1
  have h2 : Int.tmod o (t.Events.length : Int) < (t.Events.length : Int) := Int.tmod_lt_of_pos _ g2
  obtain ⟨v, hv⟩ := get_lt (l := t.Events) (i := (Int.tmod o (t.Events.length : Int)).toNat) (by omega)
  simp only [cond_true]
  rw [sideO_pos (by omega)]
  simp only [idxO, h1, if_true, hv, Option.bind_some]
end Go.Sx.O
