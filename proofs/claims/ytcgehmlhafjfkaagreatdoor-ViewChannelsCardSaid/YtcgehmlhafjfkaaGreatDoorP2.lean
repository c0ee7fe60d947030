/-
  PLAIN LAWS: the lattice's check, exactly; the reference's too: names. An own text.
  PLAIN LAWS: lattice.of, .bound, exactly. An own text.
  PLAIN LAWS: the order's check, exactly, the program's and the reference's. An own text.
  PLAIN LAWS: the reference's check of a lattice, exactly. An own text.
  PLAIN LAWS: lattice.Check and the reference's Check say the same. An own text.
  PLAIN LAWS: lattice.Check, exactly. An own text.
  PLAIN LAWS: the reference's Leq; events that are the same. An own text.
  PLAIN LAWS: a lattice has a top; who sees what. An own text.
  PLAIN LAW: ViewMore returns true. An own text.
  PLAIN LAWS: view's Cut, Pairs, Channel; lists of arrays that are the same. An own text.
  PLAIN LAW: ViewChannels returns true. An own text.
-/
import Derived.Test.YtcgehmlhafjfkaaGreatDoorP1
namespace Go.Sx.O
open Go
def namesF (ns : List (List UInt8)) (i : Nat) : Option (Int × Int) :=
  if wname (ns.getD i []) = true then (if ns.getD i [] ∈ ns.take i then some ((i : Int), 8) else none) else some ((i : Int), 6)
def namesR (ns : List (List UInt8)) : Int × Int := if ns.length < 1 ∨ 8 < ns.length then (-1, 3) else (scan (namesF ns) 0 ns.length).getD (0, 0)
theorem getD_lt {α : Type} {l : List α} {i : Nat} {d x : α} (h : l[i]? = some x) : l.getD i d = x := by rw [List.getD_eq_getElem?_getD, h]; rfl
theorem named_eq (ns : List (List UInt8)) (h : ns.length ≤ 20) (hn : ∀ s ∈ ns, s.length ≤ 50) : F_lattice_named ns = some (namesR ns) := by
  unfold F_lattice_named namesR
  simp only [List.length_map]
  by_cases h1 : ns.length < 1
  · have : (ns.length : Int) < 1 := by omega
    simp [h1, this]
  by_cases h2 : 8 < ns.length
  · have : (8 : Int) < ns.length := by omega
    have g1 : ¬ (ns.length : Int) < 1 := by omega
    simp [h2, this, g1]
  have g1 : ¬ (ns.length : Int) < 1 := by omega
  have g2 : ¬ (8 : Int) < ns.length := by omega
  simp only [g1, g2, h1, h2, decide_false, cond_false, or_self, if_false]
  rw [lp_scanE ns.length (namesF ns) () (fun k hk => ?_) (by simp)]
  · cases scan (namesF ns) 0 ns.length <;> rfl
  · obtain ⟨x, hx⟩ := get_lt (l := ns) (i := k) hk
    have hxl := hn x (List.mem_of_getElem? hx)
    simp only [Int.ofNat_lt, hk, decide_true, cond_true, idxO, Int.toNat_natCast, hx, Option.bind_some, letO, Int.natCast_nonneg, if_true]
    rw [Name_spec x (by omega), Contains_strings_spec _ _ (by simp; omega)]
    unfold namesF
    rw [getD_lt hx, w64 (by omega) (by omega)]
    cases e : wname x with
    | false => simp
    | true =>
      have hk' : k ≤ ns.length := by omega
      simp only [Option.bind_some, Bool.not_true, cond_false, Int.toNat_zero, List.drop_zero, if_true]
      by_cases hm : x ∈ ns.take k
      · simp [hm, sideO, hk']
      · simp [hm, sideO, hk']
theorem lower_spec (c : UInt8) : F_invigilatorref01_lower (c.toNat : Int) = some (decide (97 ≤ c.toNat) && decide (c.toNat ≤ 122)) := by
  unfold F_invigilatorref01_lower
  by_cases h : (97 : Int) ≤ c.toNat
  · have : 97 ≤ c.toNat := by omega
    simp only [h, this, decide_true, cond_true, Bool.true_and]
    congr 1
    rw [Bool.eq_iff_iff]; simp; omega
  · have : ¬ 97 ≤ c.toNat := by omega
    simp only [h, this, decide_false, cond_false, Bool.false_and]
theorem digit_spec (c : UInt8) : F_invigilatorref01_digit (c.toNat : Int) = some (decide (48 ≤ c.toNat) && decide (c.toNat ≤ 57)) := by
  unfold F_invigilatorref01_digit
  by_cases h : (48 : Int) ≤ c.toNat
  · have : 48 ≤ c.toNat := by omega
    simp only [h, this, decide_true, cond_true, Bool.true_and]
    congr 1
    rw [Bool.eq_iff_iff]; simp; omega
  · have : ¬ 48 ≤ c.toNat := by omega
    simp only [h, this, decide_false, cond_false, Bool.false_and]
theorem word_byte (c : UInt8) : decide (c ∈ wordSet) = (decide (97 ≤ c.toNat) && decide (c.toNat ≤ 122) || (decide (48 ≤ c.toNat) && decide (c.toNat ≤ 57)) || decide (c.toNat = 45)) := by
  have key : ∀ n : Fin 256, decide (UInt8.ofNat n ∈ wordSet) = (decide (97 ≤ n.val) && decide (n.val ≤ 122) || (decide (48 ≤ n.val) && decide (n.val ≤ 57)) || decide (n.val = 45)) := by decide +kernel
  have := key ⟨c.toNat, c.toNat_lt⟩
  simpa using this
theorem ref_Name_spec (s : List UInt8) (h : s.length ≤ 1000000000) : F_invigilatorref01_Name s = some (wname s) := by
  unfold F_invigilatorref01_Name
  cases s with
  | nil => rfl
  | cons a r =>
    have g1 : ¬ ((a :: r).length : Int) < 1 := by simp; omega
    simp only [g1, decide_false, cond_false]
    unfold wname
    by_cases h1 : (16 : Int) < ((a :: r).length : Int)
    · have : ¬ (a :: r).length ≤ 16 := by omega
      simp only [h1, decide_true, cond_true, this, decide_false, Bool.false_and]
    have h1' : (a :: r).length ≤ 16 := by omega
    have e5 : idxO (a :: r) 0 = fun f => (f a : Option Bool) := rfl
    simp only [h1, decide_false, cond_false, h1', decide_true, Bool.true_and, e5, lower_spec, Option.bind_some]
    cases e : (decide (97 ≤ a.toNat) && decide (a.toNat ≤ 122)) with
    | false => rfl
    | true =>
      simp only [Bool.not_true, cond_false, Bool.true_and]
      generalize a :: r = s at *
      rw [lp_scanE s.length (fun k => if decide (s.getD k 0 ∈ wordSet) = true then none else some false) () (fun k hk => ?_) (by simp)]
      · cases hs : scan (fun k => if decide (s.getD k 0 ∈ wordSet) = true then none else some false) 0 s.length with
        | none =>
          have := scan_none.1 hs
          simp only
          congr 1
          symm
          rw [List.all_eq_true]
          intro c hc
          obtain ⟨i, hi, rfl⟩ := List.getElem_of_mem hc
          have := this i (by omega) (by omega)
          rw [getD_lt (List.getElem?_eq_getElem hi)] at this
          split at this
          · assumption
          · cases this
        | some b =>
          simp only
          congr 1
          have hall : ¬ s.all (fun c => decide (c ∈ wordSet)) = true := by
            intro hall
            rw [List.all_eq_true] at hall
            have : scan (fun k => if decide (s.getD k 0 ∈ wordSet) = true then none else some false) 0 s.length = none := scan_none.2 fun i _ hi => by
              have hi' : i < s.length := by omega
              rw [getD_lt (List.getElem?_eq_getElem hi'), if_pos (hall _ (List.getElem_mem hi'))]
            rw [this] at hs; cases hs
          have hb : b = false := by
            have key : ∀ {j k : Nat}, scan (fun k => if decide (s.getD k 0 ∈ wordSet) = true then none else some false) k j = some b → b = false := by
              intro j
              induction j with
              | zero => intro k h; cases h
              | succ j ih =>
                intro k h
                simp only [scan] at h
                split at h
                · rename_i r hr
                  cases h
                  split at hr
                  · cases hr
                  · cases hr; rfl
                · exact ih h
            exact key hs
          rw [hb]
          cases e : s.all (fun c => decide (c ∈ wordSet)) with
          | false => rfl
          | true => exact absurd e hall
      · obtain ⟨x, hx⟩ := get_lt (l := s) (i := k) hk
        simp only [Int.ofNat_lt, hk, decide_true, cond_true, idxO, Int.toNat_natCast, hx, Option.bind_some, letO, Int.natCast_nonneg, if_true, lower_spec, digit_spec]
        rw [getD_lt hx, w64 (by omega) (by omega), word_byte]
        cases (decide (97 ≤ x.toNat) && decide (x.toNat ≤ 122)) with
        | true => simp
        | false =>
          cases (decide (48 ≤ x.toNat) && decide (x.toNat ≤ 57)) with
          | true => simp
          | false =>
            by_cases h45 : x.toNat = 45
            · simp [h45]
            · have : ¬ (x.toNat : Int) = 45 := by omega
              simp [h45, this]
theorem ref_names_eq (ns : List (List UInt8)) (h : ns.length ≤ 20) (hn : ∀ s ∈ ns, s.length ≤ 50) : F_invigilatorref03_names ns = some (namesR ns) := by
  unfold F_invigilatorref03_names namesR
  simp only [List.length_map]
  by_cases h1 : ns.length < 1
  · have : (ns.length : Int) < 1 := by omega
    simp [h1, this]
  by_cases h2 : 8 < ns.length
  · have : (8 : Int) < ns.length := by omega
    have g1 : ¬ (ns.length : Int) < 1 := by omega
    simp [h2, this, g1]
  have g1 : ¬ (ns.length : Int) < 1 := by omega
  have g2 : ¬ (8 : Int) < ns.length := by omega
  simp only [g1, g2, h1, h2, decide_false, cond_false, or_self, if_false]
  rw [lp_scanE ns.length (namesF ns) () (fun k hk => ?_) (by simp)]
  · cases scan (namesF ns) 0 ns.length <;> rfl
  · obtain ⟨x, hx⟩ := get_lt (l := ns) (i := k) hk
    have hxl := hn x (List.mem_of_getElem? hx)
    simp only [Int.ofNat_lt, hk, decide_true, cond_true, idxO, Int.toNat_natCast, hx, Option.bind_some, Int.natCast_nonneg, if_true]
    rw [ref_Name_spec x (by omega)]
    unfold namesF
    rw [getD_lt hx]
    cases e : wname x with
    | false => simp
    | true =>
      simp only [Option.bind_some, Bool.not_true, cond_false, if_true]
      rw [lp_scanE k (fun j => if ns.getD j [] = x then some (.inr (.inr ((k : Int), (8 : Int)))) else none) () (fun j hj => ?_) (by simp)]
      · by_cases hm : x ∈ ns.take k
        · obtain ⟨j, hj, rfl⟩ := List.getElem_of_mem hm
          have hj' : j < k ∧ j < ns.length := by simp at hj; omega
          cases hs : scan (fun i => if ns.getD i [] = (ns.take k)[j] then some ((.inr (.inr ((k : Int), (8 : Int)))) : Int ⊕ (Unit ⊕ (Int × Int))) else none) 0 k with
          | none =>
            have := scan_none.1 hs j (by omega) (by omega)
            rw [getD_lt (List.getElem?_eq_getElem hj'.2)] at this
            simp at this
          | some b =>
            have : b = .inr (.inr ((k : Int), (8 : Int))) := scan_val (fun i => by split <;> simp) hs
            rw [this, if_pos hm]
        · have : scan (fun j => if ns.getD j [] = x then some ((.inr (.inr ((k : Int), (8 : Int)))) : Int ⊕ (Unit ⊕ (Int × Int))) else none) 0 k = none := scan_none.2 fun i _ hi => by
            have hi' : i < ns.length := by omega
            rw [getD_lt (List.getElem?_eq_getElem hi'), if_neg]
            rintro rfl
            exact hm (List.mem_iff_getElem.2 ⟨i, by simp; omega, by simp⟩)
          rw [this]
          simp only [hm, if_false, letO]
          rw [w64 (by omega) (by omega)]
      · obtain ⟨y, hy⟩ := get_lt (l := ns) (i := j) (by omega)
        simp only [Int.ofNat_lt, hj, decide_true, cond_true, idxO, Int.toNat_natCast, hy, Option.bind_some, letO, Int.natCast_nonneg, if_true, hx]
        rw [getD_lt hy, w64 (by omega) (by omega)]
        by_cases hxy : y = x
        · simp [hxy]
        · simp [hxy]
end Go.Sx.O
namespace Go.Sx.O
open Go
def dn (l : TLattice) (b : Nat) : Nat → Nat
  | 0 => 0
  | k + 1 => dn l b k ||| (if up l k b = true then 2 ^ k else 0)
theorem dn_bit (l : TLattice) (b : Nat) : ∀ (k i : Nat), (dn l b k).testBit i = (decide (i < k) && up l i b)
  | 0, i => by simp [dn]
  | k + 1, i => by
    simp only [dn, Nat.testBit_or, dn_bit l b k i]
    by_cases h : up l k b = true
    · simp only [h, if_true, Nat.testBit_two_pow]
      by_cases hik : i = k
      · subst hik; simp [h]
      · have h1 : ¬ k = i := fun e => hik e.symm
        have h2 : (i < k + 1) = (i < k) := by simp; omega
        simp [h1, h2]
    · simp only [h, if_false, Nat.zero_testBit, Bool.or_false]
      by_cases hik : i = k
      · subst hik; simp [h]
      · have h2 : (i < k + 1) = (i < k) := by simp; omega
        simp [h2]
theorem dn_lt (l : TLattice) (b : Nat) : ∀ k : Nat, dn l b k < 2 ^ k
  | 0 => by simp [dn]
  | k + 1 => by
    simp only [dn]
    refine Nat.or_lt_two_pow (Nat.lt_of_lt_of_le (dn_lt l b k) (Nat.pow_le_pow_right (by omega) (by omega))) ?_
    split
    · exact Nat.pow_lt_pow_right (by omega) (by omega)
    · exact Nat.two_pow_pos _
theorem dn_256 (l : TLattice) (b : Nat) {k : Nat} (h : k ≤ 8) : dn l b k < 256 := Nat.lt_of_lt_of_le (dn_lt l b k) (Nat.pow_le_pow_right (n := 2) (by omega) h)
theorem shl_bit {c : Bool} {k : Nat} (h : k < 8) : IntKind.wrap .u8 ((if c = true then (1 : Int) else 0) * 2 ^ min k (IntKind.bits .u8)) = ((if c = true then 2 ^ k else 0 : Nat) : Int) := by
  have key : ∀ (c : Bool) (k : Fin 8), IntKind.wrap .u8 ((if c = true then (1 : Int) else 0) * 2 ^ min k.val (IntKind.bits .u8)) = ((if c = true then 2 ^ k.val else 0 : Nat) : Int) := by decide +kernel
  exact key c ⟨k, h⟩
theorem or_nat {a b : Nat} (ha : a < 256) (hb : b < 256) : bits .or .u8 (a : Int) (b : Int) = ((a ||| b : Nat) : Int) := by
  rw [bits_or (by omega) (by omega) (by omega) (by omega)]; rfl
theorem and_nat {a b : Nat} (ha : a < 256) (hb : b < 256) : bits .and .u8 (a : Int) (b : Int) = ((a &&& b : Nat) : Int) := by
  rw [bits_and (by omega) (by omega) (by omega) (by omega)]; rfl
theorem sh_lt {c : Bool} {k : Nat} (h : k < 8) : (if c = true then 2 ^ k else 0) < 256 := by
  split
  · exact Nat.lt_of_lt_of_le (Nat.pow_lt_pow_right (a := 2) (by omega) h) (by omega)
  · omega
theorem get_set {α : Type} {l : List α} {i j : Nat} {x : α} (h : i < l.length) : (l.set i x)[j]? = if i = j then some x else l[j]? := by
  rw [List.getElem?_set]
  split
  · simp [h]
  · rfl
theorem of_exact (l : TLattice) (hu : U8s l.Up) (hn : l.Names.length ≤ 8) (hl : l.Up.length = l.Names.length) :
    Tot (F_lattice_of l) fun o => o.n_ = l.Names.length ∧ o.up_.length = 8 ∧ o.down_.length = 8 ∧ (∀ j, j < l.Names.length → o.up_[j]? = l.Up[j]?) ∧ ∀ b, b < l.Names.length → o.down_[b]? = some (dn l b l.Names.length : Int) := by
  unfold F_lattice_of
  simp only [tot_bind, List.length_map]
  refine Tot.count l.Up.length (fun k s => s.1 = (k : Int) ∧ s.2.1.length = 8 ∧ s.2.2.length = 8 ∧ (∀ j, j < k → s.2.1[j]? = l.Up[j]?) ∧ ∀ b, b < l.Names.length → s.2.2[b]? = some (dn l b k : Int)) ?_ ⟨rfl, rfl, rfl, fun j hj => absurd hj (by omega), fun b hb => ?_⟩
  · rintro k ⟨i, up', down⟩ hk ⟨h0, h1, h2, h3, h4⟩
    simp only at h0 h1 h2 h3 h4
    subst h0
    simp only [tot_some, tot_cond, tot_let, tot_idx, tot_side, tot_bind, Sum.elim_inl, Sum.elim_inr, decide_eq_true_eq, decide_eq_false_iff_not, Int.toNat_natCast]
    refine ⟨fun hlt => ?_, fun hlt => ?_⟩
    · obtain ⟨x, hx⟩ := get_lt (l := l.Up) (i := k) (by omega)
      obtain ⟨y, hy⟩ := get_lt (l := up') (i := k) (by omega)
      refine ⟨by omega, x, hx, ⟨by omega, by omega⟩, by omega, y, hy, ?_⟩
      have hx' := hu.get hx
      refine Tot.count l.Names.length (fun j s => s.1 = (j : Int) ∧ s.2.length = 8 ∧ ∀ b, b < l.Names.length → s.2[b]? = some (dn l b (if b < j then k + 1 else k) : Int)) ?_ ⟨rfl, h2, fun b hb => by simpa using h4 b hb⟩
      rintro j ⟨i', d⟩ hj ⟨g0, g1, g2⟩
      simp only at g0 g1 g2
      subst g0
      simp only [tot_some, tot_cond, tot_let, tot_idx, tot_side, tot_bind, Sum.elim_inl, Sum.elim_inr, decide_eq_true_eq, decide_eq_false_iff_not, Int.toNat_natCast]
      refine ⟨fun hlt' => ?_, fun hlt' => ?_⟩
      · have hz := g2 j (by omega)
        rw [if_neg (by omega)] at hz
        rw [w64 (by omega) (by omega)]
        refine ⟨⟨by omega, by omega⟩, by omega, _, hz, by omega, by omega, ⟨by omega, by omega⟩, by omega, _, hz, by omega, by omega, by simpa using g1, fun b hb => ?_⟩
        rw [get_set (by omega)]
        by_cases hjb : j = b
        · subst hjb
          rw [if_pos rfl, if_pos (by omega), bitAt hx'.1 hx'.2 (by omega), ← up_of hx, shl_bit (by omega), or_nat (dn_256 l j (by omega)) (sh_lt (by omega))]
          rfl
        · rw [if_neg hjb, g2 b hb]
          have : (b < j + 1) = (b < j) := by simp; omega
          simp only [this]
      · rw [w64 (by omega) (by omega)]
        refine ⟨by omega, by omega, by simpa using h1, g1, fun q hq => ?_, fun b hb => ?_⟩
        · rw [get_set (by omega)]
          by_cases hkq : k = q
          · subst hkq; rw [if_pos rfl, hx]
          · rw [if_neg hkq]; exact h3 q (by omega)
        · rw [g2 b hb, if_pos (by omega)]
    · have hkn : k = l.Names.length := by omega
      subst hkn
      exact ⟨trivial, h1, h2, h3, h4⟩
  · have h8 : ∀ b : Fin 8, ([0, 0, 0, 0, 0, 0, 0, 0] : List Int)[b.val]? = some 0 := by decide
    exact h8 ⟨b, by omega⟩
theorem sideO_pos {ρ : Type} {p : Prop} [Decidable p] {x : Option ρ} (h : p) : sideO p x = x := by unfold sideO; rw [if_pos h]
def bnd (g : Nat → Nat) (n a b : Nat) : Option Nat := scan (fun c => if g c = g a &&& g b then some c else none) 0 n
def bndI (g : Nat → Nat) (n a b : Nat) : Int := match bnd g n a b with | some c => c | none => -1
theorem bound_exact (m : List Int) (g : Nat → Nat) (n a b : Nat) (hn : n ≤ 8) (hg : ∀ c, c < n → m[c]? = some (g c : Int)) (hg8 : ∀ c, c < n → g c < 256) (hs : ∀ c, c < n → (g c).testBit c = true) (ha : a < n) (hb : b < n) :
    F_lattice_bound_lattice_ups_ m n a b = some (bndI g n a b) := by
  unfold F_lattice_bound_lattice_ups_ bndI bnd
  have s1 : ((0 : Int) ≤ (a : Int) ∧ (a : Int) < ((8 : Nat) : Int)) := by omega
  have s2 : ((0 : Int) ≤ (b : Int) ∧ (b : Int) < ((8 : Nat) : Int)) := by omega
  simp only [sideO_pos s1, sideO_pos s2]
  simp only [idxO, Int.toNat_natCast, Int.natCast_nonneg, if_true, hg a ha, hg b hb, Option.bind_some, and_nat (hg8 a ha) (hg8 b hb)]
  have h8 : g a &&& g b < 256 := and_lt (hg8 a ha)
  generalize g a &&& g b = both at *
  rw [lp_scanE n (fun c => if g c = both then some (c : Int) else none) () (fun c hc => ?_) (by simp)]
  · have e : (fun c => if g c = both then some (c : Int) else none) = fun c => (if g c = both then some c else none).map (fun c : Nat => (c : Int)) := by
      funext c; split <;> rfl
    rw [e, scan_map]
    cases scan (fun c => if g c = both then some c else none) 0 n <;> rfl
  · have s3 : ((0 : Int) ≤ (c : Int) ∧ (c : Int) < ((8 : Nat) : Int)) := by omega
    simp only [sideO_pos s3]
    simp only [Int.ofNat_lt, hc, decide_true, cond_true, sideO, Int.natCast_nonneg, if_true, hg c hc, Option.bind_some, letO]
    rw [w64 (by omega) (by omega), bitAt (by omega) (by omega) (by omega)]
    simp only [Int.toNat_natCast]
    by_cases hbc : both.testBit c = true
    · simp only [hbc, if_true, decide_true, cond_true]
      rw [hg c hc]
      by_cases hgc : g c = both
      · simp [hgc]
      · have : ¬ (g c : Int) = (both : Int) := by omega
        simp [hgc, this]
    · have : g c ≠ both := fun e => hbc (e ▸ hs c hc)
      simp [hbc, this]
theorem nearest_exact (m : List Int) (g : Nat → Nat) (a b : Nat) (hn : m.length ≤ 8) (hg : ∀ c, c < m.length → m[c]? = some (g c : Int)) (hg8 : ∀ c, c < m.length → g c < 256) (ha : a < m.length) (hb : b < m.length) :
    F_invigilatorref03_nearest m a b = some (bndI g m.length a b) := by
  unfold F_invigilatorref03_nearest bndI bnd
  simp only [idxO, Int.toNat_natCast, Int.natCast_nonneg, if_true, hg a ha, hg b hb, Option.bind_some, and_nat (hg8 a ha) (hg8 b hb), List.length_map]
  have h8 : g a &&& g b < 256 := and_lt (hg8 a ha)
  generalize g a &&& g b = both at *
  rw [lp_scanE m.length (fun c => if g c = both then some (c : Int) else none) () (fun c hc => ?_) (by simp)]
  · have e : (fun c => if g c = both then some (c : Int) else none) = fun c => (if g c = both then some c else none).map (fun c : Nat => (c : Int)) := by
      funext c; split <;> rfl
    rw [e, scan_map]
    cases scan (fun c => if g c = both then some c else none) 0 m.length <;> rfl
  · simp only [Int.ofNat_lt, hc, decide_true, cond_true, hg c hc, Option.bind_some, letO]
    rw [w64 (by omega) (by omega), Int.toNat_natCast, if_pos (by omega), hg c hc]
    by_cases hgc : g c = both
    · simp [hgc]
    · have : ¬ (g c : Int) = (both : Int) := by omega
      simp [hgc, this]
end Go.Sx.O
namespace Go.Sx.O
open Go
def upN (l : TLattice) (a : Nat) : Nat := (l.Up.getD a 0).toNat
def ordB (l : TLattice) (a b : Nat) : Bool := !up l a b || ((decide (b = a) || !up l b a) && (List.range l.Names.length).all fun i => !up l b i || up l a i)
def ordA (l : TLattice) (a : Nat) : Bool := decide (upN l a < 2 ^ l.Names.length) && up l a a && (List.range l.Names.length).all fun b => ordB l a b
def dnN (l : TLattice) (b : Nat) : Nat := dn l b l.Names.length
def lacks (l : TLattice) (a b : Nat) : Bool := (bnd (upN l) l.Names.length a b).isNone || (bnd (dnN l) l.Names.length a b).isNone
def latC (l : TLattice) : Int × Int :=
  if (namesR l.Names).2 = 0 then
    if l.Up.length = l.Names.length then
      match scan (fun a => if ordA l a = true then none else some ((a : Int), (6 : Int))) 0 l.Names.length with
      | some r => r
      | none => (scan (fun a => scan (fun b => if lacks l a b = true then some ((a : Int), (4 : Int)) else none) 0 l.Names.length) 0 l.Names.length).getD (0, 0)
    else (-1, 6)
  else namesR l.Names
theorem scan_pv {α : Type} {p : Nat → Bool} {v : α} : ∀ {j k : Nat}, scan (fun i => if p i = true then none else some v) k j = if (List.range j).all (fun i => p (k + i)) = true then none else some v
  | 0, _ => by simp [scan]
  | j + 1, k => by
    simp only [scan, scan_pv (j := j) (k := k + 1)]
    have e : (List.range (j + 1)).all (fun i => p (k + i)) = (p k && (List.range j).all fun i => p (k + 1 + i)) := by
      rw [List.range_succ_eq_map, List.all_cons, List.all_map]
      congr 1
      congr 1
      funext i
      simp only [Function.comp]
      congr 1; omega
    rw [e]
    cases p k <;> simp
theorem scan_last {α : Type} {p : Nat → Bool} {u v : α} {n : Nat} : ∀ {j k : Nat}, k + j = n → 0 < j → scan (fun i => if p i = true then (if i + 1 = n then some u else none) else some v) k j = some (if (List.range j).all (fun i => p (k + i)) = true then u else v)
  | 0, _, _, h => by omega
  | j + 1, k, hk, _ => by
    have e : (List.range (j + 1)).all (fun i => p (k + i)) = (p k && (List.range j).all fun i => p (k + 1 + i)) := by
      rw [List.range_succ_eq_map, List.all_cons, List.all_map]
      congr 1
      congr 1
      funext i
      simp only [Function.comp]
      congr 1; omega
    rw [e]
    simp only [scan]
    cases hp : p k with
    | false => simp
    | true =>
      simp only [if_true, Bool.true_and]
      by_cases hj : j = 0
      · subst hj
        have : k + 1 = n := by omega
        simp [this]
      · have : ¬ k + 1 = n := by omega
        simp only [this, if_false]
        exact scan_last (by omega) (by omega)
theorem Len8_exact (x : Int) (h0 : 0 ≤ x) (h1 : x < 256) : Tot (F_math_bits_Len8 x) fun y => ∀ n : Nat, n ≤ 8 → decide ((n : Int) < y) = !decide (x.toNat < 2 ^ n) := by
  unfold F_math_bits_Len8
  rw [tot_idx]
  refine ⟨h0, ?_⟩
  have key : ∀ l : List UInt8, (∀ x : Fin 256, ∀ n : Fin 9, (l[x.val]?.map fun y => decide ((n.val : Int) < IntKind.wrap .i64 (y.toNat : Int))) = some (!decide (x.val < 2 ^ n.val))) →
      ∃ y, l[x.toNat]? = some y ∧ Tot (letO (IntKind.wrap .i64 (y.toNat : Int)) fun z => some z) fun y => ∀ n : Nat, n ≤ 8 → decide ((n : Int) < y) = !decide (x.toNat < 2 ^ n) := by
    intro l hl
    cases e : l[x.toNat]? with
    | none =>
      have := hl ⟨x.toNat, by omega⟩ ⟨0, by omega⟩
      simp only [e] at this
      cases this
    | some y =>
      refine ⟨y, rfl, .mk fun n hn => ?_⟩
      have := hl ⟨x.toNat, by omega⟩ ⟨n, by omega⟩
      simp only [e] at this
      exact Option.some.inj this
  exact key _ (by decide +kernel)
theorem Below_spec {l : TLattice} (hu : U8s l.Up) {a b : Nat} (ha : a < l.Up.length) (hb : b ≤ 8) : F_invigilatorref03_Below l a b = some (up l a b) := by
  unfold F_invigilatorref03_Below
  obtain ⟨x, hx⟩ := get_lt ha
  have hx' := hu.get hx
  have key : ∀ u : Fin 256, ∀ b : Fin 9, decide (Int.tmod (Int.fdiv (u.val : Int) (2 ^ min b.val (IntKind.bits .u8))) 2 = 1) = Nat.testBit u b := by decide +kernel
  have := key ⟨x.toNat, by omega⟩ ⟨b, by omega⟩
  simp only [Int.toNat_of_nonneg hx'.1] at this
  simp only [List.length_map, Int.natCast_nonneg, decide_true, cond_true, Int.ofNat_lt, ha, idxO, Int.toNat_natCast, if_true, hx, Option.bind_some, sideO, this, up_of hx]
theorem wrap_i64n {n : Nat} (h : n < 1000000) : IntKind.wrap .i64 (n : Int) = n := w64 (by omega) (by omega)
theorem ofInt_n (n : Nat) : BitVec.ofInt 64 (n : Int) = BitVec.ofNat 64 n := BitVec.ofInt_natCast 64 n
theorem and_i64 {a b : Nat} (ha : a < 1000000) (hb : b < 1000000) : bits .and .i64 (a : Int) (b : Int) = ((a &&& b : Nat) : Int) := by
  have e : bits .and .i64 (a : Int) (b : Int) = IntKind.wrap .i64 ((BitVec.ofInt 64 (a : Int) &&& BitVec.ofInt 64 (b : Int)).toNat : Int) := rfl
  rw [e, ofInt_n, ofInt_n, BitVec.toNat_and, BitVec.toNat_ofNat, BitVec.toNat_ofNat, Nat.mod_eq_of_lt (by omega), Nat.mod_eq_of_lt (by omega)]
  exact wrap_i64n (Nat.lt_of_le_of_lt Nat.and_le_left ha)
theorem sub_bits {x y n : Nat} : ((y &&& (2 ^ n - 1)) &&& x = y &&& (2 ^ n - 1)) ↔ ((List.range n).all fun i => !y.testBit i || x.testBit i) = true := by
  rw [List.all_eq_true]
  constructor
  · intro h i hi
    have hi' : i < n := by simpa using hi
    have := congrArg (fun z => z.testBit i) h
    simp only [Nat.testBit_and, Nat.testBit_two_pow_sub_one, hi', decide_true, Bool.and_true] at this
    cases e : y.testBit i with
    | false => rfl
    | true => rw [e] at this; simpa using this
  · intro h
    apply Nat.eq_of_testBit_eq
    intro i
    simp only [Nat.testBit_and, Nat.testBit_two_pow_sub_one]
    by_cases hi : i < n
    · have := h i (by simpa using hi)
      simp only [hi, decide_true, Bool.and_true]
      cases e : y.testBit i with
      | false => rfl
      | true => rw [e] at this; simpa using this
    · simp [hi]
end Go.Sx.O
namespace Go.Sx.O
open Go
theorem upN_of {l : TLattice} {a : Nat} {x : Int} (h : l.Up[a]? = some x) : upN l a = x.toNat := by unfold upN; rw [getD_lt h]
theorem upN_bit {l : TLattice} {a b : Nat} : (upN l a).testBit b = up l a b := rfl
theorem upN_lt {l : TLattice} (hu : U8s l.Up) {a : Nat} (ha : a < l.Up.length) : upN l a < 256 := by
  obtain ⟨x, hx⟩ := get_lt ha
  have := hu.get hx
  rw [upN_of hx]; omega
theorem upN_get {l : TLattice} (hu : U8s l.Up) {a : Nat} (ha : a < l.Up.length) : l.Up[a]? = some (upN l a : Int) := by
  obtain ⟨x, hx⟩ := get_lt ha
  have := hu.get hx
  rw [hx, upN_of hx, Int.toNat_of_nonneg this.1]
theorem ordered_spec {l : TLattice} (hu : U8s l.Up) (h8 : l.Names.length ≤ 8) (hl : l.Up.length = l.Names.length) {a : Nat} (ha : a < l.Names.length) : F_invigilatorref03_ordered l a = some (ordA l a) := by
  unfold F_invigilatorref03_ordered ordA
  have g0 : ((0 : Int) ≤ (l.Names.length : Int)) := by omega
  have hb := fun b (hb : b < l.Names.length) => Below_spec hu (a := a) (b := b) (by omega) (by omega)
  have hxa := upN_get hu (a := a) (by omega)
  have hlt := upN_lt hu (a := a) (by omega)
  have sh : decide ((0 : Int) < Int.fdiv (upN l a : Int) (2 ^ min l.Names.length (IntKind.bits .i64))) = !decide (upN l a < 2 ^ l.Names.length) := by
    have key : ∀ u : Fin 256, ∀ n : Fin 9, decide ((0 : Int) < Int.fdiv (u.val : Int) (2 ^ min n.val (IntKind.bits .i64))) = !decide (u.val < 2 ^ n.val) := by decide +kernel
    exact key ⟨upN l a, hlt⟩ ⟨l.Names.length, by omega⟩
  have mk : IntKind.wrap .i64 (IntKind.wrap .i64 (1 * 2 ^ min l.Names.length (IntKind.bits .i64)) - 1) = ((2 ^ l.Names.length - 1 : Nat) : Int) := by
    have key : ∀ n : Fin 9, IntKind.wrap .i64 (IntKind.wrap .i64 (1 * 2 ^ min n.val (IntKind.bits .i64)) - 1) = ((2 ^ n.val - 1 : Nat) : Int) := by decide +kernel
    exact key ⟨l.Names.length, by omega⟩
  have mk' : 2 ^ l.Names.length - 1 < 1000000 := by
    have : 2 ^ l.Names.length ≤ 2 ^ 8 := Nat.pow_le_pow_right (by omega) h8
    omega
  simp only [List.length_map, sideO_pos g0, Int.toNat_natCast]
  simp only [idxO, Int.toNat_natCast, Int.natCast_nonneg, if_true, hxa, Option.bind_some, letO]
  rw [wrap_i64n (by omega), sh, hb a ha, mk]
  cases e1 : decide (upN l a < 2 ^ l.Names.length) with
  | false => simp
  | true =>
    simp only [Bool.not_true, cond_false, Bool.true_and, Option.bind_some]
    cases e2 : up l a a with
    | false => simp
    | true =>
      simp only [Bool.not_true, cond_false, Bool.true_and]
      rw [lp_scanE l.Names.length (fun b => if ordB l a b = true then none else some false) () (fun b hbn => ?_) (by simp)]
      · rw [scan_pv]
        simp only [Nat.zero_add]
        cases (List.range l.Names.length).all fun b => ordB l a b <;> rfl
      · have hxb := upN_get hu (a := b) (by omega)
        have hltb := upN_lt hu (a := b) (by omega)
        simp only [Int.ofNat_lt, hbn, decide_true, cond_true, Option.bind_some, Int.toNat_natCast, hxb]
        rw [hb b hbn, wrap_i64n (n := upN l b) (by omega), and_i64 (by omega) mk', w64 (by omega) (by omega), Below_spec hu (by omega) (by omega)]
        have hand : upN l b &&& (2 ^ l.Names.length - 1) < 1000000 := Nat.lt_of_le_of_lt Nat.and_le_left (by omega)
        rw [and_i64 hand (by omega)]
        have hsub := sub_bits (x := upN l a) (y := upN l b) (n := l.Names.length)
        simp only [upN_bit] at hsub
        have hsub' : decide ((((upN l b &&& (2 ^ l.Names.length - 1)) &&& upN l a : Nat) : Int) = ((upN l b &&& (2 ^ l.Names.length - 1) : Nat) : Int)) = (List.range l.Names.length).all fun i => !up l b i || up l a i := by
          rw [Bool.eq_iff_iff, ← hsub, decide_eq_true_eq]; omega
        rw [hsub']
        unfold ordB
        cases e3 : up l a b with
        | false => simp
        | true =>
          simp only [Option.bind_some, Bool.not_true, cond_false, Bool.false_or]
          by_cases hba : b = a
          · subst hba
            simp only [decide_true, Bool.not_true, cond_false, Bool.true_or, Bool.true_and]
            cases (List.range l.Names.length).all fun i => !up l b i || up l b i <;> simp
          · have : ¬ (b : Int) = (a : Int) := by omega
            simp only [this, hba, decide_false, Bool.not_false, cond_true, Bool.false_or]
            cases up l b a with
            | true => simp
            | false =>
              cases (List.range l.Names.length).all fun i => !up l b i || up l a i <;> simp
theorem downs_spec {l : TLattice} (hu : U8s l.Up) (h8 : l.Names.length ≤ 8) (hl : l.Up.length = l.Names.length) : Tot (F_invigilatorref03_downs l) fun d => d.length = l.Names.length ∧ ∀ b, b < l.Names.length → d[b]? = some (dnN l b : Int) := by
  unfold F_invigilatorref03_downs
  simp only [tot_bind, tot_side, List.length_map, Int.toNat_natCast]
  refine ⟨⟨by omega, trivial, by omega, by omega⟩, ?_⟩
  refine Tot.count l.Names.length (fun k s => s.1 = (k : Int) ∧ s.2.length = l.Names.length ∧ ∀ b, b < l.Names.length → s.2[b]? = some (dn l b k : Int)) ?_ ⟨rfl, by simp, fun b hb => ?_⟩
  · rintro k ⟨i, down⟩ hk ⟨h0, h2, h4⟩
    simp only at h0 h2 h4
    subst h0
    simp only [tot_some, tot_cond, tot_let, tot_idx, tot_side, tot_bind, Sum.elim_inl, Sum.elim_inr, decide_eq_true_eq, decide_eq_false_iff_not, Int.toNat_natCast]
    refine ⟨fun hlt => ?_, fun hlt => ?_⟩
    · refine Tot.count l.Names.length (fun j s => s.1 = (j : Int) ∧ s.2.length = l.Names.length ∧ ∀ b, b < l.Names.length → s.2[b]? = some (dn l b (if b < j then k + 1 else k) : Int)) ?_ ⟨rfl, h2, fun b hb => by simpa using h4 b hb⟩
      rintro j ⟨i', d⟩ hj ⟨g0, g1, g2⟩
      simp only at g0 g1 g2
      subst g0
      simp only [tot_some, tot_cond, tot_let, tot_idx, tot_side, tot_bind, Sum.elim_inl, Sum.elim_inr, decide_eq_true_eq, decide_eq_false_iff_not, Int.toNat_natCast]
      refine ⟨fun hlt' => ?_, fun hlt' => ?_⟩
      · rw [Below_spec hu (by omega) (by omega), tot_some]
        have hz := g2 j (by omega)
        rw [if_neg (by omega)] at hz
        rw [w64 (by omega) (by omega)]
        refine ⟨fun hup => ⟨⟨by omega, by simp; omega⟩, by omega, _, hz, by omega, ⟨by omega, by simp; omega⟩, by omega, _, hz, by omega, by omega, by simpa using g1, fun b hb => ?_⟩, fun hup => ⟨by omega, by omega, g1, fun b hb => ?_⟩⟩
        · have hsh := shl_bit (c := true) (k := k) (by omega)
          simp only [if_true] at hsh
          rw [get_set (by omega), hsh]
          by_cases hjb : j = b
          · subst hjb
            have hp : 2 ^ k < 256 := Nat.lt_of_lt_of_le (Nat.pow_lt_pow_right (a := 2) (by omega) (show k < 8 by omega)) (by omega)
            rw [if_pos rfl, if_pos (by omega), or_nat (dn_256 l j (by omega)) hp]
            simp [dn, hup]
          · rw [if_neg hjb, g2 b hb]
            have : (b < j + 1) = (b < j) := by simp; omega
            simp only [this]
        · rw [g2 b hb]
          by_cases hjb : j = b
          · subst hjb
            rw [if_neg (by omega), if_pos (by omega)]
            simp [dn, hup]
          · have : (b < j + 1) = (b < j) := by simp; omega
            simp only [this]
      · rw [w64 (by omega) (by omega)]
        refine ⟨by omega, by omega, g1, fun b hb => ?_⟩
        rw [g2 b hb, if_pos (by omega)]
    · have hkn : k = l.Names.length := by omega
      subst hkn
      exact ⟨h2, h4⟩
  · rw [List.getElem?_replicate, if_pos hb]; rfl
end Go.Sx.O
namespace Go.Sx.O
open Go
theorem bnd_sign (g : Nat → Nat) (n a b : Nat) : decide (bndI g n a b < 0) = (bnd g n a b).isNone := by
  unfold bndI
  cases bnd g n a b with
  | none => rfl
  | some c => simp
theorem dnN_lt {l : TLattice} (h8 : l.Names.length ≤ 8) (b : Nat) : dnN l b < 256 := dn_256 l b h8
theorem ref_Check_eq (l : TLattice) (hu : U8s l.Up) (hn : l.Names.length ≤ 20) (hs : ∀ s ∈ l.Names, s.length ≤ 50) : F_invigilatorref03_Check l = some (latC l) := by
  unfold F_invigilatorref03_Check latC
  rw [ref_names_eq _ hn hs]
  simp only [Option.bind_some, List.length_map]
  by_cases h0 : (namesR l.Names).2 = 0
  case neg => simp [h0]
  simp only [h0, decide_true, Bool.not_true, cond_false, if_true]
  by_cases hlen : l.Up.length = l.Names.length
  case neg =>
    have : ¬ (l.Up.length : Int) = l.Names.length := by omega
    simp [hlen, this]
  have h8 : l.Names.length ≤ 8 := by
    unfold namesR at h0
    split at h0
    · cases h0
    · omega
  simp only [hlen, decide_true, Bool.not_true, cond_false, if_true]
  rw [lp_scanE l.Names.length (fun a => if ordA l a = true then none else some ((a : Int), (6 : Int))) () (fun a ha => ?_) (by simp)]
  · cases h1 : scan (fun a => if ordA l a = true then none else some ((a : Int), (6 : Int))) 0 l.Names.length with
    | some r => rfl
    | none =>
      simp only
      obtain ⟨d, ed, hdl, hd⟩ := downs_spec hu h8 hlen
      rw [ed, Option.bind_some]
      rw [lp_scanE l.Names.length (fun a => scan (fun b => if lacks l a b = true then some ((a : Int), (4 : Int)) else none) 0 l.Names.length) () (fun a ha => ?_) (by simp)]
      · cases scan (fun a => scan (fun b => if lacks l a b = true then some ((a : Int), (4 : Int)) else none) 0 l.Names.length) 0 l.Names.length <;> rfl
      · simp only [Int.ofNat_lt, ha, decide_true, cond_true]
        rw [lp_scanE l.Names.length (fun b => if lacks l a b = true then some (.inr (.inr ((a : Int), (4 : Int)))) else none) () (fun b hb => ?_) (by simp)]
        · have e : (fun b => if lacks l a b = true then some (Sum.inr (Sum.inr ((a : Int), (4 : Int))) : Int ⊕ (Unit ⊕ (Int × Int))) else none) = fun b => (if lacks l a b = true then some ((a : Int), (4 : Int)) else none).map fun v => .inr (.inr v) := by
            funext b; split <;> rfl
          rw [e, scan_map]
          cases scan (fun b => if lacks l a b = true then some ((a : Int), (4 : Int)) else none) 0 l.Names.length with
          | some r => rfl
          | none =>
            simp only [Option.map_none, letO]
            rw [w64 (by omega) (by omega)]
        · simp only [Int.ofNat_lt, hb, decide_true, cond_true]
          have n1 := nearest_exact l.Up (upN l) a b (by omega) (fun c hc => upN_get hu hc) (fun c hc => upN_lt hu hc) (by omega) (by omega)
          have n2 := nearest_exact d (dnN l) a b (by omega) (fun c hc => hd c (by omega)) (fun c hc => dnN_lt h8 c) (by omega) (by omega)
          rw [hlen] at n1
          rw [hdl] at n2
          rw [n1, n2]
          simp only [Option.bind_some, bnd_sign, letO]
          rw [w64 (by omega) (by omega)]
          unfold lacks
          cases (bnd (upN l) l.Names.length a b).isNone with
          | true => simp
          | false => cases (bnd (dnN l) l.Names.length a b).isNone <;> simp
  · simp only [Int.ofNat_lt, ha, decide_true, cond_true]
    rw [ordered_spec hu h8 hlen ha]
    simp only [Option.bind_some, letO]
    rw [w64 (by omega) (by omega)]
    cases ordA l a <;> simp
end Go.Sx.O
namespace Go.Sx.O
open Go
theorem Check_exact (l : TLattice) (hu : U8s l.Up) (hn : l.Names.length ≤ 20) (hs : ∀ s ∈ l.Names, s.length ≤ 50) : F_lattice_Check l = some (latC l) := by
  unfold F_lattice_Check latC
  rw [named_eq _ hn hs]
  simp only [Option.bind_some, List.length_map]
  by_cases h0 : (namesR l.Names).2 = 0
  case neg => simp [h0]
  simp only [h0, decide_true, Bool.not_true, cond_false, if_true]
  by_cases hlen : l.Up.length = l.Names.length
  case neg =>
    have : ¬ (l.Up.length : Int) = l.Names.length := by omega
    simp [hlen, this]
  have h8 : 1 ≤ l.Names.length ∧ l.Names.length ≤ 8 := by
    unfold namesR at h0
    split at h0
    · cases h0
    · omega
  obtain ⟨h1, h8⟩ := h8
  have g0 : ((0 : Int) ≤ (l.Names.length : Int)) := by omega
  simp only [hlen, decide_true, Bool.not_true, cond_false, if_true, sideO_pos g0, letO, Int.toNat_natCast]
  have hmask := mask_bit l.Names.length h8
  have hm0 := mod_u8 (e := IntKind.wrap .u8 (1 * 2 ^ min l.Names.length (IntKind.bits .u8)) - 1)
  rw [lp_scanE l.Names.length (fun a => if ordA l a = true then none else some ((a : Int), (6 : Int))) () (fun a ha => ?_) (by simp)]
  · cases h1 : scan (fun a => if ordA l a = true then none else some ((a : Int), (6 : Int))) 0 l.Names.length with
    | some r => rfl
    | none =>
      simp only
      have hself : ∀ a, a < l.Names.length → up l a a = true := by
        intro a ha
        have := scan_none.1 h1 a (by omega) (by omega)
        split at this
        · rename_i h
          unfold ordA at h
          simp only [Bool.and_eq_true] at h
          exact h.1.2
        · cases this
      obtain ⟨o, eo, _, o1, o2, o3, o4⟩ := of_exact l hu h8 hlen
      rw [eo, Option.bind_some]
      rw [lp_scanE l.Names.length (fun a => scan (fun b => if lacks l a b = true then some ((a : Int), (4 : Int)) else none) 0 l.Names.length) () (fun a ha => ?_) (by simp)]
      · cases scan (fun a => scan (fun b => if lacks l a b = true then some ((a : Int), (4 : Int)) else none) 0 l.Names.length) 0 l.Names.length <;> rfl
      · simp only [Int.ofNat_lt, ha, decide_true, cond_true]
        rw [lp_scanE l.Names.length (fun b => if lacks l a b = true then some (.inr (.inr ((a : Int), (4 : Int)))) else none) () (fun b hb => ?_) (by simp)]
        · have e : (fun b => if lacks l a b = true then some (Sum.inr (Sum.inr ((a : Int), (4 : Int))) : Int ⊕ (Unit ⊕ (Int × Int))) else none) = fun b => (if lacks l a b = true then some ((a : Int), (4 : Int)) else none).map fun v => .inr (.inr v) := by
            funext b; split <;> rfl
          rw [e, scan_map]
          cases scan (fun b => if lacks l a b = true then some ((a : Int), (4 : Int)) else none) 0 l.Names.length with
          | some r => rfl
          | none =>
            simp only [Option.map_none]
            rw [w64 (by omega) (by omega)]
        · simp only [Int.ofNat_lt, hb, decide_true, cond_true]
          have n1 := bound_exact o.up_ (upN l) l.Names.length a b h8 (fun c hc => by rw [o3 c hc]; exact upN_get hu (by omega)) (fun c hc => upN_lt hu (by omega)) (fun c hc => hself c hc) ha hb
          have n2 : F_lattice_bound_lattice_downs_ o.down_ l.Names.length a b = some (bndI (dnN l) l.Names.length a b) := bound_exact o.down_ (dnN l) l.Names.length a b h8 (fun c hc => o4 c hc) (fun c hc => dnN_lt h8 c) (fun c hc => by unfold dnN; rw [dn_bit, hself c hc]; simp [hc]) ha hb
          rw [n1, n2]
          simp only [Option.bind_some, bnd_sign]
          rw [w64 (by omega) (by omega)]
          unfold lacks
          cases (bnd (upN l) l.Names.length a b).isNone with
          | true => simp
          | false => cases (bnd (dnN l) l.Names.length a b).isNone <;> simp
  · -- one label's row
    have hxa := upN_get hu (a := a) (by omega)
    have hlt := upN_lt hu (a := a) (by omega)
    obtain ⟨y, ey, hy⟩ := Len8_exact (upN l a : Int) (by omega) (by omega)
    have hy := hy l.Names.length h8
    rw [Int.toNat_natCast] at hy
    have ga : ((0 : Int) ≤ (a : Int)) := by omega
    have hbit : ∀ b, b < l.Names.length → bits .and .u8 (Int.fdiv (upN l a : Int) (2 ^ min b (IntKind.bits .u8))) 1 = if up l a b = true then 1 else 0 := fun b hb => by
      rw [bitAt (by omega) (by omega) (by omega), Int.toNat_natCast]; rfl
    simp only [Int.ofNat_lt, ha, decide_true, cond_true, idxO, Int.toNat_natCast, if_pos ga, hxa, Option.bind_some, ey, hy, sideO_pos ga]
    simp only [hbit a ha]
    unfold ordA
    cases e1 : decide (upN l a < 2 ^ l.Names.length) with
    | false => simp
    | true =>
      simp only [Bool.not_true, cond_false, Bool.true_and]
      cases e2 : up l a a with
      | false => simp
      | true =>
        simp only [if_true, Int.reduceEq, decide_false, cond_false, Bool.true_and]
        rw [lp_scanE l.Names.length (fun b => if ordB l a b = true then (if b + 1 = l.Names.length then some (.inl ((a : Int) + 1)) else none) else some (.inr (.inr ((a : Int), (6 : Int))))) () (fun b hb => ?_) (by simp)]
        · rw [scan_last (by omega) (by omega)]
          simp only [Nat.zero_add]
          cases (List.range l.Names.length).all fun b => ordB l a b <;> rfl
        · have hxb := upN_get hu (a := b) (by omega)
          have hltb := upN_lt hu (a := b) (by omega)
          have gb : ((0 : Int) ≤ (b : Int)) := by omega
          have hbit' : bits .and .u8 (Int.fdiv (upN l b : Int) (2 ^ min a (IntKind.bits .u8))) 1 = if up l b a = true then 1 else 0 := by
            rw [bitAt (by omega) (by omega) (by omega), Int.toNat_natCast]; rfl
          simp only [Int.ofNat_lt, hb, decide_true, cond_true, Option.bind_some, Int.toNat_natCast, hxb, if_pos gb, sideO_pos gb]
          simp only [hbit b hb, hbit', w64 (e := (l.Names.length : Int) - 1) (by omega) (by omega), w64 (e := (a : Int) + 1) (by omega) (by omega), w64 (e := (b : Int) + 1) (by omega) (by omega)]
          have hnot : decide (bits .andNot .u8 (bits .and .u8 (upN l b : Int) (IntKind.wrap .u8 (IntKind.wrap .u8 (1 * 2 ^ min l.Names.length (IntKind.bits .u8)) - 1))) (upN l a : Int) = 0) = (List.range l.Names.length).all fun i => !up l b i || up l a i := by
            revert hmask hm0
            generalize IntKind.wrap .u8 (IntKind.wrap .u8 (1 * 2 ^ min l.Names.length (IntKind.bits .u8)) - 1) = mask
            intro hmask hm0
            have hand : bits .and .u8 (upN l b : Int) mask = ((upN l b &&& mask.toNat : Nat) : Int) := by
              rw [bits_and (by omega) (by omega) hm0.1 hm0.2, Int.toNat_natCast]
            have hlt2 : upN l b &&& mask.toNat < 256 := and_lt hltb
            rw [hand, Bool.eq_iff_iff, decide_eq_true_eq, bits_andNot (by omega) (by omega) (by omega) (by omega), List.all_eq_true]
            simp only [Int.toNat_natCast, Nat.testBit_and, hmask, upN_bit]
            constructor
            · intro h i hi
              have := h i
              have hi' : i < l.Names.length := by simpa using hi
              cases e : up l b i with
              | false => rfl
              | true => rw [e] at this; simpa [hi'] using this
            · intro h i hi
              simp only [Bool.and_eq_true, decide_eq_true_eq] at hi
              have := h i (by simpa using hi.2)
              rw [hi.1] at this; simpa using this
          simp only [hnot]
          have hlast : decide ((b : Int) = (l.Names.length : Int) - 1) = decide (b + 1 = l.Names.length) := by
            rw [Bool.eq_iff_iff, decide_eq_true_eq, decide_eq_true_eq]; omega
          simp only [hlast]
          unfold ordB
          cases e3 : up l a b with
          | false => by_cases hl : b + 1 = l.Names.length <;> simp [hl]
          | true =>
            by_cases hba : b = a
            · subst hba
              have d2 : decide ((b : Int) = (b : Int)) = true := by simp
              cases (List.range l.Names.length).all fun i => !up l b i || up l b i with
              | false => by_cases hl : b + 1 = l.Names.length <;> simp [hl]
              | true => by_cases hl : b + 1 = l.Names.length <;> simp [hl]
            · have d2 : decide ((b : Int) = (a : Int)) = false := by simp; omega
              have d3 : decide (b = a) = false := by simp [hba]
              simp only [d2, d3]
              cases up l b a with
              | true => by_cases hl : b + 1 = l.Names.length <;> simp [hl]
              | false =>
                cases (List.range l.Names.length).all fun i => !up l b i || up l a i with
                | false => by_cases hl : b + 1 = l.Names.length <;> simp [hl]
                | true => by_cases hl : b + 1 = l.Names.length <;> simp [hl]
theorem latR_eq {l : TLattice} (h : LatIn l) : latR l = latC l := by
  unfold latR; rw [Check_exact l h.u8 h.names h.name]; rfl
end Go.Sx.O
namespace Go.Sx.O
open Go
theorem ref_asked_spec {l : TLattice} (h : LatIn l) (a b : Int) : F_invigilatorref03_asked l a b = some (askE l [a, b]) := by
  unfold F_invigilatorref03_asked askE
  rw [ref_Check_eq l h.u8 h.names h.name, latR_eq h]
  simp only [Option.bind_some, List.length_map, List.all_cons, List.all_nil, Bool.and_true]
  by_cases h0 : (latC l).2 = 0
  · simp only [h0, decide_true, cond_true, if_true]
    unfold isLab
    by_cases a1 : a < 0
    · have : ¬ 0 ≤ a := by omega
      simp [a1, this]
    by_cases a2 : (l.Names.length : Int) ≤ a
    · have : ¬ a < (l.Names.length : Int) := by omega
      simp [a1, a2, this]
    by_cases b1 : b < 0
    · have : ¬ 0 ≤ b := by omega
      simp [a1, a2, b1, this]
    by_cases b2 : (l.Names.length : Int) ≤ b
    · have : ¬ b < (l.Names.length : Int) := by omega
      simp [a1, a2, b1, b2, this]
    have a1' : 0 ≤ a := by omega
    have a2' : a < (l.Names.length : Int) := by omega
    have b1' : 0 ≤ b := by omega
    have b2' : b < (l.Names.length : Int) := by omega
    simp [a1, a2, b1, b2, a1', a2', b1', b2']
  · simp [h0]
theorem ref_Leq_spec {l : TLattice} (h : LatIn l) (a b : Int) : F_invigilatorref03_Leq l a b = some (sees l a b, askE l [a, b]) := by
  unfold F_invigilatorref03_Leq
  rw [ref_asked_spec h]
  simp only [Option.bind_some]
  by_cases h0 : askE l [a, b] = 0
  · simp only [h0, decide_true, cond_true]
    have h0' := h0
    unfold askE at h0
    split at h0
    case isFalse h1 => exact absurd h0 h1
    rename_i h1
    split at h0
    case isFalse => cases h0
    rename_i h2
    simp only [List.all_cons, List.all_nil, Bool.and_true, Bool.and_eq_true] at h2
    have ok := lat_ok h h1
    have ha := h2.1
    have hb := h2.2
    unfold isLab at ha hb
    simp only [Bool.and_eq_true, decide_eq_true_eq] at ha hb
    have hB := Below_spec h.u8 (a := a.toNat) (b := b.toNat) (by rw [ok.len]; omega) (by have := ok.le; omega)
    rw [Int.toNat_of_nonneg ha.1, Int.toNat_of_nonneg hb.1] at hB
    rw [hB]
    unfold sees
    simp [h1, h2.1, h2.2]
  · have : sees l a b = false := by
      cases e : sees l a b with
      | false => rfl
      | true => exact absurd (sees_ok e) h0
    simp [h0, this]
theorem ref_SameArray_spec (a b : TArray) (h : a.Cells.length ≤ 1000000000) : Tot (F_invigilatorref24_SameArray a b) fun r => (r = true ↔ a = b) := by
  unfold F_invigilatorref24_SameArray
  obtain ⟨k1, r1, ⟨p1, q1⟩, c1⟩ := a
  obtain ⟨k2, r2, ⟨p2, q2⟩, c2⟩ := b
  simp only [TArray.mk.injEq, Prod.mk.injEq, List.length_map]
  by_cases e1 : k1 = k2
  case neg => simp [e1, tot_some]
  by_cases e2 : r1 = r2
  case neg => simp [e1, e2, tot_some]
  by_cases e3 : p1 = p2
  case neg => simp [e1, e2, e3, tot_some]
  by_cases e4 : q1 = q2
  case neg => simp [e1, e2, e3, e4, tot_some]
  by_cases e5 : c1.length = c2.length
  case neg =>
    have e6 : ¬ (c1.length : Int) = c2.length := by omega
    have e7 : c1 ≠ c2 := fun e => e5 (by rw [e])
    simp [e1, e2, e3, e4, e6, e7, tot_some]
  simp only [e1, e2, e3, e4, e5, decide_true, Bool.not_true, cond_false, Bool.and_true, true_and, tot_bind, and_self]
  simp only at h
  refine zip_loop (l := c1) (m := c2) c2.length (fun x y => decide (x = y)) (bad := fun _ => false) (e := ()) (by omega) (Nat.le_refl _) (fun k x y hx hy hk => ?_) (by simp) (fun hall => ?_) (fun k x y hx hy hk e _ => ?_)
  · simp only [Int.ofNat_lt, hk, decide_true, cond_true, idxO, Int.toNat_natCast, hx, hy, Option.bind_some, letO, Int.natCast_nonneg, if_true]
    rw [w64 (by omega) (by omega)]
    by_cases hxy : x = y <;> simp [hxy]
  · have : c1 = c2 := eq_of_get e5 fun k x y hx hy hk => by simpa using hall k x y hx hy (by omega)
    simp [this, tot_some]
  · have : c1 ≠ c2 := by
      rintro rfl
      rw [hx] at hy; cases hy
      simp at e
    simp [this, tot_some]
theorem SameEvents_spec (a b : List TEvEvent) (h : a.length ≤ 1000000) (hv : ∀ v ∈ a, v.Value.Cells.length ≤ 450) : Tot (F_invigilatorref29_SameEvents a b) fun r => (r = true ↔ a = b) := by
  unfold F_invigilatorref29_SameEvents
  simp only [List.length_map]
  by_cases e5 : a.length = b.length
  case neg =>
    have e6 : ¬ (a.length : Int) = b.length := by omega
    have e7 : a ≠ b := fun e => e5 (by rw [e])
    simp [e6, e7, tot_some]
  simp only [e5, decide_true, Bool.not_true, cond_false, tot_bind]
  open Classical in
  refine zip_loop (l := a) (m := b) b.length (fun x y => decide (x = y)) (bad := fun _ => false) (e := ()) (by omega) (Nat.le_refl _) (fun k x y hx hy hk => ?_) (by simp) (fun hall => ?_) (fun k x y hx hy hk e _ => ?_)
  · obtain ⟨r, e, hr⟩ := ref_SameArray_spec x.Value y.Value (by have := hv x (List.mem_of_getElem? hx); omega)
    simp only [Int.ofNat_lt, hk, decide_true, cond_true, idxO, Int.toNat_natCast, hx, hy, Option.bind_some, letO, Int.natCast_nonneg, if_true, e]
    rw [w64 (by omega) (by omega)]
    obtain ⟨x1, x2, x3, x4, x5, x6, x7⟩ := x
    obtain ⟨y1, y2, y3, y4, y5, y6, y7⟩ := y
    simp only [TEvEvent.mk.injEq]
    simp only at hr
    by_cases z1 : x1 = y1 <;> by_cases z2 : x2 = y2 <;> by_cases z3 : x3 = y3 <;> by_cases z4 : x4 = y4 <;> by_cases z5 : x5 = y5 <;> by_cases z6 : x6 = y6 <;> by_cases z7 : x7 = y7 <;> cases r <;> simp_all
  · have : a = b := eq_of_get e5 fun k x y hx hy hk => by simpa using hall k x y hx hy (by omega)
    simp [this, tot_some]
  · have : a ≠ b := by
      rintro rfl
      rw [hx] at hy; cases hy
      simp at e
    simp [this, tot_some]
end Go.Sx.O
namespace Go.Sx.O
open Go
theorem bnd_some {g : Nat → Nat} {n a b c : Nat} (h : bnd g n a b = some c) : c < n ∧ g c = g a &&& g b := by
  have key : ∀ {j k : Nat}, scan (fun c => if g c = g a &&& g b then some c else none) k j = some c → c < k + j ∧ g c = g a &&& g b := by
    intro j
    induction j with
    | zero => intro k h; cases h
    | succ j ih =>
      intro k h
      simp only [scan] at h
      split at h
      · rename_i r hr
        cases h
        split at hr
        · rename_i hh; cases hr; exact ⟨by omega, hh⟩
        · cases hr
      · have := ih h
        exact ⟨by omega, this.2⟩
  have := key h
  simpa using this
theorem lat_join {l : TLattice} (h : LatIn l) (k : (latR l).2 = 0) {a b : Nat} (ha : a < l.Names.length) (hb : b < l.Names.length) : ∃ c, c < l.Names.length ∧ upN l c = upN l a &&& upN l b := by
  rw [latR_eq h] at k
  unfold latC at k
  split at k
  case isFalse h0 => exact absurd k h0
  split at k
  case isFalse => cases k
  split at k
  case h_1 r hr =>
    have := scan_none (f := fun a => if ordA l a = true then none else some ((a : Int), (6 : Int))) (j := l.Names.length) (k := 0)
    exfalso
    have key : ∀ {j k : Nat}, scan (fun a => if ordA l a = true then none else some ((a : Int), (6 : Int))) k j = some r → r.2 = 6 := by
      intro j
      induction j with
      | zero => intro k h; cases h
      | succ j ih =>
        intro k h
        simp only [scan] at h
        split at h
        · rename_i r' hr'
          cases h
          split at hr'
          · cases hr'
          · cases hr'; rfl
        · exact ih h
    rw [key hr] at k; cases k
  case h_2 =>
    have key2 : ∀ {a j k : Nat} {r : Int × Int}, scan (fun b => if lacks l a b = true then some ((a : Int), (4 : Int)) else none) k j = some r → r.2 = 4 := by
      intro a j
      induction j with
      | zero => intro k r h; cases h
      | succ j ih =>
        intro k r h
        simp only [scan] at h
        split at h
        · rename_i r' hr'
          cases h
          split at hr'
          · cases hr'; rfl
          · cases hr'
        · exact ih h
    have key : ∀ {j k : Nat} {r : Int × Int}, scan (fun a => scan (fun b => if lacks l a b = true then some ((a : Int), (4 : Int)) else none) 0 l.Names.length) k j = some r → r.2 = 4 := by
      intro j
      induction j with
      | zero => intro k r h; cases h
      | succ j ih =>
        intro k r h
        simp only [scan] at h
        split at h
        · rename_i r' hr'
          cases h
          exact key2 hr'
        · exact ih h
    cases hs : scan (fun a => scan (fun b => if lacks l a b = true then some ((a : Int), (4 : Int)) else none) 0 l.Names.length) 0 l.Names.length with
    | some r =>
      rw [hs] at k
      have := key hs
      simp only [Option.getD_some] at k
      rw [this] at k; cases k
    | none =>
      have h1 := scan_none.1 (scan_none.1 hs a (by omega) (by omega)) b (by omega) (by omega)
      split at h1
      · cases h1
      · rename_i h2
        unfold lacks at h2
        cases e : bnd (upN l) l.Names.length a b with
        | none => rw [e] at h2; simp at h2
        | some c => exact ⟨c, bnd_some e⟩
theorem up_trans {l : TLattice} (ok : LatOK l) {a b c : Nat} (ha : a < l.Names.length) (hb : b < l.Names.length) (hc : c < l.Names.length) (h1 : up l a b = true) (h2 : up l b c = true) : up l a c = true := (ok.row a ha b hb h1).2 c hc h2
theorem lat_top {l : TLattice} (h : LatIn l) (k : (latR l).2 = 0) : ∃ t, t < l.Names.length ∧ ∀ a, a < l.Names.length → up l a t = true := by
  have ok := lat_ok h k
  have key : ∀ j, j ≤ l.Names.length → ∃ t, t < l.Names.length ∧ ∀ a, a < j → up l a t = true := by
    intro j
    induction j with
    | zero => intro _; exact ⟨0, ok.pos, fun a ha => absurd ha (by omega)⟩
    | succ j ih =>
      intro hj
      obtain ⟨t, ht, hall⟩ := ih (by omega)
      obtain ⟨c, hc, hg⟩ := lat_join h k ht (show j < l.Names.length by omega)
      have hcc := ok.self c hc
      have hb : (upN l t &&& upN l j).testBit c = true := by rw [← hg]; exact hcc
      rw [Nat.testBit_and, Bool.and_eq_true] at hb
      refine ⟨c, hc, fun a ha => ?_⟩
      rcases Nat.lt_or_ge a j with g | g
      · exact up_trans ok (by omega) ht hc (hall a g) hb.1
      · have : a = j := by omega
        subst this; exact hb.2
  exact key _ (Nat.le_refl _)
theorem sees_of {l : TLattice} (k : (latR l).2 = 0) {a o : Int} (ha : isLab l a = true) (ho : isLab l o = true) : sees l a o = up l a.toNat o.toNat := by
  unfold sees; simp [k, ha, ho]
theorem lab_lt {l : TLattice} {a : Int} (h : isLab l a = true) : 0 ≤ a ∧ a.toNat < l.Names.length := by
  unfold isLab at h; simp at h; omega
theorem sees_trans {l : TLattice} (h : LatIn l) {a q o : Int} (h1 : sees l a q = true) (h2 : sees l q o = true) : sees l a o = true := by
  unfold sees at *
  simp only [Bool.and_eq_true, decide_eq_true_eq] at *
  obtain ⟨⟨⟨k, la⟩, lq⟩, u1⟩ := h1
  obtain ⟨⟨⟨_, _⟩, lo⟩, u2⟩ := h2
  exact ⟨⟨⟨k, la⟩, lo⟩, up_trans (lat_ok h k) (lab_lt la).2 (lab_lt lq).2 (lab_lt lo).2 u1 u2⟩
theorem seen_part {l : TLattice} (h : LatIn l) (t : TEvTrace) {q o : Int} (hq : sees l q o = true) : (seenE l t o).filter (fun v => sees l v.Label q) = seenE l t q := by
  unfold seenE
  rw [List.filter_filter]
  congr 1
  funext v
  cases e : sees l v.Label q with
  | false => rfl
  | true => rw [sees_trans h e hq]; rfl
theorem seen_all {l : TLattice} (h : LatIn l) {t : TEvTrace} (ht : TraceIn t) (k : (trR l t).2 = 0) : ∃ o : Nat, o < l.Names.length ∧ ∀ t : TEvTrace, TraceIn t → (trR l t).2 = 0 → seenE l t o = t.Events := by
  obtain ⟨k0, _⟩ := tr_ok h ht k
  obtain ⟨o, ho, hall⟩ := lat_top h k0
  refine ⟨o, ho, fun t ht k => ?_⟩
  unfold seenE
  rw [List.filter_eq_self]
  intro v hv
  have hl := (tr_ok h ht k).2 v hv
  have lo : isLab l (o : Int) = true := by unfold isLab; simp; omega
  rw [sees_of k0 hl lo]
  exact hall _ (lab_lt hl).2
end Go.Sx.O
namespace Go.Sx.O
open Go
theorem leq_spec {l : TLattice} (h : LatIn l) (a b : Int) : F_invigilatorlaw31_leq l a b = some (sees l a b) := by
  unfold F_invigilatorlaw31_leq
  rw [ref_Leq_spec h, Option.bind_some]
  by_cases h0 : askE l [a, b] = 0
  · simp [h0]
  · have : sees l a b = false := by
      cases e : sees l a b with
      | false => rfl
      | true => exact absurd (sees_ok e) h0
    simp [h0, this]
theorem part_spec {l : TLattice} (h : LatIn l) (es : List TEvEvent) (q : Int) (hl : es.length ≤ 60) {τ : Type} {Q : (List TEvEvent ⊕ τ) → Prop} (hQ : Q (.inl (es.filter fun v => sees l v.Label q))) :
    Tot (lpO (fun (s : Int × List TEvEvent) => cond (decide (s.fst < (es.length : Int))) (idxO es s.fst fun x => Option.bind (F_invigilatorlaw31_leq l x.Label q) fun z => cond z (idxO es s.fst fun y => sideO ((s.snd.length + 1) * 112 ≤ 70368744177664) (letO (IntKind.wrap .i64 (s.fst + 1)) fun u => some (Sum.inl (u, s.snd ++ [y])))) (letO (IntKind.wrap .i64 (s.fst + 1)) fun u => some (Sum.inl (u, s.snd)))) (some (Sum.inr (Sum.inl s.snd)))) ((0 : Int), ([] : List TEvEvent))) Q := by
  refine Tot.count es.length (fun k s => s.1 = (k : Int) ∧ s.2 = (es.take k).filter fun v => sees l v.Label q) ?_ ⟨rfl, by simp⟩
  rintro k ⟨i, out⟩ hk ⟨h0, h1⟩
  simp only at h0 h1
  subst h0
  simp only [tot_cond, tot_some, tot_let, tot_idx, tot_side, tot_bind, Sum.elim_inl, Sum.elim_inr, decide_eq_true_eq, decide_eq_false_iff_not, Int.toNat_natCast]
  refine ⟨fun hlt => ?_, fun hlt => ?_⟩
  · obtain ⟨x, hx⟩ := get_lt (l := es) (i := k) (by omega)
    refine ⟨by omega, x, hx, ?_⟩
    rw [leq_spec h, tot_some]
    have hlen : out.length ≤ k := by
      rw [h1]
      refine Nat.le_trans (List.length_filter_le _ _) (by simp; omega)
    rw [w64 (by omega) (by omega)]
    have hs : ((es.take (k + 1)).filter fun v => sees l v.Label q) = out ++ (if sees l x.Label q = true then [x] else []) := by
      rw [List.take_add_one, hx, List.filter_append, ← h1]
      congr 1
      simp only [Option.toList_some, List.filter_cons, List.filter_nil]
    refine ⟨fun g => ⟨by omega, x, hx, by omega, by omega, by omega, ?_⟩, fun g => ⟨by omega, by omega, ?_⟩⟩
    · rw [hs, g]; rfl
    · rw [hs, g]; simp
  · rw [h1, List.take_of_length_le (by omega)]; exact hQ
end Go.Sx.O
namespace Go.Sx.O
open Go
noncomputable def chan (t : TEvTrace) (name : List UInt8) : List TArray := (t.Events.filter fun v => decide (v.Kind = 1) && decide (v.Channel = name)).map fun v => v.Value
theorem Channel_spec (t : TEvTrace) (name : List UInt8) (h : t.Events.length ≤ 60) : F_view_Channel t name = some (chan t name) := by
  unfold F_view_Channel
  apply Tot.eq
  rw [tot_bind]
  refine Tot.count t.Events.length (fun k s => s.1 = (k : Int) ∧ s.2 = ((t.Events.take k).filter fun v => decide (v.Kind = 1) && decide (v.Channel = name)).map fun v => v.Value) ?_ ⟨rfl, by simp⟩
  rintro k ⟨i, out⟩ hk ⟨h0, h1⟩
  simp only at h0 h1
  subst h0
  simp only [List.length_map, tot_cond, tot_some, tot_let, tot_idx, tot_side, tot_bind, Sum.elim_inl, Sum.elim_inr, decide_eq_true_eq, decide_eq_false_iff_not, Int.toNat_natCast]
  refine ⟨fun hlt => ?_, fun hlt => ?_⟩
  · obtain ⟨x, hx⟩ := get_lt (l := t.Events) (i := k) (by omega)
    refine ⟨by omega, x, hx, ?_⟩
    have hlen : out.length ≤ k := by
      rw [h1, List.length_map]; exact Nat.le_trans (List.length_filter_le _ _) (by simp; omega)
    rw [w64 (by omega) (by omega)]
    have hs : ((t.Events.take (k + 1)).filter fun v => decide (v.Kind = 1) && decide (v.Channel = name)).map (fun v => v.Value) = out ++ (if (decide (x.Kind = 1) && decide (x.Channel = name)) = true then [x.Value] else []) := by
      rw [List.take_add_one, hx, List.filter_append, List.map_append, ← h1]
      congr 1
      simp only [Option.toList_some, List.filter_cons, List.filter_nil]
      split <;> rfl
    refine ⟨fun g => ⟨fun g' => ⟨by omega, by omega, by omega, ?_⟩, fun g' => ⟨by omega, by omega, ?_⟩⟩, fun g => ⟨by omega, by omega, ?_⟩⟩
    · rw [hs]; simp [g, g']
    · rw [hs]; simp [g']
    · rw [hs]; simp [g]
  · rw [h1, List.take_of_length_le (by omega)]; rfl
theorem Pairs_spec {l : TLattice} {t : TEvTrace} (hl : LatIn l) (ht : TraceIn t) (o : Int) : F_view_Pairs l t o = some (if vask l o [t] = 0 then (seenL l t o).map fun x => x.Value else [], vask l o [t]) := by
  unfold F_view_Pairs
  rw [vasked_spec hl o [t] (by simpa using ht) (by simp), Option.bind_some]
  by_cases h : vask l o [t] = 0
  case neg => simp [h]
  rw [entries_spec hl t o (by have := ht.log; omega)]
  simp only [h, decide_true, Bool.not_true, cond_false, if_true, Option.bind_some]
  change Option.bind (lpO (fun (s : Int × List (Int × Int)) => cond (decide (s.1 < ((List.length (List.map enc_TReEntry (seenL l t o)) : Nat) : Int))) (idxO (seenL l t o) s.1 _) _) _) _ = _
  have hlen := seenL_len (l := l) (o := o) ht
  apply Tot.eq
  rw [tot_bind]
  refine Tot.count (seenL l t o).length (fun k s => s.1 = (k : Int) ∧ s.2 = ((seenL l t o).take k).map fun v => v.Value) ?_ ⟨rfl, by simp⟩
  rintro k ⟨i, out⟩ hk ⟨h0, h1⟩
  simp only at h0 h1
  subst h0
  simp only [List.length_map, tot_cond, tot_some, tot_let, tot_idx, tot_side, tot_bind, Sum.elim_inl, Sum.elim_inr, decide_eq_true_eq, decide_eq_false_iff_not, Int.toNat_natCast]
  refine ⟨fun hlt => ?_, fun hlt => ?_⟩
  · obtain ⟨x, hx⟩ := get_lt (l := seenL l t o) (i := k) (by omega)
    refine ⟨by omega, x, hx, ?_⟩
    have hlen' : out.length ≤ k := by
      rw [h1, List.length_map]; simp; omega
    rw [w64 (by omega) (by omega), List.take_add_one, hx, List.map_append, ← h1]
    exact ⟨by omega, by omega, by omega, by simp⟩
  · rw [h1, List.take_of_length_le (by omega)]
noncomputable def cutT (l : TLattice) (t : TEvTrace) (o : Int) : TEvTrace := TEvTrace.mk (seenE l t o) (seenL l t o) [] (match (seenE l t o).getLast? with | some v => v.Steps | none => 0)
theorem Cut_spec {l : TLattice} {t : TEvTrace} (hl : LatIn l) (ht : TraceIn t) (o : Int) : F_view_Cut l t o = some (if vask l o [t] = 0 then (cutT l t o, 0) else (TEvTrace.mk [] [] [] 0, vask l o [t])) := by
  unfold F_view_Cut
  rw [vasked_spec hl o [t] (by simpa using ht) (by simp), Option.bind_some]
  by_cases h : vask l o [t] = 0
  case neg => simp [h]
  rw [events_spec hl t o (by have := ht.events; omega), entries_spec hl t o (by have := ht.log; omega)]
  simp only [h, decide_true, Bool.not_true, cond_false, if_true, Option.bind_some, List.length_map]
  have hlen := seenE_len (l := l) (o := o) ht
  unfold cutT
  change cond (decide ((0 : Int) < ((seenE l t o).length : Int))) (letO _ fun x => idxO (seenE l t o) x _) _ = _
  rcases Nat.eq_zero_or_pos (seenE l t o).length with g | g
  · have : seenE l t o = [] := List.length_eq_zero_iff.1 g
    simp only [this]
    have e2 : List.filter (fun v => sees l v.Label o) t.Events = [] := this
    simp only [e2]; rfl
  · have hd : decide ((0 : Int) < ((seenE l t o).length : Int)) = true := by simp; omega
    rw [hd]
    simp only [cond_true, letO]
    change idxO (seenE l t o) (IntKind.wrap .i64 (((seenE l t o).length : Int) - 1)) _ = _
    rw [w64 (by omega) (by omega)]
    unfold idxO
    have e1 : (((seenE l t o).length : Int) - 1).toNat = (seenE l t o).length - 1 := by omega
    rw [if_pos (by omega), e1, List.getLast?_eq_getElem?]
    obtain ⟨x, hx⟩ := get_lt (l := seenE l t o) (i := (seenE l t o).length - 1) (by omega)
    rw [hx]
    rfl
theorem SameArrays_spec (a b : List TArray) (h : a.length ≤ 1000000) (hv : ∀ v ∈ a, v.Cells.length ≤ 450) : Tot (F_invigilatorref31_SameArrays a b) fun r => (r = true ↔ a = b) := by
  unfold F_invigilatorref31_SameArrays
  simp only [List.length_map]
  by_cases e5 : a.length = b.length
  case neg =>
    have e6 : ¬ (a.length : Int) = b.length := by omega
    have e7 : a ≠ b := fun e => e5 (by rw [e])
    simp [e6, e7, tot_some]
  simp only [e5, decide_true, Bool.not_true, cond_false, tot_bind]
  open Classical in
  refine zip_loop (l := a) (m := b) b.length (fun x y => decide (x = y)) (bad := fun _ => false) (e := ()) (by omega) (Nat.le_refl _) (fun k x y hx hy hk => ?_) (by simp) (fun hall => ?_) (fun k x y hx hy hk e _ => ?_)
  · obtain ⟨r, e, hr⟩ := ref_SameArray_spec x y (by have := hv x (List.mem_of_getElem? hx); omega)
    simp only [Int.ofNat_lt, hk, decide_true, cond_true, idxO, Int.toNat_natCast, hx, hy, Option.bind_some, letO, Int.natCast_nonneg, if_true, e]
    rw [w64 (by omega) (by omega)]
    by_cases hxy : x = y
    · have : r = true := hr.2 hxy
      simp [hxy, this]
    · have : r = false := by cases r <;> simp_all
      simp [hxy, this]
  · have : a = b := eq_of_get e5 fun k x y hx hy hk => by simpa using hall k x y hx hy (by omega)
    simp [this, tot_some]
  · have : a ≠ b := by
      rintro rfl
      rw [hx] at hy; cases hy
      simp at e
    simp [this, tot_some]
end Go.Sx.O
namespace Go.Sx.O
open Go
theorem cut_in {l : TLattice} {t : TEvTrace} (ht : TraceIn t) (o : Int) : TraceIn (cutT l t o) :=
  ⟨seenE_len ht, seenL_len ht, fun v hv => ht.event v (List.mem_filter.1 hv).1⟩
theorem cut_seenE {l : TLattice} {t : TEvTrace} {o : Int} : seenE l (cutT l t o) o = seenE l t o := by
  unfold seenE cutT seenE
  simp only [List.filter_filter, Bool.and_self]
theorem cut_seenL {l : TLattice} {t : TEvTrace} {o : Int} : seenL l (cutT l t o) o = seenL l t o := by
  unfold seenL cutT seenL
  simp only [List.filter_filter, Bool.and_self]
theorem cut_chan {l : TLattice} {t : TEvTrace} {o : Int} {name : List UInt8} (h : ∀ u ∈ t.Events, u.Channel = name → sees l u.Label o = true) : chan (cutT l t o) name = chan t name := by
  unfold chan cutT seenE
  simp only [List.filter_filter]
  congr 1
  apply List.filter_congr
  intro v hv
  by_cases g : v.Channel = name
  · simp [h v hv g]
  · simp [g]
theorem ViewChannels_law (l : TLattice) (t : TEvTrace) (o : Int) (hu : U8s l.Up) : F_invigilatorlaw31_ViewChannels l t o = some true := by
  unfold F_invigilatorlaw31_ViewChannels
  obtain ⟨x0, e0, hl0⟩ := Large_spec l
  obtain ⟨xa, ea, ha0⟩ := far_spec t
  simp only [e0, ea, Option.bind_some]
  cases x0 with
  | true => rfl
  | false =>
  cases xa with
  | true => rfl
  | false =>
  simp only [cond_false]
  obtain ⟨n1, n2, n3⟩ := hl0 rfl
  have hl : LatIn l := ⟨hu, n1, n3⟩
  obtain ⟨p1, p2, p3⟩ := ha0 rfl
  have ht : TraceIn t := ⟨p1, p2, p3⟩
  have hc : TraceIn (cutT l t o) := cut_in ht o
  rw [Cut_spec hl ht o, Option.bind_some]
  by_cases h0 : vask l o [t] = 0
  case neg => simp [h0]
  simp only [h0, if_true, decide_true, Bool.not_true, cond_false]
  obtain ⟨ho, hk0⟩ := vask_nil.1 h0
  have hk : (trR l t).2 = 0 := hk0 t (by simp)
  apply Tot.eq
  rw [tot_bind]
  simp only [List.length_map]
  refine Tot.count t.Events.length (fun k s => s = (k : Int)) ?_ rfl
  rintro i _ hi rfl
  rw [tot_cond]
  refine ⟨fun hlt => ?_, fun _ => ?_⟩
  · have hi' : i < t.Events.length := by simp at hlt; omega
    obtain ⟨v, hv⟩ := get_lt hi'
    have next : i < t.Events.length ∧ IntKind.wrap .i64 ((i : Int) + 1) = ((i + 1 : Nat) : Int) := by
      rw [w64 (by omega) (by omega)]; exact ⟨hi', by omega⟩
    rw [tot_idx]
    refine ⟨by omega, v, by simpa using hv, ?_⟩
    rw [tot_bind]
    refine Tot.count t.Events.length (fun k s => s.1 = (k : Int) ∧ (s.2 = true → ∀ u ∈ t.Events.take k, u.Channel = v.Channel → sees l u.Label o = true)) ?_ ⟨rfl, by simp⟩
    rintro k ⟨j, all⟩ hkk ⟨g0, g1⟩
    simp only at g0 g1
    subst g0
    rw [tot_cond]
    refine ⟨fun hlt => ?_, fun hge => ?_⟩
    · have hk' : k < t.Events.length := by simp at hlt; omega
      obtain ⟨u, hu'⟩ := get_lt hk'
      have nx : IntKind.wrap .i64 ((k : Int) + 1) = ((k + 1 : Nat) : Int) := by
        rw [w64 (by omega) (by omega)]; omega
      have tk : t.Events.take (k + 1) = t.Events.take k ++ [u] := by rw [List.take_add_one, hu']; rfl
      simp only [tot_cond, tot_idx, tot_let, tot_some, leq_spec hl, Option.bind_some, Sum.elim_inl, Int.toNat_natCast]
      refine ⟨fun hall => ⟨by omega, u, hu', fun hn => ⟨hk', nx, fun _ w hw hwn => ?_⟩, fun hn => ⟨by omega, u, hu', hk', nx, fun hs w hw hwn => ?_⟩⟩, fun hall => ⟨hk', nx, fun e => by cases e⟩⟩
      · rw [tk] at hw
        rcases List.mem_append.1 hw with hw | hw
        · exact g1 hall w hw hwn
        · simp at hw; subst hw
          simp [hwn] at hn
      · rw [tk] at hw
        rcases List.mem_append.1 hw with hw | hw
        · exact g1 hall w hw hwn
        · simp at hw; subst hw; exact hs
    · have hk' : k = t.Events.length := by simp at hge; omega
      subst hk'
      rw [List.take_length] at g1
      simp only [tot_some, Sum.elim_inr, Sum.elim_inl, tot_cond, tot_let]
      refine ⟨fun hall => ?_, fun _ => next⟩
      rw [Channel_spec t _ ht.events, Channel_spec _ _ hc.events, cut_chan (g1 hall)]
      simp only [Option.bind_some, tot_bind]
      have hcl : ∀ a ∈ chan t v.Channel, a.Cells.length ≤ 450 := by
        intro a ha
        unfold chan at ha
        obtain ⟨w, hw, rfl⟩ := List.mem_map.1 ha
        exact (ht.event w (List.mem_filter.1 hw).1).2
      have hcn : (chan t v.Channel).length ≤ 60 := by
        unfold chan; rw [List.length_map]; exact Nat.le_trans (List.length_filter_le _ _) ht.events
      refine (SameArrays_spec _ _ (by omega) hcl).mono fun r hr => ?_
      rw [hr.2 rfl]
      simp only [Bool.not_true, cond_false, tot_some, tot_let, Sum.elim_inl]
      exact next
  · simp only [tot_some, Sum.elim_inr, Sum.elim_inl, Events_spec hl ht o, Pairs_spec hl ht o, h0, Option.bind_some, if_true, decide_true, Bool.not_true, cond_false, tot_bind, List.length_map]
    have q1 : (cutT l t o).Events = seenE l t o := rfl
    have q2 : (cutT l t o).Log = seenL l t o := rfl
    rw [q1, q2]
    refine (SameEvents_spec (seenE l t o) (seenE l t o) (by have := seenE_len (l := l) (o := o) ht; omega) (seenE_val ht)).mono fun r hr => ?_
    rw [hr.2 rfl]
    have hn := seenL_len (l := l) (o := o) ht
    simp only [Bool.not_true, cond_false, decide_true, tot_bind]
    refine Tot.count (seenL l t o).length (fun k s => s = (k : Int)) ?_ rfl
    rintro k _ hkk rfl
    rw [tot_cond]
    refine ⟨fun hlt => ?_, fun _ => ?_⟩
    · have hk' : k < (seenL l t o).length := by simp at hlt; omega
      obtain ⟨x, hx⟩ := get_lt hk'
      simp only [tot_idx, Int.toNat_natCast]
      refine ⟨by omega, x, hx, by omega, x.Value, by rw [List.getElem?_map, hx]; rfl, ?_⟩
      simp only [decide_true, Bool.and_true, Bool.not_true, cond_false, tot_let, tot_some, Sum.elim_inl]
      rw [w64 (by omega) (by omega)]
      exact ⟨hk', by omega⟩
    · simp only [tot_some, Sum.elim_inr, Sum.elim_inl, vCheck_eq hl hc, Option.bind_some]
      by_cases hcc : (trR l (cutT l t o)).2 = 0
      case neg => simp [hcc, tot_some]
      have hv : vask l o [t, cutT l t o] = 0 := vask_nil.2 ⟨ho, fun w hw => by simp at hw; rcases hw with rfl | rfl <;> assumption⟩
      simp only [hcc, decide_true, Bool.not_true, cond_false, tot_bind]
      refine (Alike_spec hl ht hc o).mono fun x hx => ?_
      refine (Agree_spec hl ht hc o).mono fun y hy => ?_
      have x0 : x.2 = 0 := hx.1.trans hv
      have y0 : y.2 = 0 := hy.1.trans hv
      have x1 : x.1 = true := (hx.2 x0).2 cut_seenE.symm
      have y1 : y.1 = true := (hy.2 y0).2 (by rw [cut_seenL]; exact agreeP.refl _)
      simp only [x0, y0, x1, y1, decide_true, cond_true, tot_some]
end Go.Sx.O
