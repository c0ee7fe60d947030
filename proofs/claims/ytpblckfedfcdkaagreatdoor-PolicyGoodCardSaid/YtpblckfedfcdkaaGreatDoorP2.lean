/-
  PLAIN LAWS: the lattice's check, exactly; the reference's too: names. An own text.
  PLAIN LAWS: lattice.of, .bound, exactly. An own text.
  PLAIN LAWS: the order's check, exactly, the program's and the reference's. An own text.
  PLAIN LAWS: the reference's check of a lattice, exactly. An own text.
  PLAIN LAWS: lattice.Check and the reference's Check say the same. An own text.
  PLAIN LAWS: lattice.Check, exactly. An own text.
  PLAIN LAWS: the reference's Leq; events that are the same. An own text.
  PLAIN LAWS: lattices: joins, meets, top, bottom. An own text.
  PLAIN LAWS: names, exactly: runes.Class, lexer.Check of a word, prims.Find, expr.Name, on both sides. An own text.
  PLAIN LAWS: expr.Name is the reference's. An own text.
  PLAIN LAWS: arrays.Check is the reference's. An own text.
  PLAIN LAWS: arrays.Check is the reference's, cells. An own text.
  PLAIN LAWS of layer 28: folds, names, values: the program's and the reference's. An own text.
  PLAIN LAWS of layer 28: the sum that stays at the ends; the values of folds. An own text.
  PLAIN LAWS of layer 28: the values of folds; Value. An own text.
  THE LAW ReleaseValues FOR DATA AS THEY COME. An own text.
  PLAIN LAWS of layer 19: labels, channels: the program's and the reference's. An own text.
  PLAIN LAWS of layer 19: variables: the program's and the reference's, where both find types alike good. An own text.
  PLAIN LAWS of layer 3: the bottom that the program finds. An own text.
  PLAIN LAWS of layer 3: the bottom that the reference finds. An own text.
  PLAIN LAWS of layer 18's labels: Check, Flows. An own text.
  PLAIN LAWS of layer 19: Good types: the program's. An own text.
  PLAIN LAWS of layer 19: policy.Good. An own text.
  PLAIN LAWS of layer 19: the reference's Good. An own text.
  PLAIN LAWS of layer 19: the reference's Good; the rules of both. An own text.
  PLAIN LAWS of layer 19: Check, Rule of both; what is not far. An own text.
  PLAIN LAWS of layer 4's reference: Check, Flows. An own text.
  THE LAW PolicyGood FOR DATA AS THEY COME. An own text.
-/
import Derived.Test.YtpblckfedfcdkaaGreatDoorP1
namespace Go.Sx.O
open Go
def namesF (ns : List (List UInt8)) (i : Nat) : Option (Int × Int) :=
 if wname (ns.getD i []) = true then (if ns.getD i [] ∈ ns.take i then some ((i : Int), 8) else none) else some ((i : Int), 6)
def namesR (ns : List (List UInt8)) : Int × Int := if ns.length < 1 ∨ 8 < ns.length then (-1, 3) else (scan (namesF ns) 0 ns.length).getD (0, 0)
theorem getD_lt {α : Type} {l : List α} {i : Nat} {d x : α} (h : l[i]? = some x) : l.getD i d = x := by rw [List.getD_eq_getElem?_getD, h]; rfl
theorem named_eq (ns : List (List UInt8)) (h : ns.length ≤ 20) (hn : ∀ s ∈ ns, s.length ≤ 1000) : Fz33 ns = some (namesR ns) := by
 unfold Fz33 namesR
 simp only [List.length_map]
 by_cases h1 : ns.length < 1
 · have : (ns.length : Int) < 1 := by omega
   simp [h1, this]
 by_cases h2 : 8 < ns.length
 · have : (8 : Int) < ns.length := by omega
   have g1 : ¬ (ns.length : Int) < 1 := by omega
   simp [h2, this, g1]
 have g1 : ¬ (ns.length : Int) < 1 := by omega
 have g2 : ¬ (8 : Int) < ns.length := by omega
 simp only [g1, g2, h1, h2, decide_false, cond_false, or_self, if_false]
 rw [lp_scanE ns.length (namesF ns) () (fun k hk => ?_) (by simp)]
 · cases scan (namesF ns) 0 ns.length <;> rfl
 · obtain ⟨x, hx⟩ := get_lt (l := ns) (i := k) hk
   have hxl := hn x (List.mem_of_getElem? hx)
   simp only [Int.ofNat_lt, hk, decide_true, cond_true, idxO, Int.toNat_natCast, hx, Option.bind_some, letO, Int.natCast_nonneg, if_true]
   rw [Name_spec x (by omega), Contains_strings_spec _ _ (by simp; omega)]
   unfold namesF
   rw [getD_lt hx, w64 (by omega) (by omega)]
   cases e : wname x with
   | false => simp
   | true =>
     have hk' : k ≤ ns.length := by omega
     simp only [Option.bind_some, Bool.not_true, cond_false, Int.toNat_zero, List.drop_zero, if_true]
     by_cases hm : x ∈ ns.take k
     · simp [hm, sideO, hk']
     · simp [hm, sideO, hk']
theorem lower_spec (c : UInt8) : Fz2 (c.toNat : Int) = some (decide (97 ≤ c.toNat) && decide (c.toNat ≤ 122)) := by
 unfold Fz2
 by_cases h : (97 : Int) ≤ c.toNat
 · have : 97 ≤ c.toNat := by omega
   simp only [h, this, decide_true, cond_true, Bool.true_and]
   congr 1
   rw [Bool.eq_iff_iff]; simp; omega
 · have : ¬ 97 ≤ c.toNat := by omega
   simp only [h, this, decide_false, cond_false, Bool.false_and]
theorem digit_spec (c : UInt8) : Fz3 (c.toNat : Int) = some (decide (48 ≤ c.toNat) && decide (c.toNat ≤ 57)) := by
 unfold Fz3
 by_cases h : (48 : Int) ≤ c.toNat
 · have : 48 ≤ c.toNat := by omega
   simp only [h, this, decide_true, cond_true, Bool.true_and]
   congr 1
   rw [Bool.eq_iff_iff]; simp; omega
 · have : ¬ 48 ≤ c.toNat := by omega
   simp only [h, this, decide_false, cond_false, Bool.false_and]
theorem word_byte (c : UInt8) : decide (c ∈ wordSet) = (decide (97 ≤ c.toNat) && decide (c.toNat ≤ 122) || (decide (48 ≤ c.toNat) && decide (c.toNat ≤ 57)) || decide (c.toNat = 45)) := by
 have key : ∀ n : Fin 256, decide (UInt8.ofNat n ∈ wordSet) = (decide (97 ≤ n.val) && decide (n.val ≤ 122) || (decide (48 ≤ n.val) && decide (n.val ≤ 57)) || decide (n.val = 45)) := by decide +kernel
 have := key ⟨c.toNat, c.toNat_lt⟩
 simpa using this
theorem ref_Name_spec (s : List UInt8) (h : s.length ≤ 1000000000) : Fz4 s = some (wname s) := by
 unfold Fz4
 cases s with
 | nil => rfl
 | cons a r =>
   have g1 : ¬ ((a :: r).length : Int) < 1 := by simp; omega
   simp only [g1, decide_false, cond_false]
   unfold wname
   by_cases h1 : (16 : Int) < ((a :: r).length : Int)
   · have : ¬ (a :: r).length ≤ 16 := by omega
     simp only [h1, decide_true, cond_true, this, decide_false, Bool.false_and]
   have h1' : (a :: r).length ≤ 16 := by omega
   have e5 : idxO (a :: r) 0 = fun f => (f a : Option Bool) := rfl
   simp only [h1, decide_false, cond_false, h1', decide_true, Bool.true_and, e5, lower_spec, Option.bind_some]
   cases e : (decide (97 ≤ a.toNat) && decide (a.toNat ≤ 122)) with
   | false => rfl
   | true =>
     simp only [Bool.not_true, cond_false, Bool.true_and]
     generalize a :: r = s at *
     rw [lp_scanE s.length (fun k => if decide (s.getD k 0 ∈ wordSet) = true then none else some false) () (fun k hk => ?_) (by simp)]
     · cases hs : scan (fun k => if decide (s.getD k 0 ∈ wordSet) = true then none else some false) 0 s.length with
       | none =>
         have := scan_none.1 hs
         simp only
         congr 1
         symm
         rw [List.all_eq_true]
         intro c hc
         obtain ⟨i, hi, rfl⟩ := List.getElem_of_mem hc
         have := this i (by omega) (by omega)
         rw [getD_lt (List.getElem?_eq_getElem hi)] at this
         split at this
         · assumption
         · cases this
       | some b =>
         simp only
         congr 1
         have hall : ¬ s.all (fun c => decide (c ∈ wordSet)) = true := by
          intro hall
          rw [List.all_eq_true] at hall
          have : scan (fun k => if decide (s.getD k 0 ∈ wordSet) = true then none else some false) 0 s.length = none := scan_none.2 fun i _ hi => by
           have hi' : i < s.length := by omega
           rw [getD_lt (List.getElem?_eq_getElem hi'), if_pos (hall _ (List.getElem_mem hi'))]
          rw [this] at hs; cases hs
         have hb : b = false := by
          have key : ∀ {j k : Nat}, scan (fun k => if decide (s.getD k 0 ∈ wordSet) = true then none else some false) k j = some b → b = false := by
           intro j
           induction j with
           | zero => intro k h; cases h
           | succ j ih =>
             intro k h
             simp only [scan] at h
             split at h
             · rename_i r hr
               cases h
               split at hr
               · cases hr
               · cases hr; rfl
             · exact ih h
          exact key hs
         rw [hb]
         cases e : s.all (fun c => decide (c ∈ wordSet)) with
         | false => rfl
         | true => exact absurd e hall
     · obtain ⟨x, hx⟩ := get_lt (l := s) (i := k) hk
       simp only [Int.ofNat_lt, hk, decide_true, cond_true, idxO, Int.toNat_natCast, hx, Option.bind_some, letO, Int.natCast_nonneg, if_true, lower_spec, digit_spec]
       rw [getD_lt hx, w64 (by omega) (by omega), word_byte]
       cases (decide (97 ≤ x.toNat) && decide (x.toNat ≤ 122)) with
       | true => simp
       | false =>
         cases (decide (48 ≤ x.toNat) && decide (x.toNat ≤ 57)) with
         | true => simp
         | false =>
           by_cases h45 : x.toNat = 45
           · simp [h45]
           · have : ¬ (x.toNat : Int) = 45 := by omega
             simp [h45, this]
theorem ref_names_eq (ns : List (List UInt8)) (h : ns.length ≤ 20) (hn : ∀ s ∈ ns, s.length ≤ 1000) : Fz5 ns = some (namesR ns) := by
 unfold Fz5 namesR
 simp only [List.length_map]
 by_cases h1 : ns.length < 1
 · have : (ns.length : Int) < 1 := by omega
   simp [h1, this]
 by_cases h2 : 8 < ns.length
 · have : (8 : Int) < ns.length := by omega
   have g1 : ¬ (ns.length : Int) < 1 := by omega
   simp [h2, this, g1]
 have g1 : ¬ (ns.length : Int) < 1 := by omega
 have g2 : ¬ (8 : Int) < ns.length := by omega
 simp only [g1, g2, h1, h2, decide_false, cond_false, or_self, if_false]
 rw [lp_scanE ns.length (namesF ns) () (fun k hk => ?_) (by simp)]
 · cases scan (namesF ns) 0 ns.length <;> rfl
 · obtain ⟨x, hx⟩ := get_lt (l := ns) (i := k) hk
   have hxl := hn x (List.mem_of_getElem? hx)
   simp only [Int.ofNat_lt, hk, decide_true, cond_true, idxO, Int.toNat_natCast, hx, Option.bind_some, Int.natCast_nonneg, if_true]
   rw [ref_Name_spec x (by omega)]
   unfold namesF
   rw [getD_lt hx]
   cases e : wname x with
   | false => simp
   | true =>
     simp only [Option.bind_some, Bool.not_true, cond_false, if_true]
     rw [lp_scanE k (fun j => if ns.getD j [] = x then some (.inr (.inr ((k : Int), (8 : Int)))) else none) () (fun j hj => ?_) (by simp)]
     · by_cases hm : x ∈ ns.take k
       · obtain ⟨j, hj, rfl⟩ := List.getElem_of_mem hm
         have hj' : j < k ∧ j < ns.length := by simp at hj; omega
         cases hs : scan (fun i => if ns.getD i [] = (ns.take k)[j] then some ((.inr (.inr ((k : Int), (8 : Int)))) : Int ⊕ (Unit ⊕ (Int × Int))) else none) 0 k with
         | none =>
           have := scan_none.1 hs j (by omega) (by omega)
           rw [getD_lt (List.getElem?_eq_getElem hj'.2)] at this
           simp at this
         | some b =>
           have : b = .inr (.inr ((k : Int), (8 : Int))) := scan_val (fun i => by split <;> simp) hs
           rw [this, if_pos hm]
       · have : scan (fun j => if ns.getD j [] = x then some ((.inr (.inr ((k : Int), (8 : Int)))) : Int ⊕ (Unit ⊕ (Int × Int))) else none) 0 k = none := scan_none.2 fun i _ hi => by
          have hi' : i < ns.length := by omega
          rw [getD_lt (List.getElem?_eq_getElem hi'), if_neg]
          rintro rfl
          exact hm (List.mem_iff_getElem.2 ⟨i, by simp; omega, by simp⟩)
         rw [this]
         simp only [hm, if_false, letO]
         rw [w64 (by omega) (by omega)]
     · obtain ⟨y, hy⟩ := get_lt (l := ns) (i := j) (by omega)
       simp only [Int.ofNat_lt, hj, decide_true, cond_true, idxO, Int.toNat_natCast, hy, Option.bind_some, letO, Int.natCast_nonneg, if_true, hx]
       rw [getD_lt hy, w64 (by omega) (by omega)]
       by_cases hxy : y = x
       · simp [hxy]
       · simp [hxy]
end Go.Sx.O
namespace Go.Sx.O
open Go
def dn (l : TL) (b : Nat) : Nat → Nat
 | 0 => 0
 | k + 1 => dn l b k ||| (if up l k b = true then 2 ^ k else 0)
theorem dn_bit (l : TL) (b : Nat) : ∀ (k i : Nat), (dn l b k).testBit i = (decide (i < k) && up l i b)
 | 0, i => by simp [dn]
 | k + 1, i => by
   simp only [dn, Nat.testBit_or, dn_bit l b k i]
   by_cases h : up l k b = true
   · simp only [h, if_true, Nat.testBit_two_pow]
     by_cases hik : i = k
     · subst hik; simp [h]
     · have h1 : ¬ k = i := fun e => hik e.symm
       have h2 : (i < k + 1) = (i < k) := by simp; omega
       simp [h1, h2]
   · simp only [h, if_false, Nat.zero_testBit, Bool.or_false]
     by_cases hik : i = k
     · subst hik; simp [h]
     · have h2 : (i < k + 1) = (i < k) := by simp; omega
       simp [h2]
theorem dn_lt (l : TL) (b : Nat) : ∀ k : Nat, dn l b k < 2 ^ k
 | 0 => by simp [dn]
 | k + 1 => by
   simp only [dn]
   refine Nat.or_lt_two_pow (Nat.lt_of_lt_of_le (dn_lt l b k) (Nat.pow_le_pow_right (by omega) (by omega))) ?_
   split
   · exact Nat.pow_lt_pow_right (by omega) (by omega)
   · exact Nat.two_pow_pos _
theorem dn_256 (l : TL) (b : Nat) {k : Nat} (h : k ≤ 8) : dn l b k < 256 := Nat.lt_of_lt_of_le (dn_lt l b k) (Nat.pow_le_pow_right (n := 2) (by omega) h)
theorem shl_bit {c : Bool} {k : Nat} (h : k < 8) : IntKind.wrap .u8 ((if c = true then (1 : Int) else 0) * 2 ^ min k (IntKind.bits .u8)) = ((if c = true then 2 ^ k else 0 : Nat) : Int) := by
 have key : ∀ (c : Bool) (k : Fin 8), IntKind.wrap .u8 ((if c = true then (1 : Int) else 0) * 2 ^ min k.val (IntKind.bits .u8)) = ((if c = true then 2 ^ k.val else 0 : Nat) : Int) := by decide +kernel
 exact key c ⟨k, h⟩
theorem or_nat {a b : Nat} (ha : a < 256) (hb : b < 256) : bits .or .u8 (a : Int) (b : Int) = ((a ||| b : Nat) : Int) := by
 rw [bits_or (by omega) (by omega) (by omega) (by omega)]; rfl
theorem and_nat {a b : Nat} (ha : a < 256) (hb : b < 256) : bits .and .u8 (a : Int) (b : Int) = ((a &&& b : Nat) : Int) := by
 rw [bits_and (by omega) (by omega) (by omega) (by omega)]; rfl
theorem sh_lt {c : Bool} {k : Nat} (h : k < 8) : (if c = true then 2 ^ k else 0) < 256 := by
 split
 · exact Nat.lt_of_lt_of_le (Nat.pow_lt_pow_right (a := 2) (by omega) h) (by omega)
 · omega
theorem get_set {α : Type} {l : List α} {i j : Nat} {x : α} (h : i < l.length) : (l.set i x)[j]? = if i = j then some x else l[j]? := by
 rw [List.getElem?_set]
 split
 · simp [h]
 · rfl
theorem of_exact (l : TL) (hu : U8s l.Up) (hn : l.Names.length ≤ 8) (hl : l.Up.length = l.Names.length) :
 Tot (Fz35 l) fun o => o.n_ = l.Names.length ∧ o.up_.length = 8 ∧ o.down_.length = 8 ∧ (∀ j, j < l.Names.length → o.up_[j]? = l.Up[j]?) ∧ ∀ b, b < l.Names.length → o.down_[b]? = some (dn l b l.Names.length : Int) := by
 unfold Fz35
 simp only [tot_bind, List.length_map]
 refine Tot.count l.Up.length (fun k s => s.1 = (k : Int) ∧ s.2.1.length = 8 ∧ s.2.2.length = 8 ∧ (∀ j, j < k → s.2.1[j]? = l.Up[j]?) ∧ ∀ b, b < l.Names.length → s.2.2[b]? = some (dn l b k : Int)) ?_ ⟨rfl, rfl, rfl, fun j hj => absurd hj (by omega), fun b hb => ?_⟩
 · rintro k ⟨i, up', down⟩ hk ⟨h0, h1, h2, h3, h4⟩
   simp only at h0 h1 h2 h3 h4
   subst h0
   simp only [tot_some, tot_cond, tot_let, tot_idx, tot_side, tot_bind, Sum.elim_inl, Sum.elim_inr, decide_eq_true_eq, decide_eq_false_iff_not, Int.toNat_natCast]
   refine ⟨fun hlt => ?_, fun hlt => ?_⟩
   · obtain ⟨x, hx⟩ := get_lt (l := l.Up) (i := k) (by omega)
     obtain ⟨y, hy⟩ := get_lt (l := up') (i := k) (by omega)
     refine ⟨by omega, x, hx, ⟨by omega, by omega⟩, by omega, y, hy, ?_⟩
     have hx' := hu.get hx
     refine Tot.count l.Names.length (fun j s => s.1 = (j : Int) ∧ s.2.length = 8 ∧ ∀ b, b < l.Names.length → s.2[b]? = some (dn l b (if b < j then k + 1 else k) : Int)) ?_ ⟨rfl, h2, fun b hb => by simpa using h4 b hb⟩
     rintro j ⟨i', d⟩ hj ⟨g0, g1, g2⟩
     simp only at g0 g1 g2
     subst g0
     simp only [tot_some, tot_cond, tot_let, tot_idx, tot_side, tot_bind, Sum.elim_inl, Sum.elim_inr, decide_eq_true_eq, decide_eq_false_iff_not, Int.toNat_natCast]
     refine ⟨fun hlt' => ?_, fun hlt' => ?_⟩
     · have hz := g2 j (by omega)
       rw [if_neg (by omega)] at hz
       rw [w64 (by omega) (by omega)]
       refine ⟨⟨by omega, by omega⟩, by omega, _, hz, by omega, by omega, ⟨by omega, by omega⟩, by omega, _, hz, by omega, by omega, by simpa using g1, fun b hb => ?_⟩
       rw [get_set (by omega)]
       by_cases hjb : j = b
       · subst hjb
         rw [if_pos rfl, if_pos (by omega), bitAt hx'.1 hx'.2 (by omega), ← up_of hx, shl_bit (by omega), or_nat (dn_256 l j (by omega)) (sh_lt (by omega))]
         rfl
       · rw [if_neg hjb, g2 b hb]
         have : (b < j + 1) = (b < j) := by simp; omega
         simp only [this]
     · rw [w64 (by omega) (by omega)]
       refine ⟨by omega, by omega, by simpa using h1, g1, fun q hq => ?_, fun b hb => ?_⟩
       · rw [get_set (by omega)]
         by_cases hkq : k = q
         · subst hkq; rw [if_pos rfl, hx]
         · rw [if_neg hkq]; exact h3 q (by omega)
       · rw [g2 b hb, if_pos (by omega)]
   · have hkn : k = l.Names.length := by omega
     subst hkn
     exact ⟨trivial, h1, h2, h3, h4⟩
 · have h8 : ∀ b : Fin 8, ([0, 0, 0, 0, 0, 0, 0, 0] : List Int)[b.val]? = some 0 := by decide
   exact h8 ⟨b, by omega⟩
theorem sideO_pos {ρ : Type} {p : Prop} [Decidable p] {x : Option ρ} (h : p) : sideO p x = x := by unfold sideO; rw [if_pos h]
def bnd (g : Nat → Nat) (n a b : Nat) : Option Nat := scan (fun c => if g c = g a &&& g b then some c else none) 0 n
def bndI (g : Nat → Nat) (n a b : Nat) : Int := match bnd g n a b with | some c => c | none => -1
theorem bound_exact (m : List Int) (g : Nat → Nat) (n a b : Nat) (hn : n ≤ 8) (hg : ∀ c, c < n → m[c]? = some (g c : Int)) (hg8 : ∀ c, c < n → g c < 256) (hs : ∀ c, c < n → (g c).testBit c = true) (ha : a < n) (hb : b < n) :
 Fz36 m n a b = some (bndI g n a b) := by
 unfold Fz36 bndI bnd
 have s1 : ((0 : Int) ≤ (a : Int) ∧ (a : Int) < ((8 : Nat) : Int)) := by omega
 have s2 : ((0 : Int) ≤ (b : Int) ∧ (b : Int) < ((8 : Nat) : Int)) := by omega
 simp only [sideO_pos s1, sideO_pos s2]
 simp only [idxO, Int.toNat_natCast, Int.natCast_nonneg, if_true, hg a ha, hg b hb, Option.bind_some, and_nat (hg8 a ha) (hg8 b hb)]
 have h8 : g a &&& g b < 256 := and_lt (hg8 a ha)
 generalize g a &&& g b = both at *
 rw [lp_scanE n (fun c => if g c = both then some (c : Int) else none) () (fun c hc => ?_) (by simp)]
 · have e : (fun c => if g c = both then some (c : Int) else none) = fun c => (if g c = both then some c else none).map (fun c : Nat => (c : Int)) := by
    funext c; split <;> rfl
   rw [e, scan_map]
   cases scan (fun c => if g c = both then some c else none) 0 n <;> rfl
 · have s3 : ((0 : Int) ≤ (c : Int) ∧ (c : Int) < ((8 : Nat) : Int)) := by omega
   simp only [sideO_pos s3]
   simp only [Int.ofNat_lt, hc, decide_true, cond_true, sideO, Int.natCast_nonneg, if_true, hg c hc, Option.bind_some, letO]
   rw [w64 (by omega) (by omega), bitAt (by omega) (by omega) (by omega)]
   simp only [Int.toNat_natCast]
   by_cases hbc : both.testBit c = true
   · simp only [hbc, if_true, decide_true, cond_true]
     rw [hg c hc]
     by_cases hgc : g c = both
     · simp [hgc]
     · have : ¬ (g c : Int) = (both : Int) := by omega
       simp [hgc, this]
   · have : g c ≠ both := fun e => hbc (e ▸ hs c hc)
     simp [hbc, this]
theorem nearest_exact (m : List Int) (g : Nat → Nat) (a b : Nat) (hn : m.length ≤ 8) (hg : ∀ c, c < m.length → m[c]? = some (g c : Int)) (hg8 : ∀ c, c < m.length → g c < 256) (ha : a < m.length) (hb : b < m.length) :
 Fz9 m a b = some (bndI g m.length a b) := by
 unfold Fz9 bndI bnd
 simp only [idxO, Int.toNat_natCast, Int.natCast_nonneg, if_true, hg a ha, hg b hb, Option.bind_some, and_nat (hg8 a ha) (hg8 b hb), List.length_map]
 have h8 : g a &&& g b < 256 := and_lt (hg8 a ha)
 generalize g a &&& g b = both at *
 rw [lp_scanE m.length (fun c => if g c = both then some (c : Int) else none) () (fun c hc => ?_) (by simp)]
 · have e : (fun c => if g c = both then some (c : Int) else none) = fun c => (if g c = both then some c else none).map (fun c : Nat => (c : Int)) := by
    funext c; split <;> rfl
   rw [e, scan_map]
   cases scan (fun c => if g c = both then some c else none) 0 m.length <;> rfl
 · simp only [Int.ofNat_lt, hc, decide_true, cond_true, hg c hc, Option.bind_some, letO]
   rw [w64 (by omega) (by omega), Int.toNat_natCast, if_pos (by omega), hg c hc]
   by_cases hgc : g c = both
   · simp [hgc]
   · have : ¬ (g c : Int) = (both : Int) := by omega
     simp [hgc, this]
end Go.Sx.O
namespace Go.Sx.O
open Go
def upN (l : TL) (a : Nat) : Nat := (l.Up.getD a 0).toNat
def ordB (l : TL) (a b : Nat) : Bool := !up l a b || ((decide (b = a) || !up l b a) && (List.range l.Names.length).all fun i => !up l b i || up l a i)
def ordA (l : TL) (a : Nat) : Bool := decide (upN l a < 2 ^ l.Names.length) && up l a a && (List.range l.Names.length).all fun b => ordB l a b
def dnN (l : TL) (b : Nat) : Nat := dn l b l.Names.length
def lacks (l : TL) (a b : Nat) : Bool := (bnd (upN l) l.Names.length a b).isNone || (bnd (dnN l) l.Names.length a b).isNone
def latC (l : TL) : Int × Int :=
 if (namesR l.Names).2 = 0 then
  if l.Up.length = l.Names.length then
   match scan (fun a => if ordA l a = true then none else some ((a : Int), (6 : Int))) 0 l.Names.length with
   | some r => r
   | none => (scan (fun a => scan (fun b => if lacks l a b = true then some ((a : Int), (4 : Int)) else none) 0 l.Names.length) 0 l.Names.length).getD (0, 0)
  else (-1, 6)
 else namesR l.Names
theorem scan_pv {α : Type} {p : Nat → Bool} {v : α} : ∀ {j k : Nat}, scan (fun i => if p i = true then none else some v) k j = if (List.range j).all (fun i => p (k + i)) = true then none else some v
 | 0, _ => by simp [scan]
 | j + 1, k => by
   simp only [scan, scan_pv (j := j) (k := k + 1)]
   have e : (List.range (j + 1)).all (fun i => p (k + i)) = (p k && (List.range j).all fun i => p (k + 1 + i)) := by
    rw [List.range_succ_eq_map, List.all_cons, List.all_map]
    congr 1
    congr 1
    funext i
    simp only [Function.comp]
    congr 1; omega
   rw [e]
   cases p k <;> simp
theorem scan_last {α : Type} {p : Nat → Bool} {u v : α} {n : Nat} : ∀ {j k : Nat}, k + j = n → 0 < j → scan (fun i => if p i = true then (if i + 1 = n then some u else none) else some v) k j = some (if (List.range j).all (fun i => p (k + i)) = true then u else v)
 | 0, _, _, h => by omega
 | j + 1, k, hk, _ => by
   have e : (List.range (j + 1)).all (fun i => p (k + i)) = (p k && (List.range j).all fun i => p (k + 1 + i)) := by
    rw [List.range_succ_eq_map, List.all_cons, List.all_map]
    congr 1
    congr 1
    funext i
    simp only [Function.comp]
    congr 1; omega
   rw [e]
   simp only [scan]
   cases hp : p k with
   | false => simp
   | true =>
     simp only [if_true, Bool.true_and]
     by_cases hj : j = 0
     · subst hj
       have : k + 1 = n := by omega
       simp [this]
     · have : ¬ k + 1 = n := by omega
       simp only [this, if_false]
       exact scan_last (by omega) (by omega)
theorem Len8_exact (x : Int) (h0 : 0 ≤ x) (h1 : x < 256) : Tot (Fz34 x) fun y => ∀ n : Nat, n ≤ 8 → decide ((n : Int) < y) = !decide (x.toNat < 2 ^ n) := by
 unfold Fz34
 rw [tot_idx]
 refine ⟨h0, ?_⟩
 have key : ∀ l : List UInt8, (∀ x : Fin 256, ∀ n : Fin 9, (l[x.val]?.map fun y => decide ((n.val : Int) < IntKind.wrap .i64 (y.toNat : Int))) = some (!decide (x.val < 2 ^ n.val))) →
  ∃ y, l[x.toNat]? = some y ∧ Tot (letO (IntKind.wrap .i64 (y.toNat : Int)) fun z => some z) fun y => ∀ n : Nat, n ≤ 8 → decide ((n : Int) < y) = !decide (x.toNat < 2 ^ n) := by
  intro l hl
  cases e : l[x.toNat]? with
  | none =>
    have := hl ⟨x.toNat, by omega⟩ ⟨0, by omega⟩
    simp only [e] at this
    cases this
  | some y =>
    refine ⟨y, rfl, .mk fun n hn => ?_⟩
    have := hl ⟨x.toNat, by omega⟩ ⟨n, by omega⟩
    simp only [e] at this
    exact Option.some.inj this
 exact key _ (by decide +kernel)
theorem Below_spec {l : TL} (hu : U8s l.Up) {a b : Nat} (ha : a < l.Up.length) (hb : b ≤ 8) : Fz6 l a b = some (up l a b) := by
 unfold Fz6
 obtain ⟨x, hx⟩ := get_lt ha
 have hx' := hu.get hx
 have key : ∀ u : Fin 256, ∀ b : Fin 9, decide (Int.tmod (Int.fdiv (u.val : Int) (2 ^ min b.val (IntKind.bits .u8))) 2 = 1) = Nat.testBit u b := by decide +kernel
 have := key ⟨x.toNat, by omega⟩ ⟨b, by omega⟩
 simp only [Int.toNat_of_nonneg hx'.1] at this
 simp only [List.length_map, Int.natCast_nonneg, decide_true, cond_true, Int.ofNat_lt, ha, idxO, Int.toNat_natCast, if_true, hx, Option.bind_some, sideO, this, up_of hx]
theorem wrap_i64n {n : Nat} (h : n < 1000000) : IntKind.wrap .i64 (n : Int) = n := w64 (by omega) (by omega)
theorem ofInt_n (n : Nat) : BitVec.ofInt 64 (n : Int) = BitVec.ofNat 64 n := BitVec.ofInt_natCast 64 n
theorem and_i64 {a b : Nat} (ha : a < 1000000) (hb : b < 1000000) : bits .and .i64 (a : Int) (b : Int) = ((a &&& b : Nat) : Int) := by
 have e : bits .and .i64 (a : Int) (b : Int) = IntKind.wrap .i64 ((BitVec.ofInt 64 (a : Int) &&& BitVec.ofInt 64 (b : Int)).toNat : Int) := rfl
 rw [e, ofInt_n, ofInt_n, BitVec.toNat_and, BitVec.toNat_ofNat, BitVec.toNat_ofNat, Nat.mod_eq_of_lt (by omega), Nat.mod_eq_of_lt (by omega)]
 exact wrap_i64n (Nat.lt_of_le_of_lt Nat.and_le_left ha)
theorem sub_bits {x y n : Nat} : ((y &&& (2 ^ n - 1)) &&& x = y &&& (2 ^ n - 1)) ↔ ((List.range n).all fun i => !y.testBit i || x.testBit i) = true := by
 rw [List.all_eq_true]
 constructor
 · intro h i hi
   have hi' : i < n := by simpa using hi
   have := congrArg (fun z => z.testBit i) h
   simp only [Nat.testBit_and, Nat.testBit_two_pow_sub_one, hi', decide_true, Bool.and_true] at this
   cases e : y.testBit i with
   | false => rfl
   | true => rw [e] at this; simpa using this
 · intro h
   apply Nat.eq_of_testBit_eq
   intro i
   simp only [Nat.testBit_and, Nat.testBit_two_pow_sub_one]
   by_cases hi : i < n
   · have := h i (by simpa using hi)
     simp only [hi, decide_true, Bool.and_true]
     cases e : y.testBit i with
     | false => rfl
     | true => rw [e] at this; simpa using this
   · simp [hi]
end Go.Sx.O
namespace Go.Sx.O
open Go
theorem upN_of {l : TL} {a : Nat} {x : Int} (h : l.Up[a]? = some x) : upN l a = x.toNat := by unfold upN; rw [getD_lt h]
theorem upN_bit {l : TL} {a b : Nat} : (upN l a).testBit b = up l a b := rfl
theorem upN_lt {l : TL} (hu : U8s l.Up) {a : Nat} (ha : a < l.Up.length) : upN l a < 256 := by
 obtain ⟨x, hx⟩ := get_lt ha
 have := hu.get hx
 rw [upN_of hx]; omega
theorem upN_get {l : TL} (hu : U8s l.Up) {a : Nat} (ha : a < l.Up.length) : l.Up[a]? = some (upN l a : Int) := by
 obtain ⟨x, hx⟩ := get_lt ha
 have := hu.get hx
 rw [hx, upN_of hx, Int.toNat_of_nonneg this.1]
theorem ordered_spec {l : TL} (hu : U8s l.Up) (h8 : l.Names.length ≤ 8) (hl : l.Up.length = l.Names.length) {a : Nat} (ha : a < l.Names.length) : Fz7 l a = some (ordA l a) := by
 unfold Fz7 ordA
 have g0 : ((0 : Int) ≤ (l.Names.length : Int)) := by omega
 have hb := fun b (hb : b < l.Names.length) => Below_spec hu (a := a) (b := b) (by omega) (by omega)
 have hxa := upN_get hu (a := a) (by omega)
 have hlt := upN_lt hu (a := a) (by omega)
 have sh : decide ((0 : Int) < Int.fdiv (upN l a : Int) (2 ^ min l.Names.length (IntKind.bits .i64))) = !decide (upN l a < 2 ^ l.Names.length) := by
  have key : ∀ u : Fin 256, ∀ n : Fin 9, decide ((0 : Int) < Int.fdiv (u.val : Int) (2 ^ min n.val (IntKind.bits .i64))) = !decide (u.val < 2 ^ n.val) := by decide +kernel
  exact key ⟨upN l a, hlt⟩ ⟨l.Names.length, by omega⟩
 have mk : IntKind.wrap .i64 (IntKind.wrap .i64 (1 * 2 ^ min l.Names.length (IntKind.bits .i64)) - 1) = ((2 ^ l.Names.length - 1 : Nat) : Int) := by
  have key : ∀ n : Fin 9, IntKind.wrap .i64 (IntKind.wrap .i64 (1 * 2 ^ min n.val (IntKind.bits .i64)) - 1) = ((2 ^ n.val - 1 : Nat) : Int) := by decide +kernel
  exact key ⟨l.Names.length, by omega⟩
 have mk' : 2 ^ l.Names.length - 1 < 1000000 := by
  have : 2 ^ l.Names.length ≤ 2 ^ 8 := Nat.pow_le_pow_right (by omega) h8
  omega
 simp only [List.length_map, sideO_pos g0, Int.toNat_natCast]
 simp only [idxO, Int.toNat_natCast, Int.natCast_nonneg, if_true, hxa, Option.bind_some, letO]
 rw [wrap_i64n (by omega), sh, hb a ha, mk]
 cases e1 : decide (upN l a < 2 ^ l.Names.length) with
 | false => simp
 | true =>
   simp only [Bool.not_true, cond_false, Bool.true_and, Option.bind_some]
   cases e2 : up l a a with
   | false => simp
   | true =>
     simp only [Bool.not_true, cond_false, Bool.true_and]
     rw [lp_scanE l.Names.length (fun b => if ordB l a b = true then none else some false) () (fun b hbn => ?_) (by simp)]
     · rw [scan_pv]
       simp only [Nat.zero_add]
       cases (List.range l.Names.length).all fun b => ordB l a b <;> rfl
     · have hxb := upN_get hu (a := b) (by omega)
       have hltb := upN_lt hu (a := b) (by omega)
       simp only [Int.ofNat_lt, hbn, decide_true, cond_true, Option.bind_some, Int.toNat_natCast, hxb]
       rw [hb b hbn, wrap_i64n (n := upN l b) (by omega), and_i64 (by omega) mk', w64 (by omega) (by omega), Below_spec hu (by omega) (by omega)]
       have hand : upN l b &&& (2 ^ l.Names.length - 1) < 1000000 := Nat.lt_of_le_of_lt Nat.and_le_left (by omega)
       rw [and_i64 hand (by omega)]
       have hsub := sub_bits (x := upN l a) (y := upN l b) (n := l.Names.length)
       simp only [upN_bit] at hsub
       have hsub' : decide ((((upN l b &&& (2 ^ l.Names.length - 1)) &&& upN l a : Nat) : Int) = ((upN l b &&& (2 ^ l.Names.length - 1) : Nat) : Int)) = (List.range l.Names.length).all fun i => !up l b i || up l a i := by
        rw [Bool.eq_iff_iff, ← hsub, decide_eq_true_eq]; omega
       rw [hsub']
       unfold ordB
       cases e3 : up l a b with
       | false => simp
       | true =>
         simp only [Option.bind_some, Bool.not_true, cond_false, Bool.false_or]
         by_cases hba : b = a
         · subst hba
           simp only [decide_true, Bool.not_true, cond_false, Bool.true_or, Bool.true_and]
           cases (List.range l.Names.length).all fun i => !up l b i || up l b i <;> simp
         · have : ¬ (b : Int) = (a : Int) := by omega
           simp only [this, hba, decide_false, Bool.not_false, cond_true, Bool.false_or]
           cases up l b a with
           | true => simp
           | false =>
             cases (List.range l.Names.length).all fun i => !up l b i || up l a i <;> simp
theorem downs_spec {l : TL} (hu : U8s l.Up) (h8 : l.Names.length ≤ 8) (hl : l.Up.length = l.Names.length) : Tot (Fz8 l) fun d => d.length = l.Names.length ∧ ∀ b, b < l.Names.length → d[b]? = some (dnN l b : Int) := by
 unfold Fz8
 simp only [tot_bind, tot_side, List.length_map, Int.toNat_natCast]
 refine ⟨⟨by omega, trivial, by omega, by omega⟩, ?_⟩
 refine Tot.count l.Names.length (fun k s => s.1 = (k : Int) ∧ s.2.length = l.Names.length ∧ ∀ b, b < l.Names.length → s.2[b]? = some (dn l b k : Int)) ?_ ⟨rfl, by simp, fun b hb => ?_⟩
 · rintro k ⟨i, down⟩ hk ⟨h0, h2, h4⟩
   simp only at h0 h2 h4
   subst h0
   simp only [tot_some, tot_cond, tot_let, tot_idx, tot_side, tot_bind, Sum.elim_inl, Sum.elim_inr, decide_eq_true_eq, decide_eq_false_iff_not, Int.toNat_natCast]
   refine ⟨fun hlt => ?_, fun hlt => ?_⟩
   · refine Tot.count l.Names.length (fun j s => s.1 = (j : Int) ∧ s.2.length = l.Names.length ∧ ∀ b, b < l.Names.length → s.2[b]? = some (dn l b (if b < j then k + 1 else k) : Int)) ?_ ⟨rfl, h2, fun b hb => by simpa using h4 b hb⟩
     rintro j ⟨i', d⟩ hj ⟨g0, g1, g2⟩
     simp only at g0 g1 g2
     subst g0
     simp only [tot_some, tot_cond, tot_let, tot_idx, tot_side, tot_bind, Sum.elim_inl, Sum.elim_inr, decide_eq_true_eq, decide_eq_false_iff_not, Int.toNat_natCast]
     refine ⟨fun hlt' => ?_, fun hlt' => ?_⟩
     · rw [Below_spec hu (by omega) (by omega), tot_some]
       have hz := g2 j (by omega)
       rw [if_neg (by omega)] at hz
       rw [w64 (by omega) (by omega)]
       refine ⟨fun hup => ⟨⟨by omega, by simp; omega⟩, by omega, _, hz, by omega, ⟨by omega, by simp; omega⟩, by omega, _, hz, by omega, by omega, by simpa using g1, fun b hb => ?_⟩, fun hup => ⟨by omega, by omega, g1, fun b hb => ?_⟩⟩
       · have hsh := shl_bit (c := true) (k := k) (by omega)
         simp only [if_true] at hsh
         rw [get_set (by omega), hsh]
         by_cases hjb : j = b
         · subst hjb
           have hp : 2 ^ k < 256 := Nat.lt_of_lt_of_le (Nat.pow_lt_pow_right (a := 2) (by omega) (show k < 8 by omega)) (by omega)
           rw [if_pos rfl, if_pos (by omega), or_nat (dn_256 l j (by omega)) hp]
           simp [dn, hup]
         · rw [if_neg hjb, g2 b hb]
           have : (b < j + 1) = (b < j) := by simp; omega
           simp only [this]
       · rw [g2 b hb]
         by_cases hjb : j = b
         · subst hjb
           rw [if_neg (by omega), if_pos (by omega)]
           simp [dn, hup]
         · have : (b < j + 1) = (b < j) := by simp; omega
           simp only [this]
     · rw [w64 (by omega) (by omega)]
       refine ⟨by omega, by omega, g1, fun b hb => ?_⟩
       rw [g2 b hb, if_pos (by omega)]
   · have hkn : k = l.Names.length := by omega
     subst hkn
     exact ⟨h2, h4⟩
 · rw [List.getElem?_replicate, if_pos hb]; rfl
end Go.Sx.O
namespace Go.Sx.O
open Go
theorem bnd_sign (g : Nat → Nat) (n a b : Nat) : decide (bndI g n a b < 0) = (bnd g n a b).isNone := by
 unfold bndI
 cases bnd g n a b with
 | none => rfl
 | some c => simp
theorem dnN_lt {l : TL} (h8 : l.Names.length ≤ 8) (b : Nat) : dnN l b < 256 := dn_256 l b h8
theorem ref_Check_eq (l : TL) (hu : U8s l.Up) (hn : l.Names.length ≤ 20) (hs : ∀ s ∈ l.Names, s.length ≤ 1000) : Fz10 l = some (latC l) := by
 unfold Fz10 latC
 rw [ref_names_eq _ hn hs]
 simp only [Option.bind_some, List.length_map]
 by_cases h0 : (namesR l.Names).2 = 0
 case neg => simp [h0]
 simp only [h0, decide_true, Bool.not_true, cond_false, if_true]
 by_cases hlen : l.Up.length = l.Names.length
 case neg =>
  have : ¬ (l.Up.length : Int) = l.Names.length := by omega
  simp [hlen, this]
 have h8 : l.Names.length ≤ 8 := by
  unfold namesR at h0
  split at h0
  · cases h0
  · omega
 simp only [hlen, decide_true, Bool.not_true, cond_false, if_true]
 rw [lp_scanE l.Names.length (fun a => if ordA l a = true then none else some ((a : Int), (6 : Int))) () (fun a ha => ?_) (by simp)]
 · cases h1 : scan (fun a => if ordA l a = true then none else some ((a : Int), (6 : Int))) 0 l.Names.length with
   | some r => rfl
   | none =>
     simp only
     obtain ⟨d, ed, hdl, hd⟩ := downs_spec hu h8 hlen
     rw [ed, Option.bind_some]
     rw [lp_scanE l.Names.length (fun a => scan (fun b => if lacks l a b = true then some ((a : Int), (4 : Int)) else none) 0 l.Names.length) () (fun a ha => ?_) (by simp)]
     · cases scan (fun a => scan (fun b => if lacks l a b = true then some ((a : Int), (4 : Int)) else none) 0 l.Names.length) 0 l.Names.length <;> rfl
     · simp only [Int.ofNat_lt, ha, decide_true, cond_true]
       rw [lp_scanE l.Names.length (fun b => if lacks l a b = true then some (.inr (.inr ((a : Int), (4 : Int)))) else none) () (fun b hb => ?_) (by simp)]
       · have e : (fun b => if lacks l a b = true then some (Sum.inr (Sum.inr ((a : Int), (4 : Int))) : Int ⊕ (Unit ⊕ (Int × Int))) else none) = fun b => (if lacks l a b = true then some ((a : Int), (4 : Int)) else none).map fun v => .inr (.inr v) := by
          funext b; split <;> rfl
         rw [e, scan_map]
         cases scan (fun b => if lacks l a b = true then some ((a : Int), (4 : Int)) else none) 0 l.Names.length with
         | some r => rfl
         | none =>
           simp only [Option.map_none, letO]
           rw [w64 (by omega) (by omega)]
       · simp only [Int.ofNat_lt, hb, decide_true, cond_true]
         have n1 := nearest_exact l.Up (upN l) a b (by omega) (fun c hc => upN_get hu hc) (fun c hc => upN_lt hu hc) (by omega) (by omega)
         have n2 := nearest_exact d (dnN l) a b (by omega) (fun c hc => hd c (by omega)) (fun c hc => dnN_lt h8 c) (by omega) (by omega)
         rw [hlen] at n1
         rw [hdl] at n2
         rw [n1, n2]
         simp only [Option.bind_some, bnd_sign, letO]
         rw [w64 (by omega) (by omega)]
         unfold lacks
         cases (bnd (upN l) l.Names.length a b).isNone with
         | true => simp
         | false => cases (bnd (dnN l) l.Names.length a b).isNone <;> simp
 · simp only [Int.ofNat_lt, ha, decide_true, cond_true]
   rw [ordered_spec hu h8 hlen ha]
   simp only [Option.bind_some, letO]
   rw [w64 (by omega) (by omega)]
   cases ordA l a <;> simp
end Go.Sx.O
namespace Go.Sx.O
open Go
theorem Check_exact (l : TL) (hu : U8s l.Up) (hn : l.Names.length ≤ 20) (hs : ∀ s ∈ l.Names, s.length ≤ 1000) : Fz38 l = some (latC l) := by
 unfold Fz38 latC
 rw [named_eq _ hn hs]
 simp only [Option.bind_some, List.length_map]
 by_cases h0 : (namesR l.Names).2 = 0
 case neg => simp [h0]
 simp only [h0, decide_true, Bool.not_true, cond_false, if_true]
 by_cases hlen : l.Up.length = l.Names.length
 case neg =>
  have : ¬ (l.Up.length : Int) = l.Names.length := by omega
  simp [hlen, this]
 have h8 : 1 ≤ l.Names.length ∧ l.Names.length ≤ 8 := by
  unfold namesR at h0
  split at h0
  · cases h0
  · omega
 obtain ⟨h1, h8⟩ := h8
 have g0 : ((0 : Int) ≤ (l.Names.length : Int)) := by omega
 simp only [hlen, decide_true, Bool.not_true, cond_false, if_true, sideO_pos g0, letO, Int.toNat_natCast]
 have hmask := mask_bit l.Names.length h8
 have hm0 := mod_u8 (e := IntKind.wrap .u8 (1 * 2 ^ min l.Names.length (IntKind.bits .u8)) - 1)
 rw [lp_scanE l.Names.length (fun a => if ordA l a = true then none else some ((a : Int), (6 : Int))) () (fun a ha => ?_) (by simp)]
 · cases h1 : scan (fun a => if ordA l a = true then none else some ((a : Int), (6 : Int))) 0 l.Names.length with
   | some r => rfl
   | none =>
     simp only
     have hself : ∀ a, a < l.Names.length → up l a a = true := by
      intro a ha
      have := scan_none.1 h1 a (by omega) (by omega)
      split at this
      · rename_i h
        unfold ordA at h
        simp only [Bool.and_eq_true] at h
        exact h.1.2
      · cases this
     obtain ⟨o, eo, _, o1, o2, o3, o4⟩ := of_exact l hu h8 hlen
     rw [eo, Option.bind_some]
     rw [lp_scanE l.Names.length (fun a => scan (fun b => if lacks l a b = true then some ((a : Int), (4 : Int)) else none) 0 l.Names.length) () (fun a ha => ?_) (by simp)]
     · cases scan (fun a => scan (fun b => if lacks l a b = true then some ((a : Int), (4 : Int)) else none) 0 l.Names.length) 0 l.Names.length <;> rfl
     · simp only [Int.ofNat_lt, ha, decide_true, cond_true]
       rw [lp_scanE l.Names.length (fun b => if lacks l a b = true then some (.inr (.inr ((a : Int), (4 : Int)))) else none) () (fun b hb => ?_) (by simp)]
       · have e : (fun b => if lacks l a b = true then some (Sum.inr (Sum.inr ((a : Int), (4 : Int))) : Int ⊕ (Unit ⊕ (Int × Int))) else none) = fun b => (if lacks l a b = true then some ((a : Int), (4 : Int)) else none).map fun v => .inr (.inr v) := by
          funext b; split <;> rfl
         rw [e, scan_map]
         cases scan (fun b => if lacks l a b = true then some ((a : Int), (4 : Int)) else none) 0 l.Names.length with
         | some r => rfl
         | none =>
           simp only [Option.map_none]
           rw [w64 (by omega) (by omega)]
       · simp only [Int.ofNat_lt, hb, decide_true, cond_true]
         have n1 := bound_exact o.up_ (upN l) l.Names.length a b h8 (fun c hc => by rw [o3 c hc]; exact upN_get hu (by omega)) (fun c hc => upN_lt hu (by omega)) (fun c hc => hself c hc) ha hb
         have n2 : Fz37 o.down_ l.Names.length a b = some (bndI (dnN l) l.Names.length a b) := bound_exact o.down_ (dnN l) l.Names.length a b h8 (fun c hc => o4 c hc) (fun c hc => dnN_lt h8 c) (fun c hc => by unfold dnN; rw [dn_bit, hself c hc]; simp [hc]) ha hb
         rw [n1, n2]
         simp only [Option.bind_some, bnd_sign]
         rw [w64 (by omega) (by omega)]
         unfold lacks
         cases (bnd (upN l) l.Names.length a b).isNone with
         | true => simp
         | false => cases (bnd (dnN l) l.Names.length a b).isNone <;> simp
 · -- one label's row
   have hxa := upN_get hu (a := a) (by omega)
   have hlt := upN_lt hu (a := a) (by omega)
   obtain ⟨y, ey, hy⟩ := Len8_exact (upN l a : Int) (by omega) (by omega)
   have hy := hy l.Names.length h8
   rw [Int.toNat_natCast] at hy
   have ga : ((0 : Int) ≤ (a : Int)) := by omega
   have hbit : ∀ b, b < l.Names.length → bits .and .u8 (Int.fdiv (upN l a : Int) (2 ^ min b (IntKind.bits .u8))) 1 = if up l a b = true then 1 else 0 := fun b hb => by
    rw [bitAt (by omega) (by omega) (by omega), Int.toNat_natCast]; rfl
   simp only [Int.ofNat_lt, ha, decide_true, cond_true, idxO, Int.toNat_natCast, if_pos ga, hxa, Option.bind_some, ey, hy, sideO_pos ga]
   simp only [hbit a ha]
   unfold ordA
   cases e1 : decide (upN l a < 2 ^ l.Names.length) with
   | false => simp
   | true =>
     simp only [Bool.not_true, cond_false, Bool.true_and]
     cases e2 : up l a a with
     | false => simp
     | true =>
       simp only [if_true, Int.reduceEq, decide_false, cond_false, Bool.true_and]
       rw [lp_scanE l.Names.length (fun b => if ordB l a b = true then (if b + 1 = l.Names.length then some (.inl ((a : Int) + 1)) else none) else some (.inr (.inr ((a : Int), (6 : Int))))) () (fun b hb => ?_) (by simp)]
       · rw [scan_last (by omega) (by omega)]
         simp only [Nat.zero_add]
         cases (List.range l.Names.length).all fun b => ordB l a b <;> rfl
       · have hxb := upN_get hu (a := b) (by omega)
         have hltb := upN_lt hu (a := b) (by omega)
         have gb : ((0 : Int) ≤ (b : Int)) := by omega
         have hbit' : bits .and .u8 (Int.fdiv (upN l b : Int) (2 ^ min a (IntKind.bits .u8))) 1 = if up l b a = true then 1 else 0 := by
          rw [bitAt (by omega) (by omega) (by omega), Int.toNat_natCast]; rfl
         simp only [Int.ofNat_lt, hb, decide_true, cond_true, Option.bind_some, Int.toNat_natCast, hxb, if_pos gb, sideO_pos gb]
         simp only [hbit b hb, hbit', w64 (e := (l.Names.length : Int) - 1) (by omega) (by omega), w64 (e := (a : Int) + 1) (by omega) (by omega), w64 (e := (b : Int) + 1) (by omega) (by omega)]
         have hnot : decide (bits .andNot .u8 (bits .and .u8 (upN l b : Int) (IntKind.wrap .u8 (IntKind.wrap .u8 (1 * 2 ^ min l.Names.length (IntKind.bits .u8)) - 1))) (upN l a : Int) = 0) = (List.range l.Names.length).all fun i => !up l b i || up l a i := by
          revert hmask hm0
          generalize IntKind.wrap .u8 (IntKind.wrap .u8 (1 * 2 ^ min l.Names.length (IntKind.bits .u8)) - 1) = mask
          intro hmask hm0
          have hand : bits .and .u8 (upN l b : Int) mask = ((upN l b &&& mask.toNat : Nat) : Int) := by
           rw [bits_and (by omega) (by omega) hm0.1 hm0.2, Int.toNat_natCast]
          have hlt2 : upN l b &&& mask.toNat < 256 := and_lt hltb
          rw [hand, Bool.eq_iff_iff, decide_eq_true_eq, bits_andNot (by omega) (by omega) (by omega) (by omega), List.all_eq_true]
          simp only [Int.toNat_natCast, Nat.testBit_and, hmask, upN_bit]
          constructor
          · intro h i hi
            have := h i
            have hi' : i < l.Names.length := by simpa using hi
            cases e : up l b i with
            | false => rfl
            | true => rw [e] at this; simpa [hi'] using this
          · intro h i hi
            simp only [Bool.and_eq_true, decide_eq_true_eq] at hi
            have := h i (by simpa using hi.2)
            rw [hi.1] at this; simpa using this
         simp only [hnot]
         have hlast : decide ((b : Int) = (l.Names.length : Int) - 1) = decide (b + 1 = l.Names.length) := by
          rw [Bool.eq_iff_iff, decide_eq_true_eq, decide_eq_true_eq]; omega
         simp only [hlast]
         unfold ordB
         cases e3 : up l a b with
         | false => by_cases hl : b + 1 = l.Names.length <;> simp [hl]
         | true =>
           by_cases hba : b = a
           · subst hba
             have d2 : decide ((b : Int) = (b : Int)) = true := by simp
             cases (List.range l.Names.length).all fun i => !up l b i || up l b i with
             | false => by_cases hl : b + 1 = l.Names.length <;> simp [hl]
             | true => by_cases hl : b + 1 = l.Names.length <;> simp [hl]
           · have d2 : decide ((b : Int) = (a : Int)) = false := by simp; omega
             have d3 : decide (b = a) = false := by simp [hba]
             simp only [d2, d3]
             cases up l b a with
             | true => by_cases hl : b + 1 = l.Names.length <;> simp [hl]
             | false =>
               cases (List.range l.Names.length).all fun i => !up l b i || up l a i with
               | false => by_cases hl : b + 1 = l.Names.length <;> simp [hl]
               | true => by_cases hl : b + 1 = l.Names.length <;> simp [hl]
theorem latR_eq {l : TL} (h : LatIn l) : latR l = latC l := by
 unfold latR; rw [Check_exact l h.u8 h.names h.name]; rfl
end Go.Sx.O
namespace Go.Sx.O
open Go
theorem ref_asked_spec {l : TL} (h : LatIn l) (a b : Int) : Fz11 l a b = some (askE l [a, b]) := by
 unfold Fz11 askE
 rw [ref_Check_eq l h.u8 h.names h.name, latR_eq h]
 simp only [Option.bind_some, List.length_map, List.all_cons, List.all_nil, Bool.and_true]
 by_cases h0 : (latC l).2 = 0
 · simp only [h0, decide_true, cond_true, if_true]
   unfold isLab
   by_cases a1 : a < 0
   · have : ¬ 0 ≤ a := by omega
     simp [a1, this]
   by_cases a2 : (l.Names.length : Int) ≤ a
   · have : ¬ a < (l.Names.length : Int) := by omega
     simp [a1, a2, this]
   by_cases b1 : b < 0
   · have : ¬ 0 ≤ b := by omega
     simp [a1, a2, b1, this]
   by_cases b2 : (l.Names.length : Int) ≤ b
   · have : ¬ b < (l.Names.length : Int) := by omega
     simp [a1, a2, b1, b2, this]
   have a1' : 0 ≤ a := by omega
   have a2' : a < (l.Names.length : Int) := by omega
   have b1' : 0 ≤ b := by omega
   have b2' : b < (l.Names.length : Int) := by omega
   simp [a1, a2, b1, b2, a1', a2', b1', b2']
 · simp [h0]
end Go.Sx.O
namespace Go.Sx.O
open Go
theorem bnd_some {g : Nat → Nat} {n a b c : Nat} (h : bnd g n a b = some c) : c < n ∧ g c = g a &&& g b := by
 have key : ∀ {j k : Nat}, scan (fun c => if g c = g a &&& g b then some c else none) k j = some c → c < k + j ∧ g c = g a &&& g b := by
  intro j
  induction j with
  | zero => intro k h; cases h
  | succ j ih =>
    intro k h
    simp only [scan] at h
    split at h
    · rename_i r hr
      cases h
      split at hr
      · rename_i hh; cases hr; exact ⟨by omega, hh⟩
      · cases hr
    · have := ih h
      exact ⟨by omega, this.2⟩
 have := key h
 simpa using this
theorem lat_facts {l : TL} (h : LatIn l) (k : (latR l).2 = 0) : (∀ a, a < l.Names.length → ordA l a = true) ∧ ∀ a b, a < l.Names.length → b < l.Names.length → lacks l a b = false := by
 rw [latR_eq h] at k
 unfold latC at k
 split at k
 case isFalse h0 => exact absurd k h0
 split at k
 case isFalse => cases k
 split at k
 case h_1 r hr =>
  exfalso
  have key : ∀ {j k : Nat}, scan (fun a => if ordA l a = true then none else some ((a : Int), (6 : Int))) k j = some r → r.2 = 6 := by
   intro j
   induction j with
   | zero => intro k h; cases h
   | succ j ih =>
     intro k h
     simp only [scan] at h
     split at h
     · rename_i r' hr'
       cases h
       split at hr'
       · cases hr'
       · cases hr'; rfl
     · exact ih h
  rw [key hr] at k; cases k
 case h_2 hord =>
  have key2 : ∀ {a j k : Nat} {r : Int × Int}, scan (fun b => if lacks l a b = true then some ((a : Int), (4 : Int)) else none) k j = some r → r.2 = 4 := by
   intro a j
   induction j with
   | zero => intro k r h; cases h
   | succ j ih =>
     intro k r h
     simp only [scan] at h
     split at h
     · rename_i r' hr'
       cases h
       split at hr'
       · cases hr'; rfl
       · cases hr'
     · exact ih h
  have key : ∀ {j k : Nat} {r : Int × Int}, scan (fun a => scan (fun b => if lacks l a b = true then some ((a : Int), (4 : Int)) else none) 0 l.Names.length) k j = some r → r.2 = 4 := by
   intro j
   induction j with
   | zero => intro k r h; cases h
   | succ j ih =>
     intro k r h
     simp only [scan] at h
     split at h
     · rename_i r' hr'
       cases h
       exact key2 hr'
     · exact ih h
  cases hs : scan (fun a => scan (fun b => if lacks l a b = true then some ((a : Int), (4 : Int)) else none) 0 l.Names.length) 0 l.Names.length with
  | some r =>
    rw [hs] at k
    have := key hs
    simp only [Option.getD_some] at k
    rw [this] at k; cases k
  | none =>
    refine ⟨fun a ha => ?_, fun a b ha hb => ?_⟩
    · have h1 := scan_none.1 hord a (by omega) (by omega)
      split at h1
      · assumption
      · cases h1
    · have h1 := scan_none.1 (scan_none.1 hs a (by omega) (by omega)) b (by omega) (by omega)
      split at h1
      · cases h1
      · rename_i h2; simpa using h2
theorem lat_meet {l : TL} (h : LatIn l) (k : (latR l).2 = 0) {a b : Nat} (ha : a < l.Names.length) (hb : b < l.Names.length) : ∃ c, bnd (dnN l) l.Names.length a b = some c ∧ c < l.Names.length ∧ dnN l c = dnN l a &&& dnN l b := by
 have h2 := (lat_facts h k).2 a b ha hb
 unfold lacks at h2
 cases e : bnd (dnN l) l.Names.length a b with
 | none => rw [e] at h2; simp at h2
 | some c => exact ⟨c, rfl, bnd_some e⟩
theorem up_trans {l : TL} (ok : LatOK l) {a b c : Nat} (ha : a < l.Names.length) (hb : b < l.Names.length) (hc : c < l.Names.length) (h1 : up l a b = true) (h2 : up l b c = true) : up l a c = true := (ok.row a ha b hb h1).2 c hc h2
theorem dnN_bit {l : TL} {b i : Nat} : (dnN l b).testBit i = (decide (i < l.Names.length) && up l i b) := dn_bit l b l.Names.length i
theorem meet_below {l : TL} {a b c i : Nat} (hi : i < l.Names.length) (hg : dnN l c = dnN l a &&& dnN l b) : up l i c = (up l i a && up l i b) := by
 have h1 := congrArg (fun x => x.testBit i) hg
 simp only [Nat.testBit_and, dnN_bit, hi, decide_true, Bool.true_and] at h1
 exact h1
theorem up_anti {l : TL} (ok : LatOK l) {a b : Nat} (ha : a < l.Names.length) (hb : b < l.Names.length) (h1 : up l a b = true) (h2 : up l b a = true) : a = b := by
 by_cases e : b = a
 · exact e.symm
 · have := (ok.row a ha b hb h1).1 e
   rw [h2] at this; cases this
theorem lat_bot {l : TL} (h : LatIn l) (k : (latR l).2 = 0) : ∃ t, t < l.Names.length ∧ ∀ a, a < l.Names.length → up l t a = true := by
 have ok := lat_ok h k
 have key : ∀ j, j ≤ l.Names.length → ∃ t, t < l.Names.length ∧ ∀ a, a < j → up l t a = true := by
  intro j
  induction j with
  | zero => intro _; exact ⟨0, ok.pos, fun a ha => absurd ha (by omega)⟩
  | succ j ih =>
    intro hj
    obtain ⟨t, ht, hall⟩ := ih (by omega)
    obtain ⟨c, _, hc, hg⟩ := lat_meet h k ht (show j < l.Names.length by omega)
    have hcc := ok.self c hc
    rw [meet_below hc hg, Bool.and_eq_true] at hcc
    refine ⟨c, hc, fun a ha => ?_⟩
    rcases Nat.lt_or_ge a j with g | g
    · exact up_trans ok hc ht (by omega) hcc.1 (hall a g)
    · have : a = j := by omega
      subst this; exact hcc.2
 exact key _ (Nat.le_refl _)
def botN (l : TL) : Nat := ((List.range l.Names.length).find? fun b => (List.range l.Names.length).all fun a => up l b a).getD 0
theorem bot_spec {l : TL} (h : LatIn l) (k : (latR l).2 = 0) : botN l < l.Names.length ∧ ∀ a, a < l.Names.length → up l (botN l) a = true := by
 obtain ⟨t, ht, hall⟩ := lat_bot h k
 unfold botN
 cases e : (List.range l.Names.length).find? fun b => (List.range l.Names.length).all fun a => up l b a with
 | none =>
   have := List.find?_eq_none.1 e t (by simpa using ht)
   exact absurd (by simp only [List.all_eq_true, List.mem_range]; exact hall) this
 | some b =>
   have h1 := List.find?_some e
   have h2 := List.mem_of_find?_eq_some e
   simp only [List.all_eq_true, List.mem_range] at h1 h2
   exact ⟨h2, h1⟩
theorem bot_eq {l : TL} (h : LatIn l) (k : (latR l).2 = 0) {b : Nat} (hb : b < l.Names.length) (hall : ∀ a, a < l.Names.length → up l b a = true) : b = botN l := by
 obtain ⟨h1, h2⟩ := bot_spec h k
 exact up_anti (lat_ok h k) hb h1 (hall _ h1) (h2 _ hb)
theorem upN_full {l : TL} (h : LatIn l) (k : (latR l).2 = 0) {b : Nat} (hb : b < l.Names.length) : upN l b = 2 ^ l.Names.length - 1 ↔ b = botN l := by
 have h1 := (lat_facts h k).1 b hb
 unfold ordA at h1
 simp only [Bool.and_eq_true, decide_eq_true_eq] at h1
 constructor
 · intro e
   refine bot_eq h k hb fun a ha => ?_
   rw [← upN_bit, e, Nat.testBit_two_pow_sub_one]
   simpa using ha
 · rintro rfl
   have h2 := (bot_spec h k).2
   refine Nat.eq_of_testBit_eq fun i => ?_
   rw [Nat.testBit_two_pow_sub_one]
   rcases Nat.lt_or_ge i l.Names.length with g | g
   · rw [upN_bit, h2 i g]; simp [g]
   · rw [Nat.testBit_lt_two_pow (Nat.lt_of_lt_of_le h1.1.1 (Nat.pow_le_pow_right (by omega) g))]
     simp; omega
end Go.Sx.O
namespace Go.Sx.O
open Go
end Go.Sx.O
namespace Go.Sx.O
open Go
end Go.Sx.O
namespace Go.Sx.O
open Go
end Go.Sx.O
namespace Go.Sx.O
open Go
end Go.Sx.O
namespace Go.Sx.O
open Go
theorem lp_scanSE {σ τ ε : Type} {step : σ → Option (σ ⊕ (ε ⊕ τ))} {k1 : ε → Option τ} (n : Nat) (S : Nat → σ) (f : Nat → Option τ) (e : ε)
 (h1 : ∀ k : Nat, k < n → step (S k) = some (match f k with | some r => .inr (.inr r) | none => .inl (S (k + 1))))
 (h2 : step (S n) = some (.inr (.inl e))) {s0 : σ} (h0 : S 0 = s0) : (lpO step s0).bind (Sum.elim k1 some) = match scan f 0 n with | some r => some r | none => k1 e := by
 subst h0
 rw [lp_scanS n S (fun k => (f k).map Sum.inr) (.inl e) (fun k hk => by rw [h1 k hk]; cases f k <;> rfl) h2, scan_map]
 cases scan f 0 n <;> rfl
theorem lp_foldE {σ τ ε : Type} {step : σ → Option (σ ⊕ (ε ⊕ τ))} {k1 : ε → Option τ} (n : Nat) (S : Nat → σ) (e : ε)
 (h1 : ∀ k : Nat, k < n → step (S k) = some (.inl (S (k + 1)))) (h2 : step (S n) = some (.inr (.inl e))) {s0 : σ} (h0 : S 0 = s0) : (lpO step s0).bind (Sum.elim k1 some) = k1 e := by
 subst h0
 rw [lp_fold n S (.inl e) h1 h2]; rfl
def i64 (n : Int) : Prop := -9223372036854775808 ≤ n ∧ n ≤ 9223372036854775807
end Go.Sx.O
namespace Go.Sx.O
open Go
end Go.Sx.O
namespace Go.Sx.O
open Go
end Go.Sx.O
namespace Go.Sx.O
open Go
theorem inK_u8 {n : Int} (h : inK .u8 n) : 0 ≤ n ∧ n < 256 := by
 have e1 : IntKind.u8.min = 0 := by decide
 have e2 : IntKind.u8.max = 255 := by decide
 unfold inK at h
 omega
end Go.Sx.O
namespace Go.Sx.O
open Go
def labB (l : TL) (a : Int) : Bool := decide (0 ≤ a) && decide (a < (l.Names.length : Int))
theorem policy_has_eq (l : TL) (a : Int) : Fz43 l a = some (labB l a) := by
 unfold Fz43 labB
 by_cases h : 0 ≤ a <;> simp [h]
end Go.Sx.O
namespace Go.Sx.O
open Go
end Go.Sx.O
namespace Go.Sx.O
open Go
theorem Ones8_exact (x : Int) (h0 : 0 ≤ x) (h1 : x < 256) : Tot (Fz40 x) fun y => ∀ n : Nat, n ≤ 8 → x.toNat < 2 ^ n → decide (y < (n : Int)) = !decide (x.toNat = 2 ^ n - 1) := by
 unfold Fz40
 rw [tot_idx]
 refine ⟨h0, ?_⟩
 have key : ∀ l : List UInt8, (∀ x : Fin 256, ∀ n : Fin 9, (l[x.val]?.map fun y => decide (x.val < 2 ^ n.val → decide (IntKind.wrap .i64 (y.toNat : Int) < (n.val : Int)) = !decide (x.val = 2 ^ n.val - 1))) = some true) →
  ∃ y, l[x.toNat]? = some y ∧ Tot (letO (IntKind.wrap .i64 (y.toNat : Int)) fun z => some z) fun y => ∀ n : Nat, n ≤ 8 → x.toNat < 2 ^ n → decide (y < (n : Int)) = !decide (x.toNat = 2 ^ n - 1) := by
  intro l hl
  cases e : l[x.toNat]? with
  | none =>
    have := hl ⟨x.toNat, by omega⟩ ⟨0, by omega⟩
    simp only [e] at this
    cases this
  | some y =>
    refine ⟨y, rfl, .mk fun n hn hx => ?_⟩
    have := hl ⟨x.toNat, by omega⟩ ⟨n, by omega⟩
    simp only [e, Option.map_some, Option.some.injEq, decide_eq_true_eq] at this
    exact this hx
 exact key _ (by decide +kernel)
theorem Bottom_eq {l : TL} (h : LatIn l) : Fz42 l = some (if (latR l).2 = 0 then ((botN l : Int), 0) else (0, (latR l).2)) := by
 unfold Fz42
 rw [lasked_spec h [] (by simp)]
 simp only [Option.bind_some, askE, List.all_nil, if_true]
 by_cases hk : (latR l).2 = 0
 case neg => simp [hk]
 have ok := lat_ok h hk
 simp only [hk, if_true, decide_true, Bool.not_true, cond_false]
 obtain ⟨o, e1, on, ol, _, ou, _⟩ := of_exact l ok.u8 ok.le ok.len
 rw [e1]
 simp only [Option.bind_some]
 have hb := (bot_spec h hk).1
 have hend : Fz41 o.up_ o.n_ = some (botN l : Int) := by
  unfold Fz41
  rw [on]
  have hw : IntKind.wrap .i64 ((l.Names.length : Int) - 1) = ((l.Names.length - 1 : Nat) : Int) := by
   have := ok.pos; have := ok.le
   rw [w64 (by omega) (by omega)]; omega
  have hle := ok.le
  have hpos := ok.pos
  have hrun := lp_scanS (step := fun (s585 : Int) =>
   letO (IntKind.wrap IntKind.i64 ((l.Names.length : Int) - (1 : Int))) fun x591 =>
   cond (decide (s585 < x591))
   (sideO ((0 : Int) ≤ s585 ∧ s585 < (↑(8 : Nat) : Int)) (
   idxO (o.up_) ((↑(Int.toNat s585) : Int)) fun x593 =>
   Option.bind (Fz40 (x593)) fun x594 =>
   cond (decide (x594 < (l.Names.length : Int)))
   (letO (IntKind.wrap IntKind.i64 (s585 + (1 : Int))) fun x596 =>
   some (Sum.inl (x596)))
   (some (Sum.inr (Sum.inl (β := Int) s585)))))
   (some (Sum.inr (Sum.inl s585)))) (l.Names.length - 1) (fun k => (k : Int)) (fun k => if k = botN l then some (Sum.inl (k : Int)) else none) (Sum.inl ((l.Names.length - 1 : Nat) : Int)) (fun k hk2 => by
     have hlt : (k : Int) < ((l.Names.length - 1 : Nat) : Int) := by omega
     have n1 : (0 : Int) ≤ (k : Int) := by omega
     have n2 : (k : Int) < ((8 : Nat) : Int) := by omega
     have hw2 : IntKind.wrap .i64 ((k : Int) + 1) = ((k + 1 : Nat) : Int) := w64 (by omega) (by omega)
     obtain ⟨x, hx⟩ := get_lt (l := l.Up) (i := k) (by have := ok.len; omega)
     have hx' := ok.u8.get hx
     have hox : o.up_[k]? = some x := by rw [ou k (by omega)]; exact hx
     obtain ⟨y, ey, hy⟩ := Ones8_exact x hx'.1 hx'.2
     have hux : x.toNat = upN l k := by unfold upN; rw [List.getD_eq_getElem?_getD, hx]; rfl
     have hf := upN_full h hk (b := k) (by omega)
     have hlt2 : x.toNat < 2 ^ l.Names.length := by
      have h1 := (lat_facts h hk).1 k (by omega)
      unfold ordA at h1
      simp only [Bool.and_eq_true, decide_eq_true_eq] at h1
      rw [hux]; exact h1.1.1
     have hd := hy l.Names.length hle hlt2
     rw [hux] at hd
     simp only [letO, hw, hlt, decide_true, cond_true, sideO, n1, n2, and_self, if_true, idxO, Int.toNat_natCast, hox, Option.bind_some, ey, hw2, hd]
     by_cases hq : k = botN l
     · have := hf.2 hq
       simp only [this, if_pos hq, decide_true, Bool.not_true, cond_false]
     · have : ¬ upN l k = 2 ^ l.Names.length - 1 := fun e => hq (hf.1 e)
       simp only [this, if_neg hq, decide_false, Bool.not_false, cond_true]) (by
     simp only [letO, hw]
     simp)
  have hs0 : ((0 : Nat) : Int) = 0 := rfl
  simp only [hs0] at hrun
  rw [hrun]
  have hsc : (scan (fun k => if k = botN l then some (Sum.inl (α := Int) (β := Int) (k : Int)) else none) 0 (l.Names.length - 1)).getD (Sum.inl ((l.Names.length - 1 : Nat) : Int)) = Sum.inl (botN l : Int) := by
   cases e : scan (fun k => if k = botN l then some (Sum.inl (α := Int) (β := Int) (k : Int)) else none) 0 (l.Names.length - 1) with
   | some r =>
     have : r = Sum.inl (botN l : Int) := scan_val (v := Sum.inl (botN l : Int)) (fun i => by
      by_cases hi : i = botN l
      · exact .inl (by rw [if_pos hi, hi])
      · exact .inr (by rw [if_neg hi])) e
     rw [this]; rfl
   | none =>
     have hn := scan_none.1 e
     rcases Nat.lt_or_ge (botN l) (l.Names.length - 1) with g | g
     · have := hn (botN l) (by omega) (by omega)
       simp at this
     · have : botN l = l.Names.length - 1 := by omega
       rw [this]; rfl
  rw [hsc]
  rfl
 rw [hend]
 rfl
end Go.Sx.O
namespace Go.Sx.O
open Go
theorem ref_Bottom_eq {l : TL} (h : LatIn l) : Fz12 l = some (if (latR l).2 = 0 then ((botN l : Int), 0) else (0, (latR l).2)) := by
 apply Tot.eq
 unfold Fz12
 rw [ref_asked_spec h]
 simp only [Option.bind_some]
 by_cases hk : (latR l).2 = 0
 case neg =>
  have : askE l [0, 0] = (latR l).2 := by unfold askE; rw [if_neg hk]
  simp only [this, hk, decide_false, Bool.not_false, cond_true, if_false]
  exact .mk rfl
 have ok := lat_ok h hk
 have hpos := ok.pos
 have hle := ok.le
 have h0n : (0 : Int) < (l.Names.length : Int) := by omega
 have hl0 : isLab l 0 = true := by unfold isLab; rw [decide_eq_true (Int.le_refl 0), decide_eq_true h0n]; rfl
 have ha : askE l [0, 0] = 0 := by unfold askE; rw [if_pos hk, List.all_cons, List.all_cons, hl0]; rfl
 simp only [ha, hk, decide_true, Bool.not_true, cond_false, if_true]
 obtain ⟨d, e1, dl, dd⟩ := downs_spec ok.u8 ok.le ok.len
 rw [e1]
 simp only [Option.bind_some, tot_bind, List.length_map]
 refine Tot.count l.Names.length (fun k s => s.1 = (k : Int) ∧ ∃ v : Nat, s.2 = (v : Int) ∧ v < l.Names.length ∧ ∀ i, i < l.Names.length → up l i v = true → ∀ j, j < k → up l i j = true) ?_ ⟨rfl, 0, rfl, by omega, fun i _ _ j hj => by omega⟩
 rintro k ⟨i, w⟩ hkn ⟨h0, v, h1, h2, h3⟩
 simp only at h0 h1
 subst h0 h1
 simp only [tot_cond, decide_eq_true_eq, decide_eq_false_iff_not]
 refine ⟨fun hlt => ?_, fun hlt => ?_⟩
 · obtain ⟨c, hc, hcn, hg⟩ := lat_meet h hk (a := k) (b := v) (by omega) h2
   rw [nearest_exact d (dnN l) k v (by omega) (fun c hc => dd c (by omega)) (fun c hc2 => dn_256 l c hle) (by omega) (by omega)]
   unfold bndI
   rw [dl, hc]
   simp only [Option.bind_some, letO, tot_some, Sum.elim_inl]
   refine ⟨by omega, w64 (by omega) (by omega), c, rfl, hcn, fun i hi hu j hj => ?_⟩
   rw [meet_below hi hg] at hu
   simp only [Bool.and_eq_true] at hu
   rcases Nat.lt_or_ge j k with g | g
   · exact h3 i hi hu.2 j g
   · have : j = k := by omega
     rw [this]; exact hu.1
 · have hke : k = l.Names.length := by omega
   simp only [tot_some, Sum.elim_inl, Sum.elim_inr]
   have := bot_eq h hk h2 fun a ha => h3 v h2 (ok.self v h2) a (by omega)
   rw [← this]
end Go.Sx.O
namespace Go.Sx.O
open Go
theorem lab_below {l : TL} (hu : U8s l.Up) {a b : Nat} (ha : a < l.Up.length) (hb : b ≤ 8) : Fz45 l a b = some (up l a b) := by
 unfold Fz45
 obtain ⟨x, hx⟩ := get_lt ha
 have hx' := hu.get hx
 have key : ∀ u : Fin 256, ∀ b : Fin 9, decide (bits .and .u8 (Int.fdiv (u.val : Int) (2 ^ min b.val (IntKind.bits .u8))) 1 = 1) = Nat.testBit u b := by decide +kernel
 have := key ⟨x.toNat, by omega⟩ ⟨b, by omega⟩
 simp only [Int.toNat_of_nonneg hx'.1] at this
 simp only [Int.natCast_nonneg, idxO, Int.toNat_natCast, if_true, hx, Option.bind_some, sideO, this, up_of hx]
theorem labels_Check_eq {l : TL} (h : LatIn l) (hk : (latR l).2 = 0) (xs : List Int) (hx : xs.length ≤ 64) (hl : ∀ x ∈ xs, isLab l x = true) : Fz44 l xs = some (0, 0) := by
 unfold Fz44
 rw [Check_eq h]
 have h64 : ¬ (64 : Int) < (xs.length : Int) := by omega
 simp only [Option.bind_some, hk, decide_true, Bool.not_true, cond_false, List.length_map, h64, decide_false]
 refine (lp_foldE xs.length (fun k => (k : Int)) () (fun k hk => ?_) (by simp) rfl).trans rfl
 obtain ⟨x, hx⟩ := get_lt hk
 have hq := hl x (List.mem_of_getElem? hx)
 unfold isLab at hq
 simp only [Bool.and_eq_true, decide_eq_true_eq] at hq
 have hlt : (k : Int) < (xs.length : Int) := by omega
 have hw : IntKind.wrap .i64 ((k : Int) + 1) = ((k + 1 : Nat) : Int) := w64 (by omega) (by omega)
 have n1 : (0 : Int) ≤ (k : Int) := by omega
 have n2 : ¬ x < 0 := by omega
 have n3 : ¬ (l.Names.length : Int) ≤ x := by omega
 simp only [hlt, decide_true, cond_true, idxO, n1, if_true, Int.toNat_natCast, hx, Option.bind_some, letO, hw, n2, n3, decide_false, cond_false]
def flK (l : TL) (xs : List Int) (a : Int) (k : Nat) : Option Int := match xs[k]? with
 | some x => if up l x.toNat a.toNat = true then none else some (k : Int)
 | none => none
def flV (l : TL) (xs : List Int) (a : Int) : Int × Int := match scan (flK l xs a) 0 xs.length with | some r => (r, 25) | none => (0, 0)
theorem Flows_eq {l : TL} (h : LatIn l) (hk : (latR l).2 = 0) (xs : List Int) (hx : xs.length ≤ 64) (hl : ∀ x ∈ xs, isLab l x = true) (a : Int) (ha : isLab l a = true) :
 Fz48 l xs a = some (flV l xs a) := by
 have ok := lat_ok h hk
 have hle := ok.le
 have hlen := ok.len
 unfold Fz48
 rw [labels_Check_eq h hk xs hx hl]
 unfold isLab at ha
 simp only [Bool.and_eq_true, decide_eq_true_eq] at ha
 have n2 : ¬ a < 0 := by omega
 have n3 : ¬ (l.Names.length : Int) ≤ a := by omega
 simp only [Option.bind_some, decide_true, Bool.not_true, cond_false, n2, n3, decide_false, List.length_map]
 have hi : Fz47 xs (l, a) = some (match scan (flK l xs a) 0 xs.length with | some r => r | none => -1) := by
  unfold Fz47
  simp only [List.length_map]
  refine (lp_scanSE xs.length (fun k => (k : Int)) (flK l xs a) () (fun k hk => ?_) (by simp) rfl).trans ?_
  · obtain ⟨x, hx⟩ := get_lt hk
    have hq := hl x (List.mem_of_getElem? hx)
    unfold isLab at hq
    simp only [Bool.and_eq_true, decide_eq_true_eq] at hq
    have hlt : (k : Int) < (xs.length : Int) := by omega
    have hw : IntKind.wrap .i64 ((k : Int) + 1) = ((k + 1 : Nat) : Int) := w64 (by omega) (by omega)
    have n1 : (0 : Int) ≤ (k : Int) := by omega
    have hb : Fz45 l x a = some (up l x.toNat a.toNat) := by
     have := lab_below ok.u8 (a := x.toNat) (b := a.toNat) (by omega) (by omega)
     rwa [Int.toNat_of_nonneg hq.1, Int.toNat_of_nonneg ha.1] at this
    simp only [hlt, decide_true, cond_true, idxO, n1, if_true, Int.toNat_natCast, hx, Option.bind_some, letO, hw, Fz46, hb, flK]
    cases up l x.toNat a.toNat <;> simp
  · cases scan (flK l xs a) 0 xs.length <;> rfl
 rw [hi]
 unfold flV
 cases e : scan (flK l xs a) 0 xs.length with
 | none => simp
 | some r =>
   have : 0 ≤ r := by
    have key : ∀ {j k : Nat} {b : Int}, scan (flK l xs a) k j = some b → 0 ≤ b := by
     intro j
     induction j with
     | zero => intro k b h; cases h
     | succ j ih =>
       intro k b h
       simp only [scan] at h
       cases hf : flK l xs a k with
       | none => rw [hf] at h; exact ih h
       | some z =>
         rw [hf] at h
         cases h
         unfold flK at hf
         split at hf
         · split at hf
           · cases hf
           · cases hf; omega
         · cases hf
    exact key e
   simp [this]
end Go.Sx.O
namespace Go.Sx.O
open Go
noncomputable def restC (l : TL) (t : TY) : Int :=
 if t.Rank < 0 ∨ 2 < t.Rank then 7
 else if labB l t.Axes.1 = true ∧ labB l t.Axes.2 = true ∧ labB l t.Data = true then
  if ([t.Axes.1, t.Axes.2].drop t.Rank.toNat).all (fun x => decide (x = (botN l : Int))) = true then
   if ([t.Axes.1, t.Axes.2].take t.Rank.toNat).all (fun x => up l x.toNat t.Data.toNat) = true then 0 else 25
  else 6
 else 7
noncomputable def goodC (l : TL) (t : TY) : Int := if (latR l).2 = 0 then (if t.Kind = 1 ∨ t.Kind = 2 then restC l t else 7) else (latR l).2
theorem scan_all2 {β : Type} (v : β) (b : Int) (xs : List Int) (hx : xs.length ≤ 2) : scan (fun k => match xs[k]? with | some x => if x = b then none else some v | none => none) 0 xs.length = if xs.all (fun x => decide (x = b)) = true then none else some v := by
 match xs, hx with
 | [], _ => rfl
 | [x], _ => by_cases h : x = b <;> simp [scan, h]
 | [x, y], _ => by_cases h : x = b <;> by_cases g : y = b <;> simp [scan, h, g]
theorem flK_all2 (l : TL) (a : Int) (xs : List Int) (hx : xs.length ≤ 2) : (flV l xs a).2 = if xs.all (fun x => up l x.toNat a.toNat) = true then 0 else 25 := by
 match xs, hx with
 | [], _ => rfl
 | [x], _ => cases h : up l x.toNat a.toNat <;> simp [flV, scan, flK, h]
 | [x, y], _ => cases h : up l x.toNat a.toNat <;> cases g : up l y.toNat a.toNat <;> simp [flV, scan, flK, h, g]
theorem good_tail {l : TL} (h : LatIn l) (hk : (latR l).2 = 0) (t : TY) (hr : ¬ (t.Rank < 0 ∨ 2 < t.Rank)) (l1 : labB l t.Axes.1 = true) (l2 : labB l t.Axes.2 = true) (l3 : labB l t.Data = true) :
 (Option.bind (lpO (fun (s612 : Int) =>
 cond (decide (s612 < (↑(List.length (List.drop (Int.toNat t.Rank) (List.take (Int.toNat (↑(2 : Nat) : Int)) [SV.int IntKind.i64 t.Axes.fst, SV.int IntKind.i64 t.Axes.snd]))) : Int)))
 (idxO (List.drop (Int.toNat t.Rank) (List.take (Int.toNat (↑(2 : Nat) : Int)) [t.Axes.fst, t.Axes.snd])) (s612) fun x617 =>
 cond (!decide (x617 = (botN l : Int)))
 (some (Sum.inr (Sum.inr ((6 : Int)))))
 (letO (IntKind.wrap IntKind.i64 (s612 + (1 : Int))) fun x619 =>
 some (Sum.inl (x619))))
 (some (Sum.inr (Sum.inl (()))))) ((0 : Int)))
 (Sum.elim (fun (_ : Unit) =>
 sideO ((0 : Int) ≤ t.Rank ∧ t.Rank ≤ (↑(2 : Nat) : Int)) (
 Option.bind (Fz48 l (List.drop (Int.toNat (0 : Int)) (List.take (Int.toNat t.Rank) [t.Axes.fst, t.Axes.snd])) (t.Data)) fun x653 =>
 cond (!decide (x653.snd = (0 : Int)))
 (some (x653.snd))
 (some ((0 : Int))))) some)) = some (restC l t) := by
 have e0 : List.take (Int.toNat ((2 : Nat) : Int)) [t.Axes.fst, t.Axes.snd] = [t.Axes.fst, t.Axes.snd] := rfl
 have e1 : List.take (Int.toNat ((2 : Nat) : Int)) [SV.int IntKind.i64 t.Axes.fst, SV.int IntKind.i64 t.Axes.snd] = [SV.int IntKind.i64 t.Axes.fst, SV.int IntKind.i64 t.Axes.snd] := rfl
 have e2 : List.drop (Int.toNat 0) (List.take (Int.toNat t.Rank) [t.Axes.fst, t.Axes.snd]) = List.take (Int.toNat t.Rank) [t.Axes.fst, t.Axes.snd] := rfl
 rw [e0, e1, e2]
 have hlen : (List.drop (Int.toNat t.Rank) [SV.int IntKind.i64 t.Axes.fst, SV.int IntKind.i64 t.Axes.snd]).length = (List.drop (Int.toNat t.Rank) [t.Axes.fst, t.Axes.snd]).length := by simp
 rw [hlen]
 have hd2 : (List.drop (Int.toNat t.Rank) [t.Axes.fst, t.Axes.snd]).length ≤ 2 := by simp
 have ht2 : (List.take (Int.toNat t.Rank) [t.Axes.fst, t.Axes.snd]).length ≤ 2 := by simp; omega
 have htl : ∀ x ∈ List.take (Int.toNat t.Rank) [t.Axes.fst, t.Axes.snd], isLab l x = true := fun x hx => by
  have := List.mem_of_mem_take hx
  simp only [List.mem_cons, List.not_mem_nil, or_false] at this
  rcases this with rfl | rfl
  · exact l1
  · exact l2
 unfold restC
 rw [if_neg hr, if_pos ⟨l1, l2, l3⟩]
 generalize hD : List.drop (Int.toNat t.Rank) [t.Axes.fst, t.Axes.snd] = D at hd2 ⊢
 generalize hT : List.take (Int.toNat t.Rank) [t.Axes.fst, t.Axes.snd] = T at ht2 htl ⊢
 refine (lp_scanSE D.length (fun k => (k : Int)) (fun k => match D[k]? with | some x => if x = (botN l : Int) then none else some (6 : Int) | none => none) () (fun k hk => ?_) (by simp) rfl).trans ?_
 · obtain ⟨x, hx⟩ := get_lt hk
   have hlt : (k : Int) < (D.length : Int) := by omega
   have hw : IntKind.wrap .i64 ((k : Int) + 1) = ((k + 1 : Nat) : Int) := w64 (by omega) (by omega)
   have n1 : (0 : Int) ≤ (k : Int) := by omega
   simp only [hlt, decide_true, cond_true, idxO, n1, if_true, Int.toNat_natCast, hx, Option.bind_some, letO, hw]
   by_cases hb : x = (botN l : Int) <;> simp [hb]
 · rw [scan_all2 (6 : Int) (botN l : Int) D hd2]
   by_cases hall : D.all (fun x => decide (x = (botN l : Int))) = true
   · simp only [hall, if_true]
     unfold sideO
     rw [if_pos (by omega), Flows_eq h hk T (by omega) htl t.Data l3]
     have := flK_all2 l t.Data T ht2
     simp only [Option.bind_some]
     rw [this]
     split <;> rfl
   · rw [if_neg hall, if_neg hall]
end Go.Sx.O
namespace Go.Sx.O
open Go
theorem policy_Good_eq {l : TL} (h : LatIn l) (t : TY) : Fz49 l t = some (goodC l t) := by
 unfold Fz49 goodC
 rw [Bottom_eq h]
 by_cases hk : (latR l).2 = 0
 case neg => simp [hk]
 simp only [hk, if_true, Option.bind_some, decide_true, Bool.not_true, cond_false, policy_has_eq]
 by_cases r1 : t.Rank < 0
 · by_cases k1 : t.Kind = 1 <;> by_cases k2 : t.Kind = 2 <;> simp [k1, k2, r1, restC]
 by_cases r2 : 2 < t.Rank
 · by_cases k1 : t.Kind = 1 <;> by_cases k2 : t.Kind = 2 <;> simp [k1, k2, r1, r2, restC]
 have hr : ¬ (t.Rank < 0 ∨ 2 < t.Rank) := by omega
 have hside : (0 : Int) ≤ t.Rank ∧ t.Rank ≤ ((2 : Nat) : Int) := by omega
 cases l1 : labB l t.Axes.fst with
 | false => by_cases k1 : t.Kind = 1 <;> by_cases k2 : t.Kind = 2 <;> simp [k1, k2, r1, r2, restC, l1]
 | true =>
   cases l2 : labB l t.Axes.snd with
   | false => by_cases k1 : t.Kind = 1 <;> by_cases k2 : t.Kind = 2 <;> simp [k1, k2, r1, r2, restC, l1, l2]
   | true =>
     cases l3 : labB l t.Data with
     | false => by_cases k1 : t.Kind = 1 <;> by_cases k2 : t.Kind = 2 <;> simp [k1, k2, r1, r2, restC, l1, l2, l3]
     | true =>
       have key := good_tail h hk t hr l1 l2 l3
       simp only [Bool.not_true, cond_false, r1, r2, decide_false]
       by_cases k1 : t.Kind = 1
       · simp only [k1, decide_true, Bool.not_true, cond_false, true_or, if_true]
         rw [sideO, if_pos hside]
         exact key
       · by_cases k2 : t.Kind = 2
         · simp only [k1, k2, decide_true, decide_false, Bool.not_true, Bool.not_false, cond_true, cond_false, or_true, if_true]
           rw [sideO, if_pos hside]
           exact key
         · simp [k1, k2]
end Go.Sx.O
namespace Go.Sx.O
open Go
end Go.Sx.O
namespace Go.Sx.O
open Go
def ckK {α τ : Type} (c : α → Bool) (v : τ) (L : List α) (j : Nat) : Option τ := match L[j]? with | some y => if c y = true then some v else none | none => none
theorem scan_ckK {α τ : Type} (c : α → Bool) (v : τ) (L : List α) (n : Nat) (hn : n ≤ L.length) : scan (ckK c v L) 0 n = if (L.take n).any c = true then some v else none := by
 by_cases h : (L.take n).any c = true
 · rw [if_pos h]
   cases e : scan (ckK c v L) 0 n with
   | some r =>
     have : r = v := scan_val (v := v) (fun i => by
      unfold ckK
      cases L[i]? with
      | none => exact .inr rfl
      | some x => by_cases hx : c x = true <;> simp [hx]) e
     rw [this]
   | none =>
     exfalso
     rw [List.any_eq_true] at h
     obtain ⟨x, hx, hc⟩ := h
     obtain ⟨i, hi, hxi⟩ := List.getElem_of_mem hx
     rw [List.length_take] at hi
     have := scan_none.1 e i (by omega) (by omega)
     rw [List.getElem_take] at hxi
     unfold ckK at this
     rw [List.getElem?_eq_getElem (by omega), hxi] at this
     simp [hc] at this
 · rw [if_neg h, scan_none]
   intro i _ hi
   unfold ckK
   obtain ⟨x, hx⟩ := get_lt (l := L) (i := i) (by omega)
   rw [hx]
   have : ¬ c x = true := fun hc => h (by
    rw [List.any_eq_true]
    exact ⟨x, List.mem_take_iff_getElem.2 ⟨i, by omega, by rw [List.getElem?_eq_getElem (by omega)] at hx; exact Option.some.inj hx⟩, hc⟩)
   simp [this]
end Go.Sx.O
namespace Go.Sx.O
open Go
theorem scan_ne {τ : Type} {P : τ → Prop} {f : Nat → Option τ} (hf : ∀ i r, f i = some r → P r) : ∀ {n k r}, scan f k n = some r → P r := by
 intro n
 induction n with
 | zero => intro k r h; cases h
 | succ n ih =>
   intro k r h
   simp only [scan] at h
   split at h
   · rename_i b hb; cases h; exact hf _ _ hb
   · exact ih h
theorem far_all {α : Type} {L : List α} {N : Nat} {c : α → Bool} (h : (L.take (min L.length N)).any c = false) (hn : L.length ≤ N) : ∀ x ∈ L, c x = false := by
 rw [Nat.min_eq_left hn, List.take_length] at h
 simpa using h
theorem long03_spec (L : List (List UInt8)) : ∃ b, Fz0 L = some b ∧ (b = false → L.length ≤ 12 ∧ ∀ s ∈ L, s.length ≤ 100) := by
 unfold Fz0
 simp only [List.length_map]
 rw [lp_scanSE (s0 := (0 : Int)) (min L.length 20) (fun k => (k : Int)) (ckK (fun s : List UInt8 => decide ((100 : Int) < (s.length : Int))) true L) () ?_ ?_ rfl, scan_ckK _ _ _ _ (by omega)]
 · cases h : (L.take (min L.length 20)).any (fun s => decide ((100 : Int) < (s.length : Int))) with
   | true => exact ⟨true, rfl, fun h => by cases h⟩
   | false =>
     refine ⟨_, rfl, fun h12 => ?_⟩
     have h12 : L.length ≤ 12 := by simp at h12; omega
     exact ⟨h12, fun s hs => by have := far_all h (by omega) s hs; simp at this; omega⟩
 · intro k hk
   obtain ⟨x, hx⟩ := get_lt (l := L) (i := k) (by omega)
   have hlt : (k : Int) < (L.length : Int) := by omega
   have hlt2 : (k : Int) < 20 := by omega
   have hw : IntKind.wrap .i64 ((k : Int) + 1) = ((k + 1 : Nat) : Int) := w64 (by omega) (by omega)
   have n1 : (0 : Int) ≤ (k : Int) := by omega
   simp only [hlt, hlt2, decide_true, cond_true, idxO, n1, if_true, Int.toNat_natCast, hx, letO, hw, ckK]
   by_cases c1 : (100 : Int) < (x.length : Int) <;> simp [c1]
 · by_cases c1 : ((min L.length 20 : Nat) : Int) < (L.length : Int)
   · have c2 : ¬ ((min L.length 20 : Nat) : Int) < 20 := by omega
     simp only [c1, c2, decide_true, decide_false, cond_true, cond_false]
   · simp only [c1, decide_false, cond_false]
end Go.Sx.O
namespace Go.Sx.O
open Go
def ck4K (l : TL) (xs : List Int) (k : Nat) : Option (Int × Int) := match xs[k]? with
 | some x => if labB l x = true then none else some ((k : Int), 7)
 | none => none
noncomputable def ck4C (l : TL) (xs : List Int) : Int × Int := if (latR l).2 = 0 then (if (64 : Int) < (xs.length : Int) then (-1, 3) else match scan (ck4K l xs) 0 xs.length with | some r => r | none => (0, 0)) else (-1, (latR l).2)
theorem ref04_Check_eq {l : TL} (h : LatIn l) (xs : List Int) (hx : xs.length ≤ 1000000) : Fz50 l xs = some (ck4C l xs) := by
 unfold Fz50 ck4C
 rw [ref_Check_eq l h.u8 h.names h.name, ← latR_eq h]
 simp only [Option.bind_some, List.length_map]
 by_cases hk : (latR l).2 = 0
 case neg => simp [hk]
 simp only [hk, decide_true, Bool.not_true, cond_false, if_true]
 by_cases h6 : (64 : Int) < (xs.length : Int)
 · simp [h6]
 simp only [h6, decide_false, cond_false, if_false]
 refine (lp_scanSE xs.length (fun k => (k : Int)) (ck4K l xs) () (fun k hk => ?_) (by simp) rfl).trans ?_
 · obtain ⟨x, hx⟩ := get_lt hk
   have hlt : (k : Int) < (xs.length : Int) := by omega
   have hw : IntKind.wrap .i64 ((k : Int) + 1) = ((k + 1 : Nat) : Int) := w64 (by omega) (by omega)
   have n1 : (0 : Int) ≤ (k : Int) := by omega
   simp only [hlt, decide_true, cond_true, idxO, n1, if_true, Int.toNat_natCast, hx, Option.bind_some, letO, hw, ck4K, labB]
   by_cases c1 : x < 0
   · have : ¬ 0 ≤ x := by omega
     simp [c1, this]
   · have c2 : 0 ≤ x := by omega
     by_cases c3 : (l.Names.length : Int) ≤ x
     · have : ¬ x < (l.Names.length : Int) := by omega
       simp [c1, c2, c3, this]
     · have : x < (l.Names.length : Int) := by omega
       simp [c1, c2, c3, this]
 · cases scan (ck4K l xs) 0 xs.length <;> rfl
noncomputable def fl4C (l : TL) (xs : List Int) (d : Int) : Int × Int := if (ck4C l xs).2 = 0 then (if labB l d = true then flV l xs d else (-1, 7)) else ck4C l xs
theorem ck4_labs {l : TL} {xs : List Int} (h : (ck4C l xs).2 = 0) : (latR l).2 = 0 ∧ xs.length ≤ 64 ∧ ∀ x ∈ xs, labB l x = true := by
 unfold ck4C at h
 by_cases hk : (latR l).2 = 0
 case neg => rw [if_neg hk] at h; exact absurd h hk
 rw [if_pos hk] at h
 by_cases h6 : (64 : Int) < (xs.length : Int)
 · rw [if_pos h6] at h; exact absurd h (by decide)
 rw [if_neg h6] at h
 refine ⟨hk, by omega, ?_⟩
 cases hs : scan (ck4K l xs) 0 xs.length with
 | some r =>
   rw [hs] at h
   have : r.2 = 7 := scan_ne (P := fun r => r.2 = 7) (fun i r hr => by
    unfold ck4K at hr
    split at hr
    · split at hr
      · cases hr
      · cases hr; rfl
    · cases hr) hs
   simp only at h
   omega
 | none =>
   intro x hx
   obtain ⟨i, hi, e⟩ := List.getElem_of_mem hx
   have := scan_none.1 hs i (by omega) (by omega)
   unfold ck4K at this
   rw [List.getElem?_eq_getElem hi, e] at this
   simp only at this
   by_cases hl : labB l x = true
   · exact hl
   · rw [if_neg hl] at this; cases this
theorem ref04_Flows_eq {l : TL} (h : LatIn l) (xs : List Int) (hx : xs.length ≤ 1000000) (d : Int) : Fz51 l xs d = some (fl4C l xs d) := by
 unfold Fz51 fl4C
 rw [ref04_Check_eq h xs hx]
 simp only [Option.bind_some, List.length_map]
 by_cases hc : (ck4C l xs).2 = 0
 case neg => simp [hc]
 obtain ⟨hk, h6, hl⟩ := ck4_labs hc
 have ok := lat_ok h hk
 have hle := ok.le
 have hlen := ok.len
 simp only [hc, decide_true, Bool.not_true, cond_false, if_true]
 by_cases c1 : d < 0
 · have : ¬ 0 ≤ d := by omega
   simp [c1, labB, this]
 by_cases c2 : (l.Names.length : Int) ≤ d
 · have : ¬ d < (l.Names.length : Int) := by omega
   simp [c1, c2, labB, this]
 have c3 : 0 ≤ d := by omega
 have c4 : d < (l.Names.length : Int) := by omega
 have hd : labB l d = true := by simp [labB, c3, c4]
 simp only [c1, c2, decide_false, cond_false, hd, if_true, flV]
 refine (lp_scanSE xs.length (fun k => (k : Int)) (fun k => (flK l xs d k).map fun r => (r, 25)) () (fun k hk => ?_) (by simp) rfl).trans ?_
 · obtain ⟨x, hx⟩ := get_lt hk
   have hq := hl x (List.mem_of_getElem? hx)
   unfold labB at hq
   simp only [Bool.and_eq_true, decide_eq_true_eq] at hq
   have hlt : (k : Int) < (xs.length : Int) := by omega
   have hw : IntKind.wrap .i64 ((k : Int) + 1) = ((k + 1 : Nat) : Int) := w64 (by omega) (by omega)
   have n1 : (0 : Int) ≤ (k : Int) := by omega
   have hb : Fz6 l x d = some (up l x.toNat d.toNat) := by
    have := Below_spec ok.u8 (a := x.toNat) (b := d.toNat) (by omega) (by omega)
    rwa [Int.toNat_of_nonneg hq.1, Int.toNat_of_nonneg c3] at this
   simp only [hlt, decide_true, cond_true, idxO, n1, if_true, Int.toNat_natCast, hx, Option.bind_some, letO, hw, hb, flK]
   cases up l x.toNat d.toNat <;> simp
 · rw [scan_map]
   cases scan (flK l xs d) 0 xs.length <;> rfl
end Go.Sx.O
namespace Go.Sx.O
open Go
theorem u8s_of {l : List Int} (h : allW (inK .u8) l) : U8s l := fun x hx => inK_u8 (h x hx)
def isG (l : TL) (t : TY) : Prop := (t.Kind = 1 ∨ t.Kind = 2) ∧ 0 ≤ t.Rank ∧ t.Rank ≤ 2 ∧ labB l t.Axes.1 = true ∧ labB l t.Axes.2 = true ∧ labB l t.Data = true ∧
 up l t.Axes.1.toNat t.Data.toNat = true ∧ up l t.Axes.2.toNat t.Data.toNat = true ∧ (0 < t.Rank ∨ t.Axes.1 = (botN l : Int)) ∧ (1 < t.Rank ∨ t.Axes.2 = (botN l : Int))
theorem lab_nat {l : TL} {a : Int} (h : labB l a = true) : 0 ≤ a ∧ a.toNat < l.Names.length := by
 unfold labB at h
 simp only [Bool.and_eq_true, decide_eq_true_eq] at h
 omega
theorem goodC_zero {l : TL} (h : LatIn l) (hk : (latR l).2 = 0) (t : TY) : goodC l t = 0 ↔ isG l t := by
 obtain ⟨hb, hbot⟩ := bot_spec h hk
 unfold goodC isG
 rw [if_pos hk]
 by_cases k : t.Kind = 1 ∨ t.Kind = 2
 case neg => rw [if_neg k]; simp [k]
 rw [if_pos k]
 unfold restC
 by_cases r : t.Rank < 0 ∨ 2 < t.Rank
 · rw [if_pos r]
   constructor
   · intro h; cases h
   · rintro ⟨_, h1, h2, _⟩; omega
 rw [if_neg r]
 by_cases L : labB l t.Axes.1 = true ∧ labB l t.Axes.2 = true ∧ labB l t.Data = true
 case neg =>
  rw [if_neg L]
  constructor
  · intro h; cases h
  · rintro ⟨_, _, _, h1, h2, h3, _⟩; exact absurd ⟨h1, h2, h3⟩ L
 rw [if_pos L]
 obtain ⟨l1, l2, l3⟩ := L
 have hd := lab_nat l3
 have hb1 : t.Axes.1 = (botN l : Int) → up l t.Axes.1.toNat t.Data.toNat = true := fun e => by rw [e]; exact hbot _ hd.2
 have hb2 : t.Axes.2 = (botN l : Int) → up l t.Axes.2.toNat t.Data.toNat = true := fun e => by rw [e]; exact hbot _ hd.2
 have hr : t.Rank = 0 ∨ t.Rank = 1 ∨ t.Rank = 2 := by omega
 rcases hr with e | e | e
 · simp only [e, Int.toNat_zero, List.drop_zero, List.take_zero, List.all_nil, if_true, List.all_cons, Bool.and_true, Bool.and_eq_true, decide_eq_true_eq]
   by_cases c : t.Axes.1 = (botN l : Int) ∧ t.Axes.2 = (botN l : Int)
   · rw [if_pos c]
     exact ⟨fun _ => ⟨k, by omega, by omega, l1, l2, l3, hb1 c.1, hb2 c.2, .inr c.1, .inr c.2⟩, fun _ => rfl⟩
   · rw [if_neg c]
     exact ⟨fun h => absurd h (by decide), fun ⟨_, _, _, _, _, _, _, _, g9, g10⟩ => absurd ⟨g9.resolve_left (by omega), g10.resolve_left (by omega)⟩ c⟩
 · have e1 : Int.toNat 1 = 1 := rfl
   simp only [e, e1, List.drop_succ_cons, List.drop_zero, List.take_succ_cons, List.take_zero, List.all_nil, List.all_cons, Bool.and_true, decide_eq_true_eq]
   by_cases c : t.Axes.2 = (botN l : Int)
   · rw [if_pos c]
     by_cases u : up l t.Axes.1.toNat t.Data.toNat = true
     · rw [if_pos u]
       exact ⟨fun _ => ⟨k, by omega, by omega, l1, l2, l3, u, hb2 c, .inl (by omega), .inr c⟩, fun _ => rfl⟩
     · rw [if_neg u]
       exact ⟨fun h => absurd h (by decide), fun ⟨_, _, _, _, _, _, g7, _⟩ => absurd g7 u⟩
   · rw [if_neg c]
     exact ⟨fun h => absurd h (by decide), fun ⟨_, _, _, _, _, _, _, _, _, g10⟩ => absurd (g10.resolve_left (by omega)) c⟩
 · have e2 : Int.toNat 2 = 2 := rfl
   simp only [e, e2, List.drop_succ_cons, List.drop_nil, List.take_succ_cons, List.take_zero, List.all_nil, List.all_cons, Bool.and_true, if_true, Bool.and_eq_true]
   by_cases u : up l t.Axes.1.toNat t.Data.toNat = true ∧ up l t.Axes.2.toNat t.Data.toNat = true
   · rw [if_pos u]
     exact ⟨fun _ => ⟨k, by omega, by omega, l1, l2, l3, u.1, u.2, .inl (by omega), .inl (by omega)⟩, fun _ => rfl⟩
   · rw [if_neg u]
     exact ⟨fun h => absurd h (by decide), fun ⟨_, _, _, _, _, _, g7, g8, _⟩ => absurd ⟨g7, g8⟩ u⟩
theorem isG_up {l : TL} (h : LatIn l) (hk : (latR l).2 = 0) {t : TY} (g : isG l t) {d : Nat} (hd : d < l.Names.length) (hu : up l t.Data.toNat d = true) : isG l (TY.mk t.Kind t.Rank t.Axes (d : Int)) := by
 obtain ⟨g1, g2, g3, g4, g5, g6, g7, g8, g9, g10⟩ := g
 have ok := lat_ok h hk
 have n1 := (lab_nat g4).2
 have n2 := (lab_nat g5).2
 have n3 := (lab_nat g6).2
 exact ⟨g1, g2, g3, g4, g5, by simp [labB, hd], up_trans ok n1 n3 hd g7 hu, up_trans ok n2 n3 hd g8 hu, g9, g10⟩
theorem isG_flows {l : TL} (h : LatIn l) (hk : (latR l).2 = 0) (t : TY) : (fl4C l [t.Axes.1, t.Axes.2] t.Data).2 = 0 ↔ labB l t.Axes.1 = true ∧ labB l t.Axes.2 = true ∧ labB l t.Data = true ∧ up l t.Axes.1.toNat t.Data.toNat = true ∧ up l t.Axes.2.toNat t.Data.toNat = true := by
 unfold fl4C ck4C flV
 rw [if_pos hk]
 have h6 : ¬ (64 : Int) < (([t.Axes.1, t.Axes.2] : List Int).length : Int) := by simp
 rw [if_neg h6]
 cases l1 : labB l t.Axes.1 <;> cases l2 : labB l t.Axes.2 <;> cases l3 : labB l t.Data <;> cases u1 : up l t.Axes.1.toNat t.Data.toNat <;> cases u2 : up l t.Axes.2.toNat t.Data.toNat <;> simp [scan, ck4K, flK, l1, l2, u1, u2]
theorem good_loop {l : TL} (h : LatIn l) (hk : (latR l).2 = 0) {t : TY} (g : isG l t) : (lpO (fun (s467 : Int) =>
 cond (decide (s467 < (↑(List.length (List.map SV.str l.Names)) : Int)))
 (Option.bind (Fz6 l t.Data (s467)) fun x474 =>
 cond (x474)
 (Option.bind (Fz49 l (TY.mk t.Kind t.Rank t.Axes s467)) fun x476 =>
 cond (!decide (x476 = (0 : Int)))
 (some (Sum.inr (Sum.inr (false))))
 (letO (IntKind.wrap IntKind.i64 (s467 + (1 : Int))) fun x478 =>
 some (Sum.inl (x478))))
 (letO (IntKind.wrap IntKind.i64 (s467 + (1 : Int))) fun x479 =>
 some (Sum.inl (x479))))
 (some (Sum.inr (Sum.inl (()))))) ((0 : Int))) = some (Sum.inl () : Unit ⊕ Bool) := by
 have ok := lat_ok h hk
 have hle := ok.le
 have hlen := ok.len
 have hd := lab_nat g.2.2.2.2.2.1
 refine lp_fold l.Names.length (fun k => (k : Int)) (Sum.inl () : Unit ⊕ Bool) (fun k hkn => ?_) (by simp)
 have hlt : (k : Int) < (l.Names.length : Int) := by omega
 have hw : IntKind.wrap .i64 ((k : Int) + 1) = ((k + 1 : Nat) : Int) := w64 (by omega) (by omega)
 have hb : Fz6 l t.Data (k : Int) = some (up l t.Data.toNat k) := by
  have := Below_spec ok.u8 (a := t.Data.toNat) (b := k) (by omega) (by omega)
  rwa [Int.toNat_of_nonneg hd.1] at this
 simp only [List.length_map, hlt, decide_true, cond_true, hb, Option.bind_some, letO, hw, policy_Good_eq h]
 cases hu : up l t.Data.toNat k with
 | false => rfl
 | true =>
   have := (goodC_zero h hk _).2 (isG_up h hk g hkn hu)
   simp only [this, decide_true, Bool.not_true, cond_true, cond_false]
theorem no_loop (n : Int) : lpO (fun (_ : Unit) =>
 cond (decide ((0 : Int) < n))
 (some (Sum.inr (Sum.inl (()))))
 (some (Sum.inr (Sum.inl (()))))) (()) = some (Sum.inl () : Unit ⊕ Bool) := by
 refine lp_fold 0 (fun _ => ()) (Sum.inl () : Unit ⊕ Bool) (fun k hk => by omega) ?_
 cases decide ((0 : Int) < n) <;> rfl
theorem no_loop2 (n : Int) : lpO (fun (s : Int) =>
 cond (decide (s < n))
 (some (Sum.inr (Sum.inl (()))))
 (some (Sum.inr (Sum.inl (()))))) 0 = some (Sum.inl () : Unit ⊕ Bool) := by
 refine lp_fold 0 (fun _ => (0 : Int)) (Sum.inl () : Unit ⊕ Bool) (fun k hk => by omega) ?_
 cases decide ((0 : Int) < n) <;> rfl
theorem Far03_spec (l : TL) (hu : U8s l.Up) : ∃ b, Fz1 l = some b ∧ (b = false → LatIn l) := by
 unfold Fz1
 obtain ⟨b, e, hb⟩ := long03_spec l.Names
 rw [e]
 cases b with
 | true => exact ⟨true, rfl, fun h => by cases h⟩
 | false =>
   obtain ⟨h12, hs⟩ := hb rfl
   exact ⟨_, rfl, fun _ => ⟨hu, by omega, fun s hs' => Nat.le_trans (hs s hs') (by omega)⟩⟩
theorem PolicyGood_W (l : TL) (t : TY) (w1 : W_TL l) (_ : W_TY t) : Fz52 l t = some true := by
 unfold Fz52
 obtain ⟨b, hb, hf⟩ := Far03_spec l (u8s_of w1.Up)
 rw [hb]
 cases b with
 | true => rfl
 | false =>
 have h := hf rfl
 simp only [Option.bind_some, cond_false, ref_Bottom_eq h]
 by_cases hk : (latR l).2 = 0
 case neg =>
  have : goodC l t = (latR l).2 := by unfold goodC; rw [if_neg hk]
  simp only [hk, if_false, decide_false, Bool.not_false, cond_true, policy_Good_eq h, Option.bind_some, this, decide_true]
 have hz := goodC_zero h hk t
 have hF := isG_flows h hk t
 simp only [hk, if_true, decide_true, Bool.not_true, cond_false, ref04_Flows_eq h _ (show ([t.Axes.fst, t.Axes.snd] : List Int).length ≤ 1000000 by simp), Option.bind_some, policy_Good_eq h]
 unfold isG at hz
 by_cases c0 : (fl4C l [t.Axes.1, t.Axes.2] t.Data).2 = 0
 case neg =>
  have hz' : ¬ goodC l t = 0 := fun e => c0 (hF.2 ⟨(hz.1 e).2.2.2.1, (hz.1 e).2.2.2.2.1, (hz.1 e).2.2.2.2.2.1, (hz.1 e).2.2.2.2.2.2.1, (hz.1 e).2.2.2.2.2.2.2.1⟩)
  simp only [c0, hz', decide_false, Bool.not_false, Bool.not_true, cond_false, no_loop, Option.bind_some, Sum.elim_inl]
 obtain ⟨f1, f2, f3, f4, f5⟩ := hF.1 c0
 have hz2 : goodC l t = 0 ↔ (t.Kind = 1 ∨ t.Kind = 2) ∧ 0 ≤ t.Rank ∧ t.Rank ≤ 2 ∧ (0 < t.Rank ∨ t.Axes.1 = (botN l : Int)) ∧ (1 < t.Rank ∨ t.Axes.2 = (botN l : Int)) := by
  rw [hz]
  exact ⟨fun ⟨g1, g2, g3, _, _, _, _, _, g9, g10⟩ => ⟨g1, g2, g3, g9, g10⟩, fun ⟨g1, g2, g3, g9, g10⟩ => ⟨g1, g2, g3, f1, f2, f3, f4, f5, g9, g10⟩⟩
 simp only [c0, decide_true, cond_true]
 have hL : goodC l t = 0 → _ := fun e => good_loop h hk ((goodC_zero h hk t).1 e)
 simp only [policy_Good_eq h, Option.bind_some] at hL
 by_cases hg : goodC l t = 0
 · have hL' := hL hg
   obtain ⟨g1, g2, g3, g9, g10⟩ := hz2.1 hg
   simp only [hg, g2, g3, decide_true, cond_true, Bool.not_true, cond_false]
   simp only [hL', Option.bind_some, Sum.elim_inl]
   by_cases a2 : t.Axes.2 = (botN l : Int)
   · simp only [a2, decide_true, cond_true, hL', Option.bind_some, Sum.elim_inl]
     rcases g1 with k1 | k1 <;> by_cases q0 : 0 < t.Rank <;> by_cases q1 : 1 < t.Rank <;> by_cases a1 : t.Axes.1 = (botN l : Int) <;> first
      | omega
      | (simp only [k1, q0, q1, a1, decide_true, decide_false, cond_true, cond_false, Bool.not_true, Bool.not_false, beq_self_eq_true, Bool.false_beq, Bool.true_beq]; done)
      | (simp [k1, q0, q1, a1]; done)
   · have q1 := g10.resolve_right a2
     have q0 : 0 < t.Rank := by omega
     rcases g1 with k1 | k1 <;> first
      | (simp only [k1, q0, q1, decide_true, decide_false, cond_true, cond_false]; done)
      | (simp [k1, q0, q1]; done)
 · have hn : ¬ ((t.Kind = 1 ∨ t.Kind = 2) ∧ 0 ≤ t.Rank ∧ t.Rank ≤ 2 ∧ (0 < t.Rank ∨ t.Axes.1 = (botN l : Int)) ∧ (1 < t.Rank ∨ t.Axes.2 = (botN l : Int))) := fun g => hg (hz2.2 g)
   simp only [hg, decide_false, Bool.not_false, Bool.not_true, cond_false]
   have h21 : decide ((2 : Int) = 1) = false := rfl
   by_cases r0 : 0 ≤ t.Rank <;> by_cases r2 : t.Rank ≤ 2 <;> by_cases q0 : 0 < t.Rank <;> by_cases q1 : 1 < t.Rank <;> first
    | omega
    | (by_cases k1 : t.Kind = 1 <;> by_cases k2 : t.Kind = 2 <;> by_cases a1 : t.Axes.1 = (botN l : Int) <;> by_cases a2 : t.Axes.2 = (botN l : Int) <;> first
        | omega
        | (exfalso; exact hn ⟨by omega, r0, r2, by omega, by omega⟩)
        | (simp only [k1, k2, r0, r2, q0, q1, a1, a2, decide_true, decide_false, cond_true, cond_false, Bool.not_true, Bool.not_false, beq_self_eq_true, Bool.false_beq, Bool.true_beq, no_loop, no_loop2, Option.bind_some, Sum.elim_inl]; done)
        | (simp only [k2, h21, r0, r2, q0, q1, a1, a2, decide_true, decide_false, cond_true, cond_false, Bool.not_true, Bool.not_false, beq_self_eq_true, Bool.false_beq, Bool.true_beq, no_loop, no_loop2, Option.bind_some, Sum.elim_inl]; done))
end Go.Sx.O
