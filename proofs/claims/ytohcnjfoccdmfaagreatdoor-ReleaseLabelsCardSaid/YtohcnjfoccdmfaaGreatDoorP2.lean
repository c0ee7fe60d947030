/-
  PLAIN LAWS: the lattice's check, exactly; the reference's too: names. An own text.
  PLAIN LAWS: lattice.of, .bound, exactly. An own text.
  PLAIN LAWS: the order's check, exactly, the program's and the reference's. An own text.
  PLAIN LAWS: the reference's check of a lattice, exactly. An own text.
  PLAIN LAWS: lattice.Check and the reference's Check say the same. An own text.
  PLAIN LAWS: lattice.Check, exactly. An own text.
  PLAIN LAWS: the reference's Leq; events that are the same. An own text.
  PLAIN LAWS: lattices: joins, meets, top, bottom. An own text.
  PLAIN LAWS: names, exactly: runes.Class, lexer.Check of a word, prims.Find, expr.Name, on both sides. An own text.
  PLAIN LAWS: expr.Name is the reference's. An own text.
  PLAIN LAWS: arrays.Check is the reference's. An own text.
  PLAIN LAWS: arrays.Check is the reference's, cells. An own text.
  PLAIN LAWS of layer 28: folds, names, values: the program's and the reference's. An own text.
  PLAIN LAWS of layer 28: the sum that stays at the ends; the values of folds. An own text.
  PLAIN LAWS of layer 28: the values of folds; Value. An own text.
  THE LAW ReleaseValues FOR DATA AS THEY COME. An own text.
  PLAIN LAWS of layer 19: labels, channels: the program's and the reference's. An own text.
  PLAIN LAWS of layer 19: variables: the program's and the reference's, where both find types alike good. An own text.
  PLAIN LAWS of layer 3: the bottom that the program finds. An own text.
  PLAIN LAWS of layer 3: the bottom that the reference finds. An own text.
  PLAIN LAWS of layer 18's labels: Check, Flows. An own text.
  PLAIN LAWS of layer 19: Good types: the program's. An own text.
  PLAIN LAWS of layer 19: policy.Good. An own text.
  PLAIN LAWS of layer 19: the reference's Good. An own text.
  PLAIN LAWS of layer 19: the reference's Good; the rules of both. An own text.
  PLAIN LAWS of layer 19: Check, Rule of both; what is not far. An own text.
  PLAIN LAWS of layer 28: Check; the law ReleaseChecks. An own text.
  PLAIN LAWS of layer 20: types.Check, the reference's: both as Good of layer 19. An own text.
  PLAIN LAWS of layer 28: May; the law ReleaseMays. An own text.
  PLAIN LAWS of layer 28: joins and meets of the reference; the law ReleaseLabels. An own text.
-/
import Derived.Test.YtohcnjfoccdmfaaGreatDoorP1
namespace Go.Sx.O
open Go
def namesF (ns : List (List UInt8)) (i : Nat) : Option (Int × Int) :=
 if wname (ns.getD i []) = true then (if ns.getD i [] ∈ ns.take i then some ((i : Int), 8) else none) else some ((i : Int), 6)
def namesR (ns : List (List UInt8)) : Int × Int := if ns.length < 1 ∨ 8 < ns.length then (-1, 3) else (scan (namesF ns) 0 ns.length).getD (0, 0)
theorem getD_lt {α : Type} {l : List α} {i : Nat} {d x : α} (h : l[i]? = some x) : l.getD i d = x := by rw [List.getD_eq_getElem?_getD, h]; rfl
theorem named_eq (ns : List (List UInt8)) (h : ns.length ≤ 20) (hn : ∀ s ∈ ns, s.length ≤ 1000) : Fz23 ns = some (namesR ns) := by
 unfold Fz23 namesR
 simp only [List.length_map]
 by_cases h1 : ns.length < 1
 · have : (ns.length : Int) < 1 := by omega
   simp [h1, this]
 by_cases h2 : 8 < ns.length
 · have : (8 : Int) < ns.length := by omega
   have g1 : ¬ (ns.length : Int) < 1 := by omega
   simp [h2, this, g1]
 have g1 : ¬ (ns.length : Int) < 1 := by omega
 have g2 : ¬ (8 : Int) < ns.length := by omega
 simp only [g1, g2, h1, h2, decide_false, cond_false, or_self, if_false]
 rw [lp_scanE ns.length (namesF ns) () (fun k hk => ?_) (by simp)]
 · cases scan (namesF ns) 0 ns.length <;> rfl
 · obtain ⟨x, hx⟩ := get_lt (l := ns) (i := k) hk
   have hxl := hn x (List.mem_of_getElem? hx)
   simp only [Int.ofNat_lt, hk, decide_true, cond_true, idxO, Int.toNat_natCast, hx, Option.bind_some, letO, Int.natCast_nonneg, if_true]
   rw [Name_spec x (by omega), Contains_strings_spec _ _ (by simp; omega)]
   unfold namesF
   rw [getD_lt hx, w64 (by omega) (by omega)]
   cases e : wname x with
   | false => simp
   | true =>
     have hk' : k ≤ ns.length := by omega
     simp only [Option.bind_some, Bool.not_true, cond_false, Int.toNat_zero, List.drop_zero, if_true]
     by_cases hm : x ∈ ns.take k
     · simp [hm, sideO, hk']
     · simp [hm, sideO, hk']
theorem lower_spec (c : UInt8) : Fz69 (c.toNat : Int) = some (decide (97 ≤ c.toNat) && decide (c.toNat ≤ 122)) := by
 unfold Fz69
 by_cases h : (97 : Int) ≤ c.toNat
 · have : 97 ≤ c.toNat := by omega
   simp only [h, this, decide_true, cond_true, Bool.true_and]
   congr 1
   rw [Bool.eq_iff_iff]; simp; omega
 · have : ¬ 97 ≤ c.toNat := by omega
   simp only [h, this, decide_false, cond_false, Bool.false_and]
theorem digit_spec (c : UInt8) : Fz70 (c.toNat : Int) = some (decide (48 ≤ c.toNat) && decide (c.toNat ≤ 57)) := by
 unfold Fz70
 by_cases h : (48 : Int) ≤ c.toNat
 · have : 48 ≤ c.toNat := by omega
   simp only [h, this, decide_true, cond_true, Bool.true_and]
   congr 1
   rw [Bool.eq_iff_iff]; simp; omega
 · have : ¬ 48 ≤ c.toNat := by omega
   simp only [h, this, decide_false, cond_false, Bool.false_and]
theorem word_byte (c : UInt8) : decide (c ∈ wordSet) = (decide (97 ≤ c.toNat) && decide (c.toNat ≤ 122) || (decide (48 ≤ c.toNat) && decide (c.toNat ≤ 57)) || decide (c.toNat = 45)) := by
 have key : ∀ n : Fin 256, decide (UInt8.ofNat n ∈ wordSet) = (decide (97 ≤ n.val) && decide (n.val ≤ 122) || (decide (48 ≤ n.val) && decide (n.val ≤ 57)) || decide (n.val = 45)) := by decide +kernel
 have := key ⟨c.toNat, c.toNat_lt⟩
 simpa using this
theorem ref_Name_spec (s : List UInt8) (h : s.length ≤ 1000000000) : Fz71 s = some (wname s) := by
 unfold Fz71
 cases s with
 | nil => rfl
 | cons a r =>
   have g1 : ¬ ((a :: r).length : Int) < 1 := by simp; omega
   simp only [g1, decide_false, cond_false]
   unfold wname
   by_cases h1 : (16 : Int) < ((a :: r).length : Int)
   · have : ¬ (a :: r).length ≤ 16 := by omega
     simp only [h1, decide_true, cond_true, this, decide_false, Bool.false_and]
   have h1' : (a :: r).length ≤ 16 := by omega
   have e5 : idxO (a :: r) 0 = fun f => (f a : Option Bool) := rfl
   simp only [h1, decide_false, cond_false, h1', decide_true, Bool.true_and, e5, lower_spec, Option.bind_some]
   cases e : (decide (97 ≤ a.toNat) && decide (a.toNat ≤ 122)) with
   | false => rfl
   | true =>
     simp only [Bool.not_true, cond_false, Bool.true_and]
     generalize a :: r = s at *
     rw [lp_scanE s.length (fun k => if decide (s.getD k 0 ∈ wordSet) = true then none else some false) () (fun k hk => ?_) (by simp)]
     · cases hs : scan (fun k => if decide (s.getD k 0 ∈ wordSet) = true then none else some false) 0 s.length with
       | none =>
         have := scan_none.1 hs
         simp only
         congr 1
         symm
         rw [List.all_eq_true]
         intro c hc
         obtain ⟨i, hi, rfl⟩ := List.getElem_of_mem hc
         have := this i (by omega) (by omega)
         rw [getD_lt (List.getElem?_eq_getElem hi)] at this
         split at this
         · assumption
         · cases this
       | some b =>
         simp only
         congr 1
         have hall : ¬ s.all (fun c => decide (c ∈ wordSet)) = true := by
          intro hall
          rw [List.all_eq_true] at hall
          have : scan (fun k => if decide (s.getD k 0 ∈ wordSet) = true then none else some false) 0 s.length = none := scan_none.2 fun i _ hi => by
           have hi' : i < s.length := by omega
           rw [getD_lt (List.getElem?_eq_getElem hi'), if_pos (hall _ (List.getElem_mem hi'))]
          rw [this] at hs; cases hs
         have hb : b = false := by
          have key : ∀ {j k : Nat}, scan (fun k => if decide (s.getD k 0 ∈ wordSet) = true then none else some false) k j = some b → b = false := by
           intro j
           induction j with
           | zero => intro k h; cases h
           | succ j ih =>
             intro k h
             simp only [scan] at h
             split at h
             · rename_i r hr
               cases h
               split at hr
               · cases hr
               · cases hr; rfl
             · exact ih h
          exact key hs
         rw [hb]
         cases e : s.all (fun c => decide (c ∈ wordSet)) with
         | false => rfl
         | true => exact absurd e hall
     · obtain ⟨x, hx⟩ := get_lt (l := s) (i := k) hk
       simp only [Int.ofNat_lt, hk, decide_true, cond_true, idxO, Int.toNat_natCast, hx, Option.bind_some, letO, Int.natCast_nonneg, if_true, lower_spec, digit_spec]
       rw [getD_lt hx, w64 (by omega) (by omega), word_byte]
       cases (decide (97 ≤ x.toNat) && decide (x.toNat ≤ 122)) with
       | true => simp
       | false =>
         cases (decide (48 ≤ x.toNat) && decide (x.toNat ≤ 57)) with
         | true => simp
         | false =>
           by_cases h45 : x.toNat = 45
           · simp [h45]
           · have : ¬ (x.toNat : Int) = 45 := by omega
             simp [h45, this]
theorem ref_names_eq (ns : List (List UInt8)) (h : ns.length ≤ 20) (hn : ∀ s ∈ ns, s.length ≤ 1000) : Fz72 ns = some (namesR ns) := by
 unfold Fz72 namesR
 simp only [List.length_map]
 by_cases h1 : ns.length < 1
 · have : (ns.length : Int) < 1 := by omega
   simp [h1, this]
 by_cases h2 : 8 < ns.length
 · have : (8 : Int) < ns.length := by omega
   have g1 : ¬ (ns.length : Int) < 1 := by omega
   simp [h2, this, g1]
 have g1 : ¬ (ns.length : Int) < 1 := by omega
 have g2 : ¬ (8 : Int) < ns.length := by omega
 simp only [g1, g2, h1, h2, decide_false, cond_false, or_self, if_false]
 rw [lp_scanE ns.length (namesF ns) () (fun k hk => ?_) (by simp)]
 · cases scan (namesF ns) 0 ns.length <;> rfl
 · obtain ⟨x, hx⟩ := get_lt (l := ns) (i := k) hk
   have hxl := hn x (List.mem_of_getElem? hx)
   simp only [Int.ofNat_lt, hk, decide_true, cond_true, idxO, Int.toNat_natCast, hx, Option.bind_some, Int.natCast_nonneg, if_true]
   rw [ref_Name_spec x (by omega)]
   unfold namesF
   rw [getD_lt hx]
   cases e : wname x with
   | false => simp
   | true =>
     simp only [Option.bind_some, Bool.not_true, cond_false, if_true]
     rw [lp_scanE k (fun j => if ns.getD j [] = x then some (.inr (.inr ((k : Int), (8 : Int)))) else none) () (fun j hj => ?_) (by simp)]
     · by_cases hm : x ∈ ns.take k
       · obtain ⟨j, hj, rfl⟩ := List.getElem_of_mem hm
         have hj' : j < k ∧ j < ns.length := by simp at hj; omega
         cases hs : scan (fun i => if ns.getD i [] = (ns.take k)[j] then some ((.inr (.inr ((k : Int), (8 : Int)))) : Int ⊕ (Unit ⊕ (Int × Int))) else none) 0 k with
         | none =>
           have := scan_none.1 hs j (by omega) (by omega)
           rw [getD_lt (List.getElem?_eq_getElem hj'.2)] at this
           simp at this
         | some b =>
           have : b = .inr (.inr ((k : Int), (8 : Int))) := scan_val (fun i => by split <;> simp) hs
           rw [this, if_pos hm]
       · have : scan (fun j => if ns.getD j [] = x then some ((.inr (.inr ((k : Int), (8 : Int)))) : Int ⊕ (Unit ⊕ (Int × Int))) else none) 0 k = none := scan_none.2 fun i _ hi => by
          have hi' : i < ns.length := by omega
          rw [getD_lt (List.getElem?_eq_getElem hi'), if_neg]
          rintro rfl
          exact hm (List.mem_iff_getElem.2 ⟨i, by simp; omega, by simp⟩)
         rw [this]
         simp only [hm, if_false, letO]
         rw [w64 (by omega) (by omega)]
     · obtain ⟨y, hy⟩ := get_lt (l := ns) (i := j) (by omega)
       simp only [Int.ofNat_lt, hj, decide_true, cond_true, idxO, Int.toNat_natCast, hy, Option.bind_some, letO, Int.natCast_nonneg, if_true, hx]
       rw [getD_lt hy, w64 (by omega) (by omega)]
       by_cases hxy : y = x
       · simp [hxy]
       · simp [hxy]
end Go.Sx.O
namespace Go.Sx.O
open Go
def dn (l : TL) (b : Nat) : Nat → Nat
 | 0 => 0
 | k + 1 => dn l b k ||| (if up l k b = true then 2 ^ k else 0)
theorem dn_bit (l : TL) (b : Nat) : ∀ (k i : Nat), (dn l b k).testBit i = (decide (i < k) && up l i b)
 | 0, i => by simp [dn]
 | k + 1, i => by
   simp only [dn, Nat.testBit_or, dn_bit l b k i]
   by_cases h : up l k b = true
   · simp only [h, if_true, Nat.testBit_two_pow]
     by_cases hik : i = k
     · subst hik; simp [h]
     · have h1 : ¬ k = i := fun e => hik e.symm
       have h2 : (i < k + 1) = (i < k) := by simp; omega
       simp [h1, h2]
   · simp only [h, if_false, Nat.zero_testBit, Bool.or_false]
     by_cases hik : i = k
     · subst hik; simp [h]
     · have h2 : (i < k + 1) = (i < k) := by simp; omega
       simp [h2]
theorem dn_lt (l : TL) (b : Nat) : ∀ k : Nat, dn l b k < 2 ^ k
 | 0 => by simp [dn]
 | k + 1 => by
   simp only [dn]
   refine Nat.or_lt_two_pow (Nat.lt_of_lt_of_le (dn_lt l b k) (Nat.pow_le_pow_right (by omega) (by omega))) ?_
   split
   · exact Nat.pow_lt_pow_right (by omega) (by omega)
   · exact Nat.two_pow_pos _
theorem dn_256 (l : TL) (b : Nat) {k : Nat} (h : k ≤ 8) : dn l b k < 256 := Nat.lt_of_lt_of_le (dn_lt l b k) (Nat.pow_le_pow_right (n := 2) (by omega) h)
theorem shl_bit {c : Bool} {k : Nat} (h : k < 8) : IntKind.wrap .u8 ((if c = true then (1 : Int) else 0) * 2 ^ min k (IntKind.bits .u8)) = ((if c = true then 2 ^ k else 0 : Nat) : Int) := by
 have key : ∀ (c : Bool) (k : Fin 8), IntKind.wrap .u8 ((if c = true then (1 : Int) else 0) * 2 ^ min k.val (IntKind.bits .u8)) = ((if c = true then 2 ^ k.val else 0 : Nat) : Int) := by decide +kernel
 exact key c ⟨k, h⟩
theorem or_nat {a b : Nat} (ha : a < 256) (hb : b < 256) : bits .or .u8 (a : Int) (b : Int) = ((a ||| b : Nat) : Int) := by
 rw [bits_or (by omega) (by omega) (by omega) (by omega)]; rfl
theorem and_nat {a b : Nat} (ha : a < 256) (hb : b < 256) : bits .and .u8 (a : Int) (b : Int) = ((a &&& b : Nat) : Int) := by
 rw [bits_and (by omega) (by omega) (by omega) (by omega)]; rfl
theorem sh_lt {c : Bool} {k : Nat} (h : k < 8) : (if c = true then 2 ^ k else 0) < 256 := by
 split
 · exact Nat.lt_of_lt_of_le (Nat.pow_lt_pow_right (a := 2) (by omega) h) (by omega)
 · omega
theorem get_set {α : Type} {l : List α} {i j : Nat} {x : α} (h : i < l.length) : (l.set i x)[j]? = if i = j then some x else l[j]? := by
 rw [List.getElem?_set]
 split
 · simp [h]
 · rfl
theorem of_exact (l : TL) (hu : U8s l.Up) (hn : l.Names.length ≤ 8) (hl : l.Up.length = l.Names.length) :
 Tot (Fz25 l) fun o => o.n_ = l.Names.length ∧ o.up_.length = 8 ∧ o.down_.length = 8 ∧ (∀ j, j < l.Names.length → o.up_[j]? = l.Up[j]?) ∧ ∀ b, b < l.Names.length → o.down_[b]? = some (dn l b l.Names.length : Int) := by
 unfold Fz25
 simp only [tot_bind, List.length_map]
 refine Tot.count l.Up.length (fun k s => s.1 = (k : Int) ∧ s.2.1.length = 8 ∧ s.2.2.length = 8 ∧ (∀ j, j < k → s.2.1[j]? = l.Up[j]?) ∧ ∀ b, b < l.Names.length → s.2.2[b]? = some (dn l b k : Int)) ?_ ⟨rfl, rfl, rfl, fun j hj => absurd hj (by omega), fun b hb => ?_⟩
 · rintro k ⟨i, up', down⟩ hk ⟨h0, h1, h2, h3, h4⟩
   simp only at h0 h1 h2 h3 h4
   subst h0
   simp only [tot_some, tot_cond, tot_let, tot_idx, tot_side, tot_bind, Sum.elim_inl, Sum.elim_inr, decide_eq_true_eq, decide_eq_false_iff_not, Int.toNat_natCast]
   refine ⟨fun hlt => ?_, fun hlt => ?_⟩
   · obtain ⟨x, hx⟩ := get_lt (l := l.Up) (i := k) (by omega)
     obtain ⟨y, hy⟩ := get_lt (l := up') (i := k) (by omega)
     refine ⟨by omega, x, hx, ⟨by omega, by omega⟩, by omega, y, hy, ?_⟩
     have hx' := hu.get hx
     refine Tot.count l.Names.length (fun j s => s.1 = (j : Int) ∧ s.2.length = 8 ∧ ∀ b, b < l.Names.length → s.2[b]? = some (dn l b (if b < j then k + 1 else k) : Int)) ?_ ⟨rfl, h2, fun b hb => by simpa using h4 b hb⟩
     rintro j ⟨i', d⟩ hj ⟨g0, g1, g2⟩
     simp only at g0 g1 g2
     subst g0
     simp only [tot_some, tot_cond, tot_let, tot_idx, tot_side, tot_bind, Sum.elim_inl, Sum.elim_inr, decide_eq_true_eq, decide_eq_false_iff_not, Int.toNat_natCast]
     refine ⟨fun hlt' => ?_, fun hlt' => ?_⟩
     · have hz := g2 j (by omega)
       rw [if_neg (by omega)] at hz
       rw [w64 (by omega) (by omega)]
       refine ⟨⟨by omega, by omega⟩, by omega, _, hz, by omega, by omega, ⟨by omega, by omega⟩, by omega, _, hz, by omega, by omega, by simpa using g1, fun b hb => ?_⟩
       rw [get_set (by omega)]
       by_cases hjb : j = b
       · subst hjb
         rw [if_pos rfl, if_pos (by omega), bitAt hx'.1 hx'.2 (by omega), ← up_of hx, shl_bit (by omega), or_nat (dn_256 l j (by omega)) (sh_lt (by omega))]
         rfl
       · rw [if_neg hjb, g2 b hb]
         have : (b < j + 1) = (b < j) := by simp; omega
         simp only [this]
     · rw [w64 (by omega) (by omega)]
       refine ⟨by omega, by omega, by simpa using h1, g1, fun q hq => ?_, fun b hb => ?_⟩
       · rw [get_set (by omega)]
         by_cases hkq : k = q
         · subst hkq; rw [if_pos rfl, hx]
         · rw [if_neg hkq]; exact h3 q (by omega)
       · rw [g2 b hb, if_pos (by omega)]
   · have hkn : k = l.Names.length := by omega
     subst hkn
     exact ⟨trivial, h1, h2, h3, h4⟩
 · have h8 : ∀ b : Fin 8, ([0, 0, 0, 0, 0, 0, 0, 0] : List Int)[b.val]? = some 0 := by decide
   exact h8 ⟨b, by omega⟩
theorem sideO_pos {ρ : Type} {p : Prop} [Decidable p] {x : Option ρ} (h : p) : sideO p x = x := by unfold sideO; rw [if_pos h]
def bnd (g : Nat → Nat) (n a b : Nat) : Option Nat := scan (fun c => if g c = g a &&& g b then some c else none) 0 n
def bndI (g : Nat → Nat) (n a b : Nat) : Int := match bnd g n a b with | some c => c | none => -1
theorem bound_exact (m : List Int) (g : Nat → Nat) (n a b : Nat) (hn : n ≤ 8) (hg : ∀ c, c < n → m[c]? = some (g c : Int)) (hg8 : ∀ c, c < n → g c < 256) (hs : ∀ c, c < n → (g c).testBit c = true) (ha : a < n) (hb : b < n) :
 Fz26 m n a b = some (bndI g n a b) := by
 unfold Fz26 bndI bnd
 have s1 : ((0 : Int) ≤ (a : Int) ∧ (a : Int) < ((8 : Nat) : Int)) := by omega
 have s2 : ((0 : Int) ≤ (b : Int) ∧ (b : Int) < ((8 : Nat) : Int)) := by omega
 simp only [sideO_pos s1, sideO_pos s2]
 simp only [idxO, Int.toNat_natCast, Int.natCast_nonneg, if_true, hg a ha, hg b hb, Option.bind_some, and_nat (hg8 a ha) (hg8 b hb)]
 have h8 : g a &&& g b < 256 := and_lt (hg8 a ha)
 generalize g a &&& g b = both at *
 rw [lp_scanE n (fun c => if g c = both then some (c : Int) else none) () (fun c hc => ?_) (by simp)]
 · have e : (fun c => if g c = both then some (c : Int) else none) = fun c => (if g c = both then some c else none).map (fun c : Nat => (c : Int)) := by
    funext c; split <;> rfl
   rw [e, scan_map]
   cases scan (fun c => if g c = both then some c else none) 0 n <;> rfl
 · have s3 : ((0 : Int) ≤ (c : Int) ∧ (c : Int) < ((8 : Nat) : Int)) := by omega
   simp only [sideO_pos s3]
   simp only [Int.ofNat_lt, hc, decide_true, cond_true, sideO, Int.natCast_nonneg, if_true, hg c hc, Option.bind_some, letO]
   rw [w64 (by omega) (by omega), bitAt (by omega) (by omega) (by omega)]
   simp only [Int.toNat_natCast]
   by_cases hbc : both.testBit c = true
   · simp only [hbc, if_true, decide_true, cond_true]
     rw [hg c hc]
     by_cases hgc : g c = both
     · simp [hgc]
     · have : ¬ (g c : Int) = (both : Int) := by omega
       simp [hgc, this]
   · have : g c ≠ both := fun e => hbc (e ▸ hs c hc)
     simp [hbc, this]
theorem nearest_exact (m : List Int) (g : Nat → Nat) (a b : Nat) (hn : m.length ≤ 8) (hg : ∀ c, c < m.length → m[c]? = some (g c : Int)) (hg8 : ∀ c, c < m.length → g c < 256) (ha : a < m.length) (hb : b < m.length) :
 Fz76 m a b = some (bndI g m.length a b) := by
 unfold Fz76 bndI bnd
 simp only [idxO, Int.toNat_natCast, Int.natCast_nonneg, if_true, hg a ha, hg b hb, Option.bind_some, and_nat (hg8 a ha) (hg8 b hb), List.length_map]
 have h8 : g a &&& g b < 256 := and_lt (hg8 a ha)
 generalize g a &&& g b = both at *
 rw [lp_scanE m.length (fun c => if g c = both then some (c : Int) else none) () (fun c hc => ?_) (by simp)]
 · have e : (fun c => if g c = both then some (c : Int) else none) = fun c => (if g c = both then some c else none).map (fun c : Nat => (c : Int)) := by
    funext c; split <;> rfl
   rw [e, scan_map]
   cases scan (fun c => if g c = both then some c else none) 0 m.length <;> rfl
 · simp only [Int.ofNat_lt, hc, decide_true, cond_true, hg c hc, Option.bind_some, letO]
   rw [w64 (by omega) (by omega), Int.toNat_natCast, if_pos (by omega), hg c hc]
   by_cases hgc : g c = both
   · simp [hgc]
   · have : ¬ (g c : Int) = (both : Int) := by omega
     simp [hgc, this]
end Go.Sx.O
namespace Go.Sx.O
open Go
def upN (l : TL) (a : Nat) : Nat := (l.Up.getD a 0).toNat
def ordB (l : TL) (a b : Nat) : Bool := !up l a b || ((decide (b = a) || !up l b a) && (List.range l.Names.length).all fun i => !up l b i || up l a i)
def ordA (l : TL) (a : Nat) : Bool := decide (upN l a < 2 ^ l.Names.length) && up l a a && (List.range l.Names.length).all fun b => ordB l a b
def dnN (l : TL) (b : Nat) : Nat := dn l b l.Names.length
def lacks (l : TL) (a b : Nat) : Bool := (bnd (upN l) l.Names.length a b).isNone || (bnd (dnN l) l.Names.length a b).isNone
def latC (l : TL) : Int × Int :=
 if (namesR l.Names).2 = 0 then
  if l.Up.length = l.Names.length then
   match scan (fun a => if ordA l a = true then none else some ((a : Int), (6 : Int))) 0 l.Names.length with
   | some r => r
   | none => (scan (fun a => scan (fun b => if lacks l a b = true then some ((a : Int), (4 : Int)) else none) 0 l.Names.length) 0 l.Names.length).getD (0, 0)
  else (-1, 6)
 else namesR l.Names
theorem scan_pv {α : Type} {p : Nat → Bool} {v : α} : ∀ {j k : Nat}, scan (fun i => if p i = true then none else some v) k j = if (List.range j).all (fun i => p (k + i)) = true then none else some v
 | 0, _ => by simp [scan]
 | j + 1, k => by
   simp only [scan, scan_pv (j := j) (k := k + 1)]
   have e : (List.range (j + 1)).all (fun i => p (k + i)) = (p k && (List.range j).all fun i => p (k + 1 + i)) := by
    rw [List.range_succ_eq_map, List.all_cons, List.all_map]
    congr 1
    congr 1
    funext i
    simp only [Function.comp]
    congr 1; omega
   rw [e]
   cases p k <;> simp
theorem scan_last {α : Type} {p : Nat → Bool} {u v : α} {n : Nat} : ∀ {j k : Nat}, k + j = n → 0 < j → scan (fun i => if p i = true then (if i + 1 = n then some u else none) else some v) k j = some (if (List.range j).all (fun i => p (k + i)) = true then u else v)
 | 0, _, _, h => by omega
 | j + 1, k, hk, _ => by
   have e : (List.range (j + 1)).all (fun i => p (k + i)) = (p k && (List.range j).all fun i => p (k + 1 + i)) := by
    rw [List.range_succ_eq_map, List.all_cons, List.all_map]
    congr 1
    congr 1
    funext i
    simp only [Function.comp]
    congr 1; omega
   rw [e]
   simp only [scan]
   cases hp : p k with
   | false => simp
   | true =>
     simp only [if_true, Bool.true_and]
     by_cases hj : j = 0
     · subst hj
       have : k + 1 = n := by omega
       simp [this]
     · have : ¬ k + 1 = n := by omega
       simp only [this, if_false]
       exact scan_last (by omega) (by omega)
theorem Len8_exact (x : Int) (h0 : 0 ≤ x) (h1 : x < 256) : Tot (Fz24 x) fun y => ∀ n : Nat, n ≤ 8 → decide ((n : Int) < y) = !decide (x.toNat < 2 ^ n) := by
 unfold Fz24
 rw [tot_idx]
 refine ⟨h0, ?_⟩
 have key : ∀ l : List UInt8, (∀ x : Fin 256, ∀ n : Fin 9, (l[x.val]?.map fun y => decide ((n.val : Int) < IntKind.wrap .i64 (y.toNat : Int))) = some (!decide (x.val < 2 ^ n.val))) →
  ∃ y, l[x.toNat]? = some y ∧ Tot (letO (IntKind.wrap .i64 (y.toNat : Int)) fun z => some z) fun y => ∀ n : Nat, n ≤ 8 → decide ((n : Int) < y) = !decide (x.toNat < 2 ^ n) := by
  intro l hl
  cases e : l[x.toNat]? with
  | none =>
    have := hl ⟨x.toNat, by omega⟩ ⟨0, by omega⟩
    simp only [e] at this
    cases this
  | some y =>
    refine ⟨y, rfl, .mk fun n hn => ?_⟩
    have := hl ⟨x.toNat, by omega⟩ ⟨n, by omega⟩
    simp only [e] at this
    exact Option.some.inj this
 exact key _ (by decide +kernel)
theorem Below_spec {l : TL} (hu : U8s l.Up) {a b : Nat} (ha : a < l.Up.length) (hb : b ≤ 8) : Fz73 l a b = some (up l a b) := by
 unfold Fz73
 obtain ⟨x, hx⟩ := get_lt ha
 have hx' := hu.get hx
 have key : ∀ u : Fin 256, ∀ b : Fin 9, decide (Int.tmod (Int.fdiv (u.val : Int) (2 ^ min b.val (IntKind.bits .u8))) 2 = 1) = Nat.testBit u b := by decide +kernel
 have := key ⟨x.toNat, by omega⟩ ⟨b, by omega⟩
 simp only [Int.toNat_of_nonneg hx'.1] at this
 simp only [List.length_map, Int.natCast_nonneg, decide_true, cond_true, Int.ofNat_lt, ha, idxO, Int.toNat_natCast, if_true, hx, Option.bind_some, sideO, this, up_of hx]
theorem wrap_i64n {n : Nat} (h : n < 1000000) : IntKind.wrap .i64 (n : Int) = n := w64 (by omega) (by omega)
theorem ofInt_n (n : Nat) : BitVec.ofInt 64 (n : Int) = BitVec.ofNat 64 n := BitVec.ofInt_natCast 64 n
theorem and_i64 {a b : Nat} (ha : a < 1000000) (hb : b < 1000000) : bits .and .i64 (a : Int) (b : Int) = ((a &&& b : Nat) : Int) := by
 have e : bits .and .i64 (a : Int) (b : Int) = IntKind.wrap .i64 ((BitVec.ofInt 64 (a : Int) &&& BitVec.ofInt 64 (b : Int)).toNat : Int) := rfl
 rw [e, ofInt_n, ofInt_n, BitVec.toNat_and, BitVec.toNat_ofNat, BitVec.toNat_ofNat, Nat.mod_eq_of_lt (by omega), Nat.mod_eq_of_lt (by omega)]
 exact wrap_i64n (Nat.lt_of_le_of_lt Nat.and_le_left ha)
theorem sub_bits {x y n : Nat} : ((y &&& (2 ^ n - 1)) &&& x = y &&& (2 ^ n - 1)) ↔ ((List.range n).all fun i => !y.testBit i || x.testBit i) = true := by
 rw [List.all_eq_true]
 constructor
 · intro h i hi
   have hi' : i < n := by simpa using hi
   have := congrArg (fun z => z.testBit i) h
   simp only [Nat.testBit_and, Nat.testBit_two_pow_sub_one, hi', decide_true, Bool.and_true] at this
   cases e : y.testBit i with
   | false => rfl
   | true => rw [e] at this; simpa using this
 · intro h
   apply Nat.eq_of_testBit_eq
   intro i
   simp only [Nat.testBit_and, Nat.testBit_two_pow_sub_one]
   by_cases hi : i < n
   · have := h i (by simpa using hi)
     simp only [hi, decide_true, Bool.and_true]
     cases e : y.testBit i with
     | false => rfl
     | true => rw [e] at this; simpa using this
   · simp [hi]
end Go.Sx.O
namespace Go.Sx.O
open Go
theorem upN_of {l : TL} {a : Nat} {x : Int} (h : l.Up[a]? = some x) : upN l a = x.toNat := by unfold upN; rw [getD_lt h]
theorem upN_bit {l : TL} {a b : Nat} : (upN l a).testBit b = up l a b := rfl
theorem upN_lt {l : TL} (hu : U8s l.Up) {a : Nat} (ha : a < l.Up.length) : upN l a < 256 := by
 obtain ⟨x, hx⟩ := get_lt ha
 have := hu.get hx
 rw [upN_of hx]; omega
theorem upN_get {l : TL} (hu : U8s l.Up) {a : Nat} (ha : a < l.Up.length) : l.Up[a]? = some (upN l a : Int) := by
 obtain ⟨x, hx⟩ := get_lt ha
 have := hu.get hx
 rw [hx, upN_of hx, Int.toNat_of_nonneg this.1]
theorem ordered_spec {l : TL} (hu : U8s l.Up) (h8 : l.Names.length ≤ 8) (hl : l.Up.length = l.Names.length) {a : Nat} (ha : a < l.Names.length) : Fz74 l a = some (ordA l a) := by
 unfold Fz74 ordA
 have g0 : ((0 : Int) ≤ (l.Names.length : Int)) := by omega
 have hb := fun b (hb : b < l.Names.length) => Below_spec hu (a := a) (b := b) (by omega) (by omega)
 have hxa := upN_get hu (a := a) (by omega)
 have hlt := upN_lt hu (a := a) (by omega)
 have sh : decide ((0 : Int) < Int.fdiv (upN l a : Int) (2 ^ min l.Names.length (IntKind.bits .i64))) = !decide (upN l a < 2 ^ l.Names.length) := by
  have key : ∀ u : Fin 256, ∀ n : Fin 9, decide ((0 : Int) < Int.fdiv (u.val : Int) (2 ^ min n.val (IntKind.bits .i64))) = !decide (u.val < 2 ^ n.val) := by decide +kernel
  exact key ⟨upN l a, hlt⟩ ⟨l.Names.length, by omega⟩
 have mk : IntKind.wrap .i64 (IntKind.wrap .i64 (1 * 2 ^ min l.Names.length (IntKind.bits .i64)) - 1) = ((2 ^ l.Names.length - 1 : Nat) : Int) := by
  have key : ∀ n : Fin 9, IntKind.wrap .i64 (IntKind.wrap .i64 (1 * 2 ^ min n.val (IntKind.bits .i64)) - 1) = ((2 ^ n.val - 1 : Nat) : Int) := by decide +kernel
  exact key ⟨l.Names.length, by omega⟩
 have mk' : 2 ^ l.Names.length - 1 < 1000000 := by
  have : 2 ^ l.Names.length ≤ 2 ^ 8 := Nat.pow_le_pow_right (by omega) h8
  omega
 simp only [List.length_map, sideO_pos g0, Int.toNat_natCast]
 simp only [idxO, Int.toNat_natCast, Int.natCast_nonneg, if_true, hxa, Option.bind_some, letO]
 rw [wrap_i64n (by omega), sh, hb a ha, mk]
 cases e1 : decide (upN l a < 2 ^ l.Names.length) with
 | false => simp
 | true =>
   simp only [Bool.not_true, cond_false, Bool.true_and, Option.bind_some]
   cases e2 : up l a a with
   | false => simp
   | true =>
     simp only [Bool.not_true, cond_false, Bool.true_and]
     rw [lp_scanE l.Names.length (fun b => if ordB l a b = true then none else some false) () (fun b hbn => ?_) (by simp)]
     · rw [scan_pv]
       simp only [Nat.zero_add]
       cases (List.range l.Names.length).all fun b => ordB l a b <;> rfl
     · have hxb := upN_get hu (a := b) (by omega)
       have hltb := upN_lt hu (a := b) (by omega)
       simp only [Int.ofNat_lt, hbn, decide_true, cond_true, Option.bind_some, Int.toNat_natCast, hxb]
       rw [hb b hbn, wrap_i64n (n := upN l b) (by omega), and_i64 (by omega) mk', w64 (by omega) (by omega), Below_spec hu (by omega) (by omega)]
       have hand : upN l b &&& (2 ^ l.Names.length - 1) < 1000000 := Nat.lt_of_le_of_lt Nat.and_le_left (by omega)
       rw [and_i64 hand (by omega)]
       have hsub := sub_bits (x := upN l a) (y := upN l b) (n := l.Names.length)
       simp only [upN_bit] at hsub
       have hsub' : decide ((((upN l b &&& (2 ^ l.Names.length - 1)) &&& upN l a : Nat) : Int) = ((upN l b &&& (2 ^ l.Names.length - 1) : Nat) : Int)) = (List.range l.Names.length).all fun i => !up l b i || up l a i := by
        rw [Bool.eq_iff_iff, ← hsub, decide_eq_true_eq]; omega
       rw [hsub']
       unfold ordB
       cases e3 : up l a b with
       | false => simp
       | true =>
         simp only [Option.bind_some, Bool.not_true, cond_false, Bool.false_or]
         by_cases hba : b = a
         · subst hba
           simp only [decide_true, Bool.not_true, cond_false, Bool.true_or, Bool.true_and]
           cases (List.range l.Names.length).all fun i => !up l b i || up l b i <;> simp
         · have : ¬ (b : Int) = (a : Int) := by omega
           simp only [this, hba, decide_false, Bool.not_false, cond_true, Bool.false_or]
           cases up l b a with
           | true => simp
           | false =>
             cases (List.range l.Names.length).all fun i => !up l b i || up l a i <;> simp
theorem downs_spec {l : TL} (hu : U8s l.Up) (h8 : l.Names.length ≤ 8) (hl : l.Up.length = l.Names.length) : Tot (Fz75 l) fun d => d.length = l.Names.length ∧ ∀ b, b < l.Names.length → d[b]? = some (dnN l b : Int) := by
 unfold Fz75
 simp only [tot_bind, tot_side, List.length_map, Int.toNat_natCast]
 refine ⟨⟨by omega, trivial, by omega, by omega⟩, ?_⟩
 refine Tot.count l.Names.length (fun k s => s.1 = (k : Int) ∧ s.2.length = l.Names.length ∧ ∀ b, b < l.Names.length → s.2[b]? = some (dn l b k : Int)) ?_ ⟨rfl, by simp, fun b hb => ?_⟩
 · rintro k ⟨i, down⟩ hk ⟨h0, h2, h4⟩
   simp only at h0 h2 h4
   subst h0
   simp only [tot_some, tot_cond, tot_let, tot_idx, tot_side, tot_bind, Sum.elim_inl, Sum.elim_inr, decide_eq_true_eq, decide_eq_false_iff_not, Int.toNat_natCast]
   refine ⟨fun hlt => ?_, fun hlt => ?_⟩
   · refine Tot.count l.Names.length (fun j s => s.1 = (j : Int) ∧ s.2.length = l.Names.length ∧ ∀ b, b < l.Names.length → s.2[b]? = some (dn l b (if b < j then k + 1 else k) : Int)) ?_ ⟨rfl, h2, fun b hb => by simpa using h4 b hb⟩
     rintro j ⟨i', d⟩ hj ⟨g0, g1, g2⟩
     simp only at g0 g1 g2
     subst g0
     simp only [tot_some, tot_cond, tot_let, tot_idx, tot_side, tot_bind, Sum.elim_inl, Sum.elim_inr, decide_eq_true_eq, decide_eq_false_iff_not, Int.toNat_natCast]
     refine ⟨fun hlt' => ?_, fun hlt' => ?_⟩
     · rw [Below_spec hu (by omega) (by omega), tot_some]
       have hz := g2 j (by omega)
       rw [if_neg (by omega)] at hz
       rw [w64 (by omega) (by omega)]
       refine ⟨fun hup => ⟨⟨by omega, by simp; omega⟩, by omega, _, hz, by omega, ⟨by omega, by simp; omega⟩, by omega, _, hz, by omega, by omega, by simpa using g1, fun b hb => ?_⟩, fun hup => ⟨by omega, by omega, g1, fun b hb => ?_⟩⟩
       · have hsh := shl_bit (c := true) (k := k) (by omega)
         simp only [if_true] at hsh
         rw [get_set (by omega), hsh]
         by_cases hjb : j = b
         · subst hjb
           have hp : 2 ^ k < 256 := Nat.lt_of_lt_of_le (Nat.pow_lt_pow_right (a := 2) (by omega) (show k < 8 by omega)) (by omega)
           rw [if_pos rfl, if_pos (by omega), or_nat (dn_256 l j (by omega)) hp]
           simp [dn, hup]
         · rw [if_neg hjb, g2 b hb]
           have : (b < j + 1) = (b < j) := by simp; omega
           simp only [this]
       · rw [g2 b hb]
         by_cases hjb : j = b
         · subst hjb
           rw [if_neg (by omega), if_pos (by omega)]
           simp [dn, hup]
         · have : (b < j + 1) = (b < j) := by simp; omega
           simp only [this]
     · rw [w64 (by omega) (by omega)]
       refine ⟨by omega, by omega, g1, fun b hb => ?_⟩
       rw [g2 b hb, if_pos (by omega)]
   · have hkn : k = l.Names.length := by omega
     subst hkn
     exact ⟨h2, h4⟩
 · rw [List.getElem?_replicate, if_pos hb]; rfl
end Go.Sx.O
namespace Go.Sx.O
open Go
theorem bnd_sign (g : Nat → Nat) (n a b : Nat) : decide (bndI g n a b < 0) = (bnd g n a b).isNone := by
 unfold bndI
 cases bnd g n a b with
 | none => rfl
 | some c => simp
theorem dnN_lt {l : TL} (h8 : l.Names.length ≤ 8) (b : Nat) : dnN l b < 256 := dn_256 l b h8
theorem ref_Check_eq (l : TL) (hu : U8s l.Up) (hn : l.Names.length ≤ 20) (hs : ∀ s ∈ l.Names, s.length ≤ 1000) : Fz77 l = some (latC l) := by
 unfold Fz77 latC
 rw [ref_names_eq _ hn hs]
 simp only [Option.bind_some, List.length_map]
 by_cases h0 : (namesR l.Names).2 = 0
 case neg => simp [h0]
 simp only [h0, decide_true, Bool.not_true, cond_false, if_true]
 by_cases hlen : l.Up.length = l.Names.length
 case neg =>
  have : ¬ (l.Up.length : Int) = l.Names.length := by omega
  simp [hlen, this]
 have h8 : l.Names.length ≤ 8 := by
  unfold namesR at h0
  split at h0
  · cases h0
  · omega
 simp only [hlen, decide_true, Bool.not_true, cond_false, if_true]
 rw [lp_scanE l.Names.length (fun a => if ordA l a = true then none else some ((a : Int), (6 : Int))) () (fun a ha => ?_) (by simp)]
 · cases h1 : scan (fun a => if ordA l a = true then none else some ((a : Int), (6 : Int))) 0 l.Names.length with
   | some r => rfl
   | none =>
     simp only
     obtain ⟨d, ed, hdl, hd⟩ := downs_spec hu h8 hlen
     rw [ed, Option.bind_some]
     rw [lp_scanE l.Names.length (fun a => scan (fun b => if lacks l a b = true then some ((a : Int), (4 : Int)) else none) 0 l.Names.length) () (fun a ha => ?_) (by simp)]
     · cases scan (fun a => scan (fun b => if lacks l a b = true then some ((a : Int), (4 : Int)) else none) 0 l.Names.length) 0 l.Names.length <;> rfl
     · simp only [Int.ofNat_lt, ha, decide_true, cond_true]
       rw [lp_scanE l.Names.length (fun b => if lacks l a b = true then some (.inr (.inr ((a : Int), (4 : Int)))) else none) () (fun b hb => ?_) (by simp)]
       · have e : (fun b => if lacks l a b = true then some (Sum.inr (Sum.inr ((a : Int), (4 : Int))) : Int ⊕ (Unit ⊕ (Int × Int))) else none) = fun b => (if lacks l a b = true then some ((a : Int), (4 : Int)) else none).map fun v => .inr (.inr v) := by
          funext b; split <;> rfl
         rw [e, scan_map]
         cases scan (fun b => if lacks l a b = true then some ((a : Int), (4 : Int)) else none) 0 l.Names.length with
         | some r => rfl
         | none =>
           simp only [Option.map_none, letO]
           rw [w64 (by omega) (by omega)]
       · simp only [Int.ofNat_lt, hb, decide_true, cond_true]
         have n1 := nearest_exact l.Up (upN l) a b (by omega) (fun c hc => upN_get hu hc) (fun c hc => upN_lt hu hc) (by omega) (by omega)
         have n2 := nearest_exact d (dnN l) a b (by omega) (fun c hc => hd c (by omega)) (fun c hc => dnN_lt h8 c) (by omega) (by omega)
         rw [hlen] at n1
         rw [hdl] at n2
         rw [n1, n2]
         simp only [Option.bind_some, bnd_sign, letO]
         rw [w64 (by omega) (by omega)]
         unfold lacks
         cases (bnd (upN l) l.Names.length a b).isNone with
         | true => simp
         | false => cases (bnd (dnN l) l.Names.length a b).isNone <;> simp
 · simp only [Int.ofNat_lt, ha, decide_true, cond_true]
   rw [ordered_spec hu h8 hlen ha]
   simp only [Option.bind_some, letO]
   rw [w64 (by omega) (by omega)]
   cases ordA l a <;> simp
end Go.Sx.O
namespace Go.Sx.O
open Go
theorem Check_exact (l : TL) (hu : U8s l.Up) (hn : l.Names.length ≤ 20) (hs : ∀ s ∈ l.Names, s.length ≤ 1000) : Fz28 l = some (latC l) := by
 unfold Fz28 latC
 rw [named_eq _ hn hs]
 simp only [Option.bind_some, List.length_map]
 by_cases h0 : (namesR l.Names).2 = 0
 case neg => simp [h0]
 simp only [h0, decide_true, Bool.not_true, cond_false, if_true]
 by_cases hlen : l.Up.length = l.Names.length
 case neg =>
  have : ¬ (l.Up.length : Int) = l.Names.length := by omega
  simp [hlen, this]
 have h8 : 1 ≤ l.Names.length ∧ l.Names.length ≤ 8 := by
  unfold namesR at h0
  split at h0
  · cases h0
  · omega
 obtain ⟨h1, h8⟩ := h8
 have g0 : ((0 : Int) ≤ (l.Names.length : Int)) := by omega
 simp only [hlen, decide_true, Bool.not_true, cond_false, if_true, sideO_pos g0, letO, Int.toNat_natCast]
 have hmask := mask_bit l.Names.length h8
 have hm0 := mod_u8 (e := IntKind.wrap .u8 (1 * 2 ^ min l.Names.length (IntKind.bits .u8)) - 1)
 rw [lp_scanE l.Names.length (fun a => if ordA l a = true then none else some ((a : Int), (6 : Int))) () (fun a ha => ?_) (by simp)]
 · cases h1 : scan (fun a => if ordA l a = true then none else some ((a : Int), (6 : Int))) 0 l.Names.length with
   | some r => rfl
   | none =>
     simp only
     have hself : ∀ a, a < l.Names.length → up l a a = true := by
      intro a ha
      have := scan_none.1 h1 a (by omega) (by omega)
      split at this
      · rename_i h
        unfold ordA at h
        simp only [Bool.and_eq_true] at h
        exact h.1.2
      · cases this
     obtain ⟨o, eo, _, o1, o2, o3, o4⟩ := of_exact l hu h8 hlen
     rw [eo, Option.bind_some]
     rw [lp_scanE l.Names.length (fun a => scan (fun b => if lacks l a b = true then some ((a : Int), (4 : Int)) else none) 0 l.Names.length) () (fun a ha => ?_) (by simp)]
     · cases scan (fun a => scan (fun b => if lacks l a b = true then some ((a : Int), (4 : Int)) else none) 0 l.Names.length) 0 l.Names.length <;> rfl
     · simp only [Int.ofNat_lt, ha, decide_true, cond_true]
       rw [lp_scanE l.Names.length (fun b => if lacks l a b = true then some (.inr (.inr ((a : Int), (4 : Int)))) else none) () (fun b hb => ?_) (by simp)]
       · have e : (fun b => if lacks l a b = true then some (Sum.inr (Sum.inr ((a : Int), (4 : Int))) : Int ⊕ (Unit ⊕ (Int × Int))) else none) = fun b => (if lacks l a b = true then some ((a : Int), (4 : Int)) else none).map fun v => .inr (.inr v) := by
          funext b; split <;> rfl
         rw [e, scan_map]
         cases scan (fun b => if lacks l a b = true then some ((a : Int), (4 : Int)) else none) 0 l.Names.length with
         | some r => rfl
         | none =>
           simp only [Option.map_none]
           rw [w64 (by omega) (by omega)]
       · simp only [Int.ofNat_lt, hb, decide_true, cond_true]
         have n1 := bound_exact o.up_ (upN l) l.Names.length a b h8 (fun c hc => by rw [o3 c hc]; exact upN_get hu (by omega)) (fun c hc => upN_lt hu (by omega)) (fun c hc => hself c hc) ha hb
         have n2 : Fz27 o.down_ l.Names.length a b = some (bndI (dnN l) l.Names.length a b) := bound_exact o.down_ (dnN l) l.Names.length a b h8 (fun c hc => o4 c hc) (fun c hc => dnN_lt h8 c) (fun c hc => by unfold dnN; rw [dn_bit, hself c hc]; simp [hc]) ha hb
         rw [n1, n2]
         simp only [Option.bind_some, bnd_sign]
         rw [w64 (by omega) (by omega)]
         unfold lacks
         cases (bnd (upN l) l.Names.length a b).isNone with
         | true => simp
         | false => cases (bnd (dnN l) l.Names.length a b).isNone <;> simp
 · -- one label's row
   have hxa := upN_get hu (a := a) (by omega)
   have hlt := upN_lt hu (a := a) (by omega)
   obtain ⟨y, ey, hy⟩ := Len8_exact (upN l a : Int) (by omega) (by omega)
   have hy := hy l.Names.length h8
   rw [Int.toNat_natCast] at hy
   have ga : ((0 : Int) ≤ (a : Int)) := by omega
   have hbit : ∀ b, b < l.Names.length → bits .and .u8 (Int.fdiv (upN l a : Int) (2 ^ min b (IntKind.bits .u8))) 1 = if up l a b = true then 1 else 0 := fun b hb => by
    rw [bitAt (by omega) (by omega) (by omega), Int.toNat_natCast]; rfl
   simp only [Int.ofNat_lt, ha, decide_true, cond_true, idxO, Int.toNat_natCast, if_pos ga, hxa, Option.bind_some, ey, hy, sideO_pos ga]
   simp only [hbit a ha]
   unfold ordA
   cases e1 : decide (upN l a < 2 ^ l.Names.length) with
   | false => simp
   | true =>
     simp only [Bool.not_true, cond_false, Bool.true_and]
     cases e2 : up l a a with
     | false => simp
     | true =>
       simp only [if_true, Int.reduceEq, decide_false, cond_false, Bool.true_and]
       rw [lp_scanE l.Names.length (fun b => if ordB l a b = true then (if b + 1 = l.Names.length then some (.inl ((a : Int) + 1)) else none) else some (.inr (.inr ((a : Int), (6 : Int))))) () (fun b hb => ?_) (by simp)]
       · rw [scan_last (by omega) (by omega)]
         simp only [Nat.zero_add]
         cases (List.range l.Names.length).all fun b => ordB l a b <;> rfl
       · have hxb := upN_get hu (a := b) (by omega)
         have hltb := upN_lt hu (a := b) (by omega)
         have gb : ((0 : Int) ≤ (b : Int)) := by omega
         have hbit' : bits .and .u8 (Int.fdiv (upN l b : Int) (2 ^ min a (IntKind.bits .u8))) 1 = if up l b a = true then 1 else 0 := by
          rw [bitAt (by omega) (by omega) (by omega), Int.toNat_natCast]; rfl
         simp only [Int.ofNat_lt, hb, decide_true, cond_true, Option.bind_some, Int.toNat_natCast, hxb, if_pos gb, sideO_pos gb]
         simp only [hbit b hb, hbit', w64 (e := (l.Names.length : Int) - 1) (by omega) (by omega), w64 (e := (a : Int) + 1) (by omega) (by omega), w64 (e := (b : Int) + 1) (by omega) (by omega)]
         have hnot : decide (bits .andNot .u8 (bits .and .u8 (upN l b : Int) (IntKind.wrap .u8 (IntKind.wrap .u8 (1 * 2 ^ min l.Names.length (IntKind.bits .u8)) - 1))) (upN l a : Int) = 0) = (List.range l.Names.length).all fun i => !up l b i || up l a i := by
          revert hmask hm0
          generalize IntKind.wrap .u8 (IntKind.wrap .u8 (1 * 2 ^ min l.Names.length (IntKind.bits .u8)) - 1) = mask
          intro hmask hm0
          have hand : bits .and .u8 (upN l b : Int) mask = ((upN l b &&& mask.toNat : Nat) : Int) := by
           rw [bits_and (by omega) (by omega) hm0.1 hm0.2, Int.toNat_natCast]
          have hlt2 : upN l b &&& mask.toNat < 256 := and_lt hltb
          rw [hand, Bool.eq_iff_iff, decide_eq_true_eq, bits_andNot (by omega) (by omega) (by omega) (by omega), List.all_eq_true]
          simp only [Int.toNat_natCast, Nat.testBit_and, hmask, upN_bit]
          constructor
          · intro h i hi
            have := h i
            have hi' : i < l.Names.length := by simpa using hi
            cases e : up l b i with
            | false => rfl
            | true => rw [e] at this; simpa [hi'] using this
          · intro h i hi
            simp only [Bool.and_eq_true, decide_eq_true_eq] at hi
            have := h i (by simpa using hi.2)
            rw [hi.1] at this; simpa using this
         simp only [hnot]
         have hlast : decide ((b : Int) = (l.Names.length : Int) - 1) = decide (b + 1 = l.Names.length) := by
          rw [Bool.eq_iff_iff, decide_eq_true_eq, decide_eq_true_eq]; omega
         simp only [hlast]
         unfold ordB
         cases e3 : up l a b with
         | false => by_cases hl : b + 1 = l.Names.length <;> simp [hl]
         | true =>
           by_cases hba : b = a
           · subst hba
             have d2 : decide ((b : Int) = (b : Int)) = true := by simp
             cases (List.range l.Names.length).all fun i => !up l b i || up l b i with
             | false => by_cases hl : b + 1 = l.Names.length <;> simp [hl]
             | true => by_cases hl : b + 1 = l.Names.length <;> simp [hl]
           · have d2 : decide ((b : Int) = (a : Int)) = false := by simp; omega
             have d3 : decide (b = a) = false := by simp [hba]
             simp only [d2, d3]
             cases up l b a with
             | true => by_cases hl : b + 1 = l.Names.length <;> simp [hl]
             | false =>
               cases (List.range l.Names.length).all fun i => !up l b i || up l a i with
               | false => by_cases hl : b + 1 = l.Names.length <;> simp [hl]
               | true => by_cases hl : b + 1 = l.Names.length <;> simp [hl]
theorem latR_eq {l : TL} (h : LatIn l) : latR l = latC l := by
 unfold latR; rw [Check_exact l h.u8 h.names h.name]; rfl
end Go.Sx.O
namespace Go.Sx.O
open Go
theorem ref_asked_spec {l : TL} (h : LatIn l) (a b : Int) : Fz78 l a b = some (askE l [a, b]) := by
 unfold Fz78 askE
 rw [ref_Check_eq l h.u8 h.names h.name, latR_eq h]
 simp only [Option.bind_some, List.length_map, List.all_cons, List.all_nil, Bool.and_true]
 by_cases h0 : (latC l).2 = 0
 · simp only [h0, decide_true, cond_true, if_true]
   unfold isLab
   by_cases a1 : a < 0
   · have : ¬ 0 ≤ a := by omega
     simp [a1, this]
   by_cases a2 : (l.Names.length : Int) ≤ a
   · have : ¬ a < (l.Names.length : Int) := by omega
     simp [a1, a2, this]
   by_cases b1 : b < 0
   · have : ¬ 0 ≤ b := by omega
     simp [a1, a2, b1, this]
   by_cases b2 : (l.Names.length : Int) ≤ b
   · have : ¬ b < (l.Names.length : Int) := by omega
     simp [a1, a2, b1, b2, this]
   have a1' : 0 ≤ a := by omega
   have a2' : a < (l.Names.length : Int) := by omega
   have b1' : 0 ≤ b := by omega
   have b2' : b < (l.Names.length : Int) := by omega
   simp [a1, a2, b1, b2, a1', a2', b1', b2']
 · simp [h0]
end Go.Sx.O
namespace Go.Sx.O
open Go
theorem bnd_some {g : Nat → Nat} {n a b c : Nat} (h : bnd g n a b = some c) : c < n ∧ g c = g a &&& g b := by
 have key : ∀ {j k : Nat}, scan (fun c => if g c = g a &&& g b then some c else none) k j = some c → c < k + j ∧ g c = g a &&& g b := by
  intro j
  induction j with
  | zero => intro k h; cases h
  | succ j ih =>
    intro k h
    simp only [scan] at h
    split at h
    · rename_i r hr
      cases h
      split at hr
      · rename_i hh; cases hr; exact ⟨by omega, hh⟩
      · cases hr
    · have := ih h
      exact ⟨by omega, this.2⟩
 have := key h
 simpa using this
theorem lat_facts {l : TL} (h : LatIn l) (k : (latR l).2 = 0) : (∀ a, a < l.Names.length → ordA l a = true) ∧ ∀ a b, a < l.Names.length → b < l.Names.length → lacks l a b = false := by
 rw [latR_eq h] at k
 unfold latC at k
 split at k
 case isFalse h0 => exact absurd k h0
 split at k
 case isFalse => cases k
 split at k
 case h_1 r hr =>
  exfalso
  have key : ∀ {j k : Nat}, scan (fun a => if ordA l a = true then none else some ((a : Int), (6 : Int))) k j = some r → r.2 = 6 := by
   intro j
   induction j with
   | zero => intro k h; cases h
   | succ j ih =>
     intro k h
     simp only [scan] at h
     split at h
     · rename_i r' hr'
       cases h
       split at hr'
       · cases hr'
       · cases hr'; rfl
     · exact ih h
  rw [key hr] at k; cases k
 case h_2 hord =>
  have key2 : ∀ {a j k : Nat} {r : Int × Int}, scan (fun b => if lacks l a b = true then some ((a : Int), (4 : Int)) else none) k j = some r → r.2 = 4 := by
   intro a j
   induction j with
   | zero => intro k r h; cases h
   | succ j ih =>
     intro k r h
     simp only [scan] at h
     split at h
     · rename_i r' hr'
       cases h
       split at hr'
       · cases hr'; rfl
       · cases hr'
     · exact ih h
  have key : ∀ {j k : Nat} {r : Int × Int}, scan (fun a => scan (fun b => if lacks l a b = true then some ((a : Int), (4 : Int)) else none) 0 l.Names.length) k j = some r → r.2 = 4 := by
   intro j
   induction j with
   | zero => intro k r h; cases h
   | succ j ih =>
     intro k r h
     simp only [scan] at h
     split at h
     · rename_i r' hr'
       cases h
       exact key2 hr'
     · exact ih h
  cases hs : scan (fun a => scan (fun b => if lacks l a b = true then some ((a : Int), (4 : Int)) else none) 0 l.Names.length) 0 l.Names.length with
  | some r =>
    rw [hs] at k
    have := key hs
    simp only [Option.getD_some] at k
    rw [this] at k; cases k
  | none =>
    refine ⟨fun a ha => ?_, fun a b ha hb => ?_⟩
    · have h1 := scan_none.1 hord a (by omega) (by omega)
      split at h1
      · assumption
      · cases h1
    · have h1 := scan_none.1 (scan_none.1 hs a (by omega) (by omega)) b (by omega) (by omega)
      split at h1
      · cases h1
      · rename_i h2; simpa using h2
theorem lat_meet {l : TL} (h : LatIn l) (k : (latR l).2 = 0) {a b : Nat} (ha : a < l.Names.length) (hb : b < l.Names.length) : ∃ c, bnd (dnN l) l.Names.length a b = some c ∧ c < l.Names.length ∧ dnN l c = dnN l a &&& dnN l b := by
 have h2 := (lat_facts h k).2 a b ha hb
 unfold lacks at h2
 cases e : bnd (dnN l) l.Names.length a b with
 | none => rw [e] at h2; simp at h2
 | some c => exact ⟨c, rfl, bnd_some e⟩
theorem up_trans {l : TL} (ok : LatOK l) {a b c : Nat} (ha : a < l.Names.length) (hb : b < l.Names.length) (hc : c < l.Names.length) (h1 : up l a b = true) (h2 : up l b c = true) : up l a c = true := (ok.row a ha b hb h1).2 c hc h2
theorem sees_of {l : TL} (k : (latR l).2 = 0) {a o : Int} (ha : isLab l a = true) (ho : isLab l o = true) : sees l a o = up l a.toNat o.toNat := by
 unfold sees; simp [k, ha, ho]
theorem lab_lt {l : TL} {a : Int} (h : isLab l a = true) : 0 ≤ a ∧ a.toNat < l.Names.length := by
 unfold isLab at h; simp at h; omega
theorem dnN_bit {l : TL} {b i : Nat} : (dnN l b).testBit i = (decide (i < l.Names.length) && up l i b) := dn_bit l b l.Names.length i
theorem meet_below {l : TL} {a b c i : Nat} (hi : i < l.Names.length) (hg : dnN l c = dnN l a &&& dnN l b) : up l i c = (up l i a && up l i b) := by
 have h1 := congrArg (fun x => x.testBit i) hg
 simp only [Nat.testBit_and, dnN_bit, hi, decide_true, Bool.true_and] at h1
 exact h1
theorem up_anti {l : TL} (ok : LatOK l) {a b : Nat} (ha : a < l.Names.length) (hb : b < l.Names.length) (h1 : up l a b = true) (h2 : up l b a = true) : a = b := by
 by_cases e : b = a
 · exact e.symm
 · have := (ok.row a ha b hb h1).1 e
   rw [h2] at this; cases this
theorem lat_bot {l : TL} (h : LatIn l) (k : (latR l).2 = 0) : ∃ t, t < l.Names.length ∧ ∀ a, a < l.Names.length → up l t a = true := by
 have ok := lat_ok h k
 have key : ∀ j, j ≤ l.Names.length → ∃ t, t < l.Names.length ∧ ∀ a, a < j → up l t a = true := by
  intro j
  induction j with
  | zero => intro _; exact ⟨0, ok.pos, fun a ha => absurd ha (by omega)⟩
  | succ j ih =>
    intro hj
    obtain ⟨t, ht, hall⟩ := ih (by omega)
    obtain ⟨c, _, hc, hg⟩ := lat_meet h k ht (show j < l.Names.length by omega)
    have hcc := ok.self c hc
    rw [meet_below hc hg, Bool.and_eq_true] at hcc
    refine ⟨c, hc, fun a ha => ?_⟩
    rcases Nat.lt_or_ge a j with g | g
    · exact up_trans ok hc ht (by omega) hcc.1 (hall a g)
    · have : a = j := by omega
      subst this; exact hcc.2
 exact key _ (Nat.le_refl _)
def botN (l : TL) : Nat := ((List.range l.Names.length).find? fun b => (List.range l.Names.length).all fun a => up l b a).getD 0
theorem bot_spec {l : TL} (h : LatIn l) (k : (latR l).2 = 0) : botN l < l.Names.length ∧ ∀ a, a < l.Names.length → up l (botN l) a = true := by
 obtain ⟨t, ht, hall⟩ := lat_bot h k
 unfold botN
 cases e : (List.range l.Names.length).find? fun b => (List.range l.Names.length).all fun a => up l b a with
 | none =>
   have := List.find?_eq_none.1 e t (by simpa using ht)
   exact absurd (by simp only [List.all_eq_true, List.mem_range]; exact hall) this
 | some b =>
   have h1 := List.find?_some e
   have h2 := List.mem_of_find?_eq_some e
   simp only [List.all_eq_true, List.mem_range] at h1 h2
   exact ⟨h2, h1⟩
theorem bot_eq {l : TL} (h : LatIn l) (k : (latR l).2 = 0) {b : Nat} (hb : b < l.Names.length) (hall : ∀ a, a < l.Names.length → up l b a = true) : b = botN l := by
 obtain ⟨h1, h2⟩ := bot_spec h k
 exact up_anti (lat_ok h k) hb h1 (hall _ h1) (h2 _ hb)
theorem upN_full {l : TL} (h : LatIn l) (k : (latR l).2 = 0) {b : Nat} (hb : b < l.Names.length) : upN l b = 2 ^ l.Names.length - 1 ↔ b = botN l := by
 have h1 := (lat_facts h k).1 b hb
 unfold ordA at h1
 simp only [Bool.and_eq_true, decide_eq_true_eq] at h1
 constructor
 · intro e
   refine bot_eq h k hb fun a ha => ?_
   rw [← upN_bit, e, Nat.testBit_two_pow_sub_one]
   simpa using ha
 · rintro rfl
   have h2 := (bot_spec h k).2
   refine Nat.eq_of_testBit_eq fun i => ?_
   rw [Nat.testBit_two_pow_sub_one]
   rcases Nat.lt_or_ge i l.Names.length with g | g
   · rw [upN_bit, h2 i g]; simp [g]
   · rw [Nat.testBit_lt_two_pow (Nat.lt_of_lt_of_le h1.1.1 (Nat.pow_le_pow_right (by omega) g))]
     simp; omega
end Go.Sx.O
namespace Go.Sx.O
open Go
theorem IndexByte_eq (s : List UInt8) (c : Int) : Fz13 s c = some (Go.Lib.indexByte s c.toNat.toUInt8) := by
 unfold Fz13 F_internal_stringslite_IndexByte
 rfl
theorem ContainsRune_nil (r : Int) (h0 : 0 ≤ r) (h1 : r < 256) : Fz16 [] r = some false := by
 unfold Fz16
 have key : Tot (Fz15 [] r) fun x => x < 0 := by
  unfold Fz15
  have e0 : decide (0 ≤ r) = true := by simp [h0]
  simp only [e0, cond_true]
  rw [tot_cond]
  refine ⟨fun _ => ?_, fun h2 => ?_⟩
  · rw [tot_let, tot_bind, IndexByte_eq]
    simp only [tot_some]
    simp [Go.Lib.indexByte]
  · simp only [decide_eq_false_iff_not] at h2
    obtain ⟨x, y, exy, hy⟩ := hi_enc (r := r) (by omega) h1
    have e1 : decide (r = 65533) = false := by simp; omega
    simp only [e1, cond_false, exy]
    rw [tot_bind]
    refine (ValidRune_total r).mono fun v _ => ?_
    rw [tot_cond]
    refine ⟨fun _ => .mk (by decide), fun _ => ?_⟩
    rw [tot_let]
    have e2 : IntKind.wrap .i64 (((List.length [x, y] : Nat) : Int) - 1) = 1 := rfl
    rw [e2, tot_bind]
    refine Tot.loop (fun _ => 0) (fun _ => True) (fun _ _ => ?_) trivial
    rw [tot_cond]
    refine ⟨fun h3 => ?_, fun _ => ?_⟩
    · simp only [decide_eq_true_eq, List.length_nil] at h3
      exact absurd h3 (by decide)
    · simp only [tot_some, Sum.elim_inr, Sum.elim_inl]
      decide
 obtain ⟨x, e, hx⟩ := key
 rw [e]
 have : decide (0 ≤ x) = false := by simp; omega
 simp [this]
theorem ValidRune_lo (r : Int) (h0 : 0 ≤ r) (h1 : r < 256) : Fz14 r = some true := by
 unfold Fz14
 have e0 : decide (0 ≤ r) = true := by simp [h0]
 have e1 : decide (r < 55296) = true := by simp; omega
 simp only [e0, e1, cond_true]
theorem runes_is_lo (r : Int) (h0 : 0 ≤ r) (h1 : r < 256) : Fz31 r = some true := by
 unfold Fz31
 simp only [letO, wrap_i32 h0 h1]
 rw [w64 (by omega) (by omega)]
 simp [ValidRune_lo r h0 h1]
def lowB (c : UInt8) : Bool := decide (97 ≤ c.toNat) && decide (c.toNat ≤ 122)
def digB (c : UInt8) : Bool := decide (48 ≤ c.toNat) && decide (c.toNat ≤ 57)
theorem class_loopE {cs : List (List UInt8)} (hcs : cs.length = 10) (h : ∀ s ∈ cs, s.length ≤ 1000 ∧ ∀ c ∈ s, c.toNat < 128) (h6 : cs[6]? = some []) (h8 : cs[8]? = some []) (r : Int) (h0 : 0 ≤ r) (h1 : r < 256) {Q : Unit ⊕ (Int × Int) → Prop} (hQ : Q (.inl ())) (hQ' : ∀ x, x ≠ 6 → x ≠ 8 → Q (.inr (x, 0))) :
 Tot (lpO (fun (s : Int) => cond (decide (s < 10)) (idxO cs s fun x => letO (IntKind.wrap IntKind.i32 r) fun y => Option.bind (Fz16 x y) fun z => cond z (some (Sum.inr (Sum.inr (s, (0 : Int))))) (letO (IntKind.wrap IntKind.i64 (s + 1)) fun u => some (Sum.inl u))) (some (Sum.inr (Sum.inl ())))) 0) Q := by
 refine Tot.count 10 (fun k s => s = (k : Int)) ?_ rfl
 rintro k _ hk rfl
 simp only [tot_cond, tot_some, tot_let, tot_idx, tot_bind, Sum.elim_inl, Sum.elim_inr, decide_eq_true_eq, decide_eq_false_iff_not, Int.toNat_natCast]
 refine ⟨fun hlt => ?_, fun _ => hQ⟩
 obtain ⟨x, hx⟩ := get_lt (l := cs) (i := k) (by omega)
 have hx' := h x (List.mem_of_getElem? hx)
 refine ⟨by omega, x, hx, ?_⟩
 rw [wrap_i32 h0 h1]
 have nx : k < 10 ∧ IntKind.wrap .i64 ((k : Int) + 1) = ((k + 1 : Nat) : Int) := by
  rw [w64 (by omega) (by omega)]; exact ⟨by omega, by omega⟩
 by_cases g6 : k = 6
 · subst g6
   rw [h6] at hx; cases hx
   rw [ContainsRune_nil r h0 h1, tot_some]
   exact ⟨fun e => (by cases e), fun _ => nx⟩
 by_cases g8 : k = 8
 · subst g8
   rw [h8] at hx; cases hx
   rw [ContainsRune_nil r h0 h1, tot_some]
   exact ⟨fun e => (by cases e), fun _ => nx⟩
 refine (ContainsRune_total x r hx'.2 hx'.1 h0 h1).mono fun _ _ => ⟨fun _ => hQ' _ (by omega) (by omega), fun _ => nx⟩
theorem Class_spec (c : UInt8) : Tot (Fz33 (IntKind.wrap .i64 (c.toNat : Int))) fun x => (decide (x.1 = 8) = lowB c) ∧ (decide (x.1 = 6) = digB c) := by
 have hc := c.toNat_lt
 rw [w64 (by omega) (by omega)]
 have h0 : (0 : Int) ≤ c.toNat := by omega
 have h1 : (c.toNat : Int) < 256 := by omega
 unfold Fz33 Fz32 lowB digB
 rw [runes_is_lo _ h0 h1]
 simp only [Option.bind_some, Bool.not_true, cond_false]
 have L : ¬ (48 ≤ c.toNat ∧ c.toNat ≤ 57) → ¬ (97 ≤ c.toNat ∧ c.toNat ≤ 122) → _ := fun d1 d2 => class_loopE (cs := [[], [32], [10], [40, 91], [41, 93], [34], [], [45], [], [60, 61]]) rfl (by decide) rfl rfl c.toNat h0 h1 (Q := fun a => Tot (Sum.elim (fun _ => some ((10 : Int), (0 : Int))) some a) fun (x : Int × Int) => (decide (x.1 = 8) = (decide (97 ≤ c.toNat) && decide (c.toNat ≤ 122))) ∧ (decide (x.1 = 6) = (decide (48 ≤ c.toNat) && decide (c.toNat ≤ 57))))
  (.mk (by
    have a1 : (decide (97 ≤ c.toNat) && decide (c.toNat ≤ 122)) = false := by simp; omega
    have a2 : (decide (48 ≤ c.toNat) && decide (c.toNat ≤ 57)) = false := by simp; omega
    rw [a1, a2]; exact ⟨rfl, rfl⟩)) (fun x e6 e8 => .mk (by
    have a1 : (decide (97 ≤ c.toNat) && decide (c.toNat ≤ 122)) = false := by simp; omega
    have a2 : (decide (48 ≤ c.toNat) && decide (c.toNat ≤ 57)) = false := by simp; omega
    rw [a1, a2]; simp [e6, e8]))
 simp only [tot_cond, tot_some, tot_bind, decide_eq_true_eq, decide_eq_false_iff_not]
 have six : 48 ≤ c.toNat → c.toNat ≤ 57 → decide ((6 : Int) = 8) = (decide (97 ≤ c.toNat) && decide (c.toNat ≤ 122)) ∧ decide ((6 : Int) = 6) = (decide (48 ≤ c.toNat) && decide (c.toNat ≤ 57)) := by
  intro d1 d2
  have a1 : (decide (97 ≤ c.toNat) && decide (c.toNat ≤ 122)) = false := by simp; omega
  have a2 : (decide (48 ≤ c.toNat) && decide (c.toNat ≤ 57)) = true := by simp; omega
  rw [a1, a2]; exact ⟨rfl, rfl⟩
 have eight : 97 ≤ c.toNat → c.toNat ≤ 122 → decide ((8 : Int) = 8) = (decide (97 ≤ c.toNat) && decide (c.toNat ≤ 122)) ∧ decide ((8 : Int) = 6) = (decide (48 ≤ c.toNat) && decide (c.toNat ≤ 57)) := by
  intro d1 d2
  have a1 : (decide (97 ≤ c.toNat) && decide (c.toNat ≤ 122)) = true := by simp; omega
  have a2 : (decide (48 ≤ c.toNat) && decide (c.toNat ≤ 57)) = false := by simp; omega
  rw [a1, a2]; exact ⟨rfl, rfl⟩
 refine ⟨fun d1 => ⟨fun d2 => six (by omega) (by omega), fun d2 => ⟨fun d3 => ⟨fun d4 => eight (by omega) (by omega), fun d4 => L (by omega) (by omega)⟩, fun d3 => L (by omega) (by omega)⟩⟩, fun d1 => ⟨fun d3 => ⟨fun d4 => eight (by omega) (by omega), fun d4 => L (by omega) (by omega)⟩, fun d3 => L (by omega) (by omega)⟩⟩
def lword (s : List UInt8) : Bool := (match s with | [] => false | c :: _ => lowB c) && s.all fun c => lowB c || digB c
theorem all_take {s : List UInt8} {p : UInt8 → Bool} {k : Nat} {c : UInt8} (h : (s.take k).all p = true) (hc : s[k]? = some c) (hp : p c = true) : (s.take (k + 1)).all p = true := by
 rw [List.take_add_one, hc, List.all_append, h]
 simp [hp]
theorem lexer_word_spec (s : List UInt8) (h : s.length ≤ 1000000) : Tot (Fz36 (TK.mk 1 0 0 0 s)) fun x => decide (x = 0) = (lword s && decide (s.length ≤ 16)) := by
 unfold Fz36
 dsimp only
 have e2 : decide ((1 : Int) < 1) = false := rfl
 have e3 : decide ((9 : Int) < 1) = false := rfl
 simp only [e2, e3, decide_true, cond_true, cond_false, Option.bind_some, Sum.elim_inl, Bool.and_self, Bool.not_true]
 rw [tot_bind]
 have Qn : ∀ x : Int, lword s = false → Tot (Sum.elim (fun (n : Int) => cond (decide (n < (s.length : Int))) (some (3 : Int)) (some (0 : Int))) some (Sum.inr 6 : Int ⊕ Int)) fun x => decide (x = 0) = (lword s && decide (s.length ≤ 16)) := by
  intro _ e
  rw [e]; exact .mk rfl
 have Qy : lword s = true → Tot (Sum.elim (fun (n : Int) => cond (decide (n < (s.length : Int))) (some (3 : Int)) (some (0 : Int))) some (Sum.inl 16 : Int ⊕ Int)) fun x => decide (x = 0) = (lword s && decide (s.length ≤ 16)) := by
  intro e
  rw [e]
  simp only [Sum.elim_inl, tot_cond, tot_some, decide_eq_true_eq, decide_eq_false_iff_not]
  refine ⟨fun g => ?_, fun g => ?_⟩
  · have : decide (s.length ≤ 16) = false := by simp; omega
    rw [this]; rfl
  · have : decide (s.length ≤ 16) = true := by simp; omega
    rw [this]; rfl
 rw [tot_cond]
 refine ⟨fun h1 => ?_, fun h1 => ?_⟩
 · simp only [tot_some]
   refine Qn 0 ?_
   have : s = [] := List.length_eq_zero_iff.1 (by simpa using h1)
   rw [this]; rfl
 simp only [decide_eq_false_iff_not] at h1
 obtain ⟨c, hc⟩ := get_lt (l := s) (i := 0) (by omega)
 have hs0 : ∃ r, s = c :: r := by
  cases s with
  | nil => simp at hc
  | cons a r => simp at hc; exact ⟨r, by rw [hc]⟩
 have e0 : (0 : Int).toNat = 0 := rfl
 simp only [tot_idx, tot_let, tot_bind, e0]
 refine ⟨by omega, c, hc, (Class_spec c).mono fun x hx => ?_⟩
 rw [tot_cond]
 refine ⟨fun g => ?_, fun g => ?_⟩
 · simp only [tot_some]
   refine Qn 0 ?_
   obtain ⟨r, rfl⟩ := hs0
   have : lowB c = false := by rw [← hx.1]; simpa using g
   unfold lword; simp [this]
 have hlow : lowB c = true := by rw [← hx.1]; simpa using g
 simp only [tot_idx, tot_let, tot_bind, e0]
 refine ⟨by omega, c, hc, (Class_spec c).mono fun y hy => ?_⟩
 refine Tot.loop (fun (p : Int × Int) => s.length - p.2.toNat) (fun (p : Int × Int) => 0 ≤ p.2 ∧ p.2 ≤ (s.length : Int) ∧ (s.take p.2.toNat).all (fun c => lowB c || digB c) = true ∧ ((p.2 = (s.length : Int) ∧ p.1 = 10) ∨ ∃ d, s[p.2.toNat]? = some d ∧ decide (p.1 = 8) = lowB d ∧ decide (p.1 = 6) = digB d)) ?_ ⟨by simp, by simp, by simp, .inr ⟨c, by simpa using hc, hy⟩⟩
 rintro ⟨k, a⟩ ⟨h2, h3, hall, h4⟩
 simp only at h2 h3 hall h4
 have round : (k = 8 ∨ k = 6) → ∀ {Q : (Bool × Int × Int) ⊕ (Int ⊕ Int) → Prop}, Tot (letO (IntKind.wrap .i64 (a + 1)) fun (u : Int) => cond (decide ((s.length : Int) ≤ u)) (some (Sum.inl ((10 : Int), u))) (idxO s u fun (v : UInt8) => letO (IntKind.wrap .i64 (v.toNat : Int)) fun (z : Int) => Option.bind (Fz33 z) fun r => some (Sum.inl (r.1, u)))) (Sum.elim (fun (s' : Int × Int) => (0 ≤ s'.2 ∧ s'.2 ≤ (s.length : Int) ∧ (s.take s'.2.toNat).all (fun c => lowB c || digB c) = true ∧ ((s'.2 = (s.length : Int) ∧ s'.1 = 10) ∨ ∃ d, s[s'.2.toNat]? = some d ∧ decide (s'.1 = 8) = lowB d ∧ decide (s'.1 = 6) = digB d)) ∧ s.length - s'.2.toNat < s.length - a.toNat) Q) := by
  intro hk Q
  rcases h4 with ⟨g1, g2⟩ | ⟨d, hd, d1, d2⟩
  · omega
  have hlt : a.toNat < s.length := by
   rcases Nat.lt_or_ge a.toNat s.length with g | g
   · exact g
   · rw [List.getElem?_eq_none g] at hd; cases hd
  have hp : (lowB d || digB d) = true := by
   rw [← d1, ← d2]
   rcases hk with rfl | rfl <;> rfl
  have e1 : (a + 1).toNat = a.toNat + 1 := by omega
  have hall' : (s.take (a + 1).toNat).all (fun c => lowB c || digB c) = true := by rw [e1]; exact all_take hall hd hp
  rw [tot_let, w64 (by omega) (by omega), tot_cond]
  refine ⟨fun g => ?_, fun g => ?_⟩
  · simp only [decide_eq_true_eq] at g
    simp only [tot_some, Sum.elim_inl]
    exact ⟨⟨by omega, by omega, hall', .inl ⟨by omega, trivial⟩⟩, by omega⟩
  · simp only [decide_eq_false_iff_not] at g
    obtain ⟨d', hd'⟩ := get_lt (l := s) (i := (a + 1).toNat) (by omega)
    simp only [tot_idx, tot_let, tot_bind]
    refine ⟨by omega, d', hd', (Class_spec d').mono fun z hz => ?_⟩
    simp only [tot_some, Sum.elim_inl]
    exact ⟨⟨by omega, by omega, hall', .inr ⟨d', hd', hz⟩⟩, by omega⟩
 rw [tot_cond]
 refine ⟨fun g => round (.inl (by simpa using g)), fun g => ?_⟩
 rw [tot_cond]
 refine ⟨fun g' => round (.inr (by simpa using g')), fun g' => ?_⟩
 simp only [tot_some, Sum.elim_inr, Sum.elim_inl, tot_side, tot_cond, e0, List.drop_zero]
 refine ⟨by omega, fun hne => ?_, fun heq => ?_⟩
 · refine (tot_some (Q := fun x => decide (x = 0) = (lword s && decide (s.length ≤ 16)))).1 (Qn 0 ?_)
   rcases h4 with ⟨g1, _⟩ | ⟨d, hd, d1, d2⟩
   · exfalso
     have : a.toNat = s.length := by omega
     rw [this, List.take_length] at hne
     simp at hne
   · unfold lword
     have : (s.all fun c => lowB c || digB c) = false := by
      rw [List.all_eq_false]
      refine ⟨d, List.mem_of_getElem? hd, ?_⟩
      rw [← d1, ← d2, g, g']
      simp
     rw [this, Bool.and_false]
 · have ht : s.take a.toNat = s := by simpa using heq
   rw [ht] at hall
   have hw : lword s = true := by
    unfold lword
    obtain ⟨r, rfl⟩ := hs0
    simp only [hall, hlow, Bool.and_self]
   rw [hw]
   refine ⟨fun g => ?_, fun g => ?_⟩
   · have : decide (s.length ≤ 16) = false := by simp at g ⊢; omega
     rw [this]; rfl
   · have : decide (s.length ≤ 16) = true := by simp at g ⊢; omega
     rw [this]; rfl
end Go.Sx.O
namespace Go.Sx.O
open Go
def primN : List (List UInt8) := [[110, 101, 103], [97, 98, 115], [110, 111, 116], [115, 104, 97, 112, 101], [114, 97, 118, 101, 108], [114, 101, 118, 101, 114, 115, 101], [102, 108, 105, 112], [105, 111, 116, 97], [115, 117, 109], [108, 101, 97, 115, 116], [109, 111, 115, 116], [99, 111, 117, 110, 116], [115, 99, 97, 110], [103, 114, 97, 100, 101], [97, 100, 100], [115, 117, 98], [109, 117, 108], [100, 105, 118], [109, 111, 100], [112, 108, 117, 115], [109, 105, 110, 117, 115], [116, 105, 109, 101, 115], [101, 113], [110, 101], [108, 116], [108, 101], [103, 116], [103, 101], [97, 110, 100], [111, 114], [109, 105, 110], [109, 97, 120], [116, 97, 107, 101], [100, 114, 111, 112], [102, 105, 108, 108], [103, 114, 105, 100], [99, 97, 116], [97, 116], [105, 110], [112, 105, 99, 107]]
theorem prims_Find_spec (s : List UInt8) : Tot (Fz30 s) fun x => decide (x.2 = 0) = decide (s ∈ primN) := by
 by_cases hm : s ∈ primN
 · have h2 : ∀ t ∈ primN, ∃ x, Fz30 t = some x ∧ decide (x.2 = 0) = true := by
    unfold primN
    simp only [List.forall_mem_cons]
    repeat' constructor
    intro t ht; cases ht
   obtain ⟨x, e, hx⟩ := h2 s hm
   exact ⟨x, e, by show decide (x.2 = 0) = _; rw [hx]; simp [hm]⟩
 · have hd : decide (s ∈ primN) = false := by simp [hm]
   rw [hd]
   unfold Fz30
   unfold primN at hm
   simp only [List.mem_cons, List.not_mem_nil, or_false, not_or] at hm
   have sw : ∀ n : List UInt8, (n = s) = (s = n) := fun n => propext eq_comm
   simp only [sw, hm, decide_false, cond_false, Option.bind_some, Sum.elim_inl, tot_some]
   rfl
def resN : List (List UInt8) := [[118, 97, 114], [100, 101, 102], [111, 117, 116], [105, 102], [101, 108, 115, 101], [119, 104, 105, 108, 101], [101, 110, 100], [114, 101, 108, 101, 97, 115, 101], [105, 110, 116], [99, 104, 97, 114]]
def exN (s : List UInt8) : Bool := !decide (s ∈ resN) && !decide (s ∈ primN) && (lword s && decide (s.length ≤ 16))
theorem expr_Name_spec (s : List UInt8) (h : s.length ≤ 1000000) : Fz37 s = some (exN s) := by
 apply Tot.eq
 unfold exN
 by_cases hm : s ∈ resN
 · have h2 : ∀ t ∈ resN, Fz37 t = some false := by
    unfold resN
    simp only [List.forall_mem_cons]
    repeat' constructor
    intro t ht; cases ht
   rw [h2 s hm, tot_some]
   simp [hm]
 · have hd : decide (s ∈ resN) = false := by simp [hm]
   rw [hd]
   unfold Fz37
   unfold resN at hm
   simp only [List.mem_cons, List.not_mem_nil, or_false, not_or] at hm
   change Tot (cond (decide (s = [118, 97, 114])) _ (cond (decide (s = [100, 101, 102])) _ (cond (decide (s = [111, 117, 116])) _ (cond (decide (s = [105, 102])) _ (cond (decide (s = [101, 108, 115, 101])) _ (cond (decide (s = [119, 104, 105, 108, 101])) _ (cond (decide (s = [101, 110, 100])) _ (cond (decide (s = [114, 101, 108, 101, 97, 115, 101])) _ (cond (decide (s = [105, 110, 116])) _ (cond (decide (s = [99, 104, 97, 114])) _ _)))))))))) _
   simp only [hm, decide_false, cond_false, tot_bind]
   refine (prims_Find_spec s).mono fun x hx => ?_
   rw [hx, tot_cond]
   refine ⟨fun g => ?_, fun g => ?_⟩
   · rw [g]; exact .mk rfl
   · rw [g, tot_bind]
     refine (lexer_word_spec s h).mono fun y hy => .mk ?_
     rw [hy]; rfl
end Go.Sx.O
namespace Go.Sx.O
open Go
end Go.Sx.O
namespace Go.Sx.O
open Go
end Go.Sx.O
namespace Go.Sx.O
open Go
theorem lp_scanSE {σ τ ε : Type} {step : σ → Option (σ ⊕ (ε ⊕ τ))} {k1 : ε → Option τ} (n : Nat) (S : Nat → σ) (f : Nat → Option τ) (e : ε)
 (h1 : ∀ k : Nat, k < n → step (S k) = some (match f k with | some r => .inr (.inr r) | none => .inl (S (k + 1))))
 (h2 : step (S n) = some (.inr (.inl e))) {s0 : σ} (h0 : S 0 = s0) : (lpO step s0).bind (Sum.elim k1 some) = match scan f 0 n with | some r => some r | none => k1 e := by
 subst h0
 rw [lp_scanS n S (fun k => (f k).map Sum.inr) (.inl e) (fun k hk => by rw [h1 k hk]; cases f k <;> rfl) h2, scan_map]
 cases scan f 0 n <;> rfl
theorem lp_foldE {σ τ ε : Type} {step : σ → Option (σ ⊕ (ε ⊕ τ))} {k1 : ε → Option τ} (n : Nat) (S : Nat → σ) (e : ε)
 (h1 : ∀ k : Nat, k < n → step (S k) = some (.inl (S (k + 1)))) (h2 : step (S n) = some (.inr (.inl e))) {s0 : σ} (h0 : S 0 = s0) : (lpO step s0).bind (Sum.elim k1 some) = k1 e := by
 subst h0
 rw [lp_fold n S (.inl e) h1 h2]; rfl
def i64 (n : Int) : Prop := -9223372036854775808 ≤ n ∧ n ≤ 9223372036854775807
end Go.Sx.O
namespace Go.Sx.O
open Go
end Go.Sx.O
namespace Go.Sx.O
open Go
end Go.Sx.O
namespace Go.Sx.O
open Go
theorem inK_u8 {n : Int} (h : inK .u8 n) : 0 ≤ n ∧ n < 256 := by
 have e1 : IntKind.u8.min = 0 := by decide
 have e2 : IntKind.u8.max = 255 := by decide
 unfold inK at h
 omega
end Go.Sx.O
namespace Go.Sx.O
open Go
def labB (l : TL) (a : Int) : Bool := decide (0 ≤ a) && decide (a < (l.Names.length : Int))
theorem policy_has_eq (l : TL) (a : Int) : Fz38 l a = some (labB l a) := by
 unfold Fz38 labB
 by_cases h : 0 ≤ a <;> simp [h]
def nmE (s : List UInt8) (before : List (List UInt8)) : Int := if exN s = true then (if s ∈ before then 8 else 0) else 24
theorem inL_iff {α : Type} [DecidableEq α] {a : α} {l : List α} : inL a l = true ↔ a ∈ l := by
 unfold inL; simp
def chK (p : TP) (k : Nat) : Option (Int × Int) := match p.Channels[k]? with
 | some c => if nmE c.s_ ((p.Channels.take k).map (·.s_)) ≠ 0 then some ((k : Int), nmE c.s_ ((p.Channels.take k).map (·.s_))) else if labB p.Lattice c.at_ = true then none else some ((k : Int), 7)
 | none => none
def chC (p : TP) : Int × Int := if (16 : Int) < (p.Channels.length : Int) then (-1, 3) else match scan (chK p) 0 p.Channels.length with | some r => r | none => (0, 0)
theorem policy_channels_eq (p : TP) (hs : ∀ c ∈ p.Channels, c.s_.length ≤ 1000000) : Fz39 p = some (chC p) := by
 unfold Fz39 chC
 simp only [List.length_map]
 by_cases h : (16 : Int) < (p.Channels.length : Int)
 · simp [h]
 simp only [h, decide_false, cond_false, if_false]
 refine (lp_scanSE p.Channels.length (fun k => ((k : Int), (p.Channels.take k).map (·.s_))) (chK p) () (fun k hk => ?_) ?_ rfl).trans ?_
 · obtain ⟨x, hx⟩ := get_lt hk
   have hlt : (k : Int) < (p.Channels.length : Int) := by omega
   have hw : IntKind.wrap .i64 ((k : Int) + 1) = ((k + 1 : Nat) : Int) := w64 (by omega) (by omega)
   have n1 : (0 : Int) ≤ (k : Int) := by omega
   have e : (p.Channels.take (k + 1)).map (·.s_) = (p.Channels.take k).map (·.s_) ++ [x.s_] := by rw [List.take_add_one, hx]; simp
   simp only [hlt, decide_true, cond_true, idxO, n1, if_true, Int.toNat_natCast, hx, Option.bind_some, letO, hw, expr_Name_spec x.s_ (hs x (List.mem_of_getElem? hx)), policy_has_eq, chK, e]
   unfold nmE
   cases exN x.s_ with
   | false => simp
   | true =>
     cases hi : inL x.s_ ((p.Channels.take k).map (·.s_)) with
     | true =>
       have := inL_iff.1 hi
       simp only [Bool.not_true, cond_false, cond_true, if_true, if_pos this]
       simp
     | false =>
       have : ¬ x.s_ ∈ (p.Channels.take k).map (·.s_) := fun h => by rw [inL_iff.2 h] at hi; cases hi
       simp only [Bool.not_true, cond_false, if_true, if_neg this]
       cases labB p.Lattice x.at_ <;> simp
 · simp
 · cases scan (chK p) 0 p.Channels.length <;> rfl
end Go.Sx.O
namespace Go.Sx.O
open Go
def vrK (g : TY → Int) (p : TP) (k : Nat) : Option (Int × Int) := match p.Vars[k]? with
 | some c => if nmE c.Name ((p.Vars.take k).map (·.Name)) ≠ 0 then some ((k : Int), nmE c.Name ((p.Vars.take k).map (·.Name))) else if g c.Type_ = 0 then none else some ((k : Int), g c.Type_)
 | none => none
def vrC (g : TY → Int) (p : TP) : Int × Int := if (32 : Int) < (p.Vars.length : Int) then (-1, 3) else match scan (vrK g p) 0 p.Vars.length with | some r => r | none => (0, 0)
theorem policy_vars_eq (g : TY → Int) (p : TP) (hs : ∀ c ∈ p.Vars, c.Name.length ≤ 1000000) (hg : ∀ c ∈ p.Vars, Fz49 p.Lattice c.Type_ = some (g c.Type_)) : Fz50 p = some (vrC g p) := by
 unfold Fz50 vrC
 simp only [List.length_map]
 by_cases h : (32 : Int) < (p.Vars.length : Int)
 · simp [h]
 simp only [h, decide_false, cond_false, if_false]
 refine (lp_scanSE p.Vars.length (fun k => ((k : Int), (p.Vars.take k).map (·.Name))) (vrK g p) () (fun k hk => ?_) ?_ rfl).trans ?_
 · obtain ⟨x, hx⟩ := get_lt hk
   have hlt : (k : Int) < (p.Vars.length : Int) := by omega
   have hw : IntKind.wrap .i64 ((k : Int) + 1) = ((k + 1 : Nat) : Int) := w64 (by omega) (by omega)
   have n1 : (0 : Int) ≤ (k : Int) := by omega
   have e : (p.Vars.take (k + 1)).map (·.Name) = (p.Vars.take k).map (·.Name) ++ [x.Name] := by rw [List.take_add_one, hx]; simp
   simp only [hlt, decide_true, cond_true, idxO, n1, if_true, Int.toNat_natCast, hx, Option.bind_some, letO, hw, expr_Name_spec x.Name (hs x (List.mem_of_getElem? hx)), hg x (List.mem_of_getElem? hx), vrK, e]
   unfold nmE
   cases exN x.Name with
   | false => simp
   | true =>
     cases hi : inL x.Name ((p.Vars.take k).map (·.Name)) with
     | true =>
       have := inL_iff.1 hi
       simp only [Bool.not_true, cond_false, cond_true, if_true, if_pos this]
       simp
     | false =>
       have : ¬ x.Name ∈ (p.Vars.take k).map (·.Name) := fun h => by rw [inL_iff.2 h] at hi; cases hi
       simp only [Bool.not_true, cond_false, if_true, if_neg this]
       by_cases hz : g x.Type_ = 0 <;> simp [hz]
 · simp
 · cases scan (vrK g p) 0 p.Vars.length <;> rfl
end Go.Sx.O
namespace Go.Sx.O
open Go
theorem Ones8_exact (x : Int) (h0 : 0 ≤ x) (h1 : x < 256) : Tot (Fz41 x) fun y => ∀ n : Nat, n ≤ 8 → x.toNat < 2 ^ n → decide (y < (n : Int)) = !decide (x.toNat = 2 ^ n - 1) := by
 unfold Fz41
 rw [tot_idx]
 refine ⟨h0, ?_⟩
 have key : ∀ l : List UInt8, (∀ x : Fin 256, ∀ n : Fin 9, (l[x.val]?.map fun y => decide (x.val < 2 ^ n.val → decide (IntKind.wrap .i64 (y.toNat : Int) < (n.val : Int)) = !decide (x.val = 2 ^ n.val - 1))) = some true) →
  ∃ y, l[x.toNat]? = some y ∧ Tot (letO (IntKind.wrap .i64 (y.toNat : Int)) fun z => some z) fun y => ∀ n : Nat, n ≤ 8 → x.toNat < 2 ^ n → decide (y < (n : Int)) = !decide (x.toNat = 2 ^ n - 1) := by
  intro l hl
  cases e : l[x.toNat]? with
  | none =>
    have := hl ⟨x.toNat, by omega⟩ ⟨0, by omega⟩
    simp only [e] at this
    cases this
  | some y =>
    refine ⟨y, rfl, .mk fun n hn hx => ?_⟩
    have := hl ⟨x.toNat, by omega⟩ ⟨n, by omega⟩
    simp only [e, Option.map_some, Option.some.injEq, decide_eq_true_eq] at this
    exact this hx
 exact key _ (by decide +kernel)
theorem Bottom_eq {l : TL} (h : LatIn l) : Fz43 l = some (if (latR l).2 = 0 then ((botN l : Int), 0) else (0, (latR l).2)) := by
 unfold Fz43
 rw [lasked_spec h [] (by simp)]
 simp only [Option.bind_some, askE, List.all_nil, if_true]
 by_cases hk : (latR l).2 = 0
 case neg => simp [hk]
 have ok := lat_ok h hk
 simp only [hk, if_true, decide_true, Bool.not_true, cond_false]
 obtain ⟨o, e1, on, ol, _, ou, _⟩ := of_exact l ok.u8 ok.le ok.len
 rw [e1]
 simp only [Option.bind_some]
 have hb := (bot_spec h hk).1
 have hend : Fz42 o.up_ o.n_ = some (botN l : Int) := by
  unfold Fz42
  rw [on]
  have hw : IntKind.wrap .i64 ((l.Names.length : Int) - 1) = ((l.Names.length - 1 : Nat) : Int) := by
   have := ok.pos; have := ok.le
   rw [w64 (by omega) (by omega)]; omega
  have hle := ok.le
  have hpos := ok.pos
  have hrun := lp_scanS (step := fun (s585 : Int) =>
   letO (IntKind.wrap IntKind.i64 ((l.Names.length : Int) - (1 : Int))) fun x591 =>
   cond (decide (s585 < x591))
   (sideO ((0 : Int) ≤ s585 ∧ s585 < (↑(8 : Nat) : Int)) (
   idxO (o.up_) ((↑(Int.toNat s585) : Int)) fun x593 =>
   Option.bind (Fz41 (x593)) fun x594 =>
   cond (decide (x594 < (l.Names.length : Int)))
   (letO (IntKind.wrap IntKind.i64 (s585 + (1 : Int))) fun x596 =>
   some (Sum.inl (x596)))
   (some (Sum.inr (Sum.inl (β := Int) s585)))))
   (some (Sum.inr (Sum.inl s585)))) (l.Names.length - 1) (fun k => (k : Int)) (fun k => if k = botN l then some (Sum.inl (k : Int)) else none) (Sum.inl ((l.Names.length - 1 : Nat) : Int)) (fun k hk2 => by
     have hlt : (k : Int) < ((l.Names.length - 1 : Nat) : Int) := by omega
     have n1 : (0 : Int) ≤ (k : Int) := by omega
     have n2 : (k : Int) < ((8 : Nat) : Int) := by omega
     have hw2 : IntKind.wrap .i64 ((k : Int) + 1) = ((k + 1 : Nat) : Int) := w64 (by omega) (by omega)
     obtain ⟨x, hx⟩ := get_lt (l := l.Up) (i := k) (by have := ok.len; omega)
     have hx' := ok.u8.get hx
     have hox : o.up_[k]? = some x := by rw [ou k (by omega)]; exact hx
     obtain ⟨y, ey, hy⟩ := Ones8_exact x hx'.1 hx'.2
     have hux : x.toNat = upN l k := by unfold upN; rw [List.getD_eq_getElem?_getD, hx]; rfl
     have hf := upN_full h hk (b := k) (by omega)
     have hlt2 : x.toNat < 2 ^ l.Names.length := by
      have h1 := (lat_facts h hk).1 k (by omega)
      unfold ordA at h1
      simp only [Bool.and_eq_true, decide_eq_true_eq] at h1
      rw [hux]; exact h1.1.1
     have hd := hy l.Names.length hle hlt2
     rw [hux] at hd
     simp only [letO, hw, hlt, decide_true, cond_true, sideO, n1, n2, and_self, if_true, idxO, Int.toNat_natCast, hox, Option.bind_some, ey, hw2, hd]
     by_cases hq : k = botN l
     · have := hf.2 hq
       simp only [this, if_pos hq, decide_true, Bool.not_true, cond_false]
     · have : ¬ upN l k = 2 ^ l.Names.length - 1 := fun e => hq (hf.1 e)
       simp only [this, if_neg hq, decide_false, Bool.not_false, cond_true]) (by
     simp only [letO, hw]
     simp)
  have hs0 : ((0 : Nat) : Int) = 0 := rfl
  simp only [hs0] at hrun
  rw [hrun]
  have hsc : (scan (fun k => if k = botN l then some (Sum.inl (α := Int) (β := Int) (k : Int)) else none) 0 (l.Names.length - 1)).getD (Sum.inl ((l.Names.length - 1 : Nat) : Int)) = Sum.inl (botN l : Int) := by
   cases e : scan (fun k => if k = botN l then some (Sum.inl (α := Int) (β := Int) (k : Int)) else none) 0 (l.Names.length - 1) with
   | some r =>
     have : r = Sum.inl (botN l : Int) := scan_val (v := Sum.inl (botN l : Int)) (fun i => by
      by_cases hi : i = botN l
      · exact .inl (by rw [if_pos hi, hi])
      · exact .inr (by rw [if_neg hi])) e
     rw [this]; rfl
   | none =>
     have hn := scan_none.1 e
     rcases Nat.lt_or_ge (botN l) (l.Names.length - 1) with g | g
     · have := hn (botN l) (by omega) (by omega)
       simp at this
     · have : botN l = l.Names.length - 1 := by omega
       rw [this]; rfl
  rw [hsc]
  rfl
 rw [hend]
 rfl
end Go.Sx.O
namespace Go.Sx.O
open Go
end Go.Sx.O
namespace Go.Sx.O
open Go
theorem lab_below {l : TL} (hu : U8s l.Up) {a b : Nat} (ha : a < l.Up.length) (hb : b ≤ 8) : Fz45 l a b = some (up l a b) := by
 unfold Fz45
 obtain ⟨x, hx⟩ := get_lt ha
 have hx' := hu.get hx
 have key : ∀ u : Fin 256, ∀ b : Fin 9, decide (bits .and .u8 (Int.fdiv (u.val : Int) (2 ^ min b.val (IntKind.bits .u8))) 1 = 1) = Nat.testBit u b := by decide +kernel
 have := key ⟨x.toNat, by omega⟩ ⟨b, by omega⟩
 simp only [Int.toNat_of_nonneg hx'.1] at this
 simp only [Int.natCast_nonneg, idxO, Int.toNat_natCast, if_true, hx, Option.bind_some, sideO, this, up_of hx]
theorem labels_Check_eq {l : TL} (h : LatIn l) (hk : (latR l).2 = 0) (xs : List Int) (hx : xs.length ≤ 64) (hl : ∀ x ∈ xs, isLab l x = true) : Fz44 l xs = some (0, 0) := by
 unfold Fz44
 rw [Check_eq h]
 have h64 : ¬ (64 : Int) < (xs.length : Int) := by omega
 simp only [Option.bind_some, hk, decide_true, Bool.not_true, cond_false, List.length_map, h64, decide_false]
 refine (lp_foldE xs.length (fun k => (k : Int)) () (fun k hk => ?_) (by simp) rfl).trans rfl
 obtain ⟨x, hx⟩ := get_lt hk
 have hq := hl x (List.mem_of_getElem? hx)
 unfold isLab at hq
 simp only [Bool.and_eq_true, decide_eq_true_eq] at hq
 have hlt : (k : Int) < (xs.length : Int) := by omega
 have hw : IntKind.wrap .i64 ((k : Int) + 1) = ((k + 1 : Nat) : Int) := w64 (by omega) (by omega)
 have n1 : (0 : Int) ≤ (k : Int) := by omega
 have n2 : ¬ x < 0 := by omega
 have n3 : ¬ (l.Names.length : Int) ≤ x := by omega
 simp only [hlt, decide_true, cond_true, idxO, n1, if_true, Int.toNat_natCast, hx, Option.bind_some, letO, hw, n2, n3, decide_false, cond_false]
def flK (l : TL) (xs : List Int) (a : Int) (k : Nat) : Option Int := match xs[k]? with
 | some x => if up l x.toNat a.toNat = true then none else some (k : Int)
 | none => none
def flV (l : TL) (xs : List Int) (a : Int) : Int × Int := match scan (flK l xs a) 0 xs.length with | some r => (r, 25) | none => (0, 0)
theorem Flows_eq {l : TL} (h : LatIn l) (hk : (latR l).2 = 0) (xs : List Int) (hx : xs.length ≤ 64) (hl : ∀ x ∈ xs, isLab l x = true) (a : Int) (ha : isLab l a = true) :
 Fz48 l xs a = some (flV l xs a) := by
 have ok := lat_ok h hk
 have hle := ok.le
 have hlen := ok.len
 unfold Fz48
 rw [labels_Check_eq h hk xs hx hl]
 unfold isLab at ha
 simp only [Bool.and_eq_true, decide_eq_true_eq] at ha
 have n2 : ¬ a < 0 := by omega
 have n3 : ¬ (l.Names.length : Int) ≤ a := by omega
 simp only [Option.bind_some, decide_true, Bool.not_true, cond_false, n2, n3, decide_false, List.length_map]
 have hi : Fz47 xs (l, a) = some (match scan (flK l xs a) 0 xs.length with | some r => r | none => -1) := by
  unfold Fz47
  simp only [List.length_map]
  refine (lp_scanSE xs.length (fun k => (k : Int)) (flK l xs a) () (fun k hk => ?_) (by simp) rfl).trans ?_
  · obtain ⟨x, hx⟩ := get_lt hk
    have hq := hl x (List.mem_of_getElem? hx)
    unfold isLab at hq
    simp only [Bool.and_eq_true, decide_eq_true_eq] at hq
    have hlt : (k : Int) < (xs.length : Int) := by omega
    have hw : IntKind.wrap .i64 ((k : Int) + 1) = ((k + 1 : Nat) : Int) := w64 (by omega) (by omega)
    have n1 : (0 : Int) ≤ (k : Int) := by omega
    have hb : Fz45 l x a = some (up l x.toNat a.toNat) := by
     have := lab_below ok.u8 (a := x.toNat) (b := a.toNat) (by omega) (by omega)
     rwa [Int.toNat_of_nonneg hq.1, Int.toNat_of_nonneg ha.1] at this
    simp only [hlt, decide_true, cond_true, idxO, n1, if_true, Int.toNat_natCast, hx, Option.bind_some, letO, hw, Fz46, hb, flK]
    cases up l x.toNat a.toNat <;> simp
  · cases scan (flK l xs a) 0 xs.length <;> rfl
 rw [hi]
 unfold flV
 cases e : scan (flK l xs a) 0 xs.length with
 | none => simp
 | some r =>
   have : 0 ≤ r := by
    have key : ∀ {j k : Nat} {b : Int}, scan (flK l xs a) k j = some b → 0 ≤ b := by
     intro j
     induction j with
     | zero => intro k b h; cases h
     | succ j ih =>
       intro k b h
       simp only [scan] at h
       cases hf : flK l xs a k with
       | none => rw [hf] at h; exact ih h
       | some z =>
         rw [hf] at h
         cases h
         unfold flK at hf
         split at hf
         · split at hf
           · cases hf
           · cases hf; omega
         · cases hf
    exact key e
   simp [this]
end Go.Sx.O
namespace Go.Sx.O
open Go
noncomputable def restC (l : TL) (t : TY) : Int :=
 if t.Rank < 0 ∨ 2 < t.Rank then 7
 else if labB l t.Axes.1 = true ∧ labB l t.Axes.2 = true ∧ labB l t.Data = true then
  if ([t.Axes.1, t.Axes.2].drop t.Rank.toNat).all (fun x => decide (x = (botN l : Int))) = true then
   if ([t.Axes.1, t.Axes.2].take t.Rank.toNat).all (fun x => up l x.toNat t.Data.toNat) = true then 0 else 25
  else 6
 else 7
noncomputable def goodC (l : TL) (t : TY) : Int := if (latR l).2 = 0 then (if t.Kind = 1 ∨ t.Kind = 2 then restC l t else 7) else (latR l).2
theorem scan_all2 {β : Type} (v : β) (b : Int) (xs : List Int) (hx : xs.length ≤ 2) : scan (fun k => match xs[k]? with | some x => if x = b then none else some v | none => none) 0 xs.length = if xs.all (fun x => decide (x = b)) = true then none else some v := by
 match xs, hx with
 | [], _ => rfl
 | [x], _ => by_cases h : x = b <;> simp [scan, h]
 | [x, y], _ => by_cases h : x = b <;> by_cases g : y = b <;> simp [scan, h, g]
theorem flK_all2 (l : TL) (a : Int) (xs : List Int) (hx : xs.length ≤ 2) : (flV l xs a).2 = if xs.all (fun x => up l x.toNat a.toNat) = true then 0 else 25 := by
 match xs, hx with
 | [], _ => rfl
 | [x], _ => cases h : up l x.toNat a.toNat <;> simp [flV, scan, flK, h]
 | [x, y], _ => cases h : up l x.toNat a.toNat <;> cases g : up l y.toNat a.toNat <;> simp [flV, scan, flK, h, g]
theorem good_tail {l : TL} (h : LatIn l) (hk : (latR l).2 = 0) (t : TY) (hr : ¬ (t.Rank < 0 ∨ 2 < t.Rank)) (l1 : labB l t.Axes.1 = true) (l2 : labB l t.Axes.2 = true) (l3 : labB l t.Data = true) :
 (Option.bind (lpO (fun (s612 : Int) =>
 cond (decide (s612 < (↑(List.length (List.drop (Int.toNat t.Rank) (List.take (Int.toNat (↑(2 : Nat) : Int)) [SV.int IntKind.i64 t.Axes.fst, SV.int IntKind.i64 t.Axes.snd]))) : Int)))
 (idxO (List.drop (Int.toNat t.Rank) (List.take (Int.toNat (↑(2 : Nat) : Int)) [t.Axes.fst, t.Axes.snd])) (s612) fun x617 =>
 cond (!decide (x617 = (botN l : Int)))
 (some (Sum.inr (Sum.inr ((6 : Int)))))
 (letO (IntKind.wrap IntKind.i64 (s612 + (1 : Int))) fun x619 =>
 some (Sum.inl (x619))))
 (some (Sum.inr (Sum.inl (()))))) ((0 : Int)))
 (Sum.elim (fun (_ : Unit) =>
 sideO ((0 : Int) ≤ t.Rank ∧ t.Rank ≤ (↑(2 : Nat) : Int)) (
 Option.bind (Fz48 l (List.drop (Int.toNat (0 : Int)) (List.take (Int.toNat t.Rank) [t.Axes.fst, t.Axes.snd])) (t.Data)) fun x653 =>
 cond (!decide (x653.snd = (0 : Int)))
 (some (x653.snd))
 (some ((0 : Int))))) some)) = some (restC l t) := by
 have e0 : List.take (Int.toNat ((2 : Nat) : Int)) [t.Axes.fst, t.Axes.snd] = [t.Axes.fst, t.Axes.snd] := rfl
 have e1 : List.take (Int.toNat ((2 : Nat) : Int)) [SV.int IntKind.i64 t.Axes.fst, SV.int IntKind.i64 t.Axes.snd] = [SV.int IntKind.i64 t.Axes.fst, SV.int IntKind.i64 t.Axes.snd] := rfl
 have e2 : List.drop (Int.toNat 0) (List.take (Int.toNat t.Rank) [t.Axes.fst, t.Axes.snd]) = List.take (Int.toNat t.Rank) [t.Axes.fst, t.Axes.snd] := rfl
 rw [e0, e1, e2]
 have hlen : (List.drop (Int.toNat t.Rank) [SV.int IntKind.i64 t.Axes.fst, SV.int IntKind.i64 t.Axes.snd]).length = (List.drop (Int.toNat t.Rank) [t.Axes.fst, t.Axes.snd]).length := by simp
 rw [hlen]
 have hd2 : (List.drop (Int.toNat t.Rank) [t.Axes.fst, t.Axes.snd]).length ≤ 2 := by simp
 have ht2 : (List.take (Int.toNat t.Rank) [t.Axes.fst, t.Axes.snd]).length ≤ 2 := by simp; omega
 have htl : ∀ x ∈ List.take (Int.toNat t.Rank) [t.Axes.fst, t.Axes.snd], isLab l x = true := fun x hx => by
  have := List.mem_of_mem_take hx
  simp only [List.mem_cons, List.not_mem_nil, or_false] at this
  rcases this with rfl | rfl
  · exact l1
  · exact l2
 unfold restC
 rw [if_neg hr, if_pos ⟨l1, l2, l3⟩]
 generalize hD : List.drop (Int.toNat t.Rank) [t.Axes.fst, t.Axes.snd] = D at hd2 ⊢
 generalize hT : List.take (Int.toNat t.Rank) [t.Axes.fst, t.Axes.snd] = T at ht2 htl ⊢
 refine (lp_scanSE D.length (fun k => (k : Int)) (fun k => match D[k]? with | some x => if x = (botN l : Int) then none else some (6 : Int) | none => none) () (fun k hk => ?_) (by simp) rfl).trans ?_
 · obtain ⟨x, hx⟩ := get_lt hk
   have hlt : (k : Int) < (D.length : Int) := by omega
   have hw : IntKind.wrap .i64 ((k : Int) + 1) = ((k + 1 : Nat) : Int) := w64 (by omega) (by omega)
   have n1 : (0 : Int) ≤ (k : Int) := by omega
   simp only [hlt, decide_true, cond_true, idxO, n1, if_true, Int.toNat_natCast, hx, Option.bind_some, letO, hw]
   by_cases hb : x = (botN l : Int) <;> simp [hb]
 · rw [scan_all2 (6 : Int) (botN l : Int) D hd2]
   by_cases hall : D.all (fun x => decide (x = (botN l : Int))) = true
   · simp only [hall, if_true]
     unfold sideO
     rw [if_pos (by omega), Flows_eq h hk T (by omega) htl t.Data l3]
     have := flK_all2 l t.Data T ht2
     simp only [Option.bind_some]
     rw [this]
     split <;> rfl
   · rw [if_neg hall, if_neg hall]
end Go.Sx.O
namespace Go.Sx.O
open Go
theorem policy_Good_eq {l : TL} (h : LatIn l) (t : TY) : Fz49 l t = some (goodC l t) := by
 unfold Fz49 goodC
 rw [Bottom_eq h]
 by_cases hk : (latR l).2 = 0
 case neg => simp [hk]
 simp only [hk, if_true, Option.bind_some, decide_true, Bool.not_true, cond_false, policy_has_eq]
 by_cases r1 : t.Rank < 0
 · by_cases k1 : t.Kind = 1 <;> by_cases k2 : t.Kind = 2 <;> simp [k1, k2, r1, restC]
 by_cases r2 : 2 < t.Rank
 · by_cases k1 : t.Kind = 1 <;> by_cases k2 : t.Kind = 2 <;> simp [k1, k2, r1, r2, restC]
 have hr : ¬ (t.Rank < 0 ∨ 2 < t.Rank) := by omega
 have hside : (0 : Int) ≤ t.Rank ∧ t.Rank ≤ ((2 : Nat) : Int) := by omega
 cases l1 : labB l t.Axes.fst with
 | false => by_cases k1 : t.Kind = 1 <;> by_cases k2 : t.Kind = 2 <;> simp [k1, k2, r1, r2, restC, l1]
 | true =>
   cases l2 : labB l t.Axes.snd with
   | false => by_cases k1 : t.Kind = 1 <;> by_cases k2 : t.Kind = 2 <;> simp [k1, k2, r1, r2, restC, l1, l2]
   | true =>
     cases l3 : labB l t.Data with
     | false => by_cases k1 : t.Kind = 1 <;> by_cases k2 : t.Kind = 2 <;> simp [k1, k2, r1, r2, restC, l1, l2, l3]
     | true =>
       have key := good_tail h hk t hr l1 l2 l3
       simp only [Bool.not_true, cond_false, r1, r2, decide_false]
       by_cases k1 : t.Kind = 1
       · simp only [k1, decide_true, Bool.not_true, cond_false, true_or, if_true]
         rw [sideO, if_pos hside]
         exact key
       · by_cases k2 : t.Kind = 2
         · simp only [k1, k2, decide_true, decide_false, Bool.not_true, Bool.not_false, cond_true, cond_false, or_true, if_true]
           rw [sideO, if_pos hside]
           exact key
         · simp [k1, k2]
end Go.Sx.O
namespace Go.Sx.O
open Go
end Go.Sx.O
namespace Go.Sx.O
open Go
def ckK {α τ : Type} (c : α → Bool) (v : τ) (L : List α) (j : Nat) : Option τ := match L[j]? with | some y => if c y = true then some v else none | none => none
theorem scan_ckK {α τ : Type} (c : α → Bool) (v : τ) (L : List α) (n : Nat) (hn : n ≤ L.length) : scan (ckK c v L) 0 n = if (L.take n).any c = true then some v else none := by
 by_cases h : (L.take n).any c = true
 · rw [if_pos h]
   cases e : scan (ckK c v L) 0 n with
   | some r =>
     have : r = v := scan_val (v := v) (fun i => by
      unfold ckK
      cases L[i]? with
      | none => exact .inr rfl
      | some x => by_cases hx : c x = true <;> simp [hx]) e
     rw [this]
   | none =>
     exfalso
     rw [List.any_eq_true] at h
     obtain ⟨x, hx, hc⟩ := h
     obtain ⟨i, hi, hxi⟩ := List.getElem_of_mem hx
     rw [List.length_take] at hi
     have := scan_none.1 e i (by omega) (by omega)
     rw [List.getElem_take] at hxi
     unfold ckK at this
     rw [List.getElem?_eq_getElem (by omega), hxi] at this
     simp [hc] at this
 · rw [if_neg h, scan_none]
   intro i _ hi
   unfold ckK
   obtain ⟨x, hx⟩ := get_lt (l := L) (i := i) (by omega)
   rw [hx]
   have : ¬ c x = true := fun hc => h (by
    rw [List.any_eq_true]
    exact ⟨x, List.mem_take_iff_getElem.2 ⟨i, by omega, by rw [List.getElem?_eq_getElem (by omega)] at hx; exact Option.some.inj hx⟩, hc⟩)
   simp [this]
def sameR (x y : TU) : Bool := decide (y.From = x.From) && decide (y.Goal = x.Goal)
def rlK (p : TP) (k : Nat) : Option (Int × Int) := match p.Rules[k]? with
 | some x => if labB p.Lattice x.From = true then (if labB p.Lattice x.Goal = true then (if x.From = x.Goal then some ((k : Int), 25) else if up p.Lattice x.Goal.toNat x.From.toNat = true then (if (p.Rules.take k).any (sameR x) = true then some ((k : Int), 8) else if x.K < 2 then some ((k : Int), 3) else if 400 < x.K then some ((k : Int), 3) else none) else some ((k : Int), 25)) else some ((k : Int), 7)) else some ((k : Int), 7)
 | none => none
def rlC (p : TP) : Int × Int := if (64 : Int) < (p.Rules.length : Int) then (-1, 3) else match scan (rlK p) 0 p.Rules.length with | some r => r | none => (0, 0)
theorem inL_any (x : TU) (L : List TU) : inL (x.From, x.Goal) (L.map fun y => (y.From, y.Goal)) = L.any (sameR x) := by
 rw [Bool.eq_iff_iff, inL_iff, List.any_eq_true]
 simp only [List.mem_map, Prod.mk.injEq, sameR, Bool.and_eq_true, decide_eq_true_eq]
theorem bit_and {x : Int} (h0 : 0 ≤ x) (h1 : x < 256) {b : Nat} (hb : b ≤ 8) : decide (bits .and .u8 (Int.fdiv x (2 ^ min b (IntKind.bits .u8))) 1 = 0) = !Nat.testBit x.toNat b := by
 have key : ∀ u : Fin 256, ∀ b : Fin 9, decide (bits .and .u8 (Int.fdiv (u.val : Int) (2 ^ min b.val (IntKind.bits .u8))) 1 = 0) = !Nat.testBit u b := by decide +kernel
 have := key ⟨x.toNat, by omega⟩ ⟨b, by omega⟩
 simpa only [Int.toNat_of_nonneg h0] using this
theorem policy_rules_eq (p : TP) (h : LatIn p.Lattice) (hk : (latR p.Lattice).2 = 0) : Fz51 p = some (rlC p) := by
 have ok := lat_ok h hk
 have hle := ok.le
 have hlen := ok.len
 unfold Fz51 rlC
 simp only [List.length_map]
 by_cases h6 : (64 : Int) < (p.Rules.length : Int)
 · simp [h6]
 simp only [h6, decide_false, cond_false, if_false]
 refine (lp_scanSE p.Rules.length (fun k => ((k : Int), (p.Rules.take k).map fun y => (y.From, y.Goal))) (rlK p) () (fun k hk => ?_) ?_ rfl).trans ?_
 · obtain ⟨x, hx⟩ := get_lt hk
   have hlt : (k : Int) < (p.Rules.length : Int) := by omega
   have hw : IntKind.wrap .i64 ((k : Int) + 1) = ((k + 1 : Nat) : Int) := w64 (by omega) (by omega)
   have n1 : (0 : Int) ≤ (k : Int) := by omega
   have e : (p.Rules.take (k + 1)).map (fun y => (y.From, y.Goal)) = (p.Rules.take k).map (fun y => (y.From, y.Goal)) ++ [(x.From, x.Goal)] := by rw [List.take_add_one, hx]; simp
   simp only [hlt, decide_true, cond_true, idxO, n1, if_true, Int.toNat_natCast, hx, Option.bind_some, letO, hw, policy_has_eq, rlK, e, inL_any]
   cases l1 : labB p.Lattice x.From with
   | false => simp
   | true =>
     cases l2 : labB p.Lattice x.Goal with
     | false => simp
     | true =>
       unfold labB at l1 l2
       simp only [Bool.and_eq_true, decide_eq_true_eq] at l1 l2
       obtain ⟨u, hu⟩ := get_lt (l := p.Lattice.Up) (i := x.Goal.toNat) (by omega)
       have hu' := ok.u8.get hu
       have hb := bit_and hu'.1 hu'.2 (b := x.From.toNat) (by omega)
       have n2 : (0 : Int) ≤ x.Goal := l2.1
       have n3 : (0 : Int) ≤ x.From := l1.1
       simp only [Bool.not_true, cond_false, n2, if_true, hu, Option.bind_some, sideO, n3, hb, up_of hu]
       by_cases hfg : x.From = x.Goal
       · simp [hfg]
       cases hbt : Nat.testBit u.toNat x.From.toNat with
       | false => simp [hfg]
       | true =>
         cases (p.Rules.take k).any (sameR x) with
         | true => simp [hfg]
         | false =>
           by_cases k2 : x.K < 2
           · simp [hfg, k2]
           · by_cases k4 : 400 < x.K <;> simp [hfg, k2, k4]
 · simp
 · cases scan (rlK p) 0 p.Rules.length <;> rfl
end Go.Sx.O
namespace Go.Sx.O
open Go
structure PolIn (p : TP) : Prop where
 lat : LatIn p.Lattice
 chan : ∀ c ∈ p.Channels, c.s_.length ≤ 1000000
 var : ∀ c ∈ p.Vars, c.Name.length ≤ 1000000
noncomputable def polC (p : TP) : Int × Int × Int :=
 if (latR p.Lattice).2 = 0 then (if (chC p).2 = 0 then (if (vrC (goodC p.Lattice) p).2 = 0 then (if (rlC p).2 = 0 then (0, 0, 0) else (4, rlC p)) else (3, vrC (goodC p.Lattice) p)) else (2, chC p)) else (1, latR p.Lattice)
theorem scan_ne {τ : Type} {P : τ → Prop} {f : Nat → Option τ} (hf : ∀ i r, f i = some r → P r) : ∀ {n k r}, scan f k n = some r → P r := by
 intro n
 induction n with
 | zero => intro k r h; cases h
 | succ n ih =>
   intro k r h
   simp only [scan] at h
   split at h
   · rename_i b hb; cases h; exact hf _ _ hb
   · exact ih h
theorem rlC_zero {p : TP} (h : (rlC p).2 = 0) : rlC p = (0, 0) := by
 unfold rlC at h ⊢
 split at h
 · simp at h
 · rename_i h6
   rw [if_neg h6]
   cases e : scan (rlK p) 0 p.Rules.length with
   | none => rfl
   | some r =>
     exfalso
     rw [e] at h
     have := scan_ne (P := fun r : Int × Int => r.2 ≠ 0) (fun i r hr => by
      unfold rlK at hr
      revert hr
      repeat' split
      all_goals (intro hr; cases hr <;> simp)) e
     exact this h
theorem policy_Check_eq {p : TP} (h : PolIn p) : Fz52 p = some (polC p) := by
 unfold Fz52 polC Fz29
 rw [Check_eq h.lat, policy_channels_eq p h.chan, policy_vars_eq (goodC p.Lattice) p h.var (fun c _ => policy_Good_eq h.lat _)]
 by_cases hk : (latR p.Lattice).2 = 0
 case neg => simp [hk]
 rw [policy_rules_eq p h.lat hk]
 by_cases h2 : (chC p).2 = 0
 case neg => simp [hk, h2]
 by_cases h3 : (vrC (goodC p.Lattice) p).2 = 0
 case neg => simp [hk, h2, h3]
 by_cases h4 : (rlC p).2 = 0
 case neg => simp [hk, h2, h3, h4]
 simp [hk, h2, h3, rlC_zero h4]
theorem pol_lat {p : TP} (h : (polC p).2.2 = 0) : (latR p.Lattice).2 = 0 := by
 unfold polC at h
 by_cases hk : (latR p.Lattice).2 = 0
 · exact hk
 · rw [if_neg hk] at h; exact absurd h hk
theorem pol_rules {p : TP} (h : (polC p).2.2 = 0) : rlC p = (0, 0) := by
 unfold polC at h
 split at h
 · split at h
   · split at h
     · split at h
       · rename_i h4; exact rlC_zero h4
       · rename_i h4; exact absurd h h4
     · rename_i h4; exact absurd h h4
   · rename_i h4; exact absurd h h4
 · rename_i h4; exact absurd h h4
def rfK (p : TP) (a b : Int) (k : Nat) : Option (Int × Int) := match p.Rules[k]? with
 | some x => if x.From = a then (if x.Goal = b then some (x.K, 0) else none) else none
 | none => none
noncomputable def rulC (p : TP) (a b : Int) : Int × Int :=
 if (polC p).2.2 = 0 then (if labB p.Lattice a = true then (if labB p.Lattice b = true then (match scan (rfK p a b) 0 p.Rules.length with | some r => r | none => (0, 4)) else (0, 7)) else (0, 7)) else (0, (polC p).2.2)
theorem rules_len {p : TP} (h : (polC p).2.2 = 0) : p.Rules.length ≤ 64 := by
 have := pol_rules h
 unfold rlC at this
 split at this
 · cases this
 · omega
theorem policy_Rule_eq {p : TP} (h : PolIn p) (a b : Int) : Fz57 p a b = some (rulC p a b) := by
 unfold Fz57 rulC
 rw [policy_Check_eq h]
 by_cases h0 : (polC p).2.2 = 0
 case neg => simp [h0]
 have hl := rules_len h0
 simp only [Option.bind_some, h0, decide_true, Bool.not_true, cond_false, policy_has_eq, if_true, List.length_map]
 cases labB p.Lattice a with
 | false => simp
 | true =>
   cases labB p.Lattice b with
   | false => simp
   | true =>
     simp only [Bool.not_true, cond_false, if_true]
     refine (lp_scanSE p.Rules.length (fun k => (k : Int)) (rfK p a b) () (fun k hk => ?_) ?_ rfl).trans ?_
     · obtain ⟨x, hx⟩ := get_lt hk
       have hlt : (k : Int) < (p.Rules.length : Int) := by omega
       have hw : IntKind.wrap .i64 ((k : Int) + 1) = ((k + 1 : Nat) : Int) := w64 (by omega) (by omega)
       have n1 : (0 : Int) ≤ (k : Int) := by omega
       simp only [hlt, decide_true, cond_true, idxO, n1, if_true, Int.toNat_natCast, hx, letO, hw, rfK]
       by_cases c1 : x.From = a <;> by_cases c2 : x.Goal = b <;> simp [c1, c2]
     · simp
     · cases scan (rfK p a b) 0 p.Rules.length <;> rfl
theorem far_all {α : Type} {L : List α} {N : Nat} {c : α → Bool} (h : (L.take (min L.length N)).any c = false) (hn : L.length ≤ N) : ∀ x ∈ L, c x = false := by
 rw [Nat.min_eq_left hn, List.take_length] at h
 simpa using h
theorem long03_spec (L : List (List UInt8)) : ∃ b, Fz0 L = some b ∧ (b = false → L.length ≤ 12 ∧ ∀ s ∈ L, s.length ≤ 100) := by
 unfold Fz0
 simp only [List.length_map]
 rw [lp_scanSE (s0 := (0 : Int)) (min L.length 20) (fun k => (k : Int)) (ckK (fun s : List UInt8 => decide ((100 : Int) < (s.length : Int))) true L) () ?_ ?_ rfl, scan_ckK _ _ _ _ (by omega)]
 · cases h : (L.take (min L.length 20)).any (fun s => decide ((100 : Int) < (s.length : Int))) with
   | true => exact ⟨true, rfl, fun h => by cases h⟩
   | false =>
     refine ⟨_, rfl, fun h12 => ?_⟩
     have h12 : L.length ≤ 12 := by simp at h12; omega
     exact ⟨h12, fun s hs => by have := far_all h (by omega) s hs; simp at this; omega⟩
 · intro k hk
   obtain ⟨x, hx⟩ := get_lt (l := L) (i := k) (by omega)
   have hlt : (k : Int) < (L.length : Int) := by omega
   have hlt2 : (k : Int) < 20 := by omega
   have hw : IntKind.wrap .i64 ((k : Int) + 1) = ((k + 1 : Nat) : Int) := w64 (by omega) (by omega)
   have n1 : (0 : Int) ≤ (k : Int) := by omega
   simp only [hlt, hlt2, decide_true, cond_true, idxO, n1, if_true, Int.toNat_natCast, hx, letO, hw, ckK]
   by_cases c1 : (100 : Int) < (x.length : Int) <;> simp [c1]
 · by_cases c1 : ((min L.length 20 : Nat) : Int) < (L.length : Int)
   · have c2 : ¬ ((min L.length 20 : Nat) : Int) < 20 := by omega
     simp only [c1, c2, decide_true, decide_false, cond_true, cond_false]
   · simp only [c1, decide_false, cond_false]
theorem Far_spec (p : TP) (hu : U8s p.Lattice.Up) : ∃ b, Fz2 p = some b ∧ (b = false → PolIn p) := by
 unfold Fz2
 simp only [List.length_map]
 rw [lp_scanSE (s0 := (0 : Int)) (min p.Channels.length 25) (fun k => (k : Int)) (ckK (fun s : TR => decide ((100 : Int) < (s.s_.length : Int))) true p.Channels) () ?_ ?_ rfl, scan_ckK _ _ _ _ (by omega)]
 rotate_left
 · intro k hk
   obtain ⟨x, hx⟩ := get_lt (l := p.Channels) (i := k) (by omega)
   have hlt : (k : Int) < (p.Channels.length : Int) := by omega
   have hlt2 : (k : Int) < 25 := by omega
   have hw : IntKind.wrap .i64 ((k : Int) + 1) = ((k + 1 : Nat) : Int) := w64 (by omega) (by omega)
   have n1 : (0 : Int) ≤ (k : Int) := by omega
   simp only [hlt, hlt2, decide_true, cond_true, idxO, n1, if_true, Int.toNat_natCast, hx, letO, hw, ckK]
   by_cases c1 : (100 : Int) < (x.s_.length : Int) <;> simp [c1]
 · by_cases c1 : ((min p.Channels.length 25 : Nat) : Int) < (p.Channels.length : Int)
   · have c2 : ¬ ((min p.Channels.length 25 : Nat) : Int) < 25 := by omega
     simp only [c1, c2, decide_true, decide_false, cond_true, cond_false]
   · simp only [c1, decide_false, cond_false]
 cases hc : (p.Channels.take (min p.Channels.length 25)).any (fun s => decide ((100 : Int) < (s.s_.length : Int))) with
 | true => exact ⟨true, rfl, fun h => by cases h⟩
 | false =>
   simp only [Bool.false_eq_true, if_false]
   rw [lp_scanSE (s0 := (0 : Int)) (min p.Vars.length 45) (fun k => (k : Int)) (ckK (fun s : TV => decide ((100 : Int) < (s.Name.length : Int))) true p.Vars) () ?_ ?_ rfl, scan_ckK _ _ _ _ (by omega)]
   rotate_left
   · intro k hk
     obtain ⟨x, hx⟩ := get_lt (l := p.Vars) (i := k) (by omega)
     have hlt : (k : Int) < (p.Vars.length : Int) := by omega
     have hlt2 : (k : Int) < 45 := by omega
     have hw : IntKind.wrap .i64 ((k : Int) + 1) = ((k + 1 : Nat) : Int) := w64 (by omega) (by omega)
     have n1 : (0 : Int) ≤ (k : Int) := by omega
     simp only [hlt, hlt2, decide_true, cond_true, idxO, n1, if_true, Int.toNat_natCast, hx, letO, hw, ckK]
     by_cases c1 : (100 : Int) < (x.Name.length : Int) <;> simp [c1]
   · by_cases c1 : ((min p.Vars.length 45 : Nat) : Int) < (p.Vars.length : Int)
     · have c2 : ¬ ((min p.Vars.length 45 : Nat) : Int) < 45 := by omega
       simp only [c1, c2, decide_true, decide_false, cond_true, cond_false]
     · simp only [c1, decide_false, cond_false]
   cases hv : (p.Vars.take (min p.Vars.length 45)).any (fun s => decide ((100 : Int) < (s.Name.length : Int))) with
   | true => exact ⟨true, rfl, fun h => by cases h⟩
   | false =>
     simp only [Bool.false_eq_true, if_false]
     unfold Fz1
     obtain ⟨b, e, hb⟩ := long03_spec p.Lattice.Names
     rw [e]
     simp only [Option.bind_some, List.length_map]
     cases b with
     | true => exact ⟨true, rfl, fun h => by cases h⟩
     | false =>
       obtain ⟨hb1, hb2⟩ := hb rfl
       simp only [cond_false, Option.bind_some]
       by_cases h12 : (12 : Int) < (p.Lattice.Up.length : Int)
       · exact ⟨true, by simp [h12], fun h => by cases h⟩
       by_cases h20 : (20 : Int) < (p.Channels.length : Int)
       · exact ⟨true, by simp [h12, h20], fun h => by cases h⟩
       by_cases h40 : (40 : Int) < (p.Vars.length : Int)
       · exact ⟨true, by simp [h12, h20, h40], fun h => by cases h⟩
       simp only [h12, h20, h40, decide_false, cond_false]
       refine ⟨_, rfl, fun _ => ⟨⟨hu, by omega, fun s hs => by have := hb2 s hs; omega⟩, fun c h => ?_, fun c h => ?_⟩⟩
       · have := far_all hc (by omega) c h; simp at this; omega
       · have := far_all hv (by omega) c h; simp at this; omega
end Go.Sx.O
namespace Go.Sx.O
open Go
theorem u8s_of {l : List Int} (h : allW (inK .u8) l) : U8s l := fun x hx => inK_u8 (h x hx)
end Go.Sx.O
namespace Go.Sx.O
open Go
noncomputable def kindC (l : TL) (t : TY) : Int := if t.Kind = 1 ∨ t.Kind = 2 then restC l t else 7
theorem order_label_eq (l : TL) (b a : Int) : Fz59 ⟨l, b⟩ a = some (labB l a) := by
 unfold Fz59 labB
 by_cases h : 0 ≤ a <;> simp [h]
theorem order_leq_eq {l : TL} (ok : LatOK l) (b : Int) {x y : Int} (hx : isLab l x = true) (hy : isLab l y = true) : Fz60 ⟨l, b⟩ x y = some (up l x.toNat y.toNat) := by
 have hle := ok.le
 have hlen := ok.len
 unfold Fz60
 unfold isLab at hx hy
 simp only [Bool.and_eq_true, decide_eq_true_eq] at hx hy
 obtain ⟨u, hu⟩ := get_lt (l := l.Up) (i := x.toNat) (by omega)
 have hu' := ok.u8.get hu
 have key : ∀ u : Fin 256, ∀ b : Fin 9, decide (bits .and .u8 (Int.fdiv (u.val : Int) (2 ^ min b.val (IntKind.bits .u8))) 1 = 1) = Nat.testBit u b := by decide +kernel
 have := key ⟨u.toNat, by omega⟩ ⟨y.toNat, by omega⟩
 simp only [Int.toNat_of_nonneg hu'.1] at this
 have n1 : (0 : Int) ≤ x := hx.1
 have n2 : (0 : Int) ≤ y := hy.1
 simp only [idxO, n1, if_true, hu, Option.bind_some, sideO, n2, this, up_of hu]
theorem contains_leq {l : TL} (ok : LatOK l) (b : Int) (t : TY) (ht : isLab l t.Data = true) (xs : List Int) (hx2 : xs.length ≤ 2) (hx : ∀ x ∈ xs, isLab l x = true) :
 Fz63 xs (⟨l, b⟩, t) = some (!xs.all fun x => up l x.toNat t.Data.toNat) := by
 unfold Fz63 Fz62
 simp only [List.length_map]
 rw [lp_scanSE (s0 := (0 : Int)) xs.length (fun k => (k : Int)) (flK l xs t.Data) () ?_ (by simp) rfl]
 · match xs, hx2 with
   | [], _ => rfl
   | [x], _ => cases h : up l x.toNat t.Data.toNat <;> simp [scan, flK, h]
   | [x, y], _ => cases h : up l x.toNat t.Data.toNat <;> cases g : up l y.toNat t.Data.toNat <;> simp [scan, flK, h, g]
 · intro k hk
   obtain ⟨x, hxk⟩ := get_lt hk
   have hq := hx x (List.mem_of_getElem? hxk)
   have hlt : (k : Int) < (xs.length : Int) := by omega
   have hw : IntKind.wrap .i64 ((k : Int) + 1) = ((k + 1 : Nat) : Int) := w64 (by omega) (by omega)
   have n1 : (0 : Int) ≤ (k : Int) := by omega
   simp only [hlt, decide_true, cond_true, idxO, n1, if_true, Int.toNat_natCast, hxk, Option.bind_some, letO, hw, Fz61, order_leq_eq ok b hq ht, flK]
   cases up l x.toNat t.Data.toNat <;> simp
theorem order_check_eq {l : TL} (h : LatIn l) (hk : (latR l).2 = 0) (t : TY) : Fz64 ⟨l, (botN l : Int)⟩ t = some (kindC l t) := by
 have ok := lat_ok h hk
 unfold Fz64 kindC
 simp only [order_label_eq, Option.bind_some]
 by_cases r1 : t.Rank < 0
 · by_cases k1 : t.Kind = 1 <;> by_cases k2 : t.Kind = 2 <;> simp [k1, k2, r1, restC]
 by_cases r2 : 2 < t.Rank
 · by_cases k1 : t.Kind = 1 <;> by_cases k2 : t.Kind = 2 <;> simp [k1, k2, r1, r2, restC]
 have hr : ¬ (t.Rank < 0 ∨ 2 < t.Rank) := by omega
 cases l1 : labB l t.Axes.fst with
 | false => by_cases k1 : t.Kind = 1 <;> by_cases k2 : t.Kind = 2 <;> simp [k1, k2, r1, r2, restC, l1]
 | true =>
   cases l2 : labB l t.Axes.snd with
   | false => by_cases k1 : t.Kind = 1 <;> by_cases k2 : t.Kind = 2 <;> simp [k1, k2, r1, r2, restC, l1, l2]
   | true =>
     cases l3 : labB l t.Data with
     | false => by_cases k1 : t.Kind = 1 <;> by_cases k2 : t.Kind = 2 <;> simp [k1, k2, r1, r2, restC, l1, l2, l3]
     | true =>
       have hc : ∀ n : Nat, Fz63 (List.take n [t.Axes.fst, t.Axes.snd]) (⟨l, (botN l : Int)⟩, t) = some (!(List.take n [t.Axes.fst, t.Axes.snd]).all fun x => up l x.toNat t.Data.toNat) := fun n =>
        contains_leq ok _ t l3 _ (by simp; omega) fun x hx => by
         have := List.mem_of_mem_take hx
         simp only [List.mem_cons, List.not_mem_nil, or_false] at this
         rcases this with rfl | rfl
         · exact l1
         · exact l2
       have hside : (0 : Int) ≤ t.Rank ∧ t.Rank ≤ ((2 : Nat) : Int) := by omega
       have e0 : ∀ L : List Int, List.drop (Int.toNat 0) L = L := fun L => rfl
       simp only [Bool.not_true, cond_false, r1, r2, decide_false, e0, hc, Option.bind_some, sideO, hside, if_true, and_self]
       have key : ∀ A B : Option Int, A = some (restC l t) → B = A → B = some (restC l t) := fun A B h1 h2 => h2.trans h1
       have hR : t.Rank = 0 ∨ t.Rank = 1 ∨ t.Rank = 2 := by omega
       have main : pickO t.Rank [
        cond (!(decide ((botN l : Int) = t.Axes.fst) && (decide ((botN l : Int) = t.Axes.snd) && true))) (some (6 : Int)) (cond (!(List.take t.Rank.toNat [t.Axes.fst, t.Axes.snd]).all fun x => up l x.toNat t.Data.toNat) (some (25 : Int)) (some (0 : Int))),
        cond (!(true && (decide ((botN l : Int) = t.Axes.snd) && true))) (some (6 : Int)) (cond (!(List.take t.Rank.toNat [t.Axes.fst, t.Axes.snd]).all fun x => up l x.toNat t.Data.toNat) (some (25 : Int)) (some (0 : Int))),
        cond (!(true && (true && true))) (some (6 : Int)) (cond (!(List.take t.Rank.toNat [t.Axes.fst, t.Axes.snd]).all fun x => up l x.toNat t.Data.toNat) (some (25 : Int)) (some (0 : Int)))] = some (restC l t) := by
        unfold restC
        rw [if_neg hr, if_pos ⟨l1, l2, l3⟩]
        rcases hR with r | r | r
        · by_cases b1 : t.Axes.fst = (botN l : Int) <;> by_cases b2 : t.Axes.snd = (botN l : Int) <;> simp [r, pickO, b1, b2, eq_comm]
        · by_cases b2 : t.Axes.snd = (botN l : Int) <;> cases u1 : up l t.Axes.fst.toNat t.Data.toNat <;> simp [r, pickO, b2, u1, eq_comm]
        · cases u1 : up l t.Axes.fst.toNat t.Data.toNat <;> cases u2 : up l t.Axes.snd.toNat t.Data.toNat <;> simp [r, pickO, u1, u2]
       by_cases k1 : t.Kind = 1
       · simp only [k1, decide_true, Bool.not_true, cond_false, true_or, if_true]
         exact main
       · by_cases k2 : t.Kind = 2
         · simp only [k1, k2, decide_true, decide_false, Bool.not_true, Bool.not_false, cond_true, cond_false, or_true, if_true]
           exact main
         · simp [k1, k2]
theorem types_Check_eq {l : TL} (h : LatIn l) (t : TY) : Fz65 l t = some (goodC l t) := by
 unfold Fz65 goodC Fz58
 rw [Check_eq h, Bottom_eq h]
 by_cases hk : (latR l).2 = 0
 case neg => simp [hk]
 simp [hk, order_check_eq h hk, kindC]
end Go.Sx.O
namespace Go.Sx.O
open Go
def ixK {α : Type} (c : α → Bool) (L : List α) (k : Nat) : Option Int := match L[k]? with | some x => if c x = true then some (k : Int) else none | none => none
theorem ix_any {α : Type} (c : α → Bool) (L : List α) : (scan (ixK c L) 0 L.length = none ∧ L.any c = false) ∨ ∃ r, scan (ixK c L) 0 L.length = some r ∧ 0 ≤ r ∧ L.any c = true := by
 cases e : scan (ixK c L) 0 L.length with
 | none =>
   have hn := scan_none.1 e
   refine .inl ⟨rfl, ?_⟩
   rw [List.any_eq_false]
   intro x hx hc
   obtain ⟨i, hi, hxi⟩ := List.getElem_of_mem hx
   have := hn i (by omega) (by omega)
   unfold ixK at this
   rw [List.getElem?_eq_getElem hi, hxi] at this
   simp [hc] at this
 | some r =>
   have h0 : 0 ≤ r := scan_ne (P := fun r : Int => 0 ≤ r) (fun i r hr => by
    unfold ixK at hr
    split at hr
    · split at hr
      · cases hr; omega
      · cases hr
    · cases hr) e
   refine .inr ⟨r, rfl, h0, ?_⟩
   cases h : L.any c with
   | true => rfl
   | false =>
     rw [List.any_eq_false] at h
     have hn : scan (ixK c L) 0 L.length = none := by
      rw [scan_none]
      intro i _ hi
      obtain ⟨x, hx⟩ := get_lt (l := L) (i := i) (by omega)
      unfold ixK
      rw [hx]
      have := h x (List.mem_of_getElem? hx)
      simp [this]
     rw [hn] at e; cases e
theorem rel_labels_eq (l : TL) (L : List Int) (hl : L.length ≤ 1000) : Fz56 l L = some (L.all (labB l)) := by
 unfold Fz56 Fz55 Fz54
 simp only [List.length_map]
 rw [lp_scanSE (s0 := (0 : Int)) L.length (fun k => (k : Int)) (ixK (fun x => !labB l x) L) () ?_ (by simp) rfl]
 · rw [List.all_eq_not_any_not]
   rcases ix_any (fun x => !labB l x) L with ⟨e1, e2⟩ | ⟨r, e1, e2, e3⟩
   · rw [e1, e2]; rfl
   · rw [e1, e3]; simp [e2]
 · intro k hk
   obtain ⟨x, hx⟩ := get_lt hk
   have hlt : (k : Int) < (L.length : Int) := by omega
   have hw : IntKind.wrap .i64 ((k : Int) + 1) = ((k + 1 : Nat) : Int) := w64 (by omega) (by omega)
   have n1 : (0 : Int) ≤ (k : Int) := by omega
   have hf : Fz53 x l = some (!labB l x) := by
    unfold Fz53 labB
    by_cases h : 0 ≤ x
    · have g : ¬ x < 0 := by omega
      by_cases h2 : x < (l.Names.length : Int)
      · have g2 : ¬ (l.Names.length : Int) ≤ x := by omega
        simp [h, g, h2, g2]
      · have g2 : (l.Names.length : Int) ≤ x := by omega
        simp [h, g, h2, g2]
    · have g : x < 0 := by omega
      simp [h, g]
   simp only [hlt, decide_true, cond_true, idxO, n1, if_true, Int.toNat_natCast, hx, Option.bind_some, letO, hw, hf, ixK]
   by_cases hu : labB l x = true <;> simp [hu]
theorem rel_flows_eq {l : TL} (h : LatIn l) (hk : (latR l).2 = 0) (L : List TF) (hl : L.length ≤ 1000) (hL : ∀ f ∈ L, isLab l f.low_ = true ∧ isLab l f.high_ = true) :
 Fz67 l L = some (L.all fun f => up l f.low_.toNat f.high_.toNat) := by
 unfold Fz67
 simp only [List.length_map]
 rw [lp_scanSE (s0 := (0 : Int)) L.length (fun k => (k : Int)) (ckK (fun f : TF => !up l f.low_.toNat f.high_.toNat) false L) () ?_ (by simp) rfl, scan_ckK _ _ _ _ (Nat.le_refl _), List.take_length]
 · rw [List.all_eq_not_any_not]
   cases L.any fun f => !up l f.low_.toNat f.high_.toNat <;> rfl
 · intro k hk2
   obtain ⟨x, hx⟩ := get_lt hk2
   obtain ⟨q1, q2⟩ := hL x (List.mem_of_getElem? hx)
   have hlt : (k : Int) < (L.length : Int) := by omega
   have hw : IntKind.wrap .i64 ((k : Int) + 1) = ((k + 1 : Nat) : Int) := w64 (by omega) (by omega)
   have n1 : (0 : Int) ≤ (k : Int) := by omega
   have ha : askE l [x.low_, x.high_] = 0 := by unfold askE; rw [if_pos hk, List.all_cons, List.all_cons, q1, q2]; rfl
   have hsees := sees_of hk q1 q2
   simp only [hlt, decide_true, cond_true, idxO, n1, if_true, Int.toNat_natCast, hx, Option.bind_some, letO, hw, Leq_spec h, ha, hsees, ckK]
   by_cases hu : up l x.low_.toNat x.high_.toNat = true <;> simp [hu]
theorem good_labs {l : TL} {t : TY} (h : goodC l t = 0) : isLab l t.Axes.1 = true ∧ isLab l t.Axes.2 = true ∧ isLab l t.Data = true := by
 unfold goodC at h
 split at h
 · split at h
   · unfold restC at h
     split at h
     · cases h
     · split at h
       · rename_i q; exact q
       · cases h
   · cases h
 · rename_i q; exact absurd h q
def relFl (a b : Int) (v y : TY) (pc ec : Int) : List (Int × Int) := [(v.Axes.1, a), (v.Data, a), (pc, b), (ec, b), (b, y.Axes.1), (b, y.Data)]
noncomputable def mayC (p : TP) (a b : Int) (v y : TY) (pc ec : Int) : Int :=
 if (polC p).2.2 = 0 then (if labB p.Lattice a = true ∧ labB p.Lattice b = true ∧ labB p.Lattice pc = true ∧ labB p.Lattice ec = true then
  (if (rulC p a b).2 = 0 then (if goodC p.Lattice v = 0 then (if goodC p.Lattice y = 0 then (if v.Kind = 1 ∧ y.Kind = 1 then (if v.Rank = 1 ∧ y.Rank = 1 then (if (relFl a b v y pc ec).all (fun q => up p.Lattice q.1.toNat q.2.toNat) = true then 0 else 25) else 22) else 21) else goodC p.Lattice y) else goodC p.Lattice v) else (rulC p a b).2) else 7) else (polC p).2.2
def tyK (l : TL) (g : TY → Int) (L : List TY) (k : Nat) : Option Int := match L[k]? with | some t => if g t = 0 then none else some (g t) | none => none
theorem rel_May_eq {p : TP} (h : PolIn p) (a b : Int) (v y : TY) (pc ec : Int) : Fz68 p a b v y pc ec = some (mayC p a b v y pc ec) := by
 unfold Fz68 mayC
 rw [policy_Check_eq h, rel_labels_eq _ _ (by simp), policy_Rule_eq h]
 by_cases h0 : (polC p).2.2 = 0
 case neg => simp [h0]
 have hk := pol_lat h0
 simp only [Option.bind_some, h0, decide_true, Bool.not_true, cond_false, if_true]
 by_cases hl : labB p.Lattice a = true ∧ labB p.Lattice b = true ∧ labB p.Lattice pc = true ∧ labB p.Lattice ec = true
 case neg =>
  have : [a, b, pc, ec].all (labB p.Lattice) = false := by
   rw [Bool.eq_false_iff]
   intro q
   simp only [List.all_cons, List.all_nil, Bool.and_true, Bool.and_eq_true] at q
   exact hl q
  simp [this, hl]
 have hall : [a, b, pc, ec].all (labB p.Lattice) = true := by
  simp only [List.all_cons, List.all_nil, Bool.and_true, Bool.and_eq_true]; exact hl
 simp only [hall, Bool.not_true, cond_false, hl, and_self, if_true]
 by_cases h2 : (rulC p a b).2 = 0
 case neg => simp [h2]
 simp only [h2, decide_true, Bool.not_true, cond_false, if_true]
 refine (lp_scanSE 2 (fun k => (k : Int)) (tyK p.Lattice (goodC p.Lattice) [v, y]) () (fun k hk2 => ?_) (by simp) rfl).trans ?_
 · obtain ⟨x, hx⟩ := get_lt (l := [v, y]) (i := k) (by simpa using hk2)
   have hlt : (k : Int) < ((2 : Nat) : Int) := by omega
   have hw : IntKind.wrap .i64 ((k : Int) + 1) = ((k + 1 : Nat) : Int) := w64 (by omega) (by omega)
   have n1 : (0 : Int) ≤ (k : Int) := by omega
   simp only [hlt, decide_true, cond_true, sideO, n1, and_self, idxO, if_true, Int.toNat_natCast, hx, Option.bind_some, letO, hw, types_Check_eq h.lat, tyK]
   by_cases g : goodC p.Lattice x = 0 <;> simp [g]
 · have hs : scan (tyK p.Lattice (goodC p.Lattice) [v, y]) 0 2 = if goodC p.Lattice v = 0 then (if goodC p.Lattice y = 0 then none else some (goodC p.Lattice y)) else some (goodC p.Lattice v) := by
    by_cases g1 : goodC p.Lattice v = 0 <;> by_cases g2 : goodC p.Lattice y = 0 <;> simp [scan, tyK, g1, g2]
   rw [hs]
   by_cases g1 : goodC p.Lattice v = 0
   case neg => simp [g1]
   by_cases g2 : goodC p.Lattice y = 0
   case neg => simp [g1, g2]
   simp only [g1, g2, if_true]
   by_cases k1 : v.Kind = 1
   case neg => simp [k1]
   by_cases k2 : y.Kind = 1
   case neg => simp [k1, k2]
   by_cases r1 : v.Rank = 1
   case neg => simp [k1, k2, r1]
   by_cases r2 : y.Rank = 1
   case neg => simp [k1, k2, r1, r2]
   obtain ⟨a1, a2, a3⟩ := good_labs g1
   obtain ⟨b1, b2, b3⟩ := good_labs g2
   obtain ⟨l1, l2, l3, l4⟩ := hl
   simp only [k1, k2, r1, r2, decide_true, Bool.not_true, cond_false, and_self, if_true]
   rw [rel_flows_eq h.lat hk _ (by simp) (by
    intro f hf
    simp only [List.mem_cons, List.not_mem_nil, or_false] at hf
    rcases hf with rfl | rfl | rfl | rfl | rfl | rfl
    · exact ⟨a1, l1⟩
    · exact ⟨a3, l1⟩
    · exact ⟨l3, l2⟩
    · exact ⟨l4, l2⟩
    · exact ⟨l2, b1⟩
    · exact ⟨l2, b3⟩)]
   have e : ([TF.mk v.Axes.fst a, TF.mk v.Data a, TF.mk pc b, TF.mk ec b, TF.mk b y.Axes.fst, TF.mk b y.Data].all fun f => up p.Lattice f.low_.toNat f.high_.toNat) = (relFl a b v y pc ec).all fun q => up p.Lattice q.1.toNat q.2.toNat := rfl
   rw [e]
   cases (relFl a b v y pc ec).all fun q => up p.Lattice q.1.toNat q.2.toNat <;> rfl
end Go.Sx.O
namespace Go.Sx.O
open Go
theorem lat_joinB {l : TL} (h : LatIn l) (k : (latR l).2 = 0) {a b : Nat} (ha : a < l.Names.length) (hb : b < l.Names.length) : ∃ c, bnd (upN l) l.Names.length a b = some c ∧ c < l.Names.length ∧ upN l c = upN l a &&& upN l b := by
 have h2 := (lat_facts h k).2 a b ha hb
 unfold lacks at h2
 cases e : bnd (upN l) l.Names.length a b with
 | none => rw [e] at h2; simp at h2
 | some c => exact ⟨c, rfl, bnd_some e⟩
theorem ask2 {l : TL} (hk : (latR l).2 = 0) {a b : Int} (la : isLab l a = true) (lb : isLab l b = true) : askE l [a, b] = 0 := by
 unfold askE; rw [if_pos hk, List.all_cons, List.all_cons, la, lb]; rfl
theorem ref_Meet_spec {l : TL} (h : LatIn l) (hk : (latR l).2 = 0) {a b : Int} (la : isLab l a = true) (lb : isLab l b = true) :
 ∃ c : Nat, Fz80 l a b = some ((c : Int), 0) ∧ c < l.Names.length ∧ ∀ i, i < l.Names.length → up l i c = (up l i a.toNat && up l i b.toNat) := by
 have ok := lat_ok h hk
 have hle := ok.le
 obtain ⟨d, e1, dl, dd⟩ := downs_spec ok.u8 ok.le ok.len
 obtain ⟨a0, a1⟩ := lab_lt la
 obtain ⟨b0, b1⟩ := lab_lt lb
 obtain ⟨c, hc, hcn, hg⟩ := lat_meet h hk a1 b1
 refine ⟨c, ?_, hcn, fun i hi => meet_below hi hg⟩
 unfold Fz80 Fz79
 have hn := nearest_exact d (dnN l) a.toNat b.toNat (by omega) (fun c hc => dd c (by omega)) (fun c hc2 => dn_256 l c hle) (by omega) (by omega)
 rw [Int.toNat_of_nonneg a0, Int.toNat_of_nonneg b0] at hn
 rw [ref_asked_spec h, ask2 hk la lb, e1]
 simp only [Option.bind_some, hn, decide_true, Bool.not_true, cond_false]
 unfold bndI
 rw [dl, hc]
theorem ref_Join_spec {l : TL} (h : LatIn l) (hk : (latR l).2 = 0) {a b : Int} (la : isLab l a = true) (lb : isLab l b = true) :
 ∃ c : Nat, Fz83 l a b = some ((c : Int), 0) ∧ c < l.Names.length ∧ up l a.toNat c = true ∧ up l b.toNat c = true := by
 have ok := lat_ok h hk
 have hle := ok.le
 have hlen := ok.len
 obtain ⟨a0, a1⟩ := lab_lt la
 obtain ⟨b0, b1⟩ := lab_lt lb
 obtain ⟨c, hc, hcn, hg⟩ := lat_joinB h hk a1 b1
 have hcc := ok.self c hcn
 have hb2 : (upN l a.toNat &&& upN l b.toNat).testBit c = true := by rw [← hg]; exact hcc
 rw [Nat.testBit_and, Bool.and_eq_true] at hb2
 refine ⟨c, ?_, hcn, hb2.1, hb2.2⟩
 unfold Fz83 Fz82
 have hn := nearest_exact l.Up (upN l) a.toNat b.toNat (by omega) (fun c hc => upN_get ok.u8 (by omega)) (fun c hc2 => upN_lt ok.u8 (by omega)) (by omega) (by omega)
 rw [Int.toNat_of_nonneg a0, Int.toNat_of_nonneg b0] at hn
 rw [ref_asked_spec h, ask2 hk la lb]
 simp only [Option.bind_some, hn, decide_true, Bool.not_true, cond_false]
 unfold bndI
 rw [hlen, hc]
structure MayOK (p : TP) (a b : Int) (v y : TY) (pc ec : Int) : Prop where
 pol : (polC p).2.2 = 0
 la : labB p.Lattice a = true
 lb : labB p.Lattice b = true
 lpc : labB p.Lattice pc = true
 lec : labB p.Lattice ec = true
 rul : (rulC p a b).2 = 0
 gv : goodC p.Lattice v = 0
 gy : goodC p.Lattice y = 0
 kv : v.Kind = 1
 ky : y.Kind = 1
 rv : v.Rank = 1
 ry : y.Rank = 1
theorem mayC_val {p : TP} {a b : Int} {v y : TY} {pc ec : Int} (h : MayOK p a b v y pc ec) : mayC p a b v y pc ec = if (relFl a b v y pc ec).all (fun q => up p.Lattice q.1.toNat q.2.toNat) = true then 0 else 25 := by
 unfold mayC
 rw [if_pos h.pol, if_pos ⟨h.la, h.lb, h.lpc, h.lec⟩, if_pos h.rul, if_pos h.gv, if_pos h.gy, if_pos ⟨h.kv, h.ky⟩, if_pos ⟨h.rv, h.ry⟩]
theorem mayC_zero {p : TP} {a b : Int} {v y : TY} {pc ec : Int} (h : mayC p a b v y pc ec = 0) : MayOK p a b v y pc ec ∧ (relFl a b v y pc ec).all (fun q => up p.Lattice q.1.toNat q.2.toNat) = true := by
 unfold mayC at h
 split at h
 · split at h
   · split at h
     · split at h
       · split at h
         · split at h
           · split at h
             · split at h
               · rename_i q1 q2 q3 q4 q5 q6 q7 q8
                 exact ⟨⟨q1, q2.1, q2.2.1, q2.2.2.1, q2.2.2.2, q3, q4, q5, q6.1, q6.2, q7.1, q7.2⟩, q8⟩
               · cases h
             · cases h
           · cases h
         · rename_i q; exact absurd h q
       · rename_i q; exact absurd h q
     · rename_i q; exact absurd h q
   · cases h
 · rename_i q; exact absurd h q
theorem good1_mk {l : TL} {t : TY} (hk : (latR l).2 = 0) (k : t.Kind = 1) (r : t.Rank = 1) (l1 : labB l t.Axes.1 = true) (l2 : labB l t.Axes.2 = true) (l3 : labB l t.Data = true) (hb : t.Axes.2 = (botN l : Int)) (hu : up l t.Axes.1.toNat t.Data.toNat = true) : goodC l t = 0 := by
 unfold goodC restC
 rw [if_pos hk, if_pos (.inl k), if_neg (by omega), if_pos ⟨l1, l2, l3⟩, if_pos (by rw [r]; simp [hb]), if_pos (by rw [r]; simp [hu])]
theorem good1_of {l : TL} {t : TY} (h : goodC l t = 0) (r : t.Rank = 1) : t.Axes.2 = (botN l : Int) ∧ up l t.Axes.1.toNat t.Data.toNat = true := by
 unfold goodC at h
 split at h
 · split at h
   · unfold restC at h
     rw [if_neg (by omega)] at h
     split at h
     · split at h
       · split at h
         · rename_i q1 q2
           rw [r] at q1 q2
           simp at q1 q2
           exact ⟨q1, q2⟩
         · cases h
       · cases h
     · cases h
   · cases h
 · rename_i q; exact absurd h q
theorem natLab {l : TL} {c : Nat} (h : c < l.Names.length) : labB l (c : Int) = true := by
 unfold labB; simp; omega
theorem ReleaseLabels_W (p : TP) (x : Tinvigilatorlaw28_Types) (w1 : W_TP p) (_ : W_Tinvigilatorlaw28_Types x) : Fz84 p x = some true := by
 unfold Fz84
 obtain ⟨b, e, hb⟩ := Far_spec p (u8s_of w1.Lattice.Up)
 rw [e]
 cases b with
 | true => rfl
 | false =>
   have hp := hb rfl
   have hL := hp.lat
   simp only [Option.bind_some, cond_false, rel_May_eq hp, List.length_map]
   by_cases hm : mayC p x.From x.Goal x.V x.Y x.PC x.EC = 0
   case neg => simp [hm]
   by_cases c1 : x.Lower < 0
   · simp [hm, c1]
   by_cases c2 : (p.Lattice.Names.length : Int) ≤ x.Lower
   · simp [hm, c1, c2]
   by_cases c3 : x.Top < 0
   · simp [hm, c1, c2, c3]
   by_cases c4 : (p.Lattice.Names.length : Int) ≤ x.Top
   · simp [hm, c1, c2, c3, c4]
   obtain ⟨m, hfl⟩ := mayC_zero hm
   have hk := pol_lat m.pol
   have ok := lat_ok hL hk
   have hle := ok.le
   have hlen := ok.len
   have lLow : isLab p.Lattice x.Lower = true := by unfold isLab; simp; omega
   have lTop : isLab p.Lattice x.Top = true := by unfold isLab; simp; omega
   obtain ⟨v1, v2, v3⟩ := good_labs m.gv
   obtain ⟨y1, y2, y3⟩ := good_labs m.gy
   obtain ⟨vb, vu⟩ := good1_of m.gv m.rv
   obtain ⟨yb, yu⟩ := good1_of m.gy m.ry
   obtain ⟨e1, E1, n1, g1⟩ := ref_Meet_spec hL hk lLow m.lec
   obtain ⟨e2, E2, n2, g2⟩ := ref_Meet_spec hL hk lLow m.lpc
   obtain ⟨e3, E3, n3, g3⟩ := ref_Meet_spec hL hk lLow v1
   obtain ⟨e4, E4, n4, g4, _⟩ := ref_Join_spec hL hk y3 lTop
   simp only [relFl, List.all_cons, List.all_nil, Bool.and_true, Bool.and_eq_true] at hfl
   obtain ⟨f1, f2, f3, f4, f5, f6⟩ := hfl
   have d1 : up p.Lattice e1 x.EC.toNat = true := by have := g1 e1 n1; rw [ok.self e1 n1] at this; exact (Bool.and_eq_true _ _ ▸ this.symm).2
   have d2 : up p.Lattice e2 x.PC.toNat = true := by have := g2 e2 n2; rw [ok.self e2 n2] at this; exact (Bool.and_eq_true _ _ ▸ this.symm).2
   have d3 : up p.Lattice e3 x.V.Axes.1.toNat = true := by have := g3 e3 n3; rw [ok.self e3 n3] at this; exact (Bool.and_eq_true _ _ ▸ this.symm).2
   have tr : ∀ {a b c : Nat}, a < p.Lattice.Names.length → b < p.Lattice.Names.length → c < p.Lattice.Names.length → up p.Lattice a b = true → up p.Lattice b c = true → up p.Lattice a c = true := fun ha hb hc => up_trans ok ha hb hc
   have m2 : MayOK p x.From x.Goal (TY.mk x.V.Kind x.V.Rank ((e3 : Int), x.V.Axes.snd) x.V.Data) (TY.mk x.Y.Kind x.Y.Rank x.Y.Axes (e4 : Int)) (e2 : Int) (e1 : Int) := by
    refine ⟨m.pol, m.la, m.lb, natLab n2, natLab n1, m.rul, ?_, ?_, m.kv, m.ky, m.rv, m.ry⟩
    · exact good1_mk hk m.kv m.rv (natLab n3) v2 v3 vb (by simpa using tr n3 (lab_lt v1).2 (lab_lt v3).2 d3 vu)
    · exact good1_mk hk m.ky m.ry y1 y2 (natLab n4) yb (by simpa using tr (lab_lt y1).2 (lab_lt y3).2 n4 yu g4)
   have hm2 : mayC p x.From x.Goal (TY.mk x.V.Kind x.V.Rank ((e3 : Int), x.V.Axes.snd) x.V.Data) (TY.mk x.Y.Kind x.Y.Rank x.Y.Axes (e4 : Int)) (e2 : Int) (e1 : Int) = 0 := by
    rw [mayC_val m2, if_pos]
    simp only [relFl, List.all_cons, List.all_nil, Bool.and_true, Bool.and_eq_true, Int.toNat_natCast]
    exact ⟨tr n3 (lab_lt v1).2 (lab_lt m.la).2 d3 f1, f2, tr n2 (lab_lt m.lpc).2 (lab_lt m.lb).2 d2 f3, tr n1 (lab_lt m.lec).2 (lab_lt m.lb).2 d1 f4, f5, tr (lab_lt m.lb).2 (lab_lt y3).2 n4 f6 g4⟩
   simp only [hm, c1, c2, c3, c4, decide_true, decide_false, Bool.not_true, cond_false, Fz81, E1, E2, E3, E4, Option.bind_some, hm2]
   rw [lp_foldE (s0 := (0 : Int)) p.Lattice.Names.length (fun k => (k : Int)) () (fun k hk2 => ?_) (by simp) rfl]
   have hlt : (k : Int) < (p.Lattice.Names.length : Int) := by omega
   have hw : IntKind.wrap .i64 ((k : Int) + 1) = ((k + 1 : Nat) : Int) := w64 (by omega) (by omega)
   have m3 : MayOK p x.From x.Goal x.V x.Y x.PC (k : Int) := ⟨m.pol, m.la, m.lb, m.lpc, natLab hk2, m.rul, m.gv, m.gy, m.kv, m.ky, m.rv, m.ry⟩
   have hB := Below_spec ok.u8 (a := k) (b := x.Goal.toNat) (by omega) (by have := (lab_lt m.lb).2; omega)
   rw [Int.toNat_of_nonneg (lab_lt m.lb).1] at hB
   have hmv : mayC p x.From x.Goal x.V x.Y x.PC (k : Int) = if up p.Lattice k x.Goal.toNat = true then 0 else 25 := by
    rw [mayC_val m3]
    simp only [relFl, List.all_cons, List.all_nil, Bool.and_true, f1, f2, f3, f5, f6, Bool.true_and, Int.toNat_natCast]
   simp only [hlt, decide_true, cond_true, hB, Option.bind_some, hmv, letO, hw]
   cases up p.Lattice k x.Goal.toNat <;> simp
end Go.Sx.O
