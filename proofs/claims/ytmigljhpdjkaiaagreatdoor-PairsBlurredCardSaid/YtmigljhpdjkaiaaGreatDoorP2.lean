/-
  An own text of this claim.
-/
import Derived.Test.YtmigljhpdjkaiaaGreatDoorP1
namespace Go.Sx.O
open Go
def zak (ns : List (List UInt8)) (i : Nat) : Option (Int × Int) :=
 if zb3 (ns.getD i []) = true then (if ns.getD i [] ∈ ns.take i then some ((i : Int), 8) else none) else some ((i : Int), 6)
def jC (ns : List (List UInt8)) : Int × Int := if ns.length < 1 \/ 8 < ns.length then (-1, 3) else (zx (zak ns) 0 ns.length).getD (0, 0)
theorem jk {α : Type} {l : List α} {i : Nat} {d x : α} (h : l[i]? = some x) : l.getD i d = x := by rw [List.getD_eq_getElem?_getD, h]; rfl
theorem zxm (ns : List (List UInt8)) (h : ns.length <= 20) (hn : ∀ s ∈ ns, s.length <= 1000) : zi2 ns = some (jC ns) := by
 unfold zi2 jC
 simp only [List.length_map]
 by_cases h1 : ns.length < 1
 . have : (ns.length : Int) < 1 := by omega
   simp [h1, this]
 by_cases h2 : 8 < ns.length
 . have : (8 : Int) < ns.length := by omega
   have g1 : ¬ (ns.length : Int) < 1 := by omega
   simp [h2, this, g1]
 have g1 : ¬ (ns.length : Int) < 1 := by omega
 have g2 : ¬ (8 : Int) < ns.length := by omega
 simp only [g1, g2, h1, h2, decide_false, cond_false, or_self, if_false]
 rw [wu ns.length (zak ns) () (fun k hk => ?_) (by simp)]
 . cases zx (zak ns) 0 ns.length <;> rfl
 . obtain ⟨x, hx⟩ := zv (l := ns) (i := k) hk
   have hxl := hn x (List.mem_of_getElem? hx)
   simp only [Int.ofNat_lt, hk, decide_true, cond_true, zi, Int.toNat_natCast, hx, Option.bind_some, zg, Int.natCast_nonneg, if_true]
   rw [zkp x (by omega), jU _ _ (by simp; omega)]
   unfold zak
   rw [jk hx, w64 (by omega) (by omega)]
   cases e : zb3 x with
   | false => simp
   | true =>
     have hk' : k <= ns.length := by omega
     simp only [Option.bind_some, Bool.not_true, cond_false, Int.toNat_zero, List.drop_zero, if_true]
     by_cases hm : x ∈ ns.take k
     . simp [hm, zk, hk']
     . simp [hm, zk, hk']
theorem zg8 (c : UInt8) : Fz5 (c.toNat : Int) = some (decide (97 <= c.toNat) && decide (c.toNat <= 122)) := by
 unfold Fz5
 by_cases h : (97 : Int) <= c.toNat
 . have : 97 <= c.toNat := by omega
   simp only [h, this, decide_true, cond_true, Bool.true_and]
   congr 1
   rw [Bool.eq_iff_iff]; simp; omega
 . have : ¬ 97 <= c.toNat := by omega
   simp only [h, this, decide_false, cond_false, Bool.false_and]
theorem zr5 (c : UInt8) : Fz6 (c.toNat : Int) = some (decide (48 <= c.toNat) && decide (c.toNat <= 57)) := by
 unfold Fz6
 by_cases h : (48 : Int) <= c.toNat
 . have : 48 <= c.toNat := by omega
   simp only [h, this, decide_true, cond_true, Bool.true_and]
   congr 1
   rw [Bool.eq_iff_iff]; simp; omega
 . have : ¬ 48 <= c.toNat := by omega
   simp only [h, this, decide_false, cond_false, Bool.false_and]
theorem zvs (c : UInt8) : decide (c ∈ jj) = (decide (97 <= c.toNat) && decide (c.toNat <= 122) || (decide (48 <= c.toNat) && decide (c.toNat <= 57)) || decide (c.toNat = 45)) := by
 have key : ∀ n : Fin 256, decide (UInt8.ofNat n ∈ jj) = (decide (97 <= n.val) && decide (n.val <= 122) || (decide (48 <= n.val) && decide (n.val <= 57)) || decide (n.val = 45)) := by decide +kernel
 have := key ⟨c.toNat, c.toNat_lt⟩
 simpa using this
theorem zku (s : List UInt8) (h : s.length <= 1000000000) : Fz7 s = some (zb3 s) := by
 unfold Fz7
 cases s with
 | nil => rfl
 | cons a r =>
   have g1 : ¬ ((a :: r).length : Int) < 1 := by simp; omega
   simp only [g1, decide_false, cond_false]
   unfold zb3
   by_cases h1 : (16 : Int) < ((a :: r).length : Int)
   . have : ¬ (a :: r).length <= 16 := by omega
     simp only [h1, decide_true, cond_true, this, decide_false, Bool.false_and]
   have h1' : (a :: r).length <= 16 := by omega
   have e5 : zi (a :: r) 0 = fun f => (f a : Option Bool) := rfl
   simp only [h1, decide_false, cond_false, h1', decide_true, Bool.true_and, e5, zg8, Option.bind_some]
   cases e : (decide (97 <= a.toNat) && decide (a.toNat <= 122)) with
   | false => rfl
   | true =>
     simp only [Bool.not_true, cond_false, Bool.true_and]
     generalize a :: r = s at *
     rw [wu s.length (fun k => if decide (s.getD k 0 ∈ jj) = true then none else some false) () (fun k hk => ?_) (by simp)]
     . cases hs : zx (fun k => if decide (s.getD k 0 ∈ jj) = true then none else some false) 0 s.length with
       | none =>
         have := scan_none.1 hs
         simp only
         congr 1
         symm
         rw [List.all_eq_true]
         intro c hc
         obtain ⟨i, hi, rfl⟩ := List.getElem_of_mem hc
         have := this i (by omega) (by omega)
         rw [jk (List.getElem?_eq_getElem hi)] at this
         split at this
         . assumption
         . cases this
       | some b =>
         simp only
         congr 1
         have hall : ¬ s.all (fun c => decide (c ∈ jj)) = true := by
          intro hall
          rw [List.all_eq_true] at hall
          have : zx (fun k => if decide (s.getD k 0 ∈ jj) = true then none else some false) 0 s.length = none := scan_none.2 fun i _ hi => by
           have hi' : i < s.length := by omega
           rw [jk (List.getElem?_eq_getElem hi'), if_pos (hall _ (List.getElem_mem hi'))]
          rw [this] at hs; cases hs
         have hb : b = false := by
          have key : ∀ {j k : Nat}, zx (fun k => if decide (s.getD k 0 ∈ jj) = true then none else some false) k j = some b -> b = false := by
           intro j
           induction j with
           | zero => intro k h; cases h
           | succ j ih =>
             intro k h
             simp only [zx] at h
             split at h
             . rename_i r hr
               cases h
               split at hr
               . cases hr
               . cases hr; rfl
             . exact ih h
          exact key hs
         rw [hb]
         cases e : s.all (fun c => decide (c ∈ jj)) with
         | false => rfl
         | true => exact absurd e hall
     . obtain ⟨x, hx⟩ := zv (l := s) (i := k) hk
       simp only [Int.ofNat_lt, hk, decide_true, cond_true, zi, Int.toNat_natCast, hx, Option.bind_some, zg, Int.natCast_nonneg, if_true, zg8, zr5]
       rw [jk hx, w64 (by omega) (by omega), zvs]
       cases (decide (97 <= x.toNat) && decide (x.toNat <= 122)) with
       | true => simp
       | false =>
         cases (decide (48 <= x.toNat) && decide (x.toNat <= 57)) with
         | true => simp
         | false =>
           by_cases h45 : x.toNat = 45
           . simp [h45]
           . have : ¬ (x.toNat : Int) = 45 := by omega
             simp [h45, this]
theorem zl5 (ns : List (List UInt8)) (h : ns.length <= 20) (hn : ∀ s ∈ ns, s.length <= 1000) : Fz8 ns = some (jC ns) := by
 unfold Fz8 jC
 simp only [List.length_map]
 by_cases h1 : ns.length < 1
 . have : (ns.length : Int) < 1 := by omega
   simp [h1, this]
 by_cases h2 : 8 < ns.length
 . have : (8 : Int) < ns.length := by omega
   have g1 : ¬ (ns.length : Int) < 1 := by omega
   simp [h2, this, g1]
 have g1 : ¬ (ns.length : Int) < 1 := by omega
 have g2 : ¬ (8 : Int) < ns.length := by omega
 simp only [g1, g2, h1, h2, decide_false, cond_false, or_self, if_false]
 rw [wu ns.length (zak ns) () (fun k hk => ?_) (by simp)]
 . cases zx (zak ns) 0 ns.length <;> rfl
 . obtain ⟨x, hx⟩ := zv (l := ns) (i := k) hk
   have hxl := hn x (List.mem_of_getElem? hx)
   simp only [Int.ofNat_lt, hk, decide_true, cond_true, zi, Int.toNat_natCast, hx, Option.bind_some, Int.natCast_nonneg, if_true]
   rw [zku x (by omega)]
   unfold zak
   rw [jk hx]
   cases e : zb3 x with
   | false => simp
   | true =>
     simp only [Option.bind_some, Bool.not_true, cond_false, if_true]
     rw [wu k (fun j => if ns.getD j [] = x then some (.inr (.inr ((k : Int), (8 : Int)))) else none) () (fun j hj => ?_) (by simp)]
     . by_cases hm : x ∈ ns.take k
       . obtain ⟨j, hj, rfl⟩ := List.getElem_of_mem hm
         have hj' : j < k /\ j < ns.length := by simp at hj; omega
         cases hs : zx (fun i => if ns.getD i [] = (ns.take k)[j] then some ((.inr (.inr ((k : Int), (8 : Int)))) : Int ⊕ (Unit ⊕ (Int × Int))) else none) 0 k with
         | none =>
           have := scan_none.1 hs j (by omega) (by omega)
           rw [jk (List.getElem?_eq_getElem hj'.2)] at this
           simp at this
         | some b =>
           have : b = .inr (.inr ((k : Int), (8 : Int))) := uX (fun i => by split <;> simp) hs
           rw [this, if_pos hm]
       . have : zx (fun j => if ns.getD j [] = x then some ((.inr (.inr ((k : Int), (8 : Int)))) : Int ⊕ (Unit ⊕ (Int × Int))) else none) 0 k = none := scan_none.2 fun i _ hi => by
          have hi' : i < ns.length := by omega
          rw [jk (List.getElem?_eq_getElem hi'), if_neg]
          rintro rfl
          exact hm (List.mem_iff_getElem.2 ⟨i, by simp; omega, by simp⟩)
         rw [this]
         simp only [hm, if_false, zg]
         rw [w64 (by omega) (by omega)]
     . obtain ⟨y, hy⟩ := zv (l := ns) (i := j) (by omega)
       simp only [Int.ofNat_lt, hj, decide_true, cond_true, zi, Int.toNat_natCast, hy, Option.bind_some, zg, Int.natCast_nonneg, if_true, hx]
       rw [jk hy, w64 (by omega) (by omega)]
       by_cases hxy : y = x
       . simp [hxy]
       . simp [hxy]
open Go
def dn (l : TL) (b : Nat) : Nat -> Nat
 | 0 => 0
 | k + 1 => dn l b k ||| (if up l k b = true then 2 ^ k else 0)
theorem zn1 (l : TL) (b : Nat) : ∀ (k i : Nat), (dn l b k).testBit i = (decide (i < k) && up l i b)
 | 0, i => by simp [dn]
 | k + 1, i => by
   simp only [dn, Nat.testBit_or, zn1 l b k i]
   by_cases h : up l k b = true
   . simp only [h, if_true, Nat.testBit_two_pow]
     by_cases hik : i = k
     . subst hik; simp [h]
     . have h1 : ¬ k = i := fun e => hik e.symm
       have h2 : (i < k + 1) = (i < k) := by simp; omega
       simp [h1, h2]
   . simp only [h, if_false, Nat.zero_testBit, Bool.or_false]
     by_cases hik : i = k
     . subst hik; simp [h]
     . have h2 : (i < k + 1) = (i < k) := by simp; omega
       simp [h2]
theorem zyz (l : TL) (b : Nat) : ∀ k : Nat, dn l b k < 2 ^ k
 | 0 => by simp [dn]
 | k + 1 => by
   simp only [dn]
   refine Nat.or_lt_two_pow (Nat.lt_of_lt_of_le (zyz l b k) (Nat.pow_le_pow_right (by omega) (by omega))) ?_
   split
   . exact Nat.pow_lt_pow_right (by omega) (by omega)
   . exact Nat.two_pow_pos _
theorem zg6 (l : TL) (b : Nat) {k : Nat} (h : k <= 8) : dn l b k < 256 := Nat.lt_of_lt_of_le (zyz l b k) (Nat.pow_le_pow_right (n := 2) (by omega) h)
theorem zqw {c : Bool} {k : Nat} (h : k < 8) : IntKind.wrap .u8 ((if c = true then (1 : Int) else 0) * 2 ^ min k (IntKind.bits .u8)) = ((if c = true then 2 ^ k else 0 : Nat) : Int) := by
 have key : ∀ (c : Bool) (k : Fin 8), IntKind.wrap .u8 ((if c = true then (1 : Int) else 0) * 2 ^ min k.val (IntKind.bits .u8)) = ((if c = true then 2 ^ k.val else 0 : Nat) : Int) := by decide +kernel
 exact key c ⟨k, h⟩
theorem zuc {a b : Nat} (ha : a < 256) (hb : b < 256) : bits .or .u8 (a : Int) (b : Int) = ((a ||| b : Nat) : Int) := by
 rw [zqv (by omega) (by omega) (by omega) (by omega)]; rfl
theorem zpv {a b : Nat} (ha : a < 256) (hb : b < 256) : bits .and .u8 (a : Int) (b : Int) = ((a &&& b : Nat) : Int) := by
 rw [zcb (by omega) (by omega) (by omega) (by omega)]; rfl
theorem zDt {c : Bool} {k : Nat} (h : k < 8) : (if c = true then 2 ^ k else 0) < 256 := by
 split
 . exact Nat.lt_of_lt_of_le (Nat.pow_lt_pow_right (a := 2) (by omega) h) (by omega)
 . omega
theorem zi3 {α : Type} {l : List α} {i j : Nat} {x : α} (h : i < l.length) : (l.set i x)[j]? = if i = j then some x else l[j]? := by
 rw [List.getElem?_set]
 split
 . simp [h]
 . rfl
theorem znc (l : TL) (hu : U8s l.Up) (hn : l.Names.length <= 8) (hl : l.Up.length = l.Names.length) :
 Tot (zf6 l) fun o => o.n_ = l.Names.length /\ o.up_.length = 8 /\ o.down_.length = 8 /\ (∀ j, j < l.Names.length -> o.up_[j]? = l.Up[j]?) /\ ∀ b, b < l.Names.length -> o.down_[b]? = some (dn l b l.Names.length : Int) := by
 unfold zf6
 simp only [zw, List.length_map]
 refine Tot.count l.Up.length (fun k s => s.1 = (k : Int) /\ s.2.1.length = 8 /\ s.2.2.length = 8 /\ (∀ j, j < k -> s.2.1[j]? = l.Up[j]?) /\ ∀ b, b < l.Names.length -> s.2.2[b]? = some (dn l b k : Int)) ?_ ⟨rfl, rfl, rfl, fun j hj => absurd hj (by omega), fun b hb => ?_⟩
 . rintro k ⟨i, up', down⟩ hk ⟨h0, h1, h2, h3, h4⟩
   simp only at h0 h1 h2 h3 h4
   subst h0
   simp only [zo, zF, qa, qk, qF, zw, Sum.elim_inl, Sum.elim_inr, decide_eq_true_eq, decide_eq_false_iff_not, Int.toNat_natCast]
   refine ⟨fun hlt => ?_, fun hlt => ?_⟩
   . obtain ⟨x, hx⟩ := zv (l := l.Up) (i := k) (by omega)
     obtain ⟨y, hy⟩ := zv (l := up') (i := k) (by omega)
     refine ⟨by omega, x, hx, ⟨by omega, by omega⟩, by omega, y, hy, ?_⟩
     have hx' := hu.get hx
     refine Tot.count l.Names.length (fun j s => s.1 = (j : Int) /\ s.2.length = 8 /\ ∀ b, b < l.Names.length -> s.2[b]? = some (dn l b (if b < j then k + 1 else k) : Int)) ?_ ⟨rfl, h2, fun b hb => by simpa using h4 b hb⟩
     rintro j ⟨i', d⟩ hj ⟨g0, g1, g2⟩
     simp only at g0 g1 g2
     subst g0
     simp only [zo, zF, qa, qk, qF, zw, Sum.elim_inl, Sum.elim_inr, decide_eq_true_eq, decide_eq_false_iff_not, Int.toNat_natCast]
     refine ⟨fun hlt' => ?_, fun hlt' => ?_⟩
     . have hz := g2 j (by omega)
       rw [if_neg (by omega)] at hz
       rw [w64 (by omega) (by omega)]
       refine ⟨⟨by omega, by omega⟩, by omega, _, hz, by omega, by omega, ⟨by omega, by omega⟩, by omega, _, hz, by omega, by omega, by simpa using g1, fun b hb => ?_⟩
       rw [zi3 (by omega)]
       by_cases hjb : j = b
       . subst hjb
         rw [if_pos rfl, if_pos (by omega), zch hx'.1 hx'.2 (by omega), <- jF hx, zqw (by omega), zuc (zg6 l j (by omega)) (zDt (by omega))]
         rfl
       . rw [if_neg hjb, g2 b hb]
         have : (b < j + 1) = (b < j) := by simp; omega
         simp only [this]
     . rw [w64 (by omega) (by omega)]
       refine ⟨by omega, by omega, by simpa using h1, g1, fun q hq => ?_, fun b hb => ?_⟩
       . rw [zi3 (by omega)]
         by_cases hkq : k = q
         . subst hkq; rw [if_pos rfl, hx]
         . rw [if_neg hkq]; exact h3 q (by omega)
       . rw [g2 b hb, if_pos (by omega)]
   . have hkn : k = l.Names.length := by omega
     subst hkn
     exact ⟨trivial, h1, h2, h3, h4⟩
 . have h8 : ∀ b : Fin 8, ([0, 0, 0, 0, 0, 0, 0, 0] : List Int)[b.val]? = some 0 := by decide
   exact h8 ⟨b, by omega⟩
theorem yp {ρ : Type} {p : Prop} [Decidable p] {x : Option ρ} (h : p) : zk p x = x := by unfold zk; rw [if_pos h]
def bnd (g : Nat -> Nat) (n a b : Nat) : Option Nat := zx (fun c => if g c = g a &&& g b then some c else none) 0 n
def zdc (g : Nat -> Nat) (n a b : Nat) : Int := match bnd g n a b with | some c => c | none => -1
theorem zfd (m : List Int) (g : Nat -> Nat) (n a b : Nat) (hn : n <= 8) (hg : ∀ c, c < n -> m[c]? = some (g c : Int)) (hg8 : ∀ c, c < n -> g c < 256) (hs : ∀ c, c < n -> (g c).testBit c = true) (ha : a < n) (hb : b < n) :
 zjg m n a b = some (zdc g n a b) := by
 unfold zjg zdc bnd
 have s1 : ((0 : Int) <= (a : Int) /\ (a : Int) < ((8 : Nat) : Int)) := by omega
 have s2 : ((0 : Int) <= (b : Int) /\ (b : Int) < ((8 : Nat) : Int)) := by omega
 simp only [yp s1, yp s2]
 simp only [zi, Int.toNat_natCast, Int.natCast_nonneg, if_true, hg a ha, hg b hb, Option.bind_some, zpv (hg8 a ha) (hg8 b hb)]
 have h8 : g a &&& g b < 256 := zdw (hg8 a ha)
 generalize g a &&& g b = both at *
 rw [wu n (fun c => if g c = both then some (c : Int) else none) () (fun c hc => ?_) (by simp)]
 . have e : (fun c => if g c = both then some (c : Int) else none) = fun c => (if g c = both then some c else none).map (fun c : Nat => (c : Int)) := by
    funext c; split <;> rfl
   rw [e, jO]
   cases zx (fun c => if g c = both then some c else none) 0 n <;> rfl
 . have s3 : ((0 : Int) <= (c : Int) /\ (c : Int) < ((8 : Nat) : Int)) := by omega
   simp only [yp s3]
   simp only [Int.ofNat_lt, hc, decide_true, cond_true, zk, Int.natCast_nonneg, if_true, hg c hc, Option.bind_some, zg]
   rw [w64 (by omega) (by omega), zch (by omega) (by omega) (by omega)]
   simp only [Int.toNat_natCast]
   by_cases hbc : both.testBit c = true
   . simp only [hbc, if_true, decide_true, cond_true]
     rw [hg c hc]
     by_cases hgc : g c = both
     . simp [hgc]
     . have : ¬ (g c : Int) = (both : Int) := by omega
       simp [hgc, this]
   . have : g c ≠ both := fun e => hbc (e ▸ hs c hc)
     simp [hbc, this]
theorem uk (m : List Int) (g : Nat -> Nat) (a b : Nat) (hn : m.length <= 8) (hg : ∀ c, c < m.length -> m[c]? = some (g c : Int)) (hg8 : ∀ c, c < m.length -> g c < 256) (ha : a < m.length) (hb : b < m.length) :
 ziw m a b = some (zdc g m.length a b) := by
 unfold ziw zdc bnd
 simp only [zi, Int.toNat_natCast, Int.natCast_nonneg, if_true, hg a ha, hg b hb, Option.bind_some, zpv (hg8 a ha) (hg8 b hb), List.length_map]
 have h8 : g a &&& g b < 256 := zdw (hg8 a ha)
 generalize g a &&& g b = both at *
 rw [wu m.length (fun c => if g c = both then some (c : Int) else none) () (fun c hc => ?_) (by simp)]
 . have e : (fun c => if g c = both then some (c : Int) else none) = fun c => (if g c = both then some c else none).map (fun c : Nat => (c : Int)) := by
    funext c; split <;> rfl
   rw [e, jO]
   cases zx (fun c => if g c = both then some c else none) 0 m.length <;> rfl
 . simp only [Int.ofNat_lt, hc, decide_true, cond_true, hg c hc, Option.bind_some, zg]
   rw [w64 (by omega) (by omega), Int.toNat_natCast, if_pos (by omega), hg c hc]
   by_cases hgc : g c = both
   . simp [hgc]
   . have : ¬ (g c : Int) = (both : Int) := by omega
     simp [hgc, this]
open Go
def upN (l : TL) (a : Nat) : Nat := (l.Up.getD a 0).toNat
def zf7 (l : TL) (a b : Nat) : Bool := !up l a b || ((decide (b = a) || !up l b a) && (List.range l.Names.length).all fun i => !up l b i || up l a i)
def xc (l : TL) (a : Nat) : Bool := decide (upN l a < 2 ^ l.Names.length) && up l a a && (List.range l.Names.length).all fun b => zf7 l a b
def dnN (l : TL) (b : Nat) : Nat := dn l b l.Names.length
def wL (l : TL) (a b : Nat) : Bool := (bnd (upN l) l.Names.length a b).isNone || (bnd (dnN l) l.Names.length a b).isNone
def zgv (l : TL) : Int × Int :=
 if (jC l.Names).2 = 0 then
  if l.Up.length = l.Names.length then
   match zx (fun a => if xc l a = true then none else some ((a : Int), (6 : Int))) 0 l.Names.length with
   | some r => r
   | none => (zx (fun a => zx (fun b => if wL l a b = true then some ((a : Int), (4 : Int)) else none) 0 l.Names.length) 0 l.Names.length).getD (0, 0)
  else (-1, 6)
 else jC l.Names
theorem zp2 {α : Type} {p : Nat -> Bool} {v : α} : ∀ {j k : Nat}, zx (fun i => if p i = true then none else some v) k j = if (List.range j).all (fun i => p (k + i)) = true then none else some v
 | 0, _ => by simp [zx]
 | j + 1, k => by
   simp only [zx, zp2 (j := j) (k := k + 1)]
   have e : (List.range (j + 1)).all (fun i => p (k + i)) = (p k && (List.range j).all fun i => p (k + 1 + i)) := by
    rw [List.range_succ_eq_map, List.all_cons, List.all_map]
    congr 1
    congr 1
    funext i
    simp only [Function.comp]
    congr 1; omega
   rw [e]
   cases p k <;> simp
theorem zj6 {α : Type} {p : Nat -> Bool} {u v : α} {n : Nat} : ∀ {j k : Nat}, k + j = n -> 0 < j -> zx (fun i => if p i = true then (if i + 1 = n then some u else none) else some v) k j = some (if (List.range j).all (fun i => p (k + i)) = true then u else v)
 | 0, _, _, h => by omega
 | j + 1, k, hk, _ => by
   have e : (List.range (j + 1)).all (fun i => p (k + i)) = (p k && (List.range j).all fun i => p (k + 1 + i)) := by
    rw [List.range_succ_eq_map, List.all_cons, List.all_map]
    congr 1
    congr 1
    funext i
    simp only [Function.comp]
    congr 1; omega
   rw [e]
   simp only [zx]
   cases hp : p k with
   | false => simp
   | true =>
     simp only [if_true, Bool.true_and]
     by_cases hj : j = 0
     . subst hj
       have : k + 1 = n := by omega
       simp [this]
     . have : ¬ k + 1 = n := by omega
       simp only [this, if_false]
       exact zj6 (by omega) (by omega)
theorem ztc (x : Int) (h0 : 0 <= x) (h1 : x < 256) : Tot (zjc x) fun y => ∀ n : Nat, n <= 8 -> decide ((n : Int) < y) = !decide (x.toNat < 2 ^ n) := by
 unfold zjc
 rw [qk]
 refine ⟨h0, ?_⟩
 have key : ∀ l : List UInt8, (∀ x : Fin 256, ∀ n : Fin 9, (l[x.val]?.map fun y => decide ((n.val : Int) < IntKind.wrap .i64 (y.toNat : Int))) = some (!decide (x.val < 2 ^ n.val))) ->
  ∃ y, l[x.toNat]? = some y /\ Tot (zg (IntKind.wrap .i64 (y.toNat : Int)) fun z => some z) fun y => ∀ n : Nat, n <= 8 -> decide ((n : Int) < y) = !decide (x.toNat < 2 ^ n) := by
  intro l hl
  cases e : l[x.toNat]? with
  | none =>
    have := hl ⟨x.toNat, by omega⟩ ⟨0, by omega⟩
    simp only [e] at this
    cases this
  | some y =>
    refine ⟨y, rfl, .mk fun n hn => ?_⟩
    have := hl ⟨x.toNat, by omega⟩ ⟨n, by omega⟩
    simp only [e] at this
    exact Option.some.inj this
 exact key _ (by decide +kernel)
theorem xh {l : TL} (hu : U8s l.Up) {a b : Nat} (ha : a < l.Up.length) (hb : b <= 8) : Fz9 l a b = some (up l a b) := by
 unfold Fz9
 obtain ⟨x, hx⟩ := zv ha
 have hx' := hu.get hx
 have key : ∀ u : Fin 256, ∀ b : Fin 9, decide (Int.tmod (Int.fdiv (u.val : Int) (2 ^ min b.val (IntKind.bits .u8))) 2 = 1) = Nat.testBit u b := by decide +kernel
 have := key ⟨x.toNat, by omega⟩ ⟨b, by omega⟩
 simp only [Int.toNat_of_nonneg hx'.1] at this
 simp only [List.length_map, Int.natCast_nonneg, decide_true, cond_true, Int.ofNat_lt, ha, zi, Int.toNat_natCast, if_true, hx, Option.bind_some, zk, this, jF hx]
theorem zdg {n : Nat} (h : n < 1000000) : IntKind.wrap .i64 (n : Int) = n := w64 (by omega) (by omega)
theorem zqb (n : Nat) : BitVec.ofInt 64 (n : Int) = BitVec.ofNat 64 n := BitVec.ofInt_natCast 64 n
theorem zqu {a b : Nat} (ha : a < 1000000) (hb : b < 1000000) : bits .and .i64 (a : Int) (b : Int) = ((a &&& b : Nat) : Int) := by
 have e : bits .and .i64 (a : Int) (b : Int) = IntKind.wrap .i64 ((BitVec.ofInt 64 (a : Int) &&& BitVec.ofInt 64 (b : Int)).toNat : Int) := rfl
 rw [e, zqb, zqb, BitVec.toNat_and, BitVec.toNat_ofNat, BitVec.toNat_ofNat, Nat.mod_eq_of_lt (by omega), Nat.mod_eq_of_lt (by omega)]
 exact zdg (Nat.lt_of_le_of_lt Nat.and_le_left ha)
theorem zwv {x y n : Nat} : ((y &&& (2 ^ n - 1)) &&& x = y &&& (2 ^ n - 1)) ↔ ((List.range n).all fun i => !y.testBit i || x.testBit i) = true := by
 rw [List.all_eq_true]
 constructor
 . intro h i hi
   have hi' : i < n := by simpa using hi
   have := congrArg (fun z => z.testBit i) h
   simp only [Nat.testBit_and, Nat.testBit_two_pow_sub_one, hi', decide_true, Bool.and_true] at this
   cases e : y.testBit i with
   | false => rfl
   | true => rw [e] at this; simpa using this
 . intro h
   apply Nat.eq_of_testBit_eq
   intro i
   simp only [Nat.testBit_and, Nat.testBit_two_pow_sub_one]
   by_cases hi : i < n
   . have := h i (by simpa using hi)
     simp only [hi, decide_true, Bool.and_true]
     cases e : y.testBit i with
     | false => rfl
     | true => rw [e] at this; simpa using this
   . simp [hi]
open Go
theorem zvy {l : TL} {a : Nat} {x : Int} (h : l.Up[a]? = some x) : upN l a = x.toNat := by unfold upN; rw [jk h]
theorem zej {l : TL} {a b : Nat} : (upN l a).testBit b = up l a b := rfl
theorem zbl {l : TL} (hu : U8s l.Up) {a : Nat} (ha : a < l.Up.length) : upN l a < 256 := by
 obtain ⟨x, hx⟩ := zv ha
 have := hu.get hx
 rw [zvy hx]; omega
theorem uN {l : TL} (hu : U8s l.Up) {a : Nat} (ha : a < l.Up.length) : l.Up[a]? = some (upN l a : Int) := by
 obtain ⟨x, hx⟩ := zv ha
 have := hu.get hx
 rw [hx, zvy hx, Int.toNat_of_nonneg this.1]
theorem zob {l : TL} (hu : U8s l.Up) (h8 : l.Names.length <= 8) (hl : l.Up.length = l.Names.length) {a : Nat} (ha : a < l.Names.length) : zry l a = some (xc l a) := by
 unfold zry xc
 have g0 : ((0 : Int) <= (l.Names.length : Int)) := by omega
 have hb := fun b (hb : b < l.Names.length) => xh hu (a := a) (b := b) (by omega) (by omega)
 have hxa := uN hu (a := a) (by omega)
 have hlt := zbl hu (a := a) (by omega)
 have sh : decide ((0 : Int) < Int.fdiv (upN l a : Int) (2 ^ min l.Names.length (IntKind.bits .i64))) = !decide (upN l a < 2 ^ l.Names.length) := by
  have key : ∀ u : Fin 256, ∀ n : Fin 9, decide ((0 : Int) < Int.fdiv (u.val : Int) (2 ^ min n.val (IntKind.bits .i64))) = !decide (u.val < 2 ^ n.val) := by decide +kernel
  exact key ⟨upN l a, hlt⟩ ⟨l.Names.length, by omega⟩
 have mk : IntKind.wrap .i64 (IntKind.wrap .i64 (1 * 2 ^ min l.Names.length (IntKind.bits .i64)) - 1) = ((2 ^ l.Names.length - 1 : Nat) : Int) := by
  have key : ∀ n : Fin 9, IntKind.wrap .i64 (IntKind.wrap .i64 (1 * 2 ^ min n.val (IntKind.bits .i64)) - 1) = ((2 ^ n.val - 1 : Nat) : Int) := by decide +kernel
  exact key ⟨l.Names.length, by omega⟩
 have mk' : 2 ^ l.Names.length - 1 < 1000000 := by
  have : 2 ^ l.Names.length <= 2 ^ 8 := Nat.pow_le_pow_right (by omega) h8
  omega
 simp only [List.length_map, yp g0, Int.toNat_natCast]
 simp only [zi, Int.toNat_natCast, Int.natCast_nonneg, if_true, hxa, Option.bind_some, zg]
 rw [zdg (by omega), sh, hb a ha, mk]
 cases e1 : decide (upN l a < 2 ^ l.Names.length) with
 | false => simp
 | true =>
   simp only [Bool.not_true, cond_false, Bool.true_and, Option.bind_some]
   cases e2 : up l a a with
   | false => simp
   | true =>
     simp only [Bool.not_true, cond_false, Bool.true_and]
     rw [wu l.Names.length (fun b => if zf7 l a b = true then none else some false) () (fun b hbn => ?_) (by simp)]
     . rw [zp2]
       simp only [Nat.zero_add]
       cases (List.range l.Names.length).all fun b => zf7 l a b <;> rfl
     . have hxb := uN hu (a := b) (by omega)
       have hltb := zbl hu (a := b) (by omega)
       simp only [Int.ofNat_lt, hbn, decide_true, cond_true, Option.bind_some, Int.toNat_natCast, hxb]
       rw [hb b hbn, zdg (n := upN l b) (by omega), zqu (by omega) mk', w64 (by omega) (by omega), xh hu (by omega) (by omega)]
       have hand : upN l b &&& (2 ^ l.Names.length - 1) < 1000000 := Nat.lt_of_le_of_lt Nat.and_le_left (by omega)
       rw [zqu hand (by omega)]
       have hsub := zwv (x := upN l a) (y := upN l b) (n := l.Names.length)
       simp only [zej] at hsub
       have hsub' : decide ((((upN l b &&& (2 ^ l.Names.length - 1)) &&& upN l a : Nat) : Int) = ((upN l b &&& (2 ^ l.Names.length - 1) : Nat) : Int)) = (List.range l.Names.length).all fun i => !up l b i || up l a i := by
        rw [Bool.eq_iff_iff, <- hsub, decide_eq_true_eq]; omega
       rw [hsub']
       unfold zf7
       cases e3 : up l a b with
       | false => simp
       | true =>
         simp only [Option.bind_some, Bool.not_true, cond_false, Bool.false_or]
         by_cases hba : b = a
         . subst hba
           simp only [decide_true, Bool.not_true, cond_false, Bool.true_or, Bool.true_and]
           cases (List.range l.Names.length).all fun i => !up l b i || up l b i <;> simp
         . have : ¬ (b : Int) = (a : Int) := by omega
           simp only [this, hba, decide_false, Bool.not_false, cond_true, Bool.false_or]
           cases up l b a with
           | true => simp
           | false =>
             cases (List.range l.Names.length).all fun i => !up l b i || up l a i <;> simp
theorem zhy {l : TL} (hu : U8s l.Up) (h8 : l.Names.length <= 8) (hl : l.Up.length = l.Names.length) : Tot (zm7 l) fun d => d.length = l.Names.length /\ ∀ b, b < l.Names.length -> d[b]? = some (dnN l b : Int) := by
 unfold zm7
 simp only [zw, qF, List.length_map, Int.toNat_natCast]
 refine ⟨⟨by omega, trivial, by omega, by omega⟩, ?_⟩
 refine Tot.count l.Names.length (fun k s => s.1 = (k : Int) /\ s.2.length = l.Names.length /\ ∀ b, b < l.Names.length -> s.2[b]? = some (dn l b k : Int)) ?_ ⟨rfl, by simp, fun b hb => ?_⟩
 . rintro k ⟨i, down⟩ hk ⟨h0, h2, h4⟩
   simp only at h0 h2 h4
   subst h0
   simp only [zo, zF, qa, qk, qF, zw, Sum.elim_inl, Sum.elim_inr, decide_eq_true_eq, decide_eq_false_iff_not, Int.toNat_natCast]
   refine ⟨fun hlt => ?_, fun hlt => ?_⟩
   . refine Tot.count l.Names.length (fun j s => s.1 = (j : Int) /\ s.2.length = l.Names.length /\ ∀ b, b < l.Names.length -> s.2[b]? = some (dn l b (if b < j then k + 1 else k) : Int)) ?_ ⟨rfl, h2, fun b hb => by simpa using h4 b hb⟩
     rintro j ⟨i', d⟩ hj ⟨g0, g1, g2⟩
     simp only at g0 g1 g2
     subst g0
     simp only [zo, zF, qa, qk, qF, zw, Sum.elim_inl, Sum.elim_inr, decide_eq_true_eq, decide_eq_false_iff_not, Int.toNat_natCast]
     refine ⟨fun hlt' => ?_, fun hlt' => ?_⟩
     . rw [xh hu (by omega) (by omega), zo]
       have hz := g2 j (by omega)
       rw [if_neg (by omega)] at hz
       rw [w64 (by omega) (by omega)]
       refine ⟨fun hup => ⟨⟨by omega, by simp; omega⟩, by omega, _, hz, by omega, ⟨by omega, by simp; omega⟩, by omega, _, hz, by omega, by omega, by simpa using g1, fun b hb => ?_⟩, fun hup => ⟨by omega, by omega, g1, fun b hb => ?_⟩⟩
       . have hsh := zqw (c := true) (k := k) (by omega)
         simp only [if_true] at hsh
         rw [zi3 (by omega), hsh]
         by_cases hjb : j = b
         . subst hjb
           have hp : 2 ^ k < 256 := Nat.lt_of_lt_of_le (Nat.pow_lt_pow_right (a := 2) (by omega) (show k < 8 by omega)) (by omega)
           rw [if_pos rfl, if_pos (by omega), zuc (zg6 l j (by omega)) hp]
           simp [dn, hup]
         . rw [if_neg hjb, g2 b hb]
           have : (b < j + 1) = (b < j) := by simp; omega
           simp only [this]
       . rw [g2 b hb]
         by_cases hjb : j = b
         . subst hjb
           rw [if_neg (by omega), if_pos (by omega)]
           simp [dn, hup]
         . have : (b < j + 1) = (b < j) := by simp; omega
           simp only [this]
     . rw [w64 (by omega) (by omega)]
       refine ⟨by omega, by omega, g1, fun b hb => ?_⟩
       rw [g2 b hb, if_pos (by omega)]
   . have hkn : k = l.Names.length := by omega
     subst hkn
     exact ⟨h2, h4⟩
 . rw [List.getElem?_replicate, if_pos hb]; rfl
open Go
theorem zoj (g : Nat -> Nat) (n a b : Nat) : decide (zdc g n a b < 0) = (bnd g n a b).isNone := by
 unfold zdc
 cases bnd g n a b with
 | none => rfl
 | some c => simp
theorem zvi {l : TL} (h8 : l.Names.length <= 8) (b : Nat) : dnN l b < 256 := zg6 l b h8
theorem zae (l : TL) (hu : U8s l.Up) (hn : l.Names.length <= 20) (hs : ∀ s ∈ l.Names, s.length <= 1000) : ziy l = some (zgv l) := by
 unfold ziy zgv
 rw [zl5 _ hn hs]
 simp only [Option.bind_some, List.length_map]
 by_cases h0 : (jC l.Names).2 = 0
 case neg => simp [h0]
 simp only [h0, decide_true, Bool.not_true, cond_false, if_true]
 by_cases hlen : l.Up.length = l.Names.length
 case neg =>
  have : ¬ (l.Up.length : Int) = l.Names.length := by omega
  simp [hlen, this]
 have h8 : l.Names.length <= 8 := by
  unfold jC at h0
  split at h0
  . cases h0
  . omega
 simp only [hlen, decide_true, Bool.not_true, cond_false, if_true]
 rw [wu l.Names.length (fun a => if xc l a = true then none else some ((a : Int), (6 : Int))) () (fun a ha => ?_) (by simp)]
 . cases h1 : zx (fun a => if xc l a = true then none else some ((a : Int), (6 : Int))) 0 l.Names.length with
   | some r => rfl
   | none =>
     simp only
     obtain ⟨d, ed, hdl, hd⟩ := zhy hu h8 hlen
     rw [ed, Option.bind_some]
     rw [wu l.Names.length (fun a => zx (fun b => if wL l a b = true then some ((a : Int), (4 : Int)) else none) 0 l.Names.length) () (fun a ha => ?_) (by simp)]
     . cases zx (fun a => zx (fun b => if wL l a b = true then some ((a : Int), (4 : Int)) else none) 0 l.Names.length) 0 l.Names.length <;> rfl
     . simp only [Int.ofNat_lt, ha, decide_true, cond_true]
       rw [wu l.Names.length (fun b => if wL l a b = true then some (.inr (.inr ((a : Int), (4 : Int)))) else none) () (fun b hb => ?_) (by simp)]
       . have e : (fun b => if wL l a b = true then some (Sum.inr (Sum.inr ((a : Int), (4 : Int))) : Int ⊕ (Unit ⊕ (Int × Int))) else none) = fun b => (if wL l a b = true then some ((a : Int), (4 : Int)) else none).map fun v => .inr (.inr v) := by
          funext b; split <;> rfl
         rw [e, jO]
         cases zx (fun b => if wL l a b = true then some ((a : Int), (4 : Int)) else none) 0 l.Names.length with
         | some r => rfl
         | none =>
           simp only [Option.map_none, zg]
           rw [w64 (by omega) (by omega)]
       . simp only [Int.ofNat_lt, hb, decide_true, cond_true]
         have n1 := uk l.Up (upN l) a b (by omega) (fun c hc => uN hu hc) (fun c hc => zbl hu hc) (by omega) (by omega)
         have n2 := uk d (dnN l) a b (by omega) (fun c hc => hd c (by omega)) (fun c hc => zvi h8 c) (by omega) (by omega)
         rw [hlen] at n1
         rw [hdl] at n2
         rw [n1, n2]
         simp only [Option.bind_some, zoj, zg]
         rw [w64 (by omega) (by omega)]
         unfold wL
         cases (bnd (upN l) l.Names.length a b).isNone with
         | true => simp
         | false => cases (bnd (dnN l) l.Names.length a b).isNone <;> simp
 . simp only [Int.ofNat_lt, ha, decide_true, cond_true]
   rw [zob hu h8 hlen ha]
   simp only [Option.bind_some, zg]
   rw [w64 (by omega) (by omega)]
   cases xc l a <;> simp
open Go
theorem zpc (l : TL) (hu : U8s l.Up) (hn : l.Names.length <= 20) (hs : ∀ s ∈ l.Names, s.length <= 1000) : zaa l = some (zgv l) := by
 unfold zaa zgv
 rw [zxm _ hn hs]
 simp only [Option.bind_some, List.length_map]
 by_cases h0 : (jC l.Names).2 = 0
 case neg => simp [h0]
 simp only [h0, decide_true, Bool.not_true, cond_false, if_true]
 by_cases hlen : l.Up.length = l.Names.length
 case neg =>
  have : ¬ (l.Up.length : Int) = l.Names.length := by omega
  simp [hlen, this]
 have h8 : 1 <= l.Names.length /\ l.Names.length <= 8 := by
  unfold jC at h0
  split at h0
  . cases h0
  . omega
 obtain ⟨h1, h8⟩ := h8
 have g0 : ((0 : Int) <= (l.Names.length : Int)) := by omega
 simp only [hlen, decide_true, Bool.not_true, cond_false, if_true, yp g0, zg, Int.toNat_natCast]
 have hmask := znp l.Names.length h8
 have hm0 := znk (e := IntKind.wrap .u8 (1 * 2 ^ min l.Names.length (IntKind.bits .u8)) - 1)
 rw [wu l.Names.length (fun a => if xc l a = true then none else some ((a : Int), (6 : Int))) () (fun a ha => ?_) (by simp)]
 . cases h1 : zx (fun a => if xc l a = true then none else some ((a : Int), (6 : Int))) 0 l.Names.length with
   | some r => rfl
   | none =>
     simp only
     have hself : ∀ a, a < l.Names.length -> up l a a = true := by
      intro a ha
      have := scan_none.1 h1 a (by omega) (by omega)
      split at this
      . rename_i h
        unfold xc at h
        simp only [Bool.and_eq_true] at h
        exact h.1.2
      . cases this
     obtain ⟨o, eo, _, o1, o2, o3, o4⟩ := znc l hu h8 hlen
     rw [eo, Option.bind_some]
     rw [wu l.Names.length (fun a => zx (fun b => if wL l a b = true then some ((a : Int), (4 : Int)) else none) 0 l.Names.length) () (fun a ha => ?_) (by simp)]
     . cases zx (fun a => zx (fun b => if wL l a b = true then some ((a : Int), (4 : Int)) else none) 0 l.Names.length) 0 l.Names.length <;> rfl
     . simp only [Int.ofNat_lt, ha, decide_true, cond_true]
       rw [wu l.Names.length (fun b => if wL l a b = true then some (.inr (.inr ((a : Int), (4 : Int)))) else none) () (fun b hb => ?_) (by simp)]
       . have e : (fun b => if wL l a b = true then some (Sum.inr (Sum.inr ((a : Int), (4 : Int))) : Int ⊕ (Unit ⊕ (Int × Int))) else none) = fun b => (if wL l a b = true then some ((a : Int), (4 : Int)) else none).map fun v => .inr (.inr v) := by
          funext b; split <;> rfl
         rw [e, jO]
         cases zx (fun b => if wL l a b = true then some ((a : Int), (4 : Int)) else none) 0 l.Names.length with
         | some r => rfl
         | none =>
           simp only [Option.map_none]
           rw [w64 (by omega) (by omega)]
       . simp only [Int.ofNat_lt, hb, decide_true, cond_true]
         have n1 := zfd o.up_ (upN l) l.Names.length a b h8 (fun c hc => by rw [o3 c hc]; exact uN hu (by omega)) (fun c hc => zbl hu (by omega)) (fun c hc => hself c hc) ha hb
         have n2 : zs8 o.down_ l.Names.length a b = some (zdc (dnN l) l.Names.length a b) := zfd o.down_ (dnN l) l.Names.length a b h8 (fun c hc => o4 c hc) (fun c hc => zvi h8 c) (fun c hc => by unfold dnN; rw [zn1, hself c hc]; simp [hc]) ha hb
         rw [n1, n2]
         simp only [Option.bind_some, zoj]
         rw [w64 (by omega) (by omega)]
         unfold wL
         cases (bnd (upN l) l.Names.length a b).isNone with
         | true => simp
         | false => cases (bnd (dnN l) l.Names.length a b).isNone <;> simp
 . -- one label's row
   have hxa := uN hu (a := a) (by omega)
   have hlt := zbl hu (a := a) (by omega)
   obtain ⟨y, ey, hy⟩ := ztc (upN l a : Int) (by omega) (by omega)
   have hy := hy l.Names.length h8
   rw [Int.toNat_natCast] at hy
   have ga : ((0 : Int) <= (a : Int)) := by omega
   have hbit : ∀ b, b < l.Names.length -> bits .and .u8 (Int.fdiv (upN l a : Int) (2 ^ min b (IntKind.bits .u8))) 1 = if up l a b = true then 1 else 0 := fun b hb => by
    rw [zch (by omega) (by omega) (by omega), Int.toNat_natCast]; rfl
   simp only [Int.ofNat_lt, ha, decide_true, cond_true, zi, Int.toNat_natCast, if_pos ga, hxa, Option.bind_some, ey, hy, yp ga]
   simp only [hbit a ha]
   unfold xc
   cases e1 : decide (upN l a < 2 ^ l.Names.length) with
   | false => simp
   | true =>
     simp only [Bool.not_true, cond_false, Bool.true_and]
     cases e2 : up l a a with
     | false => simp
     | true =>
       simp only [if_true, Int.reduceEq, decide_false, cond_false, Bool.true_and]
       rw [wu l.Names.length (fun b => if zf7 l a b = true then (if b + 1 = l.Names.length then some (.inl ((a : Int) + 1)) else none) else some (.inr (.inr ((a : Int), (6 : Int))))) () (fun b hb => ?_) (by simp)]
       . rw [zj6 (by omega) (by omega)]
         simp only [Nat.zero_add]
         cases (List.range l.Names.length).all fun b => zf7 l a b <;> rfl
       . have hxb := uN hu (a := b) (by omega)
         have hltb := zbl hu (a := b) (by omega)
         have gb : ((0 : Int) <= (b : Int)) := by omega
         have hbit' : bits .and .u8 (Int.fdiv (upN l b : Int) (2 ^ min a (IntKind.bits .u8))) 1 = if up l b a = true then 1 else 0 := by
          rw [zch (by omega) (by omega) (by omega), Int.toNat_natCast]; rfl
         simp only [Int.ofNat_lt, hb, decide_true, cond_true, Option.bind_some, Int.toNat_natCast, hxb, if_pos gb, yp gb]
         simp only [hbit b hb, hbit', w64 (e := (l.Names.length : Int) - 1) (by omega) (by omega), w64 (e := (a : Int) + 1) (by omega) (by omega), w64 (e := (b : Int) + 1) (by omega) (by omega)]
         have hnot : decide (bits .andNot .u8 (bits .and .u8 (upN l b : Int) (IntKind.wrap .u8 (IntKind.wrap .u8 (1 * 2 ^ min l.Names.length (IntKind.bits .u8)) - 1))) (upN l a : Int) = 0) = (List.range l.Names.length).all fun i => !up l b i || up l a i := by
          revert hmask hm0
          generalize IntKind.wrap .u8 (IntKind.wrap .u8 (1 * 2 ^ min l.Names.length (IntKind.bits .u8)) - 1) = mask
          intro hmask hm0
          have hand : bits .and .u8 (upN l b : Int) mask = ((upN l b &&& mask.toNat : Nat) : Int) := by
           rw [zcb (by omega) (by omega) hm0.1 hm0.2, Int.toNat_natCast]
          have hlt2 : upN l b &&& mask.toNat < 256 := zdw hltb
          rw [hand, Bool.eq_iff_iff, decide_eq_true_eq, zba (by omega) (by omega) (by omega) (by omega), List.all_eq_true]
          simp only [Int.toNat_natCast, Nat.testBit_and, hmask, zej]
          constructor
          . intro h i hi
            have := h i
            have hi' : i < l.Names.length := by simpa using hi
            cases e : up l b i with
            | false => rfl
            | true => rw [e] at this; simpa [hi'] using this
          . intro h i hi
            simp only [Bool.and_eq_true, decide_eq_true_eq] at hi
            have := h i (by simpa using hi.2)
            rw [hi.1] at this; simpa using this
         simp only [hnot]
         have hlast : decide ((b : Int) = (l.Names.length : Int) - 1) = decide (b + 1 = l.Names.length) := by
          rw [Bool.eq_iff_iff, decide_eq_true_eq, decide_eq_true_eq]; omega
         simp only [hlast]
         unfold zf7
         cases e3 : up l a b with
         | false => by_cases hl : b + 1 = l.Names.length <;> simp [hl]
         | true =>
           by_cases hba : b = a
           . subst hba
             have d2 : decide ((b : Int) = (b : Int)) = true := by simp
             cases (List.range l.Names.length).all fun i => !up l b i || up l b i with
             | false => by_cases hl : b + 1 = l.Names.length <;> simp [hl]
             | true => by_cases hl : b + 1 = l.Names.length <;> simp [hl]
           . have d2 : decide ((b : Int) = (a : Int)) = false := by simp; omega
             have d3 : decide (b = a) = false := by simp [hba]
             simp only [d2, d3]
             cases up l b a with
             | true => by_cases hl : b + 1 = l.Names.length <;> simp [hl]
             | false =>
               cases (List.range l.Names.length).all fun i => !up l b i || up l a i with
               | false => by_cases hl : b + 1 = l.Names.length <;> simp [hl]
               | true => by_cases hl : b + 1 = l.Names.length <;> simp [hl]
theorem zek {l : TL} (h : LatIn l) : qB l = zgv l := by
 unfold qB; rw [zpc l h.u8 h.names h.name]; rfl
open Go
theorem zjr {l : TL} (h : LatIn l) (a b : Int) : zsh l a b = some (zbw l [a, b]) := by
 unfold zsh zbw
 rw [zae l h.u8 h.names h.name, zek h]
 simp only [Option.bind_some, List.length_map, List.all_cons, List.all_nil, Bool.and_true]
 by_cases h0 : (zgv l).2 = 0
 . simp only [h0, decide_true, cond_true, if_true]
   unfold wt
   by_cases a1 : a < 0
   . have : ¬ 0 <= a := by omega
     simp [a1, this]
   by_cases a2 : (l.Names.length : Int) <= a
   . have : ¬ a < (l.Names.length : Int) := by omega
     simp [a1, a2, this]
   by_cases b1 : b < 0
   . have : ¬ 0 <= b := by omega
     simp [a1, a2, b1, this]
   by_cases b2 : (l.Names.length : Int) <= b
   . have : ¬ b < (l.Names.length : Int) := by omega
     simp [a1, a2, b1, b2, this]
   have a1' : 0 <= a := by omega
   have a2' : a < (l.Names.length : Int) := by omega
   have b1' : 0 <= b := by omega
   have b2' : b < (l.Names.length : Int) := by omega
   simp [a1, a2, b1, b2, a1', a2', b1', b2']
 . simp [h0]
open Go
theorem zwk {g : Nat -> Nat} {n a b c : Nat} (h : bnd g n a b = some c) : c < n /\ g c = g a &&& g b := by
 have key : ∀ {j k : Nat}, zx (fun c => if g c = g a &&& g b then some c else none) k j = some c -> c < k + j /\ g c = g a &&& g b := by
  intro j
  induction j with
  | zero => intro k h; cases h
  | succ j ih =>
    intro k h
    simp only [zx] at h
    split at h
    . rename_i r hr
      cases h
      split at hr
      . rename_i hh; cases hr; exact ⟨by omega, hh⟩
      . cases hr
    . have := ih h
      exact ⟨by omega, this.2⟩
 have := key h
 simpa using this
theorem zc1 {l : TL} (h : LatIn l) (k : (qB l).2 = 0) : (∀ a, a < l.Names.length -> xc l a = true) /\ ∀ a b, a < l.Names.length -> b < l.Names.length -> wL l a b = false := by
 rw [zek h] at k
 unfold zgv at k
 split at k
 case isFalse h0 => exact absurd k h0
 split at k
 case isFalse => cases k
 split at k
 case h_1 r hr =>
  exfalso
  have key : ∀ {j k : Nat}, zx (fun a => if xc l a = true then none else some ((a : Int), (6 : Int))) k j = some r -> r.2 = 6 := by
   intro j
   induction j with
   | zero => intro k h; cases h
   | succ j ih =>
     intro k h
     simp only [zx] at h
     split at h
     . rename_i r' hr'
       cases h
       split at hr'
       . cases hr'
       . cases hr'; rfl
     . exact ih h
  rw [key hr] at k; cases k
 case h_2 hord =>
  have key2 : ∀ {a j k : Nat} {r : Int × Int}, zx (fun b => if wL l a b = true then some ((a : Int), (4 : Int)) else none) k j = some r -> r.2 = 4 := by
   intro a j
   induction j with
   | zero => intro k r h; cases h
   | succ j ih =>
     intro k r h
     simp only [zx] at h
     split at h
     . rename_i r' hr'
       cases h
       split at hr'
       . cases hr'; rfl
       . cases hr'
     . exact ih h
  have key : ∀ {j k : Nat} {r : Int × Int}, zx (fun a => zx (fun b => if wL l a b = true then some ((a : Int), (4 : Int)) else none) 0 l.Names.length) k j = some r -> r.2 = 4 := by
   intro j
   induction j with
   | zero => intro k r h; cases h
   | succ j ih =>
     intro k r h
     simp only [zx] at h
     split at h
     . rename_i r' hr'
       cases h
       exact key2 hr'
     . exact ih h
  cases hs : zx (fun a => zx (fun b => if wL l a b = true then some ((a : Int), (4 : Int)) else none) 0 l.Names.length) 0 l.Names.length with
  | some r =>
    rw [hs] at k
    have := key hs
    simp only [Option.getD_some] at k
    rw [this] at k; cases k
  | none =>
    refine ⟨fun a ha => ?_, fun a b ha hb => ?_⟩
    . have h1 := scan_none.1 hord a (by omega) (by omega)
      split at h1
      . assumption
      . cases h1
    . have h1 := scan_none.1 (scan_none.1 hs a (by omega) (by omega)) b (by omega) (by omega)
      split at h1
      . cases h1
      . rename_i h2; simpa using h2
theorem znd {l : TL} (h : LatIn l) (k : (qB l).2 = 0) {a b : Nat} (ha : a < l.Names.length) (hb : b < l.Names.length) : ∃ c, bnd (dnN l) l.Names.length a b = some c /\ c < l.Names.length /\ dnN l c = dnN l a &&& dnN l b := by
 have h2 := (zc1 h k).2 a b ha hb
 unfold wL at h2
 cases e : bnd (dnN l) l.Names.length a b with
 | none => rw [e] at h2; simp at h2
 | some c => exact ⟨c, rfl, zwk e⟩
theorem zwd {l : TL} (ok : LatOK l) {a b c : Nat} (ha : a < l.Names.length) (hb : b < l.Names.length) (hc : c < l.Names.length) (h1 : up l a b = true) (h2 : up l b c = true) : up l a c = true := (ok.row a ha b hb h1).2 c hc h2
theorem zAe {l : TL} {b i : Nat} : (dnN l b).testBit i = (decide (i < l.Names.length) && up l i b) := zn1 l b l.Names.length i
theorem zic {l : TL} {a b c i : Nat} (hi : i < l.Names.length) (hg : dnN l c = dnN l a &&& dnN l b) : up l i c = (up l i a && up l i b) := by
 have h1 := congrArg (fun x => x.testBit i) hg
 simp only [Nat.testBit_and, zAe, hi, decide_true, Bool.true_and] at h1
 exact h1
theorem zAj {l : TL} (ok : LatOK l) {a b : Nat} (ha : a < l.Names.length) (hb : b < l.Names.length) (h1 : up l a b = true) (h2 : up l b a = true) : a = b := by
 by_cases e : b = a
 . exact e.symm
 . have := (ok.row a ha b hb h1).1 e
   rw [h2] at this; cases this
theorem zzn {l : TL} (h : LatIn l) (k : (qB l).2 = 0) : ∃ t, t < l.Names.length /\ ∀ a, a < l.Names.length -> up l t a = true := by
 have ok := je h k
 have key : ∀ j, j <= l.Names.length -> ∃ t, t < l.Names.length /\ ∀ a, a < j -> up l t a = true := by
  intro j
  induction j with
  | zero => intro _; exact ⟨0, ok.pos, fun a ha => absurd ha (by omega)⟩
  | succ j ih =>
    intro hj
    obtain ⟨t, ht, hall⟩ := ih (by omega)
    obtain ⟨c, _, hc, hg⟩ := znd h k ht (show j < l.Names.length by omega)
    have hcc := ok.self c hc
    rw [zic hc hg, Bool.and_eq_true] at hcc
    refine ⟨c, hc, fun a ha => ?_⟩
    rcases Nat.lt_or_ge a j with g | g
    . exact zwd ok hc ht (by omega) hcc.1 (hall a g)
    . have : a = j := by omega
      subst this; exact hcc.2
 exact key _ (Nat.le_refl _)
def qI (l : TL) : Nat := ((List.range l.Names.length).find? fun b => (List.range l.Names.length).all fun a => up l b a).getD 0
theorem zgw {l : TL} (h : LatIn l) (k : (qB l).2 = 0) : qI l < l.Names.length /\ ∀ a, a < l.Names.length -> up l (qI l) a = true := by
 obtain ⟨t, ht, hall⟩ := zzn h k
 unfold qI
 cases e : (List.range l.Names.length).find? fun b => (List.range l.Names.length).all fun a => up l b a with
 | none =>
   have := List.find?_eq_none.1 e t (by simpa using ht)
   exact absurd (by simp only [List.all_eq_true, List.mem_range]; exact hall) this
 | some b =>
   have h1 := List.find?_some e
   have h2 := List.mem_of_find?_eq_some e
   simp only [List.all_eq_true, List.mem_range] at h1 h2
   exact ⟨h2, h1⟩
theorem zvm {l : TL} (h : LatIn l) (k : (qB l).2 = 0) {b : Nat} (hb : b < l.Names.length) (hall : ∀ a, a < l.Names.length -> up l b a = true) : b = qI l := by
 obtain ⟨h1, h2⟩ := zgw h k
 exact zAj (je h k) hb h1 (hall _ h1) (h2 _ hb)
theorem zyg {l : TL} (h : LatIn l) (k : (qB l).2 = 0) {b : Nat} (hb : b < l.Names.length) : upN l b = 2 ^ l.Names.length - 1 ↔ b = qI l := by
 have h1 := (zc1 h k).1 b hb
 unfold xc at h1
 simp only [Bool.and_eq_true, decide_eq_true_eq] at h1
 constructor
 . intro e
   refine zvm h k hb fun a ha => ?_
   rw [<- zej, e, Nat.testBit_two_pow_sub_one]
   simpa using ha
 . rintro rfl
   have h2 := (zgw h k).2
   refine Nat.eq_of_testBit_eq fun i => ?_
   rw [Nat.testBit_two_pow_sub_one]
   rcases Nat.lt_or_ge i l.Names.length with g | g
   . rw [zej, h2 i g]; simp [g]
   . rw [Nat.testBit_lt_two_pow (Nat.lt_of_lt_of_le h1.1.1 (Nat.pow_le_pow_right (by omega) g))]
     simp; omega
open Go
theorem zng (s : List UInt8) (c : Int) : zdx s c = some (Go.Lib.indexByte s c.toNat.toUInt8) := by
 unfold zdx qi
 rfl
theorem zai (r : Int) (h0 : 0 <= r) (h1 : r < 256) : xE [] r = some false := by
 unfold xE
 have key : Tot (zjs [] r) fun x => x < 0 := by
  unfold zjs
  have e0 : decide (0 <= r) = true := by simp [h0]
  simp only [e0, cond_true]
  rw [zF]
  refine ⟨fun _ => ?_, fun h2 => ?_⟩
  . rw [qa, zw, zng]
    simp only [zo]
    simp [Go.Lib.indexByte]
  . simp only [decide_eq_false_iff_not] at h2
    obtain ⟨x, y, exy, hy⟩ := zuj (r := r) (by omega) h1
    have e1 : decide (r = 65533) = false := by simp; omega
    simp only [e1, cond_false, exy]
    rw [zw]
    refine (za3 r).mono fun v _ => ?_
    rw [zF]
    refine ⟨fun _ => .mk (by decide), fun _ => ?_⟩
    rw [qa]
    have e2 : IntKind.wrap .i64 (((List.length [x, y] : Nat) : Int) - 1) = 1 := rfl
    rw [e2, zw]
    refine Tot.loop (fun _ => 0) (fun _ => True) (fun _ _ => ?_) trivial
    rw [zF]
    refine ⟨fun h3 => ?_, fun _ => ?_⟩
    . simp only [decide_eq_true_eq, List.length_nil] at h3
      exact absurd h3 (by decide)
    . simp only [zo, Sum.elim_inr, Sum.elim_inl]
      decide
 obtain ⟨x, e, hx⟩ := key
 rw [e]
 have : decide (0 <= x) = false := by simp; omega
 simp [this]
theorem zm4 (r : Int) (h0 : 0 <= r) (h1 : r < 256) : zap r = some true := by
 unfold zap
 have e0 : decide (0 <= r) = true := by simp [h0]
 have e1 : decide (r < 55296) = true := by simp; omega
 simp only [e0, e1, cond_true]
theorem zpf (r : Int) (h0 : 0 <= r) (h1 : r < 256) : ztu r = some true := by
 unfold ztu
 simp only [zg, znh h0 h1]
 rw [w64 (by omega) (by omega)]
 simp [zm4 r h0 h1]
def yB (c : UInt8) : Bool := decide (97 <= c.toNat) && decide (c.toNat <= 122)
def xq (c : UInt8) : Bool := decide (48 <= c.toNat) && decide (c.toNat <= 57)
theorem zpg {cs : List (List UInt8)} (hcs : cs.length = 10) (h : ∀ s ∈ cs, s.length <= 1000 /\ ∀ c ∈ s, c.toNat < 128) (h6 : cs[6]? = some []) (h8 : cs[8]? = some []) (r : Int) (h0 : 0 <= r) (h1 : r < 256) {Q : Unit ⊕ (Int × Int) -> Prop} (hQ : Q (.inl ())) (hQ' : ∀ x, x ≠ 6 -> x ≠ 8 -> Q (.inr (x, 0))) :
 Tot (lpO (fun (s : Int) => cond (decide (s < 10)) (zi cs s fun x => zg (IntKind.wrap IntKind.i32 r) fun y => Option.bind (xE x y) fun z => cond z (some (Sum.inr (Sum.inr (s, (0 : Int))))) (zg (IntKind.wrap IntKind.i64 (s + 1)) fun u => some (Sum.inl u))) (some (Sum.inr (Sum.inl ())))) 0) Q := by
 refine Tot.count 10 (fun k s => s = (k : Int)) ?_ rfl
 rintro k _ hk rfl
 simp only [zF, zo, qa, qk, zw, Sum.elim_inl, Sum.elim_inr, decide_eq_true_eq, decide_eq_false_iff_not, Int.toNat_natCast]
 refine ⟨fun hlt => ?_, fun _ => hQ⟩
 obtain ⟨x, hx⟩ := zv (l := cs) (i := k) (by omega)
 have hx' := h x (List.mem_of_getElem? hx)
 refine ⟨by omega, x, hx, ?_⟩
 rw [znh h0 h1]
 have nx : k < 10 /\ IntKind.wrap .i64 ((k : Int) + 1) = ((k + 1 : Nat) : Int) := by
  rw [w64 (by omega) (by omega)]; exact ⟨by omega, by omega⟩
 by_cases g6 : k = 6
 . subst g6
   rw [h6] at hx; cases hx
   rw [zai r h0 h1, zo]
   exact ⟨fun e => (by cases e), fun _ => nx⟩
 by_cases g8 : k = 8
 . subst g8
   rw [h8] at hx; cases hx
   rw [zai r h0 h1, zo]
   exact ⟨fun e => (by cases e), fun _ => nx⟩
 refine (zeb x r hx'.2 hx'.1 h0 h1).mono fun _ _ => ⟨fun _ => hQ' _ (by omega) (by omega), fun _ => nx⟩
theorem zbu (c : UInt8) : Tot (zdo (IntKind.wrap .i64 (c.toNat : Int))) fun x => (decide (x.1 = 8) = yB c) /\ (decide (x.1 = 6) = xq c) := by
 have hc := c.toNat_lt
 rw [w64 (by omega) (by omega)]
 have h0 : (0 : Int) <= c.toNat := by omega
 have h1 : (c.toNat : Int) < 256 := by omega
 unfold zdo zg3 yB xq
 rw [zpf _ h0 h1]
 simp only [Option.bind_some, Bool.not_true, cond_false]
 have L : ¬ (48 <= c.toNat /\ c.toNat <= 57) -> ¬ (97 <= c.toNat /\ c.toNat <= 122) -> _ := fun d1 d2 => zpg (cs := [[], [32], [10], [40, 91], [41, 93], [34], [], [45], [], [60, 61]]) rfl (by decide) rfl rfl c.toNat h0 h1 (Q := fun a => Tot (Sum.elim (fun _ => some ((10 : Int), (0 : Int))) some a) fun (x : Int × Int) => (decide (x.1 = 8) = (decide (97 <= c.toNat) && decide (c.toNat <= 122))) /\ (decide (x.1 = 6) = (decide (48 <= c.toNat) && decide (c.toNat <= 57))))
  (.mk (by
    have a1 : (decide (97 <= c.toNat) && decide (c.toNat <= 122)) = false := by simp; omega
    have a2 : (decide (48 <= c.toNat) && decide (c.toNat <= 57)) = false := by simp; omega
    rw [a1, a2]; exact ⟨rfl, rfl⟩)) (fun x e6 e8 => .mk (by
    have a1 : (decide (97 <= c.toNat) && decide (c.toNat <= 122)) = false := by simp; omega
    have a2 : (decide (48 <= c.toNat) && decide (c.toNat <= 57)) = false := by simp; omega
    rw [a1, a2]; simp [e6, e8]))
 simp only [zF, zo, zw, decide_eq_true_eq, decide_eq_false_iff_not]
 have six : 48 <= c.toNat -> c.toNat <= 57 -> decide ((6 : Int) = 8) = (decide (97 <= c.toNat) && decide (c.toNat <= 122)) /\ decide ((6 : Int) = 6) = (decide (48 <= c.toNat) && decide (c.toNat <= 57)) := by
  intro d1 d2
  have a1 : (decide (97 <= c.toNat) && decide (c.toNat <= 122)) = false := by simp; omega
  have a2 : (decide (48 <= c.toNat) && decide (c.toNat <= 57)) = true := by simp; omega
  rw [a1, a2]; exact ⟨rfl, rfl⟩
 have eight : 97 <= c.toNat -> c.toNat <= 122 -> decide ((8 : Int) = 8) = (decide (97 <= c.toNat) && decide (c.toNat <= 122)) /\ decide ((8 : Int) = 6) = (decide (48 <= c.toNat) && decide (c.toNat <= 57)) := by
  intro d1 d2
  have a1 : (decide (97 <= c.toNat) && decide (c.toNat <= 122)) = true := by simp; omega
  have a2 : (decide (48 <= c.toNat) && decide (c.toNat <= 57)) = false := by simp; omega
  rw [a1, a2]; exact ⟨rfl, rfl⟩
 refine ⟨fun d1 => ⟨fun d2 => six (by omega) (by omega), fun d2 => ⟨fun d3 => ⟨fun d4 => eight (by omega) (by omega), fun d4 => L (by omega) (by omega)⟩, fun d3 => L (by omega) (by omega)⟩⟩, fun d1 => ⟨fun d3 => ⟨fun d4 => eight (by omega) (by omega), fun d4 => L (by omega) (by omega)⟩, fun d3 => L (by omega) (by omega)⟩⟩
def wV (s : List UInt8) : Bool := (match s with | [] => false | c :: _ => yB c) && s.all fun c => yB c || xq c
theorem zff {s : List UInt8} {p : UInt8 -> Bool} {k : Nat} {c : UInt8} (h : (s.take k).all p = true) (hc : s[k]? = some c) (hp : p c = true) : (s.take (k + 1)).all p = true := by
 rw [List.take_add_one, hc, List.all_append, h]
 simp [hp]
theorem zhw (s : List UInt8) (h : s.length <= 1000000) : Tot (ztn (TK.mk 1 0 0 0 s)) fun x => decide (x = 0) = (wV s && decide (s.length <= 16)) := by
 unfold ztn
 dsimp only
 have e2 : decide ((1 : Int) < 1) = false := rfl
 have e3 : decide ((9 : Int) < 1) = false := rfl
 simp only [e2, e3, decide_true, cond_true, cond_false, Option.bind_some, Sum.elim_inl, Bool.and_self, Bool.not_true]
 rw [zw]
 have Qn : ∀ x : Int, wV s = false -> Tot (Sum.elim (fun (n : Int) => cond (decide (n < (s.length : Int))) (some (3 : Int)) (some (0 : Int))) some (Sum.inr 6 : Int ⊕ Int)) fun x => decide (x = 0) = (wV s && decide (s.length <= 16)) := by
  intro _ e
  rw [e]; exact .mk rfl
 have Qy : wV s = true -> Tot (Sum.elim (fun (n : Int) => cond (decide (n < (s.length : Int))) (some (3 : Int)) (some (0 : Int))) some (Sum.inl 16 : Int ⊕ Int)) fun x => decide (x = 0) = (wV s && decide (s.length <= 16)) := by
  intro e
  rw [e]
  simp only [Sum.elim_inl, zF, zo, decide_eq_true_eq, decide_eq_false_iff_not]
  refine ⟨fun g => ?_, fun g => ?_⟩
  . have : decide (s.length <= 16) = false := by simp; omega
    rw [this]; rfl
  . have : decide (s.length <= 16) = true := by simp; omega
    rw [this]; rfl
 rw [zF]
 refine ⟨fun h1 => ?_, fun h1 => ?_⟩
 . simp only [zo]
   refine Qn 0 ?_
   have : s = [] := List.length_eq_zero_iff.1 (by simpa using h1)
   rw [this]; rfl
 simp only [decide_eq_false_iff_not] at h1
 obtain ⟨c, hc⟩ := zv (l := s) (i := 0) (by omega)
 have hs0 : ∃ r, s = c :: r := by
  cases s with
  | nil => simp at hc
  | cons a r => simp at hc; exact ⟨r, by rw [hc]⟩
 have e0 : (0 : Int).toNat = 0 := rfl
 simp only [qk, qa, zw, e0]
 refine ⟨by omega, c, hc, (zbu c).mono fun x hx => ?_⟩
 rw [zF]
 refine ⟨fun g => ?_, fun g => ?_⟩
 . simp only [zo]
   refine Qn 0 ?_
   obtain ⟨r, rfl⟩ := hs0
   have : yB c = false := by rw [<- hx.1]; simpa using g
   unfold wV; simp [this]
 have hlow : yB c = true := by rw [<- hx.1]; simpa using g
 simp only [qk, qa, zw, e0]
 refine ⟨by omega, c, hc, (zbu c).mono fun y hy => ?_⟩
 refine Tot.loop (fun (p : Int × Int) => s.length - p.2.toNat) (fun (p : Int × Int) => 0 <= p.2 /\ p.2 <= (s.length : Int) /\ (s.take p.2.toNat).all (fun c => yB c || xq c) = true /\ ((p.2 = (s.length : Int) /\ p.1 = 10) \/ ∃ d, s[p.2.toNat]? = some d /\ decide (p.1 = 8) = yB d /\ decide (p.1 = 6) = xq d)) ?_ ⟨by simp, by simp, by simp, .inr ⟨c, by simpa using hc, hy⟩⟩
 rintro ⟨k, a⟩ ⟨h2, h3, hall, h4⟩
 simp only at h2 h3 hall h4
 have round : (k = 8 \/ k = 6) -> ∀ {Q : (Bool × Int × Int) ⊕ (Int ⊕ Int) -> Prop}, Tot (zg (IntKind.wrap .i64 (a + 1)) fun (u : Int) => cond (decide ((s.length : Int) <= u)) (some (Sum.inl ((10 : Int), u))) (zi s u fun (v : UInt8) => zg (IntKind.wrap .i64 (v.toNat : Int)) fun (z : Int) => Option.bind (zdo z) fun r => some (Sum.inl (r.1, u)))) (Sum.elim (fun (s' : Int × Int) => (0 <= s'.2 /\ s'.2 <= (s.length : Int) /\ (s.take s'.2.toNat).all (fun c => yB c || xq c) = true /\ ((s'.2 = (s.length : Int) /\ s'.1 = 10) \/ ∃ d, s[s'.2.toNat]? = some d /\ decide (s'.1 = 8) = yB d /\ decide (s'.1 = 6) = xq d)) /\ s.length - s'.2.toNat < s.length - a.toNat) Q) := by
  intro hk Q
  rcases h4 with ⟨g1, g2⟩ | ⟨d, hd, d1, d2⟩
  . omega
  have hlt : a.toNat < s.length := by
   rcases Nat.lt_or_ge a.toNat s.length with g | g
   . exact g
   . rw [List.getElem?_eq_none g] at hd; cases hd
  have hp : (yB d || xq d) = true := by
   rw [<- d1, <- d2]
   rcases hk with rfl | rfl <;> rfl
  have e1 : (a + 1).toNat = a.toNat + 1 := by omega
  have hall' : (s.take (a + 1).toNat).all (fun c => yB c || xq c) = true := by rw [e1]; exact zff hall hd hp
  rw [qa, w64 (by omega) (by omega), zF]
  refine ⟨fun g => ?_, fun g => ?_⟩
  . simp only [decide_eq_true_eq] at g
    simp only [zo, Sum.elim_inl]
    exact ⟨⟨by omega, by omega, hall', .inl ⟨by omega, trivial⟩⟩, by omega⟩
  . simp only [decide_eq_false_iff_not] at g
    obtain ⟨d', hd'⟩ := zv (l := s) (i := (a + 1).toNat) (by omega)
    simp only [qk, qa, zw]
    refine ⟨by omega, d', hd', (zbu d').mono fun z hz => ?_⟩
    simp only [zo, Sum.elim_inl]
    exact ⟨⟨by omega, by omega, hall', .inr ⟨d', hd', hz⟩⟩, by omega⟩
 rw [zF]
 refine ⟨fun g => round (.inl (by simpa using g)), fun g => ?_⟩
 rw [zF]
 refine ⟨fun g' => round (.inr (by simpa using g')), fun g' => ?_⟩
 simp only [zo, Sum.elim_inr, Sum.elim_inl, qF, zF, e0, List.drop_zero]
 refine ⟨by omega, fun hne => ?_, fun heq => ?_⟩
 . refine (zo (Q := fun x => decide (x = 0) = (wV s && decide (s.length <= 16)))).1 (Qn 0 ?_)
   rcases h4 with ⟨g1, _⟩ | ⟨d, hd, d1, d2⟩
   . exfalso
     have : a.toNat = s.length := by omega
     rw [this, List.take_length] at hne
     simp at hne
   . unfold wV
     have : (s.all fun c => yB c || xq c) = false := by
      rw [List.all_eq_false]
      refine ⟨d, List.mem_of_getElem? hd, ?_⟩
      rw [<- d1, <- d2, g, g']
      simp
     rw [this, Bool.and_false]
 . have ht : s.take a.toNat = s := by simpa using heq
   rw [ht] at hall
   have hw : wV s = true := by
    unfold wV
    obtain ⟨r, rfl⟩ := hs0
    simp only [hall, hlow, Bool.and_self]
   rw [hw]
   refine ⟨fun g => ?_, fun g => ?_⟩
   . have : decide (s.length <= 16) = false := by simp at g ⊢; omega
     rw [this]; rfl
   . have : decide (s.length <= 16) = true := by simp at g ⊢; omega
     rw [this]; rfl
open Go
theorem zns (c : UInt8) : zod (c.toNat : Int) = some (yB c) := by
 unfold zod yB
 by_cases h : 97 <= c.toNat
 . have : decide ((97 : Int) <= (c.toNat : Int)) = true := by simp; omega
   rw [this]
   simp only [cond_true, h, decide_true, Bool.true_and, Option.some.injEq]
   rw [Bool.eq_iff_iff]; simp; omega
 . have : decide ((97 : Int) <= (c.toNat : Int)) = false := by simp; omega
   rw [this]
   simp [h]
theorem zz5 (c : UInt8) : zqx (c.toNat : Int) = some (xq c) := by
 unfold zqx xq
 by_cases h : 48 <= c.toNat
 . have : decide ((48 : Int) <= (c.toNat : Int)) = true := by simp; omega
   rw [this]
   simp only [cond_true, h, decide_true, Bool.true_and, Option.some.injEq]
   rw [Bool.eq_iff_iff]; simp; omega
 . have : decide ((48 : Int) <= (c.toNat : Int)) = false := by simp; omega
   rw [this]
   simp [h]
theorem zzv (s : List UInt8) (h : s.length <= 1000000) : zbr s = some (wV s) := by
 unfold zbr
 cases s with
 | nil => rfl
 | cons c r =>
   have e1 : decide (c :: r = (ByteArray.mk #[]).data.toList) = false := by
    exact decide_eq_false (fun e => by cases (show c :: r = [] from e))
   rw [e1]
   apply Tot.eq
   have e0 : (0 : Int).toNat = 0 := rfl
   simp only [cond_false, qk, e0, zw]
   refine ⟨by omega, c, rfl, ?_⟩
   rw [zns, zo, zF]
   refine ⟨fun g => ?_, fun g => ?_⟩
   . have : yB c = false := by simpa using g
     simp [zo, wV, this]
   have hl : yB c = true := by simpa using g
   rw [zw]
   refine Tot.count (c :: r).length (fun k s => s = (k : Int) /\ ((c :: r).take k).all (fun c => yB c || xq c) = true) ?_ ⟨rfl, by simp⟩
   rintro k _ hk ⟨rfl, hall⟩
   simp only [zF, zo, qa, qk, zw, Sum.elim_inl, Sum.elim_inr, decide_eq_true_eq, decide_eq_false_iff_not, Int.toNat_natCast]
   refine ⟨fun hlt => ?_, fun hge => ?_⟩
   . obtain ⟨d, hd⟩ := zv (l := c :: r) (i := k) (by omega)
     refine ⟨by omega, d, hd, ?_⟩
     rw [zns, zo]
     have nx : k < (c :: r).length /\ IntKind.wrap .i64 ((k : Int) + 1) = ((k + 1 : Nat) : Int) := by
      rw [w64 (by omega) (by omega)]; exact ⟨by omega, by omega⟩
     refine ⟨fun g1 => ⟨by omega, d, hd, ?_⟩, fun g1 => ⟨nx.1, nx.2, zff hall hd (by simp at g1; simp [g1])⟩⟩
     rw [zz5, zo]
     refine ⟨fun g2 => ?_, fun g2 => ⟨nx.1, nx.2, zff hall hd (by simp at g2; simp [g2])⟩⟩
     have : ((c :: r).all fun c => yB c || xq c) = false := by
      rw [List.all_eq_false]
      refine ⟨d, List.mem_of_getElem? hd, ?_⟩
      simp at g1 g2
      simp [g1, g2]
     unfold wV
     rw [this, Bool.and_false]
   . rw [List.take_of_length_le (by omega)] at hall
     unfold wV
     rw [hall]
     show true = (yB c && true)
     rw [hl]; rfl
theorem zCh (s : List UInt8) (h : s.length <= 1000000) : Tot (ztm (TK.mk 1 0 0 0 s)) fun x => decide (x = 0) = (wV s && decide (s.length <= 16)) := by
 unfold ztm
 dsimp only
 have e2 : decide ((1 : Int) < 1) = false := rfl
 have e3 : decide ((9 : Int) < 1) = false := rfl
 have e4 : decide ((1 : Int) = 2) = false := rfl
 simp only [e2, e3, e4, decide_true, cond_true, cond_false, Bool.not_true, Bool.not_false, zzv s h, Option.bind_some, zF, zo]
 refine ⟨fun g => ?_, fun g => ?_⟩
 . have : wV s = false := by simpa using g
   rw [this]; rfl
 . have : wV s = true := by simpa using g
   rw [this]
   refine ⟨fun g => ?_, fun g => ?_⟩
   . have : decide (s.length <= 16) = false := by simp at g ⊢; omega
     rw [this]; rfl
   . have : decide (s.length <= 16) = true := by simp at g ⊢; omega
     rw [this]; rfl
def primN : List (List UInt8) := [[110, 101, 103], [97, 98, 115], [110, 111, 116], [115, 104, 97, 112, 101], [114, 97, 118, 101, 108], [114, 101, 118, 101, 114, 115, 101], [102, 108, 105, 112], [105, 111, 116, 97], [115, 117, 109], [108, 101, 97, 115, 116], [109, 111, 115, 116], [99, 111, 117, 110, 116], [115, 99, 97, 110], [103, 114, 97, 100, 101], [97, 100, 100], [115, 117, 98], [109, 117, 108], [100, 105, 118], [109, 111, 100], [112, 108, 117, 115], [109, 105, 110, 117, 115], [116, 105, 109, 101, 115], [101, 113], [110, 101], [108, 116], [108, 101], [103, 116], [103, 101], [97, 110, 100], [111, 114], [109, 105, 110], [109, 97, 120], [116, 97, 107, 101], [100, 114, 111, 112], [102, 105, 108, 108], [103, 114, 105, 100], [99, 97, 116], [97, 116], [105, 110], [112, 105, 99, 107]]
theorem zht (s : List UInt8) : Tot (zm3 s) fun x => decide (x.2 = 0) = decide (s ∈ primN) := by
 by_cases hm : s ∈ primN
 . have h2 : ∀ t ∈ primN, ∃ x, zm3 t = some x /\ decide (x.2 = 0) = true := by
    unfold primN
    simp only [List.forall_mem_cons]
    repeat' constructor
    intro t ht; cases ht
   obtain ⟨x, e, hx⟩ := h2 s hm
   exact ⟨x, e, by show decide (x.2 = 0) = _; rw [hx]; simp [hm]⟩
 . have hd : decide (s ∈ primN) = false := by simp [hm]
   rw [hd]
   unfold zm3
   unfold primN at hm
   simp only [List.mem_cons, List.not_mem_nil, or_false, not_or] at hm
   have sw : ∀ n : List UInt8, (n = s) = (s = n) := fun n => propext eq_comm
   simp only [sw, hm, decide_false, cond_false, Option.bind_some, Sum.elim_inl, zo]
   rfl
theorem zk7 (s : List UInt8) : Tot (zr7 s) fun x => decide (x.2 = 0) = decide (s ∈ primN) := by
 unfold zr7 ztf
 simp only [Option.bind_some]
 change Tot (Option.bind (lpO (fun (k : Int) => cond (decide (k < ((List.length (List.map SV.str primN) : Nat) : Int))) (zi primN k _) _) 0) _) _
 rw [zw]
 have hn : (List.map SV.str primN).length = 40 := rfl
 have hn' : primN.length = 40 := rfl
 rw [hn]
 refine Tot.count 40 (fun k x => x = (k : Int) /\ s ∉ primN.take k) ?_ ⟨rfl, by simp⟩
 rintro k _ hk ⟨rfl, hmem⟩
 simp only [zF, zo, qa, qk, zw, Sum.elim_inl, Sum.elim_inr, decide_eq_true_eq, decide_eq_false_iff_not, Int.toNat_natCast]
 refine ⟨fun hlt => ?_, fun hge => ?_⟩
 . obtain ⟨x, hx⟩ := zv (l := primN) (i := k) (by omega)
   refine ⟨by omega, x, hx, fun g => ?_, fun g => ?_⟩
   . subst g
     have := List.mem_of_getElem? hx
     simp [this]
   . rw [w64 (by omega) (by omega), List.take_add_one, hx]
     refine ⟨by omega, by omega, fun hm => ?_⟩
     rcases List.mem_append.1 hm with hm | hm
     . exact hmem hm
     . simp at hm; exact g hm.symm
 . rw [List.take_of_length_le (by omega)] at hmem
   simp [hmem]
def resN : List (List UInt8) := [[118, 97, 114], [100, 101, 102], [111, 117, 116], [105, 102], [101, 108, 115, 101], [119, 104, 105, 108, 101], [101, 110, 100], [114, 101, 108, 101, 97, 115, 101], [105, 110, 116], [99, 104, 97, 114]]
def exN (s : List UInt8) : Bool := !decide (s ∈ resN) && !decide (s ∈ primN) && (wV s && decide (s.length <= 16))
theorem zbj (s : List UInt8) (h : s.length <= 1000000) : zi5 s = some (exN s) := by
 apply Tot.eq
 unfold exN
 by_cases hm : s ∈ resN
 . have h2 : ∀ t ∈ resN, zi5 t = some false := by
    unfold resN
    simp only [List.forall_mem_cons]
    repeat' constructor
    intro t ht; cases ht
   rw [h2 s hm, zo]
   simp [hm]
 . have hd : decide (s ∈ resN) = false := by simp [hm]
   rw [hd]
   unfold zi5
   unfold resN at hm
   simp only [List.mem_cons, List.not_mem_nil, or_false, not_or] at hm
   change Tot (cond (decide (s = [118, 97, 114])) _ (cond (decide (s = [100, 101, 102])) _ (cond (decide (s = [111, 117, 116])) _ (cond (decide (s = [105, 102])) _ (cond (decide (s = [101, 108, 115, 101])) _ (cond (decide (s = [119, 104, 105, 108, 101])) _ (cond (decide (s = [101, 110, 100])) _ (cond (decide (s = [114, 101, 108, 101, 97, 115, 101])) _ (cond (decide (s = [105, 110, 116])) _ (cond (decide (s = [99, 104, 97, 114])) _ _)))))))))) _
   simp only [hm, decide_false, cond_false, zw]
   refine (zht s).mono fun x hx => ?_
   rw [hx, zF]
   refine ⟨fun g => ?_, fun g => ?_⟩
   . rw [g]; exact .mk rfl
   . rw [g, zw]
     refine (zhw s h).mono fun y hy => .mk ?_
     rw [hy]; rfl
theorem zkt (s : List UInt8) : zso s = some (decide (s ∈ resN)) := by
 unfold zso
 apply Tot.eq
 change Tot (Option.bind (lpO (fun (k : Int) => cond (decide (k < ((10 : Nat) : Int))) (zk (0 <= k /\ k < ((10 : Nat) : Int)) (zi resN ((k.toNat : Nat) : Int) _)) _) 0) _) _
 rw [zw]
 have hn' : resN.length = 10 := rfl
 refine Tot.count 10 (fun k x => x = (k : Int) /\ s ∉ resN.take k) ?_ ⟨rfl, by simp⟩
 rintro k _ hk ⟨rfl, hmem⟩
 simp only [zF, zo, qa, qk, qF, zw, Sum.elim_inl, Sum.elim_inr, decide_eq_true_eq, decide_eq_false_iff_not, Int.toNat_natCast]
 refine ⟨fun hlt => ?_, fun hge => ?_⟩
 . obtain ⟨x, hx⟩ := zv (l := resN) (i := k) (by omega)
   refine ⟨⟨by omega, by omega⟩, by omega, x, hx, fun g => ?_, fun g => ?_⟩
   . subst g
     have := List.mem_of_getElem? hx
     simp [this]
   . rw [w64 (by omega) (by omega), List.take_add_one, hx]
     refine ⟨by omega, by omega, fun hm => ?_⟩
     rcases List.mem_append.1 hm with hm | hm
     . exact hmem hm
     . simp at hm; exact g hm.symm
 . rw [List.take_of_length_le (by omega)] at hmem
   simp [hmem]
theorem zha (s : List UInt8) (h : s.length <= 1000000) : zsv s = some (exN s) := by
 unfold zsv exN
 apply Tot.eq
 rw [zw]
 refine (zk7 s).mono fun x hx => ?_
 rw [zw]
 refine (zCh s h).mono fun y hy => ?_
 rw [hx, hy, zkt]
 cases wV s && decide (s.length <= 16) <;> cases decide (s ∈ primN) <;> cases decide (s ∈ resN) <;> exact .mk rfl
open Go
def qH (r : Int) (l : Int × Int) : Int := if r = 2 then l.1 * l.2 else if r = 1 then l.1 else 1
def shC (r : Int) (l : Int × Int) : Int :=
 if r = 0 then (if l.1 = 0 then (if l.2 = 0 then 0 else 6) else 6)
 else if r = 1 then (if l.1 < 0 then 7 else if l.2 = 0 then (if 400 < l.1 then 15 else 0) else 6)
 else if r = 2 then (if l.1 < 0 then 7 else if l.2 < 0 then 7 else if 400 < l.1 then 15 else if 400 < l.2 then 15 else if 400 < l.1 * l.2 then 15 else 0)
 else 7
theorem zm0 {a b : Int} (h0 : 0 <= a) (h1 : a <= 400) (h2 : 0 <= b) (h3 : b <= 400) : 0 <= a * b /\ a * b <= 160000 :=
 ⟨Int.mul_nonneg h0 h2, by have := Int.mul_le_mul h1 h3 h2 (by omega : (0 : Int) <= 400); omega⟩
theorem zog : IntKind.wrap .i64 1 = 1 := by decide
theorem zsx : IntKind.wrap .i64 2 = 2 := by decide
theorem m1 : max (1 : Int) 0 = 1 := by decide
theorem zc5 (r : Int) (l : Int × Int) (h : shC r l = 0) : zdl r l = some (qH r l) := by
 unfold zdl qH
 unfold shC at h
 by_cases h2 : r = 2
 . subst h2
   simp only [decide_true, cond_true, zg, if_true]
   simp (config := { decide := true }) only [if_false, if_true] at h
   split at h
   . cases h
   split at h
   . cases h
   split at h
   . cases h
   split at h
   . cases h
   have hm := zm0 (a := l.1) (b := l.2) (by omega) (by omega) (by omega) (by omega)
   rw [w64 (e := 1 * l.2) (by omega) (by omega), Int.one_mul, Int.mul_comm l.2 l.1, w64 (by omega) (by omega)]
 by_cases h1 : r = 1
 . subst h1
   simp (config := { decide := true }) only [if_false, if_true] at h ⊢
   split at h
   . cases h
   split at h
   case isFalse => cases h
   split at h
   . cases h
   simp only [decide_true, cond_true, decide_false, cond_false, zg]
   rw [w64 (e := 1 * l.1) (by omega) (by omega), Int.one_mul]
 . simp [h1, h2]
theorem zew (r : Int) (l : Int × Int) : zsn r l = some (shC r l) := by
 unfold zsn
 by_cases hr : r < 0
 . have : shC r l = 7 := by unfold shC; rw [if_neg (by omega), if_neg (by omega), if_neg (by omega)]
   simp [hr, this]
 by_cases hr2 : 2 < r
 . have : shC r l = 7 := by unfold shC; rw [if_neg (by omega), if_neg (by omega), if_neg (by omega)]
   simp [hr, hr2, this]
 have e1 : decide (r < 0) = false := by simp; omega
 have e2 : decide (2 < r) = false := by simp; omega
 simp only [e1, e2, cond_false]
 rw [yp ⟨by omega, by omega⟩, yp ⟨by omega, by omega⟩]
 rw [zkv _ (by simp; omega), zky _ (by simp; omega), zkz _ (by simp; omega)]
 obtain ⟨a, b⟩ := l
 have hp := zc5 r (a, b)
 rcases (by omega : r = 0 \/ r = 1 \/ r = 2) with rfl | rfl | rfl
 . by_cases ha : a = 0 <;> by_cases hb : b = 0 <;> simp [shC, ha, hb, zdl]
 . by_cases ha : a < 0
   . simp [shC, ha]
   by_cases hb : b = 0
   case neg => simp [shC, ha, hb]
   by_cases h4 : 400 < a
   . simp [shC, ha, hb, h4]
   have hs : shC 1 (a, b) = 0 := by simp [shC, ha, hb, h4]
   have hp' := hp hs
   rw [hb] at hp' hs
   simp [hp', hs, ha, hb, h4, qH]
 . by_cases ha : a < 0
   . simp [shC, ha]
   by_cases hb : b < 0
   . simp [shC, ha, hb]
   by_cases h4 : 400 < a
   . simp [shC, ha, hb, h4]
   by_cases h5 : 400 < b
   . simp [shC, ha, hb, h4, h5]
   have hm := zm0 (a := a) (b := b) (by omega) (by omega) (by omega) (by omega)
   have hq : zdl 2 (a, b) = some (a * b) := by
    unfold zdl
    simp only [decide_true, cond_true, zg]
    rw [w64 (e := 1 * b) (by omega) (by omega), Int.one_mul, Int.mul_comm b a, w64 (by omega) (by omega)]
   by_cases h6 : 400 < a * b
   . simp [shC, ha, hb, h4, h5, h6, hq]
   . simp [shC, ha, hb, h4, h5, h6, hq]
theorem yz (r : Int) (l : Int × Int) : zgi r l = some (if shC r l = 0 then qH r l else 0, shC r l) := by
 unfold zgi
 rw [zew, Option.bind_some]
 by_cases h : shC r l = 0
 . simp [h, zc5 r l h]
 . simp [h]
theorem zj1 (r : Int) (l : Int × Int) (h : shC r l = 0 \/ (r = 2 /\ 0 <= l.1 /\ l.1 <= 400 /\ 0 <= l.2 /\ l.2 <= 400)) : zm2 r l = some (qH r l) := by
 unfold zm2
 obtain ⟨a, b⟩ := l
 by_cases h2 : r = 2
 . subst h2
   have hb : 0 <= a /\ a <= 400 /\ 0 <= b /\ b <= 400 := by
    rcases h with h | ⟨_, h⟩
    . unfold shC at h
      simp (config := { decide := true }) only [if_false, if_true] at h
      split at h
      . cases h
      split at h
      . cases h
      split at h
      . cases h
      split at h
      . cases h
      omega
    . exact h
   have hm := zm0 (a := a) (b := b) hb.1 hb.2.1 hb.2.2.1 hb.2.2.2
   have w1 : IntKind.wrap .i64 a = a := w64 (by omega) (by omega)
   have w2 : IntKind.wrap .i64 (a * b) = a * b := w64 (by omega) (by omega)
   rw [qt]
   simp [zk, zi, zg, m1, zog, w1]
   rw [qt]
   simp [zk, zi, zg, m1, zsx, w2]
   rw [qt]
   simp [qH]
 by_cases h1 : r = 1
 . subst h1
   have hb : 0 <= a /\ a <= 400 := by
    rcases h with h | ⟨h, _⟩
    . unfold shC at h
      simp (config := { decide := true }) only [if_false, if_true] at h
      split at h
      . cases h
      split at h
      case isFalse => cases h
      split at h
      . cases h
      omega
    . cases h
   have w1 : IntKind.wrap .i64 a = a := w64 (by omega) (by omega)
   rw [qt]
   simp [zk, zi, zg, m1, zog, w1]
   rw [qt]
   simp [qH]
 . have h0 : r <= 0 := by
    rcases h with h | ⟨h, _⟩
    . unfold shC at h
      rw [if_neg h1, if_neg h2] at h
      split at h
      . omega
      . cases h
    . exact absurd h h2
   have : ¬ 0 < r := by omega
   rw [qt]
   simp [qH, h1, h2, this]
theorem zgt (r : Int) (l : Int × Int) : ztk r l = some (shC r l) := by
 unfold ztk
 by_cases hr : r < 0
 . have : shC r l = 7 := by unfold shC; rw [if_neg (by omega), if_neg (by omega), if_neg (by omega)]
   simp [hr, this]
 by_cases hr2 : 2 < r
 . have : shC r l = 7 := by unfold shC; rw [if_neg (by omega), if_neg (by omega), if_neg (by omega)]
   simp [hr, hr2, this]
 have e1 : decide (r < 0) = false := by simp; omega
 have e2 : decide (2 < r) = false := by simp; omega
 simp only [e1, e2, cond_false]
 obtain ⟨a, b⟩ := l
 have hp := zj1 r (a, b)
 rcases (by omega : r = 0 \/ r = 1 \/ r = 2) with rfl | rfl | rfl
 . rw [qt]
   simp only [decide_false, Int.lt_irrefl, cond_false, Option.bind_some, Sum.elim_inr, Sum.elim_inl]
   rw [qt]
   by_cases ha : a = 0
   case neg => simp [zk, zi, zg, m1, shC, ha]
   simp [zk, zi, zg, m1, ha, zog]
   rw [qt]
   by_cases hb : b = 0
   case neg => simp [zk, zi, zg, m1, shC, ha, hb]
   have hs : shC 0 (a, b) = 0 := by simp [shC, ha, hb]
   have hp' := hp (.inl hs)
   rw [ha, hb] at hp' hs
   simp [zk, zi, zg, m1, hb, zsx]
   rw [qt]
   simp [hp', hs, qH]
 . rw [qt]
   by_cases ha : a < 0
   . simp [zk, zi, zg, m1, shC, ha]
   simp [zk, zi, zg, m1, ha, zog]
   rw [qt]
   simp
   rw [qt]
   by_cases hb : b = 0
   case neg => simp [zk, zi, zg, m1, shC, ha, hb]
   simp [zk, zi, zg, m1, hb, zsx]
   rw [qt]
   by_cases h4 : 400 < a
   . simp [shC, ha, h4]
   have hs : shC 1 (a, b) = 0 := by simp [shC, ha, hb, h4]
   have hp' := hp (.inl hs)
   rw [hb] at hp' hs
   simp [hp', hs, qH, h4]
 . rw [qt]
   by_cases ha : a < 0
   . simp [zk, zi, zg, m1, shC, ha]
   simp [zk, zi, zg, m1, ha, zog]
   rw [qt]
   by_cases hb : b < 0
   . simp [zk, zi, zg, m1, shC, ha, hb]
   simp [zk, zi, zg, m1, hb, zsx]
   rw [qt]
   simp
   rw [qt]
   by_cases h4 : 400 < a
   . simp [shC, ha, hb, h4]
   by_cases h5 : 400 < b
   . simp [shC, ha, hb, h4, h5]
   have hp' := hp (.inr ⟨rfl, by simp; omega, by simp; omega, by simp; omega, by simp; omega⟩)
   by_cases h6 : 400 < a * b
   . simp [shC, ha, hb, h4, h5, h6, hp', qH]
   . simp [shC, ha, hb, h4, h5, h6, hp', qH]
theorem zaf (r : Int) (l : Int × Int) : zma r l = some (if shC r l = 0 then qH r l else 0, shC r l) := by
 unfold zma
 rw [zgt, Option.bind_some]
 by_cases h : shC r l = 0
 . simp [h, zj1 r l (.inl h)]
 . simp [h]
open Go
def wd (c : Int) : Bool := decide (0 <= c) && decide (c <= 1114111) && (decide (c < 55296) || decide (57343 < c))
def wR (a : TA) : Int :=
 if a.Kind = 1 \/ a.Kind = 2 then
  if shC a.Rank a.Lens = 0 then
   if (a.Cells.length : Int) = qH a.Rank a.Lens then
    if a.Kind = 2 /\ (a.Cells.any fun c => !wd c) = true then 7 else 0
   else 6
  else shC a.Rank a.Lens
 else 2
theorem zt6 {r : Int} (h0 : 0 <= r) (h1 : r <= 1114111) : IntKind.wrap .i32 r = r := by
 simp only [IntKind.wrap, IntKind.signed, IntKind.bits]
 have h3 : (2 : Int) ^ 32 = 4294967296 := by decide
 have h4 : (2 : Int) ^ (32 - 1) = 2147483648 := by decide
 simp only [h3, h4, Bool.true_and, decide_eq_true_eq, ge_iff_le]
 split <;> omega
theorem ziq (c : Int) : zap c = some (wd c) := by
 unfold zap wd
 by_cases h0 : 0 <= c <;> by_cases h1 : c < 55296 <;> by_cases h2 : 57343 < c <;> by_cases h3 : c <= 1114111 <;> simp [h0, h1, h2, h3] <;> omega
theorem ztp (k c : Int) : zll k c = some (decide (k = 1) || wd c) := by
 unfold zll
 by_cases hk : k = 1
 . simp [hk]
 by_cases h0 : 0 <= c
 case neg => simp [hk, h0, wd]
 by_cases h1 : c <= 1114111
 case neg => simp [hk, h0, h1, wd]
 simp only [hk, h0, h1, decide_true, decide_false, cond_true, cond_false, zg, zt6 h0 h1, ziq, Option.bind_some, Bool.false_or]
theorem zo2 (c : Int) : zjh c = some (wd c) := by
 unfold zjh wd
 by_cases h0 : 0 <= c <;> by_cases h1 : c < 55296 <;> by_cases h2 : 57343 < c <;> by_cases h3 : c <= 1114111 <;> simp [h0, h1, h2, h3]
theorem zc2 (l : List Int) (a : TA) (h : l.length <= 1000000000) : zib l a = some (l.any fun c => !(decide (a.Kind = 1) || wd c)) := by
 unfold zib zts
 refine zce (l := l) (fun c => !(decide (a.Kind = 1) || wd c)) (e := ()) rfl (fun k x hx hlt => ?_) (by simp)
 simp only [List.length_map, Int.ofNat_lt, hlt, decide_true, cond_true, zi, Int.toNat_natCast, hx, Option.bind_some, zg, Int.natCast_nonneg, if_true, zsz, ztp]
 rw [w64 (by omega) (by omega)]
 cases decide (a.Kind = 1) || wd x <;> rfl
theorem ze4 (a : TA) (h : a.Cells.length <= 1000000000) : zeq a = some (wR a) := by
 unfold zeq wR
 rw [yz, zc2 _ _ h]
 simp only [Option.bind_some, List.length_map]
 have key : cond (!decide (shC a.Rank a.Lens = 0)) (some (shC a.Rank a.Lens)) (cond (!decide ((a.Cells.length : Int) = if shC a.Rank a.Lens = 0 then qH a.Rank a.Lens else 0)) (some 6) (cond (a.Cells.any fun c => !(decide (a.Kind = 1) || wd c)) (some 7) (some (0 : Int)))) = some (if shC a.Rank a.Lens = 0 then if (a.Cells.length : Int) = qH a.Rank a.Lens then if (a.Cells.any fun c => !(decide (a.Kind = 1) || wd c)) = true then 7 else 0 else 6 else shC a.Rank a.Lens) := by
  by_cases h1 : shC a.Rank a.Lens = 0
  case neg => simp [h1]
  by_cases h2 : (a.Cells.length : Int) = qH a.Rank a.Lens
  case neg => simp [h1, h2]
  simp only [h1, h2, if_true, decide_true, Bool.not_true, cond_false]
  cases (a.Cells.any fun c => !(decide (a.Kind = 1) || wd c)) <;> rfl
 rw [key]
 by_cases k1 : a.Kind = 1
 . have : (a.Cells.any fun c => !(decide (a.Kind = 1) || wd c)) = false := by
    rw [List.any_eq_false]; intro c _; simp [k1]
   rw [this]
   simp [k1]
 by_cases k2 : a.Kind = 2
 . have : (a.Cells.any fun c => !(decide (a.Kind = 1) || wd c)) = a.Cells.any fun c => !wd c := by
    congr 1; funext c; simp [k1]
   rw [this]
   simp [k2]
 . simp [k1, k2]
theorem zfh (a : TA) (h : a.Cells.length <= 1000000000) : zgp a = some (wR a) := by
 unfold zgp wR
 rw [zaf]
 simp only [Option.bind_some, List.length_map]
 have lp0 : ∀ (v : Int), Option.bind (lpO (fun (_ : Unit) => cond (decide ((0 : Int) < (a.Cells.length : Int))) (some (Sum.inr (Sum.inl ()) : Unit ⊕ (Unit ⊕ Int))) (some (Sum.inr (Sum.inl ())))) ()) (Sum.elim (fun _ => some v) some) = some v := by
  intro v
  rw [qt]
  cases decide ((0 : Int) < (a.Cells.length : Int)) <;> rfl
 have lp1 : Option.bind (lpO (fun (s : Int × Int) => cond (decide (s.1 < (a.Cells.length : Int))) (cond (decide (s.2 = 0)) (cond (decide (a.Kind = 2)) (zi a.Cells s.1 fun x => Option.bind (zjh x) fun y => cond (!y) (zg (IntKind.wrap .i64 (s.1 + 1)) fun z => some (Sum.inl (z, (7 : Int)))) (zg (IntKind.wrap .i64 (s.1 + 1)) fun z => some (Sum.inl (z, s.2)))) (zg (IntKind.wrap .i64 (s.1 + 1)) fun z => some (Sum.inl (z, s.2)))) (some (Sum.inr (Sum.inl s.2 : Int ⊕ Int)))) (some (Sum.inr (Sum.inl s.2)))) ((0 : Int), (0 : Int))) (Sum.elim (fun v => some v) some) = some (if a.Kind = 2 /\ (a.Cells.any fun c => !wd c) = true then 7 else 0) := by
  apply Tot.eq
  rw [zw]
  refine Tot.count a.Cells.length (fun k s => s.1 = (k : Int) /\ s.2 = if a.Kind = 2 /\ ((a.Cells.take k).any fun c => !wd c) = true then 7 else 0) ?_ ⟨rfl, by simp⟩
  rintro k ⟨i, e⟩ hk ⟨rfl, he⟩
  simp only at he
  simp only [zF, zo, qa, qk, zw, Sum.elim_inl, Sum.elim_inr, decide_eq_true_eq, decide_eq_false_iff_not, Int.toNat_natCast, zo2]
  refine ⟨fun hlt => ⟨fun e0 => ⟨fun k2 => ?_, fun k2 => ?_⟩, fun e0 => ?_⟩, fun hge => ?_⟩
  . obtain ⟨x, hx⟩ := zv (l := a.Cells) (i := k) (by omega)
    refine ⟨by omega, x, hx, ?_⟩
    have hp : ((a.Cells.take k).any fun c => !wd c) = false := by
     rw [e0] at he
     cases hh : (a.Cells.take k).any fun c => !wd c with
     | false => rfl
     | true => rw [if_pos ⟨k2, hh⟩] at he; cases he
    rw [w64 (by omega) (by omega), List.take_add_one, hx, List.any_append, hp]
    refine ⟨fun g => ⟨by omega, by omega, ?_⟩, fun g => ⟨by omega, by omega, ?_⟩⟩
    . simp at g; simp [k2, g]
    . simp at g; simp [g, e0]
  . rw [w64 (by omega) (by omega)]
    refine ⟨by omega, by omega, ?_⟩
    rw [if_neg (fun h => k2 h.1)]; exact e0
  . have k2 : a.Kind = 2 /\ ((a.Cells.take k).any fun c => !wd c) = true := by
     by_cases hh : a.Kind = 2 /\ ((a.Cells.take k).any fun c => !wd c) = true
     . exact hh
     . rw [if_neg hh] at he; exact absurd he e0
    rw [if_pos k2] at he
    rw [he, if_pos]
    refine ⟨k2.1, ?_⟩
    obtain ⟨x, hx, hb⟩ := List.any_eq_true.1 k2.2
    exact List.any_eq_true.2 ⟨x, List.mem_of_mem_take hx, hb⟩
  . rw [List.take_of_length_le (by omega)] at he
    exact he
 by_cases h1 : shC a.Rank a.Lens = 0
 case neg =>
  simp only [h1, decide_false, cond_false, if_false, lp0]
  by_cases k1 : a.Kind = 1
  . simp [k1]
  by_cases k2 : a.Kind = 2
  . simp [k2]
  . simp [k1, k2]
 simp only [h1, decide_true, cond_true, if_true]
 by_cases h2 : (a.Cells.length : Int) = qH a.Rank a.Lens
 case neg =>
  simp only [h2, decide_false, Bool.not_false, cond_true, if_false, lp0]
  by_cases k1 : a.Kind = 1
  . simp [k1]
  by_cases k2 : a.Kind = 2
  . simp [k2]
  . simp [k1, k2]
 rw [lp1]
 simp only [h2, decide_true, Bool.not_true, cond_false, if_true]
 by_cases k1 : a.Kind = 1
 . simp [k1]
 by_cases k2 : a.Kind = 2
 . simp [k2]
 . simp [k1, k2]
open Go
theorem qv {σ τ ε : Type} {step : σ -> Option (σ ⊕ (ε ⊕ τ))} {k1 : ε -> Option τ} (n : Nat) (S : Nat -> σ) (f : Nat -> Option τ) (e : ε)
 (h1 : ∀ k : Nat, k < n -> step (S k) = some (match f k with | some r => .inr (.inr r) | none => .inl (S (k + 1))))
 (h2 : step (S n) = some (.inr (.inl e))) {s0 : σ} (h0 : S 0 = s0) : (lpO step s0).bind (Sum.elim k1 some) = match zx f 0 n with | some r => some r | none => k1 e := by
 subst h0
 rw [zfz n S (fun k => (f k).map Sum.inr) (.inl e) (fun k hk => by rw [h1 k hk]; cases f k <;> rfl) h2, jO]
 cases zx f 0 n <;> rfl
theorem wI {σ τ ε : Type} {step : σ -> Option (σ ⊕ (ε ⊕ τ))} {k1 : ε -> Option τ} (n : Nat) (S : Nat -> σ) (e : ε)
 (h1 : ∀ k : Nat, k < n -> step (S k) = some (.inl (S (k + 1)))) (h2 : step (S n) = some (.inr (.inl e))) {s0 : σ} (h0 : S 0 = s0) : (lpO step s0).bind (Sum.elim k1 some) = k1 e := by
 subst h0
 rw [zAq n S (.inl e) h1 h2]; rfl
def i64 (n : Int) : Prop := -9223372036854775808 <= n /\ n <= 9223372036854775807
open Go
open Go
open Go
theorem zu2 {n : Int} (h : inK .u8 n) : 0 <= n /\ n < 256 := by
 have e1 : IntKind.u8.min = 0 := by decide
 have e2 : IntKind.u8.max = 255 := by decide
 unfold inK at h
 omega
open Go
theorem zpb (x : Int) (h0 : 0 <= x) (h1 : x < 256) : Tot (zmg x) fun y => ∀ n : Nat, n <= 8 -> x.toNat < 2 ^ n -> decide (y < (n : Int)) = !decide (x.toNat = 2 ^ n - 1) := by
 unfold zmg
 rw [qk]
 refine ⟨h0, ?_⟩
 have key : ∀ l : List UInt8, (∀ x : Fin 256, ∀ n : Fin 9, (l[x.val]?.map fun y => decide (x.val < 2 ^ n.val -> decide (IntKind.wrap .i64 (y.toNat : Int) < (n.val : Int)) = !decide (x.val = 2 ^ n.val - 1))) = some true) ->
  ∃ y, l[x.toNat]? = some y /\ Tot (zg (IntKind.wrap .i64 (y.toNat : Int)) fun z => some z) fun y => ∀ n : Nat, n <= 8 -> x.toNat < 2 ^ n -> decide (y < (n : Int)) = !decide (x.toNat = 2 ^ n - 1) := by
  intro l hl
  cases e : l[x.toNat]? with
  | none =>
    have := hl ⟨x.toNat, by omega⟩ ⟨0, by omega⟩
    simp only [e] at this
    cases this
  | some y =>
    refine ⟨y, rfl, .mk fun n hn hx => ?_⟩
    have := hl ⟨x.toNat, by omega⟩ ⟨n, by omega⟩
    simp only [e, Option.map_some, Option.some.injEq, decide_eq_true_eq] at this
    exact this hx
 exact key _ (by decide +kernel)
theorem zkf {l : TL} (h : LatIn l) : zmo l = some (if (qB l).2 = 0 then ((qI l : Int), 0) else (0, (qB l).2)) := by
 unfold zmo
 rw [zpi h [] (by simp)]
 simp only [Option.bind_some, zbw, List.all_nil, if_true]
 by_cases hk : (qB l).2 = 0
 case neg => simp [hk]
 have ok := je h hk
 simp only [hk, if_true, decide_true, Bool.not_true, cond_false]
 obtain ⟨o, e1, on, ol, _, ou, _⟩ := znc l ok.u8 ok.le ok.len
 rw [e1]
 simp only [Option.bind_some]
 have hb := (zgw h hk).1
 have hend : zr0 o.up_ o.n_ = some (qI l : Int) := by
  unfold zr0
  rw [on]
  have hw : IntKind.wrap .i64 ((l.Names.length : Int) - 1) = ((l.Names.length - 1 : Nat) : Int) := by
   have := ok.pos; have := ok.le
   rw [w64 (by omega) (by omega)]; omega
  have hle := ok.le
  have hpos := ok.pos
  have hrun := zfz (step := fun (s585 : Int) =>
   zg (IntKind.wrap IntKind.i64 ((l.Names.length : Int) - (1 : Int))) fun x591 =>
   cond (decide (s585 < x591))
   (zk ((0 : Int) <= s585 /\ s585 < (↑(8 : Nat) : Int)) (
   zi (o.up_) ((↑(Int.toNat s585) : Int)) fun x593 =>
   Option.bind (zmg (x593)) fun x594 =>
   cond (decide (x594 < (l.Names.length : Int)))
   (zg (IntKind.wrap IntKind.i64 (s585 + (1 : Int))) fun x596 =>
   some (Sum.inl (x596)))
   (some (Sum.inr (Sum.inl (β := Int) s585)))))
   (some (Sum.inr (Sum.inl s585)))) (l.Names.length - 1) (fun k => (k : Int)) (fun k => if k = qI l then some (Sum.inl (k : Int)) else none) (Sum.inl ((l.Names.length - 1 : Nat) : Int)) (fun k hk2 => by
     have hlt : (k : Int) < ((l.Names.length - 1 : Nat) : Int) := by omega
     have n1 : (0 : Int) <= (k : Int) := by omega
     have n2 : (k : Int) < ((8 : Nat) : Int) := by omega
     have hw2 : IntKind.wrap .i64 ((k : Int) + 1) = ((k + 1 : Nat) : Int) := w64 (by omega) (by omega)
     obtain ⟨x, hx⟩ := zv (l := l.Up) (i := k) (by have := ok.len; omega)
     have hx' := ok.u8.get hx
     have hox : o.up_[k]? = some x := by rw [ou k (by omega)]; exact hx
     obtain ⟨y, ey, hy⟩ := zpb x hx'.1 hx'.2
     have hux : x.toNat = upN l k := by unfold upN; rw [List.getD_eq_getElem?_getD, hx]; rfl
     have hf := zyg h hk (b := k) (by omega)
     have hlt2 : x.toNat < 2 ^ l.Names.length := by
      have h1 := (zc1 h hk).1 k (by omega)
      unfold xc at h1
      simp only [Bool.and_eq_true, decide_eq_true_eq] at h1
      rw [hux]; exact h1.1.1
     have hd := hy l.Names.length hle hlt2
     rw [hux] at hd
     simp only [zg, hw, hlt, decide_true, cond_true, zk, n1, n2, and_self, if_true, zi, Int.toNat_natCast, hox, Option.bind_some, ey, hw2, hd]
     by_cases hq : k = qI l
     . have := hf.2 hq
       simp only [this, if_pos hq, decide_true, Bool.not_true, cond_false]
     . have : ¬ upN l k = 2 ^ l.Names.length - 1 := fun e => hq (hf.1 e)
       simp only [this, if_neg hq, decide_false, Bool.not_false, cond_true]) (by
     simp only [zg, hw]
     simp)
  have hs0 : ((0 : Nat) : Int) = 0 := rfl
  simp only [hs0] at hrun
  rw [hrun]
  have hsc : (zx (fun k => if k = qI l then some (Sum.inl (α := Int) (β := Int) (k : Int)) else none) 0 (l.Names.length - 1)).getD (Sum.inl ((l.Names.length - 1 : Nat) : Int)) = Sum.inl (qI l : Int) := by
   cases e : zx (fun k => if k = qI l then some (Sum.inl (α := Int) (β := Int) (k : Int)) else none) 0 (l.Names.length - 1) with
   | some r =>
     have : r = Sum.inl (qI l : Int) := uX (v := Sum.inl (qI l : Int)) (fun i => by
      by_cases hi : i = qI l
      . exact .inl (by rw [if_pos hi, hi])
      . exact .inr (by rw [if_neg hi])) e
     rw [this]; rfl
   | none =>
     have hn := scan_none.1 e
     rcases Nat.lt_or_ge (qI l) (l.Names.length - 1) with g | g
     . have := hn (qI l) (by omega) (by omega)
       simp at this
     . have : qI l = l.Names.length - 1 := by omega
       rw [this]; rfl
  rw [hsc]
  rfl
 rw [hend]
 rfl
open Go
theorem zkq {l : TL} (h : LatIn l) : znn l = some (if (qB l).2 = 0 then ((qI l : Int), 0) else (0, (qB l).2)) := by
 apply Tot.eq
 unfold znn
 rw [zjr h]
 simp only [Option.bind_some]
 by_cases hk : (qB l).2 = 0
 case neg =>
  have : zbw l [0, 0] = (qB l).2 := by unfold zbw; rw [if_neg hk]
  simp only [this, hk, decide_false, Bool.not_false, cond_true, if_false]
  exact .mk rfl
 have ok := je h hk
 have hpos := ok.pos
 have hle := ok.le
 have h0n : (0 : Int) < (l.Names.length : Int) := by omega
 have hl0 : wt l 0 = true := by unfold wt; rw [decide_eq_true (Int.le_refl 0), decide_eq_true h0n]; rfl
 have ha : zbw l [0, 0] = 0 := by unfold zbw; rw [if_pos hk, List.all_cons, List.all_cons, hl0]; rfl
 simp only [ha, hk, decide_true, Bool.not_true, cond_false, if_true]
 obtain ⟨d, e1, dl, dd⟩ := zhy ok.u8 ok.le ok.len
 rw [e1]
 simp only [Option.bind_some, zw, List.length_map]
 refine Tot.count l.Names.length (fun k s => s.1 = (k : Int) /\ ∃ v : Nat, s.2 = (v : Int) /\ v < l.Names.length /\ ∀ i, i < l.Names.length -> up l i v = true -> ∀ j, j < k -> up l i j = true) ?_ ⟨rfl, 0, rfl, by omega, fun i _ _ j hj => by omega⟩
 rintro k ⟨i, w⟩ hkn ⟨h0, v, h1, h2, h3⟩
 simp only at h0 h1
 subst h0 h1
 simp only [zF, decide_eq_true_eq, decide_eq_false_iff_not]
 refine ⟨fun hlt => ?_, fun hlt => ?_⟩
 . obtain ⟨c, hc, hcn, hg⟩ := znd h hk (a := k) (b := v) (by omega) h2
   rw [uk d (dnN l) k v (by omega) (fun c hc => dd c (by omega)) (fun c hc2 => zg6 l c hle) (by omega) (by omega)]
   unfold zdc
   rw [dl, hc]
   simp only [Option.bind_some, zg, zo, Sum.elim_inl]
   refine ⟨by omega, w64 (by omega) (by omega), c, rfl, hcn, fun i hi hu j hj => ?_⟩
   rw [zic hi hg] at hu
   simp only [Bool.and_eq_true] at hu
   rcases Nat.lt_or_ge j k with g | g
   . exact h3 i hi hu.2 j g
   . have : j = k := by omega
     rw [this]; exact hu.1
 . have hke : k = l.Names.length := by omega
   simp only [zo, Sum.elim_inl, Sum.elim_inr]
   have := zvm h hk h2 fun a ha => h3 v h2 (ok.self v h2) a (by omega)
   rw [<- this]
open Go
theorem zv5 {l : TL} (hu : U8s l.Up) {a b : Nat} (ha : a < l.Up.length) (hb : b <= 8) : zom l a b = some (up l a b) := by
 unfold zom
 obtain ⟨x, hx⟩ := zv ha
 have hx' := hu.get hx
 have key : ∀ u : Fin 256, ∀ b : Fin 9, decide (bits .and .u8 (Int.fdiv (u.val : Int) (2 ^ min b.val (IntKind.bits .u8))) 1 = 1) = Nat.testBit u b := by decide +kernel
 have := key ⟨x.toNat, by omega⟩ ⟨b, by omega⟩
 simp only [Int.toNat_of_nonneg hx'.1] at this
 simp only [Int.natCast_nonneg, zi, Int.toNat_natCast, if_true, hx, Option.bind_some, zk, this, jF hx]
theorem zhr {l : TL} (h : LatIn l) (hk : (qB l).2 = 0) (xs : List Int) (hx : xs.length <= 64) (hl : ∀ x ∈ xs, wt l x = true) : zrq l xs = some (0, 0) := by
 unfold zrq
 rw [zab h]
 have h64 : ¬ (64 : Int) < (xs.length : Int) := by omega
 simp only [Option.bind_some, hk, decide_true, Bool.not_true, cond_false, List.length_map, h64, decide_false]
 refine (wI xs.length (fun k => (k : Int)) () (fun k hk => ?_) (by simp) rfl).trans rfl
 obtain ⟨x, hx⟩ := zv hk
 have hq := hl x (List.mem_of_getElem? hx)
 unfold wt at hq
 simp only [Bool.and_eq_true, decide_eq_true_eq] at hq
 have hlt : (k : Int) < (xs.length : Int) := by omega
 have hw : IntKind.wrap .i64 ((k : Int) + 1) = ((k + 1 : Nat) : Int) := w64 (by omega) (by omega)
 have n1 : (0 : Int) <= (k : Int) := by omega
 have n2 : ¬ x < 0 := by omega
 have n3 : ¬ (l.Names.length : Int) <= x := by omega
 simp only [hlt, decide_true, cond_true, zi, n1, if_true, Int.toNat_natCast, hx, Option.bind_some, zg, hw, n2, n3, decide_false, cond_false]
def flK (l : TL) (xs : List Int) (a : Int) (k : Nat) : Option Int := match xs[k]? with
 | some x => if up l x.toNat a.toNat = true then none else some (k : Int)
 | none => none
def flV (l : TL) (xs : List Int) (a : Int) : Int × Int := match zx (flK l xs a) 0 xs.length with | some r => (r, 25) | none => (0, 0)
theorem zv8 {l : TL} (h : LatIn l) (hk : (qB l).2 = 0) (xs : List Int) (hx : xs.length <= 64) (hl : ∀ x ∈ xs, wt l x = true) (a : Int) (ha : wt l a = true) :
 zjo l xs a = some (flV l xs a) := by
 have ok := je h hk
 have hle := ok.le
 have hlen := ok.len
 unfold zjo
 rw [zhr h hk xs hx hl]
 unfold wt at ha
 simp only [Bool.and_eq_true, decide_eq_true_eq] at ha
 have n2 : ¬ a < 0 := by omega
 have n3 : ¬ (l.Names.length : Int) <= a := by omega
 simp only [Option.bind_some, decide_true, Bool.not_true, cond_false, n2, n3, decide_false, List.length_map]
 have hi : zre xs (l, a) = some (match zx (flK l xs a) 0 xs.length with | some r => r | none => -1) := by
  unfold zre
  simp only [List.length_map]
  refine (qv xs.length (fun k => (k : Int)) (flK l xs a) () (fun k hk => ?_) (by simp) rfl).trans ?_
  . obtain ⟨x, hx⟩ := zv hk
    have hq := hl x (List.mem_of_getElem? hx)
    unfold wt at hq
    simp only [Bool.and_eq_true, decide_eq_true_eq] at hq
    have hlt : (k : Int) < (xs.length : Int) := by omega
    have hw : IntKind.wrap .i64 ((k : Int) + 1) = ((k + 1 : Nat) : Int) := w64 (by omega) (by omega)
    have n1 : (0 : Int) <= (k : Int) := by omega
    have hb : zom l x a = some (up l x.toNat a.toNat) := by
     have := zv5 ok.u8 (a := x.toNat) (b := a.toNat) (by omega) (by omega)
     rwa [Int.toNat_of_nonneg hq.1, Int.toNat_of_nonneg ha.1] at this
    simp only [hlt, decide_true, cond_true, zi, n1, if_true, Int.toNat_natCast, hx, Option.bind_some, zg, hw, zxw, hb, flK]
    cases up l x.toNat a.toNat <;> simp
  . cases zx (flK l xs a) 0 xs.length <;> rfl
 rw [hi]
 unfold flV
 cases e : zx (flK l xs a) 0 xs.length with
 | none => simp
 | some r =>
   have : 0 <= r := by
    have key : ∀ {j k : Nat} {b : Int}, zx (flK l xs a) k j = some b -> 0 <= b := by
     intro j
     induction j with
     | zero => intro k b h; cases h
     | succ j ih =>
       intro k b h
       simp only [zx] at h
       cases hf : flK l xs a k with
       | none => rw [hf] at h; exact ih h
       | some z =>
         rw [hf] at h
         cases h
         unfold flK at hf
         split at hf
         . split at hf
           . cases hf
           . cases hf; omega
         . cases hf
    exact key e
   simp [this]
open Go
def qj (l : TL) (a : Int) : Bool := decide (0 <= a) && decide (a < (l.Names.length : Int))
theorem uj (l : TL) (a : Int) : xt l a = some (qj l a) := by
 unfold xt qj
 by_cases h : 0 <= a <;> simp [h]
theorem xx (l : TL) (a : Int) : un l a = some (qj l a) := by
 unfold un qj
 by_cases h : 0 <= a <;> simp [h]
def nmE (s : List UInt8) (before : List (List UInt8)) : Int := if exN s = true then (if s ∈ before then 8 else 0) else 24
theorem inL_iff {α : Type} [DecidableEq α] {a : α} {l : List α} : inL a l = true ↔ a ∈ l := by
 unfold inL; simp
theorem zbg (s : List UInt8) (b : List (List UInt8)) (h : s.length <= 1000000) (hb : b.length <= 1000000) : zmq s b = some (nmE s b) := by
 unfold zmq nmE
 rw [zha s h]
 simp only [Option.bind_some, List.length_map]
 cases exN s with
 | false => simp
 | true =>
   simp only [Bool.not_true, cond_false, if_true]
   refine (qv b.length (fun k => (k : Int)) (fun k => match b[k]? with | some x => if x = s then some (8 : Int) else none | none => none) () (fun k hk => ?_) ?_ rfl).trans ?_
   . obtain ⟨x, hx⟩ := zv hk
     have hlt : (k : Int) < (b.length : Int) := by omega
     have hw : IntKind.wrap .i64 ((k : Int) + 1) = ((k + 1 : Nat) : Int) := w64 (by omega) (by omega)
     have n1 : (0 : Int) <= (k : Int) := by omega
     simp only [hlt, decide_true, cond_true, zi, n1, if_true, Int.toNat_natCast, hx, Option.bind_some, zg, hw]
     by_cases he : x = s <;> simp [he]
   . simp
   . cases hr : zx (fun k => match b[k]? with | some x => if x = s then some (8 : Int) else none | none => none) 0 b.length with
     | some r =>
       have h8 : r = 8 := uX (v := (8 : Int)) (fun i => by
        cases b[i]? with
        | none => exact .inr rfl
        | some x => by_cases hx : x = s <;> simp [hx]) hr
       have hm : s ∈ b := by
        by_cases hm : s ∈ b
        . exact hm
        have : zx (fun k => match b[k]? with | some x => if x = s then some (8 : Int) else none | none => none) 0 b.length = none := by
         rw [scan_none]
         intro i _ hi
         obtain ⟨x, hx⟩ := zv (l := b) (i := i) (by omega)
         rw [hx]
         have : x ≠ s := fun e => hm (e ▸ List.mem_of_getElem? hx)
         simp [this]
        rw [this] at hr; cases hr
       simp [hm, h8]
     | none =>
       have hm : ¬ s ∈ b := by
        intro hm
        obtain ⟨i, hi, e⟩ := List.getElem_of_mem hm
        have := scan_none.1 hr i (by omega) (by omega)
        rw [List.getElem?_eq_getElem hi, e] at this
        simp at this
       simp [hm]
def chK (p : TP) (k : Nat) : Option (Int × Int) := match p.Channels[k]? with
 | some c => if nmE c.s_ ((p.Channels.take k).map (·.s_)) ≠ 0 then some ((k : Int), nmE c.s_ ((p.Channels.take k).map (·.s_))) else if qj p.Lattice c.at_ = true then none else some ((k : Int), 7)
 | none => none
def chC (p : TP) : Int × Int := if (16 : Int) < (p.Channels.length : Int) then (-1, 3) else match zx (chK p) 0 p.Channels.length with | some r => r | none => (0, 0)
theorem zd7 (p : TP) (hs : ∀ c ∈ p.Channels, c.s_.length <= 1000000) : zss p = some (chC p) := by
 unfold zss chC
 simp only [List.length_map]
 by_cases h : (16 : Int) < (p.Channels.length : Int)
 . simp [h]
 simp only [h, decide_false, cond_false, if_false]
 refine (qv p.Channels.length (fun k => ((k : Int), (p.Channels.take k).map (·.s_))) (chK p) () (fun k hk => ?_) ?_ rfl).trans ?_
 . obtain ⟨x, hx⟩ := zv hk
   have hlt : (k : Int) < (p.Channels.length : Int) := by omega
   have hw : IntKind.wrap .i64 ((k : Int) + 1) = ((k + 1 : Nat) : Int) := w64 (by omega) (by omega)
   have n1 : (0 : Int) <= (k : Int) := by omega
   have e : (p.Channels.take (k + 1)).map (·.s_) = (p.Channels.take k).map (·.s_) ++ [x.s_] := by rw [List.take_add_one, hx]; simp
   simp only [hlt, decide_true, cond_true, zi, n1, if_true, Int.toNat_natCast, hx, Option.bind_some, zg, hw, zbj x.s_ (hs x (List.mem_of_getElem? hx)), uj, chK, e]
   unfold nmE
   cases exN x.s_ with
   | false => simp
   | true =>
     cases hi : inL x.s_ ((p.Channels.take k).map (·.s_)) with
     | true =>
       have := inL_iff.1 hi
       simp only [Bool.not_true, cond_false, cond_true, if_true, if_pos this]
       simp
     | false =>
       have : ¬ x.s_ ∈ (p.Channels.take k).map (·.s_) := fun h => by rw [inL_iff.2 h] at hi; cases hi
       simp only [Bool.not_true, cond_false, if_true, if_neg this]
       cases qj p.Lattice x.at_ <;> simp
 . simp
 . cases zx (chK p) 0 p.Channels.length <;> rfl
theorem zex (p : TP) (hs : ∀ c ∈ p.Channels, c.s_.length <= 1000000) : zrf p = some (chC p) := by
 unfold zrf chC
 simp only [List.length_map]
 by_cases h : (16 : Int) < (p.Channels.length : Int)
 . simp [h]
 simp only [h, decide_false, cond_false, if_false]
 refine (qv p.Channels.length (fun k => ((k : Int), (p.Channels.take k).map (·.s_))) (chK p) () (fun k hk => ?_) ?_ rfl).trans ?_
 . obtain ⟨x, hx⟩ := zv hk
   have hlt : (k : Int) < (p.Channels.length : Int) := by omega
   have hw : IntKind.wrap .i64 ((k : Int) + 1) = ((k + 1 : Nat) : Int) := w64 (by omega) (by omega)
   have n1 : (0 : Int) <= (k : Int) := by omega
   have e : (p.Channels.take (k + 1)).map (·.s_) = (p.Channels.take k).map (·.s_) ++ [x.s_] := by rw [List.take_add_one, hx]; simp
   have hl : ((p.Channels.take k).map (·.s_)).length <= 16 := by rw [List.length_map, List.length_take]; omega
   simp only [hlt, decide_true, cond_true, zi, n1, if_true, Int.toNat_natCast, hx, Option.bind_some, zg, hw, zbg x.s_ _ (hs x (List.mem_of_getElem? hx)) (Nat.le_trans hl (by omega)), xx, chK, e, zk, List.length_map]
   rw [if_pos (by rw [List.length_map] at hl; omega)]
   by_cases h0 : nmE x.s_ ((p.Channels.take k).map (·.s_)) = 0
   . simp only [h0]
     cases qj p.Lattice x.at_ <;> simp
   . generalize nmE x.s_ ((p.Channels.take k).map (·.s_)) = z at h0 ⊢
     simp [h0]
 . simp
 . cases zx (chK p) 0 p.Channels.length <;> rfl
end Go.Sx.O
noncomputable section
namespace Go.Sx.O
open Go
def yu (l : TL) (t : TY) : Int :=
 if t.Rank < 0 \/ 2 < t.Rank then 7
 else if qj l t.Axes.1 = true /\ qj l t.Axes.2 = true /\ qj l t.Data = true then
  if ([t.Axes.1, t.Axes.2].drop t.Rank.toNat).all (fun x => decide (x = (qI l : Int))) = true then
   if ([t.Axes.1, t.Axes.2].take t.Rank.toNat).all (fun x => up l x.toNat t.Data.toNat) = true then 0 else 25
  else 6
 else 7
def yl (l : TL) (t : TY) : Int := if (qB l).2 = 0 then (if t.Kind = 1 \/ t.Kind = 2 then yu l t else 7) else (qB l).2
theorem zv4 {β : Type} (v : β) (b : Int) (xs : List Int) (hx : xs.length <= 2) : zx (fun k => match xs[k]? with | some x => if x = b then none else some v | none => none) 0 xs.length = if xs.all (fun x => decide (x = b)) = true then none else some v := by
 match xs, hx with
 | [], _ => rfl
 | [x], _ => by_cases h : x = b <;> simp [zx, h]
 | [x, y], _ => by_cases h : x = b <;> by_cases g : y = b <;> simp [zx, h, g]
theorem zxr (l : TL) (a : Int) (xs : List Int) (hx : xs.length <= 2) : (flV l xs a).2 = if xs.all (fun x => up l x.toNat a.toNat) = true then 0 else 25 := by
 match xs, hx with
 | [], _ => rfl
 | [x], _ => cases h : up l x.toNat a.toNat <;> simp [flV, zx, flK, h]
 | [x, y], _ => cases h : up l x.toNat a.toNat <;> cases g : up l y.toNat a.toNat <;> simp [flV, zx, flK, h, g]
theorem ztz {l : TL} (h : LatIn l) (hk : (qB l).2 = 0) (t : TY) (hr : ¬ (t.Rank < 0 \/ 2 < t.Rank)) (l1 : qj l t.Axes.1 = true) (l2 : qj l t.Axes.2 = true) (l3 : qj l t.Data = true) :
 (Option.bind (lpO (fun (s612 : Int) =>
 cond (decide (s612 < (↑(List.length (List.drop (Int.toNat t.Rank) (List.take (Int.toNat (↑(2 : Nat) : Int)) [SV.int IntKind.i64 t.Axes.fst, SV.int IntKind.i64 t.Axes.snd]))) : Int)))
 (zi (List.drop (Int.toNat t.Rank) (List.take (Int.toNat (↑(2 : Nat) : Int)) [t.Axes.fst, t.Axes.snd])) (s612) fun x617 =>
 cond (!decide (x617 = (qI l : Int)))
 (some (Sum.inr (Sum.inr ((6 : Int)))))
 (zg (IntKind.wrap IntKind.i64 (s612 + (1 : Int))) fun x619 =>
 some (Sum.inl (x619))))
 (some (Sum.inr (Sum.inl (()))))) ((0 : Int)))
 (Sum.elim (fun (_ : Unit) =>
 zk ((0 : Int) <= t.Rank /\ t.Rank <= (↑(2 : Nat) : Int)) (
 Option.bind (zjo l (List.drop (Int.toNat (0 : Int)) (List.take (Int.toNat t.Rank) [t.Axes.fst, t.Axes.snd])) (t.Data)) fun x653 =>
 cond (!decide (x653.snd = (0 : Int)))
 (some (x653.snd))
 (some ((0 : Int))))) some)) = some (yu l t) := by
 have e0 : List.take (Int.toNat ((2 : Nat) : Int)) [t.Axes.fst, t.Axes.snd] = [t.Axes.fst, t.Axes.snd] := rfl
 have e1 : List.take (Int.toNat ((2 : Nat) : Int)) [SV.int IntKind.i64 t.Axes.fst, SV.int IntKind.i64 t.Axes.snd] = [SV.int IntKind.i64 t.Axes.fst, SV.int IntKind.i64 t.Axes.snd] := rfl
 have e2 : List.drop (Int.toNat 0) (List.take (Int.toNat t.Rank) [t.Axes.fst, t.Axes.snd]) = List.take (Int.toNat t.Rank) [t.Axes.fst, t.Axes.snd] := rfl
 rw [e0, e1, e2]
 have hlen : (List.drop (Int.toNat t.Rank) [SV.int IntKind.i64 t.Axes.fst, SV.int IntKind.i64 t.Axes.snd]).length = (List.drop (Int.toNat t.Rank) [t.Axes.fst, t.Axes.snd]).length := by simp
 rw [hlen]
 have hd2 : (List.drop (Int.toNat t.Rank) [t.Axes.fst, t.Axes.snd]).length <= 2 := by simp
 have ht2 : (List.take (Int.toNat t.Rank) [t.Axes.fst, t.Axes.snd]).length <= 2 := by simp; omega
 have htl : ∀ x ∈ List.take (Int.toNat t.Rank) [t.Axes.fst, t.Axes.snd], wt l x = true := fun x hx => by
  have := List.mem_of_mem_take hx
  simp only [List.mem_cons, List.not_mem_nil, or_false] at this
  rcases this with rfl | rfl
  . exact l1
  . exact l2
 unfold yu
 rw [if_neg hr, if_pos ⟨l1, l2, l3⟩]
 generalize hD : List.drop (Int.toNat t.Rank) [t.Axes.fst, t.Axes.snd] = D at hd2 ⊢
 generalize hT : List.take (Int.toNat t.Rank) [t.Axes.fst, t.Axes.snd] = T at ht2 htl ⊢
 refine (qv D.length (fun k => (k : Int)) (fun k => match D[k]? with | some x => if x = (qI l : Int) then none else some (6 : Int) | none => none) () (fun k hk => ?_) (by simp) rfl).trans ?_
 . obtain ⟨x, hx⟩ := zv hk
   have hlt : (k : Int) < (D.length : Int) := by omega
   have hw : IntKind.wrap .i64 ((k : Int) + 1) = ((k + 1 : Nat) : Int) := w64 (by omega) (by omega)
   have n1 : (0 : Int) <= (k : Int) := by omega
   simp only [hlt, decide_true, cond_true, zi, n1, if_true, Int.toNat_natCast, hx, Option.bind_some, zg, hw]
   by_cases hb : x = (qI l : Int) <;> simp [hb]
 . rw [zv4 (6 : Int) (qI l : Int) D hd2]
   by_cases hall : D.all (fun x => decide (x = (qI l : Int))) = true
   . simp only [hall, if_true]
     unfold zk
     rw [if_pos (by omega), zv8 h hk T (by omega) htl t.Data l3]
     have := zxr l t.Data T ht2
     simp only [Option.bind_some]
     rw [this]
     split <;> rfl
   . rw [if_neg hall, if_neg hall]
end Go.Sx.O
end
namespace Go.Sx.O
open Go
theorem zi4 {l : TL} (h : LatIn l) (t : TY) : zjf l t = some (yl l t) := by
 unfold zjf yl
 rw [zkf h]
 by_cases hk : (qB l).2 = 0
 case neg => simp [hk]
 simp only [hk, if_true, Option.bind_some, decide_true, Bool.not_true, cond_false, uj]
 by_cases r1 : t.Rank < 0
 . by_cases k1 : t.Kind = 1 <;> by_cases k2 : t.Kind = 2 <;> simp [k1, k2, r1, yu]
 by_cases r2 : 2 < t.Rank
 . by_cases k1 : t.Kind = 1 <;> by_cases k2 : t.Kind = 2 <;> simp [k1, k2, r1, r2, yu]
 have hr : ¬ (t.Rank < 0 \/ 2 < t.Rank) := by omega
 have hside : (0 : Int) <= t.Rank /\ t.Rank <= ((2 : Nat) : Int) := by omega
 cases l1 : qj l t.Axes.fst with
 | false => by_cases k1 : t.Kind = 1 <;> by_cases k2 : t.Kind = 2 <;> simp [k1, k2, r1, r2, yu, l1]
 | true =>
   cases l2 : qj l t.Axes.snd with
   | false => by_cases k1 : t.Kind = 1 <;> by_cases k2 : t.Kind = 2 <;> simp [k1, k2, r1, r2, yu, l1, l2]
   | true =>
     cases l3 : qj l t.Data with
     | false => by_cases k1 : t.Kind = 1 <;> by_cases k2 : t.Kind = 2 <;> simp [k1, k2, r1, r2, yu, l1, l2, l3]
     | true =>
       have key := ztz h hk t hr l1 l2 l3
       simp only [Bool.not_true, cond_false, r1, r2, decide_false]
       by_cases k1 : t.Kind = 1
       . simp only [k1, decide_true, Bool.not_true, cond_false, true_or, if_true]
         rw [zk, if_pos hside]
         exact key
       . by_cases k2 : t.Kind = 2
         . simp only [k1, k2, decide_true, decide_false, Bool.not_true, Bool.not_false, cond_true, cond_false, or_true, if_true]
           rw [zk, if_pos hside]
           exact key
         . simp [k1, k2]
open Go
def bK {β : Type} (v : β) (b : Int) (xs : List Int) (k : Nat) : Option β := match xs[k]? with | some x => if x = b then none else some v | none => none
theorem zz2 {β : Type} (v : β) (b : Int) (xs : List Int) (hx : xs.length <= 2) : zx (bK v b xs) 0 xs.length = if xs.all (fun x => decide (x = b)) = true then none else some v := by
 match xs, hx with
 | [], _ => rfl
 | [x], _ => by_cases h : x = b <;> simp [zx, bK, h]
 | [x, y], _ => by_cases h : x = b <;> by_cases g : y = b <;> simp [zx, bK, h, g]
def uK {β : Type} (v : β) (l : TL) (a : Int) (xs : List Int) (k : Nat) : Option β := match xs[k]? with | some x => if up l x.toNat a.toNat = true then none else some v | none => none
theorem zzt {β : Type} (v : β) (l : TL) (a : Int) (xs : List Int) (hx : xs.length <= 2) : zx (uK v l a xs) 0 xs.length = if xs.all (fun x => up l x.toNat a.toNat) = true then none else some v := by
 match xs, hx with
 | [], _ => rfl
 | [x], _ => cases h : up l x.toNat a.toNat <;> simp [zx, uK, h]
 | [x, y], _ => cases h : up l x.toNat a.toNat <;> cases g : up l y.toNat a.toNat <;> simp [zx, uK, h, g]
theorem zkw {l : TL} (h : LatIn l) (hk : (qB l).2 = 0) (t : TY) (hr : ¬ (t.Rank < 0 \/ 2 < t.Rank)) (l1 : qj l t.Axes.1 = true) (l2 : qj l t.Axes.2 = true) (l3 : qj l t.Data = true) :
 (Option.bind (lpO (fun (s598 : Int) =>
 cond (decide (s598 < (2 : Int)))
 (zk ((0 : Int) <= s598 /\ s598 < (↑(2 : Nat) : Int)) (
 zi ([t.Axes.fst, t.Axes.snd]) ((↑(Int.toNat s598) : Int)) fun x604 =>
 cond (!decide (x604 = (qI l : Int)))
 (some (Sum.inr (Sum.inr ((6 : Int)))))
 (zg (IntKind.wrap IntKind.i64 (s598 + (1 : Int))) fun x606 =>
 some (Sum.inl (x606)))))
 (some (Sum.inr (Sum.inl (()))))) (t.Rank))
 (Sum.elim (fun (_ : Unit) =>
 Option.bind (
 lpO (fun (s609 : Int) =>
 cond (decide (s609 < t.Rank))
 (zk ((0 : Int) <= s609 /\ s609 < (↑(2 : Nat) : Int)) (
 zi ([t.Axes.fst, t.Axes.snd]) ((↑(Int.toNat s609) : Int)) fun x614 =>
 Option.bind (Fz9 l (x614) (t.Data)) fun x615 =>
 cond (!x615)
 (some (Sum.inr (Sum.inr ((25 : Int)))))
 (zg (IntKind.wrap IntKind.i64 (s609 + (1 : Int))) fun x617 =>
 some (Sum.inl (x617)))))
 (some (Sum.inr (Sum.inl (()))))) ((0 : Int)))
 (Sum.elim (fun (_ : Unit) =>
 some ((0 : Int))) some)) some)) = some (yu l t) := by
 have ok := je h hk
 have hle := ok.le
 have hlen := ok.len
 unfold yu
 rw [if_neg hr, if_pos ⟨l1, l2, l3⟩]
 have l1' : wt l t.Axes.1 = true := l1
 have l2' : wt l t.Axes.2 = true := l2
 unfold qj at l1 l2 l3
 simp only [Bool.and_eq_true, decide_eq_true_eq] at l1 l2 l3
 have hB : ∀ x : Int, 0 <= x /\ x < (l.Names.length : Int) -> Fz9 l x t.Data = some (up l x.toNat t.Data.toNat) := fun x hx => by
  have := xh ok.u8 (a := x.toNat) (b := t.Data.toNat) (by omega) (by omega)
  rwa [Int.toNat_of_nonneg hx.1, Int.toNat_of_nonneg l3.1] at this
 have hdl : (2 - t.Rank).toNat = ([t.Axes.1, t.Axes.2].drop t.Rank.toNat).length := by simp; omega
 have htl : t.Rank.toNat = ([t.Axes.1, t.Axes.2].take t.Rank.toNat).length := by simp; omega
 refine (qv (2 - t.Rank).toNat (fun k => t.Rank + (k : Int)) (bK (6 : Int) (qI l : Int) ([t.Axes.1, t.Axes.2].drop t.Rank.toNat)) () (fun k hk2 => ?_) ?_ (by simp)).trans ?_
 . have hkk : t.Rank.toNat + k < 2 := by omega
   have hw : IntKind.wrap .i64 (t.Rank + (k : Int) + 1) = t.Rank + ((k + 1 : Nat) : Int) := by rw [w64 (by omega) (by omega)]; omega
   have hlt : t.Rank + (k : Int) < 2 := by omega
   have n1 : (0 : Int) <= t.Rank + (k : Int) /\ t.Rank + (k : Int) < ((2 : Nat) : Int) := by omega
   have hn : (t.Rank + (k : Int)).toNat = t.Rank.toNat + k := by omega
   obtain ⟨x, hx⟩ := zv (l := [t.Axes.1, t.Axes.2]) (i := t.Rank.toNat + k) (by simpa using hkk)
   have n0 : (0 : Int) <= ((t.Rank.toNat + k : Nat) : Int) := by omega
   simp only [hlt, decide_true, cond_true, zk, n1, and_self, if_true, zi, hn, n0, Int.toNat_natCast, hx, Option.bind_some, zg, hw, bK, List.getElem?_drop]
   by_cases hb : x = (qI l : Int) <;> simp [hb]
 . have : ¬ t.Rank + ((2 - t.Rank).toNat : Int) < 2 := by omega
   simp only [this, decide_false, cond_false]
 . rw [hdl, zz2 (6 : Int) (qI l : Int) _ (by simp)]
   by_cases hall : ([t.Axes.1, t.Axes.2].drop t.Rank.toNat).all (fun x => decide (x = (qI l : Int))) = true
   . simp only [hall, if_true]
     refine (qv t.Rank.toNat (fun k => (k : Int)) (uK (25 : Int) l t.Data ([t.Axes.1, t.Axes.2].take t.Rank.toNat)) () (fun k hk2 => ?_) ?_ rfl).trans ?_
     . have hkk : k < 2 := by omega
       have hw : IntKind.wrap .i64 ((k : Int) + 1) = ((k + 1 : Nat) : Int) := w64 (by omega) (by omega)
       have hlt : (k : Int) < t.Rank := by omega
       have n1 : (0 : Int) <= (k : Int) /\ (k : Int) < ((2 : Nat) : Int) := by omega
       obtain ⟨x, hx⟩ := zv (l := [t.Axes.1, t.Axes.2]) (i := k) (by simpa using hkk)
       have hxl : wt l x = true := by
        have := List.mem_of_getElem? hx
        simp only [List.mem_cons, List.not_mem_nil, or_false] at this
        rcases this with rfl | rfl
        . exact l1'
        . exact l2'
       have hxb : 0 <= x /\ x < (l.Names.length : Int) := by unfold wt at hxl; simpa using hxl
       simp only [hlt, decide_true, cond_true, zk, n1, and_self, if_true, zi, Int.toNat_natCast, hx, Option.bind_some, zg, hw, uK, hB x hxb, List.getElem?_take, hk2]
       cases up l x.toNat t.Data.toNat <;> simp
     . have : ¬ (t.Rank.toNat : Int) < t.Rank := by omega
       simp only [this, decide_false, cond_false]
     . rw (occs := .pos [2]) [htl]
       rw [zzt (25 : Int) l t.Data _ (by simp; omega)]
       cases (List.take t.Rank.toNat [t.Axes.fst, t.Axes.snd]).all fun x => up l x.toNat t.Data.toNat <;> rfl
   . rw [if_neg hall, if_neg hall]
open Go
def vrK (g : TY -> Int) (p : TP) (k : Nat) : Option (Int × Int) := match p.Vars[k]? with
 | some c => if nmE c.Name ((p.Vars.take k).map (·.Name)) ≠ 0 then some ((k : Int), nmE c.Name ((p.Vars.take k).map (·.Name))) else if g c.Type_ = 0 then none else some ((k : Int), g c.Type_)
 | none => none
def vrC (g : TY -> Int) (p : TP) : Int × Int := if (32 : Int) < (p.Vars.length : Int) then (-1, 3) else match zx (vrK g p) 0 p.Vars.length with | some r => r | none => (0, 0)
theorem zjm (g : TY -> Int) (p : TP) (hs : ∀ c ∈ p.Vars, c.Name.length <= 1000000) (hg : ∀ c ∈ p.Vars, zjf p.Lattice c.Type_ = some (g c.Type_)) : zth p = some (vrC g p) := by
 unfold zth vrC
 simp only [List.length_map]
 by_cases h : (32 : Int) < (p.Vars.length : Int)
 . simp [h]
 simp only [h, decide_false, cond_false, if_false]
 refine (qv p.Vars.length (fun k => ((k : Int), (p.Vars.take k).map (·.Name))) (vrK g p) () (fun k hk => ?_) ?_ rfl).trans ?_
 . obtain ⟨x, hx⟩ := zv hk
   have hlt : (k : Int) < (p.Vars.length : Int) := by omega
   have hw : IntKind.wrap .i64 ((k : Int) + 1) = ((k + 1 : Nat) : Int) := w64 (by omega) (by omega)
   have n1 : (0 : Int) <= (k : Int) := by omega
   have e : (p.Vars.take (k + 1)).map (·.Name) = (p.Vars.take k).map (·.Name) ++ [x.Name] := by rw [List.take_add_one, hx]; simp
   simp only [hlt, decide_true, cond_true, zi, n1, if_true, Int.toNat_natCast, hx, Option.bind_some, zg, hw, zbj x.Name (hs x (List.mem_of_getElem? hx)), hg x (List.mem_of_getElem? hx), vrK, e]
   unfold nmE
   cases exN x.Name with
   | false => simp
   | true =>
     cases hi : inL x.Name ((p.Vars.take k).map (·.Name)) with
     | true =>
       have := inL_iff.1 hi
       simp only [Bool.not_true, cond_false, cond_true, if_true, if_pos this]
       simp
     | false =>
       have : ¬ x.Name ∈ (p.Vars.take k).map (·.Name) := fun h => by rw [inL_iff.2 h] at hi; cases hi
       simp only [Bool.not_true, cond_false, if_true, if_neg this]
       by_cases hz : g x.Type_ = 0 <;> simp [hz]
 . simp
 . cases zx (vrK g p) 0 p.Vars.length <;> rfl
theorem zk5 (g : TY -> Int) (p : TP) (hs : ∀ c ∈ p.Vars, c.Name.length <= 1000000) (hg : ∀ c ∈ p.Vars, znq p.Lattice c.Type_ = some (g c.Type_)) : zrk p = some (vrC g p) := by
 unfold zrk vrC
 simp only [List.length_map]
 by_cases h : (32 : Int) < (p.Vars.length : Int)
 . simp [h]
 simp only [h, decide_false, cond_false, if_false]
 refine (qv p.Vars.length (fun k => ((k : Int), (p.Vars.take k).map (·.Name))) (vrK g p) () (fun k hk => ?_) ?_ rfl).trans ?_
 . obtain ⟨x, hx⟩ := zv hk
   have hlt : (k : Int) < (p.Vars.length : Int) := by omega
   have hw : IntKind.wrap .i64 ((k : Int) + 1) = ((k + 1 : Nat) : Int) := w64 (by omega) (by omega)
   have n1 : (0 : Int) <= (k : Int) := by omega
   have e : (p.Vars.take (k + 1)).map (·.Name) = (p.Vars.take k).map (·.Name) ++ [x.Name] := by rw [List.take_add_one, hx]; simp
   have hl : ((p.Vars.take k).map (·.Name)).length <= 32 := by rw [List.length_map, List.length_take]; omega
   simp only [hlt, decide_true, cond_true, zi, n1, if_true, Int.toNat_natCast, hx, Option.bind_some, zg, hw, zbg x.Name _ (hs x (List.mem_of_getElem? hx)) (Nat.le_trans hl (by omega)), hg x (List.mem_of_getElem? hx), vrK, e, zk, List.length_map]
   rw [if_pos (by rw [List.length_map] at hl; omega)]
   by_cases h0 : nmE x.Name ((p.Vars.take k).map (·.Name)) = 0
   . simp only [h0]
     by_cases hz : g x.Type_ = 0 <;> simp [hz]
   . generalize nmE x.Name ((p.Vars.take k).map (·.Name)) = z at h0 ⊢
     simp [h0]
 . simp
 . cases zx (vrK g p) 0 p.Vars.length <;> rfl
open Go
theorem zkx {l : TL} (h : LatIn l) (t : TY) : znq l t = some (yl l t) := by
 unfold znq yl
 rw [zae l h.u8 h.names h.name, <- zek h]
 by_cases hk : (qB l).2 = 0
 case neg => simp [hk]
 simp only [hk, if_true, Option.bind_some, decide_true, Bool.not_true, cond_false, xx]
 by_cases r1 : t.Rank < 0
 . by_cases k1 : t.Kind = 1 <;> by_cases k2 : t.Kind = 2 <;> simp [k1, k2, r1, yu]
 by_cases r2 : 2 < t.Rank
 . by_cases k1 : t.Kind = 1 <;> by_cases k2 : t.Kind = 2 <;> simp [k1, k2, r1, r2, yu]
 have hr : ¬ (t.Rank < 0 \/ 2 < t.Rank) := by omega
 cases l1 : qj l t.Axes.fst with
 | false => by_cases k1 : t.Kind = 1 <;> by_cases k2 : t.Kind = 2 <;> simp [k1, k2, r1, r2, yu, l1]
 | true =>
   cases l2 : qj l t.Axes.snd with
   | false => by_cases k1 : t.Kind = 1 <;> by_cases k2 : t.Kind = 2 <;> simp [k1, k2, r1, r2, yu, l1, l2]
   | true =>
     cases l3 : qj l t.Data with
     | false => by_cases k1 : t.Kind = 1 <;> by_cases k2 : t.Kind = 2 <;> simp [k1, k2, r1, r2, yu, l1, l2, l3]
     | true =>
       have key := zkw h hk t hr l1 l2 l3
       simp only [Bool.not_true, cond_false, r1, r2, decide_false, zkq h, hk, if_true, Option.bind_some]
       by_cases k1 : t.Kind = 1
       . simp only [k1, decide_true, Bool.not_true, cond_false, true_or, if_true]
         exact key
       . by_cases k2 : t.Kind = 2
         . simp only [k1, k2, decide_true, decide_false, Bool.not_true, Bool.not_false, cond_true, cond_false, or_true, if_true]
           exact key
         . simp [k1, k2]
def ckK {α τ : Type} (c : α -> Bool) (v : τ) (L : List α) (j : Nat) : Option τ := match L[j]? with | some y => if c y = true then some v else none | none => none
theorem zbv {α τ : Type} (c : α -> Bool) (v : τ) (L : List α) (n : Nat) (hn : n <= L.length) : zx (ckK c v L) 0 n = if (L.take n).any c = true then some v else none := by
 by_cases h : (L.take n).any c = true
 . rw [if_pos h]
   cases e : zx (ckK c v L) 0 n with
   | some r =>
     have : r = v := uX (v := v) (fun i => by
      unfold ckK
      cases L[i]? with
      | none => exact .inr rfl
      | some x => by_cases hx : c x = true <;> simp [hx]) e
     rw [this]
   | none =>
     exfalso
     rw [List.any_eq_true] at h
     obtain ⟨x, hx, hc⟩ := h
     obtain ⟨i, hi, hxi⟩ := List.getElem_of_mem hx
     rw [List.length_take] at hi
     have := scan_none.1 e i (by omega) (by omega)
     rw [List.getElem_take] at hxi
     unfold ckK at this
     rw [List.getElem?_eq_getElem (by omega), hxi] at this
     simp [hc] at this
 . rw [if_neg h, scan_none]
   intro i _ hi
   unfold ckK
   obtain ⟨x, hx⟩ := zv (l := L) (i := i) (by omega)
   rw [hx]
   have : ¬ c x = true := fun hc => h (by
    rw [List.any_eq_true]
    exact ⟨x, List.mem_take_iff_getElem.2 ⟨i, by omega, by rw [List.getElem?_eq_getElem (by omega)] at hx; exact Option.some.inj hx⟩, hc⟩)
   simp [this]
def zbx (x y : TU) : Bool := decide (y.From = x.From) && decide (y.Goal = x.Goal)
def rlK (p : TP) (k : Nat) : Option (Int × Int) := match p.Rules[k]? with
 | some x => if qj p.Lattice x.From = true then (if qj p.Lattice x.Goal = true then (if x.From = x.Goal then some ((k : Int), 25) else if up p.Lattice x.Goal.toNat x.From.toNat = true then (if (p.Rules.take k).any (zbx x) = true then some ((k : Int), 8) else if x.K < 2 then some ((k : Int), 3) else if 400 < x.K then some ((k : Int), 3) else none) else some ((k : Int), 25)) else some ((k : Int), 7)) else some ((k : Int), 7)
 | none => none
def rlC (p : TP) : Int × Int := if (64 : Int) < (p.Rules.length : Int) then (-1, 3) else match zx (rlK p) 0 p.Rules.length with | some r => r | none => (0, 0)
theorem zzp (x : TU) (L : List TU) : inL (x.From, x.Goal) (L.map fun y => (y.From, y.Goal)) = L.any (zbx x) := by
 rw [Bool.eq_iff_iff, inL_iff, List.any_eq_true]
 simp only [List.mem_map, Prod.mk.injEq, zbx, Bool.and_eq_true, decide_eq_true_eq]
theorem zzx {x : Int} (h0 : 0 <= x) (h1 : x < 256) {b : Nat} (hb : b <= 8) : decide (bits .and .u8 (Int.fdiv x (2 ^ min b (IntKind.bits .u8))) 1 = 0) = !Nat.testBit x.toNat b := by
 have key : ∀ u : Fin 256, ∀ b : Fin 9, decide (bits .and .u8 (Int.fdiv (u.val : Int) (2 ^ min b.val (IntKind.bits .u8))) 1 = 0) = !Nat.testBit u b := by decide +kernel
 have := key ⟨x.toNat, by omega⟩ ⟨b, by omega⟩
 simpa only [Int.toNat_of_nonneg h0] using this
theorem zh7 (p : TP) (h : LatIn p.Lattice) (hk : (qB p.Lattice).2 = 0) : zrx p = some (rlC p) := by
 have ok := je h hk
 have hle := ok.le
 have hlen := ok.len
 unfold zrx rlC
 simp only [List.length_map]
 by_cases h6 : (64 : Int) < (p.Rules.length : Int)
 . simp [h6]
 simp only [h6, decide_false, cond_false, if_false]
 refine (qv p.Rules.length (fun k => ((k : Int), (p.Rules.take k).map fun y => (y.From, y.Goal))) (rlK p) () (fun k hk => ?_) ?_ rfl).trans ?_
 . obtain ⟨x, hx⟩ := zv hk
   have hlt : (k : Int) < (p.Rules.length : Int) := by omega
   have hw : IntKind.wrap .i64 ((k : Int) + 1) = ((k + 1 : Nat) : Int) := w64 (by omega) (by omega)
   have n1 : (0 : Int) <= (k : Int) := by omega
   have e : (p.Rules.take (k + 1)).map (fun y => (y.From, y.Goal)) = (p.Rules.take k).map (fun y => (y.From, y.Goal)) ++ [(x.From, x.Goal)] := by rw [List.take_add_one, hx]; simp
   simp only [hlt, decide_true, cond_true, zi, n1, if_true, Int.toNat_natCast, hx, Option.bind_some, zg, hw, uj, rlK, e, zzp]
   cases l1 : qj p.Lattice x.From with
   | false => simp
   | true =>
     cases l2 : qj p.Lattice x.Goal with
     | false => simp
     | true =>
       unfold qj at l1 l2
       simp only [Bool.and_eq_true, decide_eq_true_eq] at l1 l2
       obtain ⟨u, hu⟩ := zv (l := p.Lattice.Up) (i := x.Goal.toNat) (by omega)
       have hu' := ok.u8.get hu
       have hb := zzx hu'.1 hu'.2 (b := x.From.toNat) (by omega)
       have n2 : (0 : Int) <= x.Goal := l2.1
       have n3 : (0 : Int) <= x.From := l1.1
       simp only [Bool.not_true, cond_false, n2, if_true, hu, Option.bind_some, zk, n3, hb, jF hu]
       by_cases hfg : x.From = x.Goal
       . simp [hfg]
       cases hbt : Nat.testBit u.toNat x.From.toNat with
       | false => simp [hfg]
       | true =>
         cases (p.Rules.take k).any (zbx x) with
         | true => simp [hfg]
         | false =>
           by_cases k2 : x.K < 2
           . simp [hfg, k2]
           . by_cases k4 : 400 < x.K <;> simp [hfg, k2, k4]
 . simp
 . cases zx (rlK p) 0 p.Rules.length <;> rfl
theorem zis (p : TP) (h : LatIn p.Lattice) (hk : (qB p.Lattice).2 = 0) : zq1 p = some (rlC p) := by
 have ok := je h hk
 have hle := ok.le
 have hlen := ok.len
 unfold zq1 rlC
 simp only [List.length_map]
 by_cases h6 : (64 : Int) < (p.Rules.length : Int)
 . simp [h6]
 simp only [h6, decide_false, cond_false, if_false]
 refine (qv p.Rules.length (fun k => (k : Int)) (rlK p) () (fun k hk => ?_) ?_ rfl).trans ?_
 . obtain ⟨x, hx⟩ := zv hk
   have hlt : (k : Int) < (p.Rules.length : Int) := by omega
   have hw : IntKind.wrap .i64 ((k : Int) + 1) = ((k + 1 : Nat) : Int) := w64 (by omega) (by omega)
   have n1 : (0 : Int) <= (k : Int) := by omega
   simp only [hlt, decide_true, cond_true, zi, n1, if_true, Int.toNat_natCast, hx, Option.bind_some, zg, hw, xx, rlK]
   cases l1 : qj p.Lattice x.From with
   | false => simp
   | true =>
     cases l2 : qj p.Lattice x.Goal with
     | false => simp
     | true =>
       unfold qj at l1 l2
       simp only [Bool.and_eq_true, decide_eq_true_eq] at l1 l2
       have hB := xh ok.u8 (a := x.Goal.toNat) (b := x.From.toNat) (by omega) (by omega)
       rw [Int.toNat_of_nonneg l2.1, Int.toNat_of_nonneg l1.1] at hB
       simp only [Bool.not_true, cond_false, if_true, hB, Option.bind_some]
       by_cases hfg : x.From = x.Goal
       . simp [hfg]
       cases hbt : up p.Lattice x.Goal.toNat x.From.toNat with
       | false => simp [hfg]
       | true =>
         simp only [hfg, decide_false, cond_false, Bool.not_true, if_true, if_false]
         refine (qv k (fun j => (j : Int)) (ckK (zbx x) (Sum.inr (Sum.inr ((k : Int), (8 : Int)))) p.Rules) () (fun j hj => ?_) ?_ rfl).trans ?_
         . obtain ⟨y, hy⟩ := zv (l := p.Rules) (i := j) (by omega)
           have hlt2 : (j : Int) < (k : Int) := by omega
           have hw2 : IntKind.wrap .i64 ((j : Int) + 1) = ((j + 1 : Nat) : Int) := w64 (by omega) (by omega)
           have n2 : (0 : Int) <= (j : Int) := by omega
           simp only [hlt2, decide_true, cond_true, n2, if_true, Int.toNat_natCast, hy, Option.bind_some, hw2, ckK, zbx]
           by_cases c1 : y.From = x.From <;> by_cases c2 : y.Goal = x.Goal <;> simp [c1, c2]
         . simp
         . rw [zbv _ _ _ k (by omega)]
           cases (p.Rules.take k).any (zbx x) with
           | true => simp
           | false =>
             by_cases k2 : x.K < 2
             . simp [k2]
             . by_cases k4 : 400 < x.K <;> simp [k2, k4]
 . simp
 . cases zx (rlK p) 0 p.Rules.length <;> rfl
end Go.Sx.O
noncomputable section
namespace Go.Sx.O
open Go
structure PolIn (p : TP) : Prop where
 lat : LatIn p.Lattice
 chan : ∀ c ∈ p.Channels, c.s_.length <= 1000000
 var : ∀ c ∈ p.Vars, c.Name.length <= 1000000
def wE (p : TP) : Int × Int × Int :=
 if (qB p.Lattice).2 = 0 then (if (chC p).2 = 0 then (if (vrC (yl p.Lattice) p).2 = 0 then (if (rlC p).2 = 0 then (0, 0, 0) else (4, rlC p)) else (3, vrC (yl p.Lattice) p)) else (2, chC p)) else (1, qB p.Lattice)
theorem zi7 {τ : Type} {P : τ -> Prop} {f : Nat -> Option τ} (hf : ∀ i r, f i = some r -> P r) : ∀ {n k r}, zx f k n = some r -> P r := by
 intro n
 induction n with
 | zero => intro k r h; cases h
 | succ n ih =>
   intro k r h
   simp only [zx] at h
   split at h
   . rename_i b hb; cases h; exact hf _ _ hb
   . exact ih h
theorem zwm {p : TP} (h : (rlC p).2 = 0) : rlC p = (0, 0) := by
 unfold rlC at h ⊢
 split at h
 . simp at h
 . rename_i h6
   rw [if_neg h6]
   cases e : zx (rlK p) 0 p.Rules.length with
   | none => rfl
   | some r =>
     exfalso
     rw [e] at h
     have := zi7 (P := fun r : Int × Int => r.2 ≠ 0) (fun i r hr => by
      unfold rlK at hr
      revert hr
      repeat' split
      all_goals (intro hr; cases hr <;> simp)) e
     exact this h
theorem za2 {p : TP} (h : PolIn p) : znv p = some (wE p) := by
 unfold znv wE zya
 rw [zab h.lat, zd7 p h.chan, zjm (yl p.Lattice) p h.var (fun c _ => zi4 h.lat _)]
 by_cases hk : (qB p.Lattice).2 = 0
 case neg => simp [hk]
 rw [zh7 p h.lat hk]
 by_cases h2 : (chC p).2 = 0
 case neg => simp [hk, h2]
 by_cases h3 : (vrC (yl p.Lattice) p).2 = 0
 case neg => simp [hk, h2, h3]
 by_cases h4 : (rlC p).2 = 0
 case neg => simp [hk, h2, h3, h4]
 simp [hk, h2, h3, zwm h4]
theorem zir {p : TP} (h : PolIn p) : zrd p = some (wE p) := by
 unfold zrd wE
 rw [zae p.Lattice h.lat.u8 h.lat.names h.lat.name, <- zek h.lat, zex p h.chan, zk5 (yl p.Lattice) p h.var (fun c _ => zkx h.lat _)]
 by_cases hk : (qB p.Lattice).2 = 0
 case neg => simp [hk]
 rw [zis p h.lat hk]
 by_cases h2 : (chC p).2 = 0
 case neg => simp [hk, h2]
 by_cases h3 : (vrC (yl p.Lattice) p).2 = 0
 case neg => simp [hk, h2, h3]
 by_cases h4 : (rlC p).2 = 0
 case neg => simp [hk, h2, h3, h4]
 simp [hk, h2, h3, h4]
theorem zAa {p : TP} (h : (wE p).2.2 = 0) : (qB p.Lattice).2 = 0 := by
 unfold wE at h
 by_cases hk : (qB p.Lattice).2 = 0
 . exact hk
 . rw [if_neg hk] at h; exact absurd h hk
theorem zji {α : Type} {L : List α} {N : Nat} {c : α -> Bool} (h : (L.take (min L.length N)).any c = false) (hn : L.length <= N) : ∀ x ∈ L, c x = false := by
 rw [Nat.min_eq_left hn, List.take_length] at h
 simpa using h
theorem zpj (L : List (List UInt8)) : ∃ b, Fz0 L = some b /\ (b = false -> L.length <= 12 /\ ∀ s ∈ L, s.length <= 100) := by
 unfold Fz0
 simp only [List.length_map]
 rw [qv (s0 := (0 : Int)) (min L.length 20) (fun k => (k : Int)) (ckK (fun s : List UInt8 => decide ((100 : Int) < (s.length : Int))) true L) () ?_ ?_ rfl, zbv _ _ _ _ (by omega)]
 . cases h : (L.take (min L.length 20)).any (fun s => decide ((100 : Int) < (s.length : Int))) with
   | true => exact ⟨true, rfl, fun h => by cases h⟩
   | false =>
     refine ⟨_, rfl, fun h12 => ?_⟩
     have h12 : L.length <= 12 := by simp at h12; omega
     exact ⟨h12, fun s hs => by have := zji h (by omega) s hs; simp at this; omega⟩
 . intro k hk
   obtain ⟨x, hx⟩ := zv (l := L) (i := k) (by omega)
   have hlt : (k : Int) < (L.length : Int) := by omega
   have hlt2 : (k : Int) < 20 := by omega
   have hw : IntKind.wrap .i64 ((k : Int) + 1) = ((k + 1 : Nat) : Int) := w64 (by omega) (by omega)
   have n1 : (0 : Int) <= (k : Int) := by omega
   simp only [hlt, hlt2, decide_true, cond_true, zi, n1, if_true, Int.toNat_natCast, hx, zg, hw, ckK]
   by_cases c1 : (100 : Int) < (x.length : Int) <;> simp [c1]
 . by_cases c1 : ((min L.length 20 : Nat) : Int) < (L.length : Int)
   . have c2 : ¬ ((min L.length 20 : Nat) : Int) < 20 := by omega
     simp only [c1, c2, decide_true, decide_false, cond_true, cond_false]
   . simp only [c1, decide_false, cond_false]
theorem zxg (p : TP) (hu : U8s p.Lattice.Up) : ∃ b, Fz2 p = some b /\ (b = false -> PolIn p) := by
 unfold Fz2
 simp only [List.length_map]
 rw [qv (s0 := (0 : Int)) (min p.Channels.length 25) (fun k => (k : Int)) (ckK (fun s : TR => decide ((100 : Int) < (s.s_.length : Int))) true p.Channels) () ?_ ?_ rfl, zbv _ _ _ _ (by omega)]
 rotate_left
 . intro k hk
   obtain ⟨x, hx⟩ := zv (l := p.Channels) (i := k) (by omega)
   have hlt : (k : Int) < (p.Channels.length : Int) := by omega
   have hlt2 : (k : Int) < 25 := by omega
   have hw : IntKind.wrap .i64 ((k : Int) + 1) = ((k + 1 : Nat) : Int) := w64 (by omega) (by omega)
   have n1 : (0 : Int) <= (k : Int) := by omega
   simp only [hlt, hlt2, decide_true, cond_true, zi, n1, if_true, Int.toNat_natCast, hx, zg, hw, ckK]
   by_cases c1 : (100 : Int) < (x.s_.length : Int) <;> simp [c1]
 . by_cases c1 : ((min p.Channels.length 25 : Nat) : Int) < (p.Channels.length : Int)
   . have c2 : ¬ ((min p.Channels.length 25 : Nat) : Int) < 25 := by omega
     simp only [c1, c2, decide_true, decide_false, cond_true, cond_false]
   . simp only [c1, decide_false, cond_false]
 cases hc : (p.Channels.take (min p.Channels.length 25)).any (fun s => decide ((100 : Int) < (s.s_.length : Int))) with
 | true => exact ⟨true, rfl, fun h => by cases h⟩
 | false =>
   simp only [Bool.false_eq_true, if_false]
   rw [qv (s0 := (0 : Int)) (min p.Vars.length 45) (fun k => (k : Int)) (ckK (fun s : TV => decide ((100 : Int) < (s.Name.length : Int))) true p.Vars) () ?_ ?_ rfl, zbv _ _ _ _ (by omega)]
   rotate_left
   . intro k hk
     obtain ⟨x, hx⟩ := zv (l := p.Vars) (i := k) (by omega)
     have hlt : (k : Int) < (p.Vars.length : Int) := by omega
     have hlt2 : (k : Int) < 45 := by omega
     have hw : IntKind.wrap .i64 ((k : Int) + 1) = ((k + 1 : Nat) : Int) := w64 (by omega) (by omega)
     have n1 : (0 : Int) <= (k : Int) := by omega
     simp only [hlt, hlt2, decide_true, cond_true, zi, n1, if_true, Int.toNat_natCast, hx, zg, hw, ckK]
     by_cases c1 : (100 : Int) < (x.Name.length : Int) <;> simp [c1]
   . by_cases c1 : ((min p.Vars.length 45 : Nat) : Int) < (p.Vars.length : Int)
     . have c2 : ¬ ((min p.Vars.length 45 : Nat) : Int) < 45 := by omega
       simp only [c1, c2, decide_true, decide_false, cond_true, cond_false]
     . simp only [c1, decide_false, cond_false]
   cases hv : (p.Vars.take (min p.Vars.length 45)).any (fun s => decide ((100 : Int) < (s.Name.length : Int))) with
   | true => exact ⟨true, rfl, fun h => by cases h⟩
   | false =>
     simp only [Bool.false_eq_true, if_false]
     unfold Fz1
     obtain ⟨b, e, hb⟩ := zpj p.Lattice.Names
     rw [e]
     simp only [Option.bind_some, List.length_map]
     cases b with
     | true => exact ⟨true, rfl, fun h => by cases h⟩
     | false =>
       obtain ⟨hb1, hb2⟩ := hb rfl
       simp only [cond_false, Option.bind_some]
       by_cases h12 : (12 : Int) < (p.Lattice.Up.length : Int)
       . exact ⟨true, by simp [h12], fun h => by cases h⟩
       by_cases h20 : (20 : Int) < (p.Channels.length : Int)
       . exact ⟨true, by simp [h12, h20], fun h => by cases h⟩
       by_cases h40 : (40 : Int) < (p.Vars.length : Int)
       . exact ⟨true, by simp [h12, h20, h40], fun h => by cases h⟩
       simp only [h12, h20, h40, decide_false, cond_false]
       refine ⟨_, rfl, fun _ => ⟨⟨hu, by omega, fun s hs => by have := hb2 s hs; omega⟩, fun c h => ?_, fun c h => ?_⟩⟩
       . have := zji hc (by omega) c h; simp at this; omega
       . have := zji hv (by omega) c h; simp at this; omega
end Go.Sx.O
end
noncomputable section
namespace Go.Sx.O
open Go
theorem uM {r : Int} {l : Int × Int} (h : shC r l = 0) : 0 <= qH r l /\ qH r l <= 400 := by
 unfold shC at h
 unfold qH
 by_cases r0 : r = 0
 . simp [r0]
 by_cases r1 : r = 1
 . rw [if_neg r0, if_pos r1] at h
   rw [if_neg (by omega), if_pos r1]
   by_cases c1 : l.1 < 0
   . rw [if_pos c1] at h; omega
   rw [if_neg c1] at h
   by_cases c2 : l.2 = 0
   . rw [if_pos c2] at h
     by_cases c3 : 400 < l.1
     . rw [if_pos c3] at h; omega
     . omega
   . rw [if_neg c2] at h; omega
 by_cases r2 : r = 2
 . rw [if_neg r0, if_neg r1, if_pos r2] at h
   rw [if_pos r2]
   by_cases c1 : l.1 < 0
   . rw [if_pos c1] at h; omega
   by_cases c2 : l.2 < 0
   . rw [if_neg c1, if_pos c2] at h; omega
   rw [if_neg c1, if_neg c2] at h
   have := Int.mul_nonneg (a := l.1) (b := l.2) (by omega) (by omega)
   by_cases c3 : 400 < l.1
   . rw [if_pos c3] at h; omega
   by_cases c4 : 400 < l.2
   . rw [if_neg c3, if_pos c4] at h; omega
   by_cases c5 : 400 < l.1 * l.2
   . rw [if_neg c3, if_neg c4, if_pos c5] at h; omega
   . omega
 . rw [if_neg r0, if_neg r1, if_neg r2] at h; omega
theorem zon {a : TA} (h : wR a = 0) : a.Cells.length <= 400 := by
 unfold wR at h
 split at h
 . split at h
   . rename_i hs
     have := uM hs
     split at h
     . omega
     . omega
   . omega
 . omega
theorem zgb (a : TA) : zeq a = some (wR a) := by
 by_cases hl : a.Cells.length <= 1000000000
 . exact ze4 a hl
 unfold zeq wR
 rw [yz]
 simp only [Option.bind_some, List.length_map]
 by_cases hs : shC a.Rank a.Lens = 0
 . have hm := uM hs
   have hne : ¬ (a.Cells.length : Int) = qH a.Rank a.Lens := by omega
   simp only [hs, if_true, decide_true, Bool.not_true, cond_false, hne, decide_false, Bool.not_false, cond_true, if_false]
   by_cases k1 : a.Kind = 1 <;> by_cases k2 : a.Kind = 2 <;> simp [k1, k2]
 . simp only [hs, if_false, decide_false, Bool.not_false, cond_true]
   by_cases k1 : a.Kind = 1 <;> by_cases k2 : a.Kind = 2 <;> simp [k1, k2]
theorem zhd (a : TA) : zgp a = some (wR a) := by
 by_cases hl : a.Cells.length <= 1000000000
 . exact zfh a hl
 unfold zgp wR
 rw [zaf]
 simp only [Option.bind_some, List.length_map]
 have lp0 : ∀ (v : Int), Option.bind (lpO (fun (_ : Unit) => cond (decide ((0 : Int) < (a.Cells.length : Int))) (some (Sum.inr (Sum.inl ()) : Unit ⊕ (Unit ⊕ Int))) (some (Sum.inr (Sum.inl ())))) ()) (Sum.elim (fun _ => some v) some) = some v := by
  intro v
  rw [qt]
  cases decide ((0 : Int) < (a.Cells.length : Int)) <;> rfl
 by_cases hs : shC a.Rank a.Lens = 0
 . have hm := uM hs
   have hne : ¬ (a.Cells.length : Int) = qH a.Rank a.Lens := by omega
   simp only [hs, if_true, decide_true, Bool.not_true, cond_false, hne, decide_false, Bool.not_false, cond_true, if_false, lp0]
   by_cases k1 : a.Kind = 1 <;> by_cases k2 : a.Kind = 2 <;> simp [k1, k2]
 . simp only [hs, if_false, decide_false, Bool.not_false, cond_true, cond_false, lp0]
   by_cases k1 : a.Kind = 1 <;> by_cases k2 : a.Kind = 2 <;> simp [k1, k2]
theorem zke (w : List TW) : ∃ b, Fz3 w = some b /\ (b = false -> w.length <= 40 /\ ∀ x ∈ w, x.Name.length <= 100) := by
 have key : Tot (Fz3 w) fun b => b = false -> w.length <= 40 /\ ∀ x ∈ w, x.Name.length <= 100 := by
  unfold Fz3
  rw [zw]
  refine Tot.count (min w.length 50) (fun k s => s.1 = (k : Int) /\ ∀ x ∈ w.take k, x.Name.length <= 100) ?_ ⟨rfl, by simp⟩
  rintro k ⟨i, n⟩ hk ⟨h0, h1⟩
  simp only at h0
  subst h0
  simp only [zF, zo, qa, qk, Sum.elim_inl, Sum.elim_inr, decide_eq_true_eq, decide_eq_false_iff_not, Int.toNat_natCast, List.length_map]
  refine ⟨fun hlt => ⟨fun h5 => ?_, fun h5 => ?_⟩, fun hge => ?_⟩
  . obtain ⟨x, hx⟩ := zv (l := w) (i := k) (by omega)
    refine ⟨by omega, x, hx, by omega, x, hx, fun hc => ?_, fun hc => ?_⟩
    . intro h; cases h
    . rw [w64 (by omega) (by omega)]
      refine ⟨by omega, by omega, ?_⟩
      rw [List.take_add_one, hx]
      intro y hy
      simp only [List.mem_append, Option.toList_some, List.mem_singleton] at hy
      rcases hy with hy | rfl
      . exact h1 y hy
      . omega
  . refine ⟨fun _ => (fun h => by cases h), fun _ h4 => ?_⟩
    simp at h4
    omega
  . refine ⟨fun _ => (fun h => by cases h), fun _ h4 => ?_⟩
    simp at h4
    have : w.take k = w := List.take_of_length_le (by omega)
    rw [this] at h1
    exact ⟨by omega, h1⟩
 obtain ⟨b, e, h⟩ := key
 exact ⟨b, e, h⟩
def ui (p : TP) (w : List TW) (k : Nat) : Option (Int × Int) := match w[k]?, p.Vars[k]? with
 | some x, some v => if x.Name = v.Name then (if wR x.Value = 0 then (if x.Value.Kind = v.Type_.Kind then (if x.Value.Rank = v.Type_.Rank then none else some ((k : Int), 22)) else some ((k : Int), 21)) else some ((k : Int), wR x.Value)) else some ((k : Int), 24)
 | _, _ => none
def qx (p : TP) (w : List TW) : Int × Int := if (wE p).2.2 = 0 then (if w.length = p.Vars.length then (match zx (ui p w) 0 w.length with | some r => r | none => (0, 0)) else (-1, 3)) else (-1, (wE p).2.2)
theorem zin {p : TP} (h : PolIn p) (w : List TW) (hw : w.length <= 1000000) : zlx p w = some (qx p w) := by
 unfold zlx qx
 rw [za2 h]
 simp only [Option.bind_some, List.length_map]
 by_cases hk : (wE p).2.2 = 0
 case neg => simp [hk]
 simp only [hk, decide_true, Bool.not_true, cond_false, if_true]
 by_cases hl : w.length = p.Vars.length
 case neg =>
  have : ¬ (w.length : Int) = (p.Vars.length : Int) := by omega
  simp [hl, this]
 have hl' : (w.length : Int) = (p.Vars.length : Int) := by omega
 simp only [hl', hl, decide_true, Bool.not_true, cond_false, if_true]
 refine (qv p.Vars.length (fun k => (k : Int)) (ui p w) () (fun k hk => ?_) (by simp) rfl).trans ?_
 . obtain ⟨v, hv⟩ := zv hk
   obtain ⟨x, hx⟩ := zv (l := w) (i := k) (by omega)
   have hlt : (k : Int) < (p.Vars.length : Int) := by omega
   have hw : IntKind.wrap .i64 ((k : Int) + 1) = ((k + 1 : Nat) : Int) := w64 (by omega) (by omega)
   have n1 : (0 : Int) <= (k : Int) := by omega
   simp only [hlt, decide_true, cond_true, zi, n1, if_true, Int.toNat_natCast, hx, hv, Option.bind_some, zg, hw, zgb, ui]
   by_cases c1 : x.Name = v.Name <;> by_cases c2 : wR x.Value = 0 <;> by_cases c3 : x.Value.Kind = v.Type_.Kind <;> by_cases c4 : x.Value.Rank = v.Type_.Rank <;> simp [c1, c2, c3, c4]
 . cases zx (ui p w) 0 p.Vars.length <;> rfl
theorem zcv {p : TP} (h : PolIn p) (w : List TW) (hw : w.length <= 1000000) : zl4 p w = some (qx p w) := by
 unfold zl4 qx
 rw [zir h]
 simp only [Option.bind_some, List.length_map]
 by_cases hk : (wE p).2.2 = 0
 case neg => simp [hk]
 simp only [hk, decide_true, Bool.not_true, cond_true, cond_false, if_true]
 by_cases hl : w.length = p.Vars.length
 case neg =>
  have : ¬ (w.length : Int) = (p.Vars.length : Int) := by omega
  simp [hl, this]
 have hl' : (w.length : Int) = (p.Vars.length : Int) := by omega
 simp only [hl', hl, decide_true, Bool.not_true, cond_false, if_true]
 refine (qv p.Vars.length (fun k => (k : Int)) (ui p w) () (fun k hk => ?_) (by simp) rfl).trans ?_
 . obtain ⟨v, hv⟩ := zv hk
   obtain ⟨x, hx⟩ := zv (l := w) (i := k) (by omega)
   have hlt : (k : Int) < (p.Vars.length : Int) := by omega
   have hw : IntKind.wrap .i64 ((k : Int) + 1) = ((k + 1 : Nat) : Int) := w64 (by omega) (by omega)
   have n1 : (0 : Int) <= (k : Int) := by omega
   simp only [hlt, decide_true, cond_true, zi, n1, if_true, Int.toNat_natCast, hx, hv, Option.bind_some, zg, hw, zhd, ui]
   by_cases c1 : x.Name = v.Name <;> by_cases c2 : wR x.Value = 0 <;> by_cases c3 : x.Value.Kind = v.Type_.Kind <;> by_cases c4 : x.Value.Rank = v.Type_.Rank <;> simp [c1, c2, c3, c4]
 . cases zx (ui p w) 0 p.Vars.length <;> rfl
theorem zac {p : TP} (h : (wE p).2.2 = 0) : p.Vars.length <= 32 /\ ∀ v ∈ p.Vars, yl p.Lattice v.Type_ = 0 := by
 unfold wE at h
 by_cases h1 : (qB p.Lattice).2 = 0
 case neg => rw [if_neg h1] at h; exact absurd h h1
 rw [if_pos h1] at h
 by_cases h2 : (chC p).2 = 0
 case neg => rw [if_neg h2] at h; exact absurd h h2
 rw [if_pos h2] at h
 by_cases h3 : (vrC (yl p.Lattice) p).2 = 0
 case neg => rw [if_neg h3] at h; exact absurd h h3
 unfold vrC at h3
 by_cases h6 : (32 : Int) < (p.Vars.length : Int)
 . rw [if_pos h6] at h3; exact absurd h3 (by decide)
 rw [if_neg h6] at h3
 refine ⟨by omega, fun v hv => ?_⟩
 cases hs : zx (vrK (yl p.Lattice) p) 0 p.Vars.length with
 | some r =>
   rw [hs] at h3
   have : r.2 ≠ 0 := zi7 (P := fun r => r.2 ≠ 0) (fun i r hr => by
    unfold vrK at hr
    split at hr
    . split at hr
      . cases hr; assumption
      . split at hr
        . cases hr
        . cases hr; assumption
    . cases hr) hs
   exact absurd h3 this
 | none =>
   obtain ⟨i, hi, e⟩ := List.getElem_of_mem hv
   have := scan_none.1 hs i (by omega) (by omega)
   unfold vrK at this
   rw [List.getElem?_eq_getElem hi, e] at this
   simp only at this
   split at this
   . cases this
   . split at this
     . assumption
     . cases this
end Go.Sx.O
end
namespace Go.Sx.O
open Go
theorem zAc {x : Int} (h0 : 0 <= x) (h1 : x < 256) {b : Nat} (hb : b <= 8) : decide (bits .and .u8 (Int.fdiv x (2 ^ min b (IntKind.bits .u8))) 1 = 1) = Nat.testBit x.toNat b := by
 have key : ∀ u : Fin 256, ∀ b : Fin 9, decide (bits .and .u8 (Int.fdiv (u.val : Int) (2 ^ min b.val (IntKind.bits .u8))) 1 = 1) = Nat.testBit u b := by decide +kernel
 have := key ⟨x.toNat, by omega⟩ ⟨b, by omega⟩
 simpa only [Int.toNat_of_nonneg h0] using this
theorem labB_iff {l : TL} {a : Int} : qj l a = true ↔ 0 <= a /\ a < (l.Names.length : Int) := by simp [qj]
theorem zg9 {l : TL} {t : TY} (h : yl l t = 0) : (qB l).2 = 0 /\ (t.Kind = 1 \/ t.Kind = 2) /\ 0 <= t.Rank /\ t.Rank <= 2 /\ qj l t.Axes.1 = true /\ qj l t.Axes.2 = true /\ qj l t.Data = true /\
 ([t.Axes.1, t.Axes.2].drop t.Rank.toNat).all (fun x => decide (x = (qI l : Int))) = true /\ ([t.Axes.1, t.Axes.2].take t.Rank.toNat).all (fun x => up l x.toNat t.Data.toNat) = true := by
 unfold yl at h
 by_cases hk : (qB l).2 = 0
 case neg => rw [if_neg hk] at h; exact absurd h hk
 rw [if_pos hk] at h
 split at h
 case isFalse => exact absurd h (by decide)
 rename_i h1
 unfold yu at h
 split at h
 . exact absurd h (by decide)
 rename_i h2
 split at h
 case isFalse => exact absurd h (by decide)
 rename_i h3
 split at h
 case isFalse => exact absurd h (by decide)
 rename_i h4
 split at h
 case isFalse => exact absurd h (by decide)
 rename_i h5
 exact ⟨hk, h1, by omega, by omega, h3.1, h3.2.1, h3.2.2, h4, h5⟩
theorem zpa {l : TL} (h : LatIn l) (hk : (qB l).2 = 0) : zlo l = some (TG.mk l (qI l), 0) := by
 unfold zlo
 rw [zab h, zkf h]
 simp [hk]
theorem zbk (l : TL) (b a : Int) : xP (TG.mk l b) a = some (qj l a) := by
 unfold xP qj
 by_cases h : 0 <= a <;> simp [h]
theorem xj {l : TL} (ok : LatOK l) (b : Int) {a o : Int} (ha : qj l a = true) (ho : qj l o = true) : zem (TG.mk l b) a o = some (up l a.toNat o.toNat) := by
 obtain ⟨a0, a1⟩ := labB_iff.1 ha
 obtain ⟨o0, o1⟩ := labB_iff.1 ho
 have hle := ok.le
 have hlen := ok.len
 unfold zem zi
 obtain ⟨x, hx⟩ := zv (l := l.Up) (i := a.toNat) (by omega)
 have hu := ok.u8 x (List.mem_of_getElem? hx)
 simp only [a0, if_true, hx, Option.bind_some]
 unfold zk
 rw [if_pos o0, zAc hu.1 hu.2 (by omega), jF hx]
theorem zAm {l : TL} (ok : LatOK l) (b : Int) (t : TY) (hd : qj l t.Data = true) (xs : List Int) (hx : xs.length <= 2) (hl : ∀ x ∈ xs, qj l x = true) (hu : xs.all (fun x => up l x.toNat t.Data.toNat) = true) :
 xH xs (TG.mk l b, t) = some false := by
 unfold xH ztb
 have : (Option.bind (lpO (fun (s115 : Int) =>
 cond (decide (s115 < (↑(List.length (List.map (SV.int IntKind.i64) xs)) : Int)))
 (zi (xs) (s115) fun x121 =>
 Option.bind (zlr (x121) ((TG.mk l b, t).fst) ((TG.mk l b, t).snd)) fun x122 =>
 cond (x122)
 (some (Sum.inr (Sum.inr (s115))))
 (zg (IntKind.wrap IntKind.i64 (s115 + (1 : Int))) fun x124 =>
 some (Sum.inl (x124))))
 (some (Sum.inr (Sum.inl (()))))) ((0 : Int)))
 (Sum.elim (fun (_ : Unit) =>
 some ((-1 : Int))) some)) = some (-1) := by
  refine (wI xs.length (fun k => (k : Int)) () (fun k hk => ?_) (by simp) rfl).trans rfl
  obtain ⟨x, hx'⟩ := zv hk
  have hm := List.mem_of_getElem? hx'
  have hlt : (k : Int) < (xs.length : Int) := by omega
  have hw : IntKind.wrap .i64 ((k : Int) + 1) = ((k + 1 : Nat) : Int) := w64 (by omega) (by omega)
  have n1 : (0 : Int) <= (k : Int) := by omega
  have hup : up l x.toNat t.Data.toNat = true := by
   have := List.all_eq_true.1 hu x hm
   simpa using this
  simp only [List.length_map, hlt, decide_true, cond_true, zi, n1, if_true, Int.toNat_natCast, hx', zg, hw, zlr, xj ok b (hl x hm) hd, Option.bind_some, hup, Bool.not_true, cond_false]
 rw [this]
 rfl
theorem zjl {l : TL} (h : LatIn l) {t : TY} (hg : yl l t = 0) : zlp (TG.mk l (qI l)) t = some 0 := by
 obtain ⟨hk, hkind, hr0, hr2, l1, l2, l3, hbot, hup⟩ := zg9 hg
 have ok := je h hk
 have c1 : ¬ t.Rank < 0 := by omega
 have c2 : ¬ 2 < t.Rank := by omega
 have tail : (zcj (t.Rank) [
 cond (!(decide ((qI l : Int) = t.Axes.fst) && (decide ((qI l : Int) = t.Axes.snd) && true)))
 (some ((6 : Int)))
 (zk ((0 : Int) <= t.Rank /\ t.Rank <= (↑(2 : Nat) : Int)) (
 Option.bind (xH (List.drop (Int.toNat (0 : Int)) (List.take (Int.toNat t.Rank) [t.Axes.fst, t.Axes.snd])) ((TG.mk l (qI l), t))) fun x126 =>
 cond (x126)
 (some ((25 : Int)))
 (some ((0 : Int))))),
 cond (!(decide (t.Axes.fst = t.Axes.fst) && (decide ((qI l : Int) = t.Axes.snd) && true)))
 (some ((6 : Int)))
 (zk ((0 : Int) <= t.Rank /\ t.Rank <= (↑(2 : Nat) : Int)) (
 Option.bind (xH (List.drop (Int.toNat (0 : Int)) (List.take (Int.toNat t.Rank) [t.Axes.fst, t.Axes.snd])) ((TG.mk l (qI l), t))) fun x129 =>
 cond (x129)
 (some ((25 : Int)))
 (some ((0 : Int))))),
 cond (!(decide (t.Axes.fst = t.Axes.fst) && (decide (t.Axes.snd = t.Axes.snd) && true)))
 (some ((6 : Int)))
 (zk ((0 : Int) <= t.Rank /\ t.Rank <= (↑(2 : Nat) : Int)) (
 Option.bind (xH (List.drop (Int.toNat (0 : Int)) (List.take (Int.toNat t.Rank) [t.Axes.fst, t.Axes.snd])) ((TG.mk l (qI l), t))) fun x132 =>
 cond (x132)
 (some ((25 : Int)))
 (some ((0 : Int)))))]) = some 0 := by
   have hc : xH (List.drop (Int.toNat (0 : Int)) (List.take (Int.toNat t.Rank) [t.Axes.fst, t.Axes.snd])) ((TG.mk l (qI l), t)) = some false := by
    refine zAm ok _ t l3 _ (by simp; omega) (fun x hx => ?_) (by simpa using hup)
    have := List.mem_of_mem_take (by simpa using hx)
    simp only [List.mem_cons, List.not_mem_nil, or_false] at this
    rcases this with rfl | rfl
    . exact l1
    . exact l2
   have hs : (0 : Int) <= t.Rank /\ t.Rank <= ((2 : Nat) : Int) := ⟨hr0, by omega⟩
   have hsx : ∀ y : Option Int, zk ((0 : Int) <= t.Rank /\ t.Rank <= ((2 : Nat) : Int)) y = y := fun y => by unfold zk; rw [if_pos hs]
   rw [hc]
   simp only [hsx, Option.bind_some, cond_false, decide_true, Bool.true_and, Bool.and_true, Bool.not_true]
   have hr : t.Rank = 0 \/ t.Rank = 1 \/ t.Rank = 2 := by omega
   rcases hr with hr | hr | hr
   . rw [hr] at hbot ⊢
     simp only [Int.toNat_zero, List.drop_zero, List.all_cons, List.all_nil, Bool.and_true, Bool.and_eq_true, decide_eq_true_eq] at hbot
     simp [zcj, hbot.1, hbot.2]
   . rw [hr] at hbot ⊢
     have e1 : (1 : Int).toNat = 1 := rfl
     simp only [e1, List.drop_succ_cons, List.drop_zero, List.all_cons, List.all_nil, Bool.and_true, decide_eq_true_eq] at hbot
     simp [zcj, hbot]
   . rw [hr]
     simp [zcj]
 unfold zlp
 have sw : ∀ (x y : Option (Unit ⊕ Int)), cond (!decide (t.Kind = 1)) (cond (!decide (t.Kind = 2)) (some (Sum.inr 7)) x) y = if t.Kind = 1 then y else x := fun x y => by
  by_cases k1 : t.Kind = 1
  . simp [k1]
  . have k2 : t.Kind = 2 := by omega
    simp [k2]
 rw [sw]
 simp only [zbk, l1, l2, l3, Option.bind_some, Bool.not_true, cond_false, c1, c2, decide_false, decide_true, Bool.true_and, ite_self, Sum.elim_inl] at tail ⊢
 exact tail
def axC (l : TL) (t : TY) (o : Int) : Bool × Bool := (decide (0 < t.Rank) && up l t.Axes.1.toNat o.toNat, decide (1 < t.Rank) && up l t.Axes.2.toNat o.toNat)
def siC (l : TL) (t : TY) (o : Int) : (Bool × Bool) × Bool := (axC l t o, up l t.Data.toNat o.toNat)
theorem um {l : TL} (h : LatIn l) {t : TY} (hg : yl l t = 0) {o : Int} (ho : qj l o = true) : zeu l t o = some (axC l t o, up l t.Data.toNat o.toNat, 0) := by
 obtain ⟨hk, hkind, hr0, hr2, l1, l2, l3, hbot, hup⟩ := zg9 hg
 have ok := je h hk
 unfold zeu
 rw [zpa h hk]
 simp only [Option.bind_some, decide_true, Bool.not_true, cond_false, zjl h hg, zbk, ho]
 have hr : t.Rank = 0 \/ t.Rank = 1 \/ t.Rank = 2 := by omega
 refine (wI t.Rank.toNat (fun k => ((k : Int), (decide (0 < k) && up l t.Axes.1.toNat o.toNat, decide (1 < k) && up l t.Axes.2.toNat o.toNat))) (axC l t o) (fun k hk' => ?_) ?_ (by simp)).trans ?_
 . have hlt : (k : Int) < t.Rank := by omega
   have hw : IntKind.wrap .i64 ((k : Int) + 1) = ((k + 1 : Nat) : Int) := w64 (by omega) (by omega)
   have n1 : (0 : Int) <= (k : Int) := by omega
   have n2 : (0 : Int) <= (k : Int) /\ (k : Int) < ((2 : Nat) : Int) := ⟨n1, by omega⟩
   have hsx : ∀ y : Option ((Int × Bool × Bool) ⊕ ((Bool × Bool) ⊕ ((Bool × Bool) × Bool × Int))), zk ((0 : Int) <= (k : Int) /\ (k : Int) < ((2 : Nat) : Int)) y = y := fun y => by unfold zk; rw [if_pos n2]
   have hk2 : k = 0 \/ k = 1 := by omega
   simp only [hlt, decide_true, cond_true, hsx, zi, n1, if_true, Int.toNat_natCast, zg, hw]
   rcases hk2 with rfl | rfl
   . simp [xj ok _ l1 ho, xa, zk]
   . simp [xj ok _ l2 ho, xa, zk]
 . have e1 : ((t.Rank.toNat : Nat) : Int) = t.Rank := Int.toNat_of_nonneg hr0
   have e2 : ¬ ((t.Rank.toNat : Nat) : Int) < t.Rank := by omega
   simp only [e2, decide_false, cond_false, axC]
   have e3 : decide (0 < t.Rank.toNat) = decide (0 < t.Rank) := decide_eq_decide.2 (by omega)
   have e4 : decide (1 < t.Rank.toNat) = decide (1 < t.Rank) := decide_eq_decide.2 (by omega)
   rw [e3, e4]
 . simp only [xj ok _ l3 ho, Option.bind_some]
open Go
theorem zhe (a b : TA) (h : a.Cells.length <= 9223372036854775807) : Tot (zhh a b) fun r => (r = true ↔ a = b) := by
 unfold zhh zst
 obtain ⟨k1, r1, ⟨p1, q1⟩, c1⟩ := a
 obtain ⟨k2, r2, ⟨p2, q2⟩, c2⟩ := b
 simp only [TA.mk.injEq, Prod.mk.injEq, List.length_map]
 by_cases e1 : k1 = k2
 case neg => simp [e1, zo]
 by_cases e2 : r1 = r2
 case neg => simp [e1, e2, zo]
 by_cases e3 : p1 = p2
 case neg => simp [e1, e2, e3, zo]
 by_cases e4 : q1 = q2
 case neg => simp [e1, e2, e3, e4, zo]
 by_cases e5 : c1.length = c2.length
 case neg =>
  have e6 : ¬ (c1.length : Int) = c2.length := by omega
  have e7 : c1 ≠ c2 := fun e => e5 (by rw [e])
  simp [e1, e2, e3, e4, e6, e7, zo]
 simp only [e1, e2, e3, e4, e5, decide_true, Bool.not_true, cond_true, cond_false, Bool.and_true, true_and, Option.bind_some, zw, and_self]
 simp only at h
 refine zfj (l := c1) (m := c2) c2.length (fun x y => decide (x = y)) (bad := fun _ => false) (e := ()) (by omega) (Nat.le_refl _) (fun k x y hx hy hk => ?_) (by simp) (fun hall => ?_) (fun k x y hx hy hk e _ => ?_)
 . simp only [Int.ofNat_lt, hk, decide_true, cond_true, zi, Int.toNat_natCast, hx, hy, Option.bind_some, zg, Int.natCast_nonneg, if_true]
   rw [w64 (by omega) (by omega)]
   by_cases hxy : x = y <;> simp [hxy]
 . have : c1 = c2 := uf e5 fun k x y hx hy hk => by simpa using hall k x y hx hy (by omega)
   simp [this, zo]
 . have : c1 ≠ c2 := by
    rintro rfl
    rw [hx] at hy; cases hy
    simp at e
   simp [this, zo]
theorem zBq {l : List Int} (h : yZ (inK .u8) l) : U8s l := fun x hx => zu2 (h x hx)
end Go.Sx.O
noncomputable section
namespace Go.Sx.O
open Go
def uH (a b : TA) : Bool := @decide (a = b) (Classical.propDecidable _)
theorem sameA_iff {a b : TA} : uH a b = true ↔ a = b := by unfold uH; exact @decide_eq_true_iff _ (Classical.propDecidable _)
theorem zxv {a b : TA} {r : Bool} (h : r = true ↔ a = b) : r = uH a b := by
 rw [Bool.eq_iff_iff, h, sameA_iff]
theorem zbh (a b : TA) (h : a.Cells.length <= 9223372036854775807) : zeg a b = some (uH a b) := by
 have key : Tot (zeg a b) fun r => (r = true ↔ a = b) := by
  unfold zeg zq9 zsq
  obtain ⟨k1, r1, ⟨p1, q1⟩, c1⟩ := a
  obtain ⟨k2, r2, ⟨p2, q2⟩, c2⟩ := b
  simp only [TA.mk.injEq, Prod.mk.injEq, List.length_map]
  by_cases e1 : k1 = k2
  case neg => simp [e1, zo]
  by_cases e2 : r1 = r2
  case neg => simp [e1, e2, zo]
  by_cases e3 : p1 = p2
  case neg => simp [e1, e2, e3, zo]
  by_cases e4 : q1 = q2
  case neg => simp [e1, e2, e3, e4, zo]
  by_cases e5 : c1.length = c2.length
  case neg =>
   have e6 : ¬ (c1.length : Int) = c2.length := by omega
   have e7 : c1 ≠ c2 := fun e => e5 (by rw [e])
   simp [e1, e2, e3, e4, e6, e7, zo]
  simp only [e1, e2, e3, e4, e5, decide_true, Bool.not_true, cond_true, cond_false, Bool.and_true, true_and, Option.bind_some, zw, and_self]
  simp only at h
  refine zfj (l := c1) (m := c2) c2.length (fun x y => decide (x = y)) (bad := fun _ => false) (e := ()) (by omega) (Nat.le_refl _) (fun k x y hx hy hk => ?_) (by simp) (fun hall => ?_) (fun k x y hx hy hk e _ => ?_)
  . simp only [Int.ofNat_lt, hk, decide_true, cond_true, zi, Int.toNat_natCast, hx, hy, Option.bind_some, zg, Int.natCast_nonneg, if_true]
    rw [w64 (by omega) (by omega)]
    by_cases hxy : x = y <;> simp [hxy]
  . have : c1 = c2 := uf e5 fun k x y hx hy hk => by simpa using hall k x y hx hy (by omega)
    simp [this, zo]
  . have : c1 ≠ c2 := by
     rintro rfl
     rw [hx] at hy; cases hy
     simp at e
    simp [this, zo]
 obtain ⟨r, e, q⟩ := key
 rw [e, zxv q]
def za9 (s : (Bool × Bool) × Bool) (a b : TA) : Bool := (!s.1.1 || decide (a.Lens.1 = b.Lens.1)) && ((!s.1.2 || decide (a.Lens.2 = b.Lens.2)) && (!s.2 || uH a b))
def agK (s : (Bool × Bool) × Bool) (a b : TA) (k : Nat) : Option Bool := if k = 0 then (if (s.1.1 && !decide (a.Lens.1 = b.Lens.1)) = true then some false else none) else (if (s.1.2 && !decide (a.Lens.2 = b.Lens.2)) = true then some false else none)
theorem zAd (s : (Bool × Bool) × Bool) (a b : TA) : (match zx (agK s a b) 0 2 with | some r => some r | none => (cond (!s.2) (some true) (some (uH a b)))) = some (za9 s a b) := by
 obtain ⟨⟨s1, s2⟩, s3⟩ := s
 have e : zx (agK ((s1, s2), s3) a b) 0 2 = match agK ((s1, s2), s3) a b 0 with | some r => some r | none => match agK ((s1, s2), s3) a b 1 with | some r => some r | none => none := by
  simp only [zx]
  cases agK ((s1, s2), s3) a b 0 with
  | some r => rfl
  | none => cases agK ((s1, s2), s3) a b (0 + 1) <;> rfl
 rw [e]
 by_cases h1 : a.Lens.1 = b.Lens.1 <;> by_cases h2 : a.Lens.2 = b.Lens.2 <;> cases s1 <;> cases s2 <;> cases s3 <;> simp [agK, za9, h1, h2]
theorem zim (s : (Bool × Bool) × Bool) (a b : TA) (h : a.Cells.length <= 9223372036854775807) : zlt s a b = some (za9 s a b) := by
 unfold zlt
 by_cases h0 : (!s.fst.fst && (!s.fst.snd && true) && (!s.snd && true)) = true
 . rw [h0, cond_true]
   simp only [Bool.and_true, Bool.and_eq_true, Bool.not_eq_true'] at h0
   simp [za9, h0.1.1, h0.1.2, h0.2]
 . rw [Bool.not_eq_true] at h0
   rw [h0, cond_false, zbh a b h]
   refine (qv 2 (fun k => (k : Int)) (agK s a b) () (fun k hk => ?_) (by simp) rfl).trans ?_
   . have hk2 : k = 0 \/ k = 1 := by omega
     have hw : IntKind.wrap .i64 ((k : Int) + 1) = ((k + 1 : Nat) : Int) := w64 (by omega) (by omega)
     have hlt : (k : Int) < 2 := by omega
     have n1 : (0 : Int) <= (k : Int) := by omega
     simp only [hlt, decide_true, cond_true, zi, n1, if_true, Int.toNat_natCast, zg, hw]
     rcases hk2 with rfl | rfl
     . cases hs : s.1.1 <;> by_cases e : a.Lens.1 = b.Lens.1 <;> simp [agK, hs, e, zk]
     . cases hs : s.1.2 <;> by_cases e : a.Lens.2 = b.Lens.2 <;> simp [agK, hs, e, zk]
   . simp only [Option.bind_some]
     have e := zAd s a b
     cases hs : zx (agK s a b) 0 2 <;> rw [hs] at e <;> exact e
end Go.Sx.O
end
namespace Go.Sx.O
open Go
theorem zBp {α : Type} {x : Option α} {v : α} (h : Tot x fun r => r = v) : x = some v := by
 obtain ⟨r, e, q⟩ := h
 rw [e, q]
def yD (X : List Int) : List Int := X.filter fun y => decide (0 <= y)
theorem zl3 {X : List Int} (h : ∀ (j : Nat) y, X[j]? = some y -> 0 <= y) : yD X = X := by
 unfold yD
 rw [List.filter_eq_self]
 intro a ha
 obtain ⟨j, hj⟩ := List.mem_iff_getElem?.1 ha
 simpa using h j a hj
theorem zjy (X : List Int) (y : Int) : yD (X ++ [y]) = yD X ++ (if 0 <= y then [y] else []) := by
 unfold yD
 rw [List.filter_append]
 by_cases h : 0 <= y <;> simp [h]
theorem zyd {X : List Int} {k : Nat} (hk : k < X.length) (hl : X.length <= 1000) :
 (Option.bind (
 lpO (fun (s431 : Int × Int × List Int) =>
 cond (decide (s431.fst < (↑(List.length (List.map (SV.int IntKind.i64) s431.snd.snd)) : Int)))
 (zk ((0 : Int) <= s431.fst /\ s431.fst < (↑(List.length (List.map (SV.int IntKind.i64) s431.snd.snd)) : Int)) (
 zi (s431.snd.snd) ((↑(Int.toNat s431.fst) : Int)) fun x441 =>
 Option.bind (zb7 (x441)) fun x442 =>
 cond (!x442)
 (zk ((0 : Int) <= s431.snd.fst /\ s431.snd.fst < (↑(List.length (List.map (SV.int IntKind.i64) s431.snd.snd)) : Int)) (
 zi (s431.snd.snd) ((↑(Int.toNat s431.snd.fst) : Int)) fun _ =>
 zg (IntKind.wrap IntKind.i64 (s431.snd.fst + (1 : Int))) fun x445 =>
 zg (IntKind.wrap IntKind.i64 (s431.fst + (1 : Int))) fun x446 =>
 some (Sum.inl ((x446, x445, List.set s431.snd.snd (Int.toNat s431.snd.fst) x441)))))
 (zg (IntKind.wrap IntKind.i64 (s431.fst + (1 : Int))) fun x447 =>
 some (Sum.inl ((x447, s431.snd))))))
 (some (Sum.inr (Sum.inl ((decide (s431.fst < (↑(List.length (List.map (SV.int IntKind.i64) s431.snd.snd)) : Int)), s431)))))) ((((k + 1 : Nat) : Int), (k : Int), X)))
 (Sum.elim (fun (s429 : Bool × Int × Int × List Int) =>
 zk ((0 : Int) <= s429.snd.snd.fst /\ s429.snd.snd.fst < (↑(List.length (List.map (SV.int IntKind.i64) s429.snd.snd.snd)) : Int)) (
 zk ((1 : Nat) <= List.length (List.map (SV.int IntKind.i64) s429.snd.snd.snd) - Int.toNat s429.snd.snd.fst /\ Int.toNat s429.snd.snd.fst + (List.length (List.map (SV.int IntKind.i64) s429.snd.snd.snd) - Int.toNat s429.snd.snd.fst) <= List.length (List.map (SV.int IntKind.i64) s429.snd.snd.snd)) (
 zk ((0 : Int) <= s429.snd.snd.fst /\ s429.snd.snd.fst <= (↑(List.length (List.take (Int.toNat s429.snd.snd.fst) (List.map (SV.int IntKind.i64) s429.snd.snd.snd) ++ (List.replicate (List.length (List.map (SV.int IntKind.i64) s429.snd.snd.snd) - Int.toNat s429.snd.snd.fst) (SV.int IntKind.i64 (0 : Int)) ++ List.drop (Int.toNat s429.snd.snd.fst + (List.length (List.map (SV.int IntKind.i64) s429.snd.snd.snd) - Int.toNat s429.snd.snd.fst)) (List.map (SV.int IntKind.i64) s429.snd.snd.snd)))) : Int)) (
 some (Sum.inr (Sum.inr ((List.drop (Int.toNat (0 : Int)) (List.take (Int.toNat s429.snd.snd.fst) (List.take (Int.toNat s429.snd.snd.fst) s429.snd.snd.snd ++ (List.replicate (List.length (List.map (SV.int IntKind.i64) s429.snd.snd.snd) - Int.toNat s429.snd.snd.fst) (0 : Int) ++ List.drop (Int.toNat s429.snd.snd.fst + (List.length (List.map (SV.int IntKind.i64) s429.snd.snd.snd) - Int.toNat s429.snd.snd.fst)) s429.snd.snd.snd))), (0 : Int))))))))) some)) = (some (Sum.inr (Sum.inr (X.take k ++ yD (X.drop (k + 1)), 0))) : Option (Int ⊕ ((Bool × Int) ⊕ (List Int × Int)))) := by
 refine zBp ?_
 rw [zw]
 refine Tot.count (X.length - (k + 1)) (fun m s => s.1 = ((k + 1 + m : Nat) : Int) /\ ∃ i : Nat, s.2.1 = (i : Int) /\ i <= k + m /\ s.2.2.length = X.length /\ s.2.2.take i = X.take k ++ yD ((X.take (k + 1 + m)).drop (k + 1)) /\ s.2.2.drop (k + 1 + m) = X.drop (k + 1 + m)) (fun m s hm hP => ?_) ⟨rfl, k, rfl, Nat.le_refl _, rfl, ?_, rfl⟩
 . obtain ⟨s1, s2, s3⟩ := s
   obtain ⟨rfl, i, rfl, hi, hlen, ht, hd⟩ := hP
   simp only at hlen ht hd
   simp only [List.length_map, hlen]
   by_cases hlt : k + 1 + m < X.length
   . have hlt' : ((k + 1 + m : Nat) : Int) < (X.length : Int) := by omega
     obtain ⟨y, hy⟩ := zv hlt
     have hy3 : s3[k + 1 + m]? = some y := by
      have := congrArg (fun l => l[0]?) hd
      simpa [List.getElem?_drop, hy] using this
     obtain ⟨z, hz⟩ := zv (l := s3) (i := i) (by omega)
     have n1 : (0 : Int) <= ((k + 1 + m : Nat) : Int) := by omega
     have n2 : (0 : Int) <= (i : Int) := by omega
     have n3 : (i : Int) < (X.length : Int) := by omega
     have w1 : IntKind.wrap .i64 (((k + 1 + m : Nat) : Int) + 1) = ((k + 1 + (m + 1) : Nat) : Int) := w64 (by omega) (by omega)
     have w2 : IntKind.wrap .i64 ((i : Int) + 1) = ((i + 1 : Nat) : Int) := w64 (by omega) (by omega)
     have hX : (X.take (k + 1 + (m + 1))).drop (k + 1) = (X.take (k + 1 + m)).drop (k + 1) ++ [y] := by
      rw [show k + 1 + (m + 1) = (k + 1 + m) + 1 by omega, List.take_add_one, hy, List.drop_append_of_le_length (by simp; omega)]; rfl
     have hdd : s3.drop (k + 1 + (m + 1)) = X.drop (k + 1 + (m + 1)) := by
      rw [show k + 1 + (m + 1) = (k + 1 + m) + 1 by omega, <- List.drop_drop (i := 1) (j := k + 1 + m), hd, List.drop_drop]
     simp only [hlt', decide_true, cond_true, zk, n1, n2, n3, and_self, if_true, zi, Int.toNat_natCast, hy3, hz, zb7, Option.bind_some, zg, w1, w2]
     by_cases hn : y < 0
     . simp only [hn, decide_true, Bool.not_true, cond_false, zo, Sum.elim_inl]
       refine ⟨by omega, trivial, i, rfl, by omega, hlen, ?_, hdd⟩
       rw [hX, zjy, if_neg (by omega), List.append_nil, ht]
     . simp only [hn, decide_false, Bool.not_false, cond_true, zo, Sum.elim_inl]
       refine ⟨by omega, trivial, i + 1, rfl, by omega, by simp [hlen], ?_, ?_⟩
       . rw [hX, zjy, if_pos (by omega), <- List.append_assoc, <- ht, List.take_add_one, List.take_set_of_le (Nat.le_refl _)]
         simp [show i < s3.length by omega]
       . rw [List.drop_set_of_lt (by omega), hdd]
   . have hlt' : ¬ ((k + 1 + m : Nat) : Int) < (X.length : Int) := by omega
     have he : k + 1 + m = X.length := by omega
     simp only [hlt', decide_false, cond_false, zo, Sum.elim_inr, Sum.elim_inl]
     have n2 : (0 : Int) <= (i : Int) := by omega
     have n3 : (i : Int) < (X.length : Int) := by omega
     have hti : (s3.take i).length = i := by simp; omega
     have q : List.take i (List.take i s3 ++ (List.replicate (X.length - i) (0 : Int) ++ List.drop (i + (X.length - i)) s3)) = List.take i s3 := by
      rw [List.take_append_of_le_length (by omega), List.take_of_length_le (by omega)]
     have l1 : (i : Int) <= ((List.length (List.take i (List.map (SV.int IntKind.i64) s3) ++ (List.replicate (X.length - i) (SV.int IntKind.i64 (0 : Int)) ++ List.drop (i + (X.length - i)) (List.map (SV.int IntKind.i64) s3))) : Nat) : Int) := by
      simp; omega
     simp only [List.length_map, hlen, zk, Int.toNat_natCast, n2, n3, l1, and_self, if_true, true_and]
     rw [if_pos (by omega), zo, q, ht, he, List.take_of_length_le (Nat.le_refl _)]
     simp
 . simp [yD]
theorem zhm {τ : Type} {f : Nat -> Option τ} {r : τ} : ∀ {n m : Nat}, zx f m n = some r -> ∃ k, m <= k /\ k < m + n /\ f k = some r /\ ∀ j, m <= j -> j < k -> f j = none
 | 0, m, h => by cases h
 | n + 1, m, h => by
   simp only [zx] at h
   cases hf : f m with
   | some q =>
     rw [hf] at h
     cases h
     exact ⟨m, Nat.le_refl _, by omega, hf, fun j a b => by omega⟩
   | none =>
     rw [hf] at h
     obtain ⟨k, k1, k2, k3, k4⟩ := zhm h
     refine ⟨k, by omega, by omega, k3, fun j a b => ?_⟩
     by_cases e : j = m
     . subst e; exact hf
     . exact k4 j (by omega) b
def dlK (X : List Int) (k : Nat) : Option (List Int × Int) := match X[k]? with | some x => if x < 0 then some (X.take k ++ yD (X.drop (k + 1)), 0) else none | none => none
theorem zBv (X : List Int) : (match zx (dlK X) 0 X.length with | some r => some r | none => some (X, (0 : Int))) = some (yD X, 0) := by
 cases hs : zx (dlK X) 0 X.length with
 | none =>
   have := scan_none.1 hs
   show some (X, (0 : Int)) = _
   rw [zl3]
   intro j y hj
   have hlt : j < X.length := (List.getElem?_eq_some_iff.1 hj).1
   have := this j (by omega) (by omega)
   unfold dlK at this
   rw [hj] at this
   simp only at this
   split at this
   . cases this
   . omega
 | some r =>
   obtain ⟨k, _, h2, h3, h4⟩ := zhm hs
   obtain ⟨x, hx⟩ := zv (l := X) (i := k) (by omega)
   unfold dlK at h3
   rw [hx] at h3
   simp only at h3
   split at h3
   case isFalse => cases h3
   rename_i hneg
   cases h3
   have e : X = X.take k ++ (x :: X.drop (k + 1)) := by
    have := List.getElem?_eq_some_iff.1 hx
    obtain ⟨hl, rfl⟩ := this
    rw [List.getElem_cons_drop, List.take_append_drop]
   have hp : yD (X.take k) = X.take k := zl3 fun j y hj => by
    rw [List.getElem?_take] at hj
    split at hj
    case isFalse => cases hj
    rename_i hjk
    have := h4 j (by omega) hjk
    unfold dlK at this
    rw [hj] at this
    simp only at this
    split at this
    . cases this
    . omega
   show some (X.take k ++ yD (X.drop (k + 1)), (0 : Int)) = some (yD X, 0)
   conv => rhs; rw [e]
   unfold yD at hp ⊢
   rw [List.filter_append, hp, List.filter_cons]
   simp [show ¬ 0 <= x by omega]
open Go
theorem wP {p : TP} {w : List TW} (h : (qx p w).2 = 0) : (wE p).2.2 = 0 /\ w.length = p.Vars.length /\ qx p w = (0, 0) /\ ∀ (k : Nat) x v, w[k]? = some x -> p.Vars[k]? = some v -> x.Name = v.Name /\ wR x.Value = 0 /\ x.Value.Kind = v.Type_.Kind /\ x.Value.Rank = v.Type_.Rank := by
 unfold qx at h ⊢
 by_cases hk : (wE p).2.2 = 0
 case neg => rw [if_neg hk] at h; exact absurd h hk
 rw [if_pos hk] at h ⊢
 by_cases hl : w.length = p.Vars.length
 case neg => rw [if_neg hl] at h; exact absurd h (by decide)
 rw [if_pos hl] at h ⊢
 cases hs : zx (ui p w) 0 w.length with
 | some r =>
   rw [hs] at h
   have : r.2 ≠ 0 := zi7 (P := fun r => r.2 ≠ 0) (fun i r hr => by
    unfold ui at hr
    split at hr
    . split at hr
      . split at hr
        . split at hr
          . split at hr
            . cases hr
            . cases hr; exact (by decide : (22 : Int) ≠ 0)
          . cases hr; exact (by decide : (21 : Int) ≠ 0)
        . cases hr; assumption
      . cases hr; exact (by decide : (24 : Int) ≠ 0)
    . cases hr) hs
   exact absurd h this
 | none =>
   refine ⟨hk, hl, rfl, fun k x v hx hv => ?_⟩
   have hlt : k < w.length := (List.getElem?_eq_some_iff.1 hx).1
   have := scan_none.1 hs k (by omega) (by omega)
   unfold ui at this
   rw [hx, hv] at this
   simp only at this
   by_cases c1 : x.Name = v.Name
   case neg => rw [if_neg c1] at this; cases this
   rw [if_pos c1] at this
   by_cases c2 : wR x.Value = 0
   case neg => rw [if_neg c2] at this; cases this
   rw [if_pos c2] at this
   by_cases c3 : x.Value.Kind = v.Type_.Kind
   case neg => rw [if_neg c3] at this; cases this
   rw [if_pos c3] at this
   by_cases c4 : x.Value.Rank = v.Type_.Rank
   case neg => rw [if_neg c4] at this; cases this
   exact ⟨c1, c2, c3, c4⟩
end Go.Sx.O
noncomputable section
namespace Go.Sx.O
open Go
def ftK (p : TP) (l : List (List TW)) (k : Nat) : Option Int := match l[k]? with | some w => if (qx p w).2 = 0 then none else some (qx p w).2 | none => none
theorem uZ {p : TP} (h : PolIn p) (l : List (List TW)) (hl : l.length <= 1000) (hw : ∀ w ∈ l, w.length <= 1000000) :
 uD p l = some (if (wE p).2.2 = 0 then (match zx (ftK p l) 0 l.length with | some e => e | none => 0) else (wE p).2.2) := by
 unfold uD
 rw [za2 h]
 simp only [Option.bind_some]
 by_cases hk : (wE p).2.2 = 0
 case neg => simp [hk]
 simp only [hk, decide_true, Bool.not_true, cond_false, if_true]
 refine (qv l.length (fun k => (k : Int)) (ftK p l) () (fun k hk' => ?_) (by simp) rfl).trans ?_
 . obtain ⟨w, hx⟩ := zv hk'
   have hlt : (k : Int) < (l.length : Int) := by omega
   have hwr : IntKind.wrap .i64 ((k : Int) + 1) = ((k + 1 : Nat) : Int) := w64 (by omega) (by omega)
   have n1 : (0 : Int) <= (k : Int) := by omega
   simp only [List.length_map, hlt, decide_true, cond_true, zi, n1, if_true, Int.toNat_natCast, hx, Option.bind_some, zin h w (hw w (List.mem_of_getElem? hx)), zg, hwr, ftK]
   by_cases e : (qx p w).2 = 0 <;> simp [e]
 . cases zx (ftK p l) 0 l.length <;> rfl
theorem zl9 {p : TP} {w : List TW} (h : ¬ (wE p).2.2 = 0) : (qx p w).2 = (wE p).2.2 := by unfold qx; rw [if_neg h]
theorem zs2 {p : TP} (h : PolIn p) : uD p [] = some (wE p).2.2 := by
 rw [uZ h [] (by simp) (by simp)]
 by_cases hk : (wE p).2.2 = 0 <;> simp [hk, zx]
theorem zs0 {p : TP} (h : PolIn p) {a : List TW} (ha : a.length <= 1000000) : uD p [a] = some (qx p a).2 := by
 rw [uZ h [a] (by simp) (by simpa using ha)]
 by_cases hk : (wE p).2.2 = 0
 . by_cases e : (qx p a).2 = 0 <;> simp [hk, zx, ftK, e]
 . simp [hk, zl9 hk]
theorem zrs {p : TP} (h : PolIn p) {a b : List TW} (ha : a.length <= 1000000) (hb : b.length <= 1000000) : uD p [a, b] = some (if (qx p a).2 = 0 then (qx p b).2 else (qx p a).2) := by
 rw [uZ h [a, b] (by simp) (by simp [ha, hb])]
 by_cases hk : (wE p).2.2 = 0
 . by_cases e : (qx p a).2 = 0 <;> by_cases e2 : (qx p b).2 = 0 <;> simp [hk, zx, ftK, e, e2]
 . simp [hk, zl9 hk]
def za8 (p : TP) (o : Int) : List ((Bool × Bool) × Bool) := p.Vars.map fun v => siC p.Lattice v.Type_ o
def zlb (p : TP) (o : Int) : List ((Bool × Bool) × Bool) × Int := if (wE p).2.2 = 0 then (if qj p.Lattice o = true then (za8 p o, 0) else ([], 7)) else ([], (wE p).2.2)
theorem zbt {l : TL} {o : Int} (h : ¬ qj l o = true) : o < 0 \/ (l.Names.length : Int) <= o := by
 rcases Int.lt_or_le o 0 with g | g
 . exact .inl g
 . rcases Int.lt_or_le o (l.Names.length : Int) with g2 | g2
   . exact absurd (labB_iff.2 ⟨g, g2⟩) h
   . exact .inr g2
theorem zk6 {p : TP} (h : PolIn p) (o : Int) : zle p o = some (zlb p o) := by
 unfold zle zlb
 rw [zs2 h]
 by_cases hk : (wE p).2.2 = 0
 case neg => simp [hk]
 simp only [Option.bind_some, hk, decide_true, Bool.not_true, cond_false, if_true]
 unfold zrj
 simp only [List.length_map]
 by_cases ho : qj p.Lattice o = true
 case neg =>
  rcases zbt ho with g | g
  . simp [g, ho]
  . by_cases g2 : o < 0 <;> simp [g, g2, ho]
 obtain ⟨o0, o1⟩ := labB_iff.1 ho
 have c1 : ¬ o < 0 := by omega
 have c2 : ¬ (p.Lattice.Names.length : Int) <= o := by omega
 obtain ⟨h32, hgood⟩ := zac hk
 simp only [c1, c2, ho, decide_false, cond_false, if_true]
 refine (congrArg (fun x => Option.bind x fun y => some y) (wI p.Vars.length (fun k => ((k : Int), (p.Vars.take k).map fun v => siC p.Lattice v.Type_ o)) (za8 p o) (fun k hk' => ?_) ?_ rfl)).trans rfl
 . obtain ⟨v, hv⟩ := zv hk'
   have hlt : (k : Int) < (p.Vars.length : Int) := by omega
   have hwr : IntKind.wrap .i64 ((k : Int) + 1) = ((k + 1 : Nat) : Int) := w64 (by omega) (by omega)
   have n1 : (0 : Int) <= (k : Int) := by omega
   have hlen : ((p.Vars.take k).map fun v => siC p.Lattice v.Type_ o).length = k := by simp; omega
   have hside : (k + 1) * 3 <= 70368744177664 := by omega
   simp only [hlt, decide_true, cond_true, zi, n1, if_true, Int.toNat_natCast, hv, Option.bind_some, um h.lat (hgood v (List.mem_of_getElem? hv)) ho, Bool.not_true, cond_false, zla, zg, hwr, hlen, zk, hside]
   rw [List.take_add_one, hv]
   simp [siC]
 . simp [za8]
end Go.Sx.O
end
noncomputable section
namespace Go.Sx.O
open Go
def vK (p : TP) (a b : List TW) (o : Int) (i : Nat) : Int := match p.Vars[i]?, a[i]?, b[i]? with
 | some v, some x, some y => if za9 (siC p.Lattice v.Type_ o) x.Value y.Value = true then -1 else (i : Int)
 | _, _, _ => -1
def vL (p : TP) (a b : List TW) (o : Int) (n : Nat) : List Int := (List.range n).map (vK p a b o)
def zd0 (p : TP) (a b : List TW) (o : Int) : List Int × Int :=
 if (if (qx p a).2 = 0 then (qx p b).2 else (qx p a).2) = 0 then (if qj p.Lattice o = true then (yD (vL p a b o p.Vars.length), 0) else ([], 7)) else ([], if (qx p a).2 = 0 then (qx p b).2 else (qx p a).2)
theorem zmt {τ : Type} {r : τ} {k1 : Unit -> Option τ} (h : k1 () = some r) : Option.bind (lpO (fun (_ : Unit) => (some (Sum.inr (Sum.inl (()))) : Option (Unit ⊕ (Unit ⊕ τ)))) (())) (Sum.elim k1 some) = some r := by
 refine (wI 0 (fun _ => ()) () (fun k hk => absurd hk (Nat.not_lt_zero k)) rfl rfl).trans h
theorem zvp {p : TP} {w : List TW} (h : (qx p w).2 = 0) {x : TW} (hx : x ∈ w) : x.Value.Cells.length <= 400 := by
 obtain ⟨_, hl, _, hf⟩ := wP h
 obtain ⟨k, hk⟩ := List.mem_iff_getElem?.1 hx
 have hlt : k < w.length := (List.getElem?_eq_some_iff.1 hk).1
 obtain ⟨v, hv⟩ := zv (l := p.Vars) (i := k) (by omega)
 exact zon (hf k x v hk hv).2.1
theorem zAb {p : TP} {a b : List TW} {o : Int} {k : Nat} : vL p a b o (k + 1) = vL p a b o k ++ [vK p a b o k] := by
 unfold vL
 rw [List.range_succ, List.map_append]; rfl
theorem zt2 {p : TP} {a b : List TW} {o : Int} {k : Nat} : (vL p a b o k).length = k := by simp [vL]
theorem zsy {p : TP} {a b : List TW} {o : Int} {k : Nat} {v : TV} {x y : TW} (hv : p.Vars[k]? = some v) (hx : a[k]? = some x) (hy : b[k]? = some y) (hc : x.Value.Cells.length <= 9223372036854775807) :
 zlk (k : Int) (siC p.Lattice v.Type_ o) a b = some (vK p a b o k) := by
 unfold zlk vK
 have n1 : (0 : Int) <= (k : Int) := by omega
 simp only [zi, n1, if_true, Int.toNat_natCast, hx, hy, Option.bind_some, zim _ _ _ hc, hv]
 by_cases e : za9 (siC p.Lattice v.Type_ o) x.Value y.Value = true <;> simp [e]
theorem zik {p : TP} (h : PolIn p) {a b : List TW} (ha : a.length <= 1000000) (hb : b.length <= 1000000) (o : Int) : zlg p a b o = some (zd0 p a b o) := by
 unfold zlg zd0
 rw [zrs h ha hb]
 simp only [Option.bind_some]
 by_cases hf : (if (qx p a).2 = 0 then (qx p b).2 else (qx p a).2) = 0
 case neg => simp only [hf, decide_false, Bool.not_false, cond_true, if_false]
 have hfa : (qx p a).2 = 0 := by
  by_cases e : (qx p a).2 = 0
  . exact e
  . rw [if_neg e] at hf; exact hf
 have hfb : (qx p b).2 = 0 := by rwa [if_pos hfa] at hf
 obtain ⟨hk, hla, _, _⟩ := wP hfa
 obtain ⟨_, hlb, _, _⟩ := wP hfb
 obtain ⟨h32, hgood⟩ := zac hk
 simp only [hf, decide_true, Bool.not_true, cond_false, if_true]
 by_cases ho : qj p.Lattice o = true
 case neg =>
  rw [if_neg ho]
  rcases zbt ho with g | g
  . simp only [g, decide_true, cond_true]
    exact zmt rfl
  . by_cases g2 : o < 0
    . simp only [g2, decide_true, cond_true]
      exact zmt rfl
    . simp only [g2, decide_false, cond_false, List.length_map, g, decide_true, cond_true]
      exact zmt rfl
 obtain ⟨o0, o1⟩ := labB_iff.1 ho
 have c1 : ¬ o < 0 := by omega
 have c2 : ¬ (p.Lattice.Names.length : Int) <= o := by omega
 simp only [List.length_map, c1, c2, ho, decide_false, cond_false, if_true]
 refine (wI p.Vars.length (fun k => ((k : Int), vL p a b o k)) (false, ((p.Vars.length : Int), vL p a b o p.Vars.length)) (fun k hk' => ?_) (by simp) rfl).trans ?_
 . obtain ⟨v, hv⟩ := zv hk'
   obtain ⟨x, hx⟩ := zv (l := a) (i := k) (by omega)
   obtain ⟨y, hy⟩ := zv (l := b) (i := k) (by omega)
   have hcx := zvp hfa (List.mem_of_getElem? hx)
   have hlt : (k : Int) < (p.Vars.length : Int) := by omega
   have hwr : IntKind.wrap .i64 ((k : Int) + 1) = ((k + 1 : Nat) : Int) := w64 (by omega) (by omega)
   have n1 : (0 : Int) <= (k : Int) := by omega
   have hside : (k + 1) * 8 <= 70368744177664 := by omega
   simp only [hlt, decide_true, cond_true, zi, n1, if_true, Int.toNat_natCast, hv, Option.bind_some, um h.lat (hgood v (List.mem_of_getElem? hv)) ho, Bool.not_true, cond_false]
   have e1 : ((axC p.Lattice v.Type_ o, up p.Lattice v.Type_.Data.toNat o.toNat) : (Bool × Bool) × Bool) = siC p.Lattice v.Type_ o := rfl
   rw [e1, zsy hv hx hy (by omega)]
   simp only [Option.bind_some, zg, hwr, zt2, zk, hside, if_true, zAb]
 . simp only
   generalize hX : vL p a b o p.Vars.length = X
   have hXl : X.length <= 1000 := by rw [<- hX, zt2]; omega
   refine (qv X.length (fun k => (k : Int)) (dlK X) (false, (X.length : Int)) (fun k hk' => ?_) (by simp) rfl).trans ?_
   . obtain ⟨x, hx⟩ := zv hk'
     have hlt : (k : Int) < (X.length : Int) := by omega
     have hwr : IntKind.wrap .i64 ((k : Int) + 1) = ((k + 1 : Nat) : Int) := w64 (by omega) (by omega)
     have n1 : (0 : Int) <= (k : Int) := by omega
     have n2 : ¬ (k : Int) = -1 := by omega
     have ht := zyd hk' hXl
     simp only [hlt, decide_true, cond_true, n1, zi, true_and, if_true, Int.toNat_natCast, hx, zb7, Option.bind_some, zg, hwr, n2, decide_false, cond_false, dlK]
     by_cases e : x < 0
     . simp only [e, decide_true, cond_true, if_true]
       simp only [List.length_map] at ht
       unfold zk at ht ⊢
       rw [if_pos (by first | trivial | exact ⟨n1, hlt⟩)]
       exact ht
     . simp only [e, decide_false, cond_false, if_false]
       unfold zk
       rw [if_pos (by first | trivial | exact ⟨n1, hlt⟩)]
   . have := zBv X
     cases hs : zx (dlK X) 0 X.length <;> rw [hs] at this <;> exact this
theorem zjq {p : TP} (h : PolIn p) {a b : List TW} (ha : a.length <= 1000000) (hb : b.length <= 1000000) (o : Int) : zh8 p a b o = some (decide ((zd0 p a b o).2 = 0) && decide ((zd0 p a b o).1.length = 0), (zd0 p a b o).2) := by
 unfold zh8
 rw [zik h ha hb]
 by_cases e : (zd0 p a b o).2 = 0 <;> simp [e]
theorem zrb (p : TP) (a b : List TW) (hu : U8s p.Lattice.Up) : ∃ r, Fz4 p a b = some r /\ (r = false -> PolIn p /\ a.length <= 40 /\ b.length <= 40) := by
 obtain ⟨x, hx, hf⟩ := zxg p hu
 obtain ⟨y, hy, hg⟩ := zke a
 obtain ⟨z, hz, hh⟩ := zke b
 unfold Fz4
 rw [hx, hy, hz]
 cases x
 . cases y
   . exact ⟨z, rfl, fun e => ⟨hf rfl, (hg rfl).1, (hh e).1⟩⟩
   . exact ⟨true, rfl, fun e => by cases e⟩
 . exact ⟨true, rfl, fun e => by cases e⟩
end Go.Sx.O
end
noncomputable section
namespace Go.Sx.O
open Go
def jL (s : (Bool × Bool) × Bool) (l m : Int × Int) : Int × Int := (if s.1.1 = true then l.1 else m.1, if s.1.2 = true then l.2 else m.2)
theorem zv7 {σ : Type} (s : (Bool × Bool) × Bool) (l m : Int × Int) {k1 : Int × Int -> Option σ} :
 (Option.bind (lpO (fun (s612 : Int × Int × Int) =>
 cond (decide (s612.fst < (2 : Int)))
 (zi ([s.fst.fst, s.fst.snd]) (s612.fst) fun x615 =>
 cond (!x615)
 (zk ((0 : Int) <= s612.fst /\ s612.fst < (↑(2 : Nat) : Int)) (
 zi ([m.fst, m.snd]) ((↑(Int.toNat s612.fst) : Int)) fun x617 =>
 zk ((0 : Int) <= s612.fst /\ s612.fst < (↑(2 : Nat) : Int)) (
 zi ([s612.snd.fst, s612.snd.snd]) ((↑(Int.toNat s612.fst) : Int)) fun _ =>
 zg (IntKind.wrap IntKind.i64 (s612.fst + (1 : Int))) fun x619 =>
 some (Sum.inl ((x619, xa s612.snd (Int.toNat s612.fst) x617))))))
 (zg (IntKind.wrap IntKind.i64 (s612.fst + (1 : Int))) fun x620 =>
 some (Sum.inl ((x620, s612.snd)))))
 (some (Sum.inr (Sum.inl (s612.snd) : (Int × Int) ⊕ σ)))) (((0 : Int), l)))
 (Sum.elim k1 some)) = k1 (jL s l m) := by
 obtain ⟨⟨s1, s2⟩, s3⟩ := s
 obtain ⟨l1, l2⟩ := l
 obtain ⟨m1, m2⟩ := m
 refine wI 2 (fun k => ((k : Int), (if k = 0 then l1 else if s1 = true then l1 else m1, if k < 2 then l2 else if s2 = true then l2 else m2))) (jL ((s1, s2), s3) (l1, l2) (m1, m2)) (fun k hk => ?_) (by simp [jL]) rfl
 have hk2 : k = 0 \/ k = 1 := by omega
 rcases hk2 with rfl | rfl
 . cases s1 <;> simp [zi, zk, zg, xa, show IntKind.wrap .i64 1 = 1 by decide]
 . cases s2 <;> simp [zi, zk, zg, xa, show IntKind.wrap .i64 2 = 2 by decide] <;> cases s1 <;> simp
def wj (s : (Bool × Bool) × Bool) (a : TA) : TA := if s.2 = true then a else ⟨a.Kind, a.Rank, jL s a.Lens (0, 0), List.replicate (qH a.Rank (jL s a.Lens (0, 0))).toNat 0⟩
theorem zpp {r : Int} {l : Int × Int} (h : shC r l = 0) : 0 <= l.1 /\ l.1 <= 400 /\ 0 <= l.2 /\ l.2 <= 400 := by
 unfold shC at h
 repeat' split at h
 all_goals omega
theorem zg2 {r : Int} {l : Int × Int} (s : (Bool × Bool) × Bool) (h : shC r l = 0) : shC r (jL s l (0, 0)) = 0 := by
 obtain ⟨a0, a1, b0, b1⟩ := zpp h
 obtain ⟨⟨s1, s2⟩, s3⟩ := s
 unfold shC at h ⊢
 by_cases r0 : r = 0
 . simp only [r0, if_true] at h ⊢
   repeat' split at h
   all_goals first | omega | skip
   cases s1 <;> cases s2 <;> simp [jL, *]
 . by_cases r1 : r = 1
   . simp only [r1] at h ⊢
     simp (config := { decide := true }) only [if_false, if_true] at h ⊢
     repeat' split at h
     all_goals first | omega | skip
     cases s1 <;> cases s2 <;> simp [jL, *] <;> omega
   . by_cases r2 : r = 2
     . simp only [r2] at h ⊢
       simp (config := { decide := true }) only [if_false, if_true] at h ⊢
       repeat' split at h
       all_goals first | omega | skip
       cases s1 <;> cases s2 <;> simp [jL, *] <;> omega
     . simp only [r0, r1, r2, if_false] at h
       omega
theorem zw3 {r : Int} {l : Int × Int} (h : shC r l = 0) {i : Int} (h0 : 0 <= i) (h1 : i < qH r l) : ∃ x, zlf r l i = some (x, 0) := by
 obtain ⟨a0, a1, b0, b1⟩ := zpp h
 have c1 : ¬ i < 0 := by omega
 have c2 : ¬ qH r l <= i := by omega
 unfold zlf
 rw [yz]
 simp only [Option.bind_some, h, decide_true, Bool.not_true, cond_false, if_true, c1, c2, decide_false]
 by_cases h2 : r < 2
 . simp only [h2, decide_true, cond_true]; exact ⟨_, rfl⟩
 . have hr : r = 2 := by
    unfold shC at h
    repeat' split at h
    all_goals omega
   have hl : l.2 ≠ 0 := fun e => by
    unfold qH at h1
    rw [if_pos hr, e, Int.mul_zero] at h1
    omega
   simp only [h2, decide_false, cond_false, zk, hl, ne_eq, not_false_eq_true, if_true, zg]
   exact ⟨_, rfl⟩
theorem ztd (n : Nat) : List.replicate n (0 : Int) ++ [0] = List.replicate (n + 1) 0 := by
 rw [List.replicate_succ']
theorem zju (a : TA) (s : (Bool × Bool) × Bool) (h : shC a.Rank a.Lens = 0) : zlw a s (0, 0) = some (⟨a.Kind, a.Rank, jL s a.Lens (0, 0), List.replicate (qH a.Rank (jL s a.Lens (0, 0))).toNat 0⟩, true) := by
 unfold zlw
 rw [zv7]
 have hs := zg2 s h
 obtain ⟨m0, m4⟩ := uM hs
 rw [yz]
 simp only [Option.bind_some, hs, decide_true, Bool.not_true, cond_false, if_true]
 generalize hM : qH a.Rank (jL s a.Lens (0, 0)) = M at m0 m4
 refine (wI M.toNat (fun k => ((k : Int), List.replicate k (0 : Int))) (List.replicate M.toNat (0 : Int)) (fun k hk => ?_) ?_ rfl).trans rfl
 . have hlt : (k : Int) < M := by omega
   have hw : IntKind.wrap .i64 ((k : Int) + 1) = ((k + 1 : Nat) : Int) := w64 (by omega) (by omega)
   obtain ⟨x, hx⟩ := zw3 hs (i := (k : Int)) (by omega) (by rw [hM]; exact hlt)
   have hside : (k + 1) * 8 <= 70368744177664 := by omega
   simp only [hlt, decide_true, cond_true, hx, Option.bind_some, Bool.not_true, cond_false, zlc, List.length_map, List.length_replicate, zk, hside, if_true, zg, hw, ztd]
 . have : ¬ ((M.toNat : Nat) : Int) < M := by omega
   simp only [this, decide_false, cond_false]
def yt (p : TP) (w : List TW) (o : Int) (n : Nat) : List TW := (List.range n).map fun k => match p.Vars[k]?, w[k]? with
 | some v, some x => ⟨x.Name, wj (siC p.Lattice v.Type_ o) x.Value⟩
 | _, _ => ⟨[], ⟨0, 0, (0, 0), []⟩⟩
theorem ji {p : TP} {w : List TW} {o : Int} {n : Nat} : (yt p w o n).length = n := by simp [yt]
theorem zum {p : TP} {w : List TW} {o : Int} {k : Nat} {v : TV} {x : TW} (hv : p.Vars[k]? = some v) (hx : w[k]? = some x) : yt p w o (k + 1) = yt p w o k ++ [⟨x.Name, wj (siC p.Lattice v.Type_ o) x.Value⟩] := by
 unfold yt
 rw [List.range_succ, List.map_append]
 simp [hv, hx]
def zgk (p : TP) (w : List TW) (o : Int) : List TW × Int := if (qx p w).2 = 0 then (if qj p.Lattice o = true then (yt p w o p.Vars.length, 0) else ([], 7)) else ([], (qx p w).2)
theorem zue {a : TA} (h : wR a = 0) : shC a.Rank a.Lens = 0 /\ (a.Cells.length : Int) = qH a.Rank a.Lens := by
 unfold wR at h
 split at h
 . split at h
   . rename_i h1
     split at h
     . rename_i h2; exact ⟨h1, h2⟩
     . omega
   . rename_i h1; exact absurd h h1
 . omega
theorem zyr {p : TP} {w : List TW} {o : Int} {k : Nat} {v : TV} {x : TW} (hx : w[k]? = some x) (ha : wR x.Value = 0) : zln (k : Int) (siC p.Lattice v.Type_ o) w = some ⟨x.Name, wj (siC p.Lattice v.Type_ o) x.Value⟩ := by
 unfold zln wj
 have n1 : (0 : Int) <= (k : Int) := by omega
 simp only [zi, n1, if_true, Int.toNat_natCast, hx, Option.bind_some, zju _ _ (zue ha).1]
 cases (siC p.Lattice v.Type_ o).2 <;> simp
theorem zcq {p : TP} (h : PolIn p) {w : List TW} (hw : w.length <= 1000000) (o : Int) : zh9 p w o = some (zgk p w o) := by
 unfold zh9 zgk
 rw [zs0 h hw]
 simp only [Option.bind_some]
 by_cases hf : (qx p w).2 = 0
 case neg => simp [hf]
 obtain ⟨hk, hl, _, hfx⟩ := wP hf
 obtain ⟨h32, hgood⟩ := zac hk
 simp only [hf, decide_true, Bool.not_true, cond_false, if_true]
 unfold zsi
 simp only [List.length_map]
 by_cases ho : qj p.Lattice o = true
 case neg =>
  rcases zbt ho with g | g
  . simp [g, ho]
  . by_cases g2 : o < 0 <;> simp [g, g2, ho]
 obtain ⟨o0, o1⟩ := labB_iff.1 ho
 have c1 : ¬ o < 0 := by omega
 have c2 : ¬ (p.Lattice.Names.length : Int) <= o := by omega
 simp only [c1, c2, ho, decide_false, cond_false, if_true]
 refine (congrArg (fun x => Option.bind x fun y => some y) (wI p.Vars.length (fun k => ((k : Int), yt p w o k)) (yt p w o p.Vars.length) (fun k hk' => ?_) (by simp) rfl)).trans rfl
 obtain ⟨v, hv⟩ := zv hk'
 obtain ⟨x, hx⟩ := zv (l := w) (i := k) (by omega)
 have hlt : (k : Int) < (p.Vars.length : Int) := by omega
 have hwr : IntKind.wrap .i64 ((k : Int) + 1) = ((k + 1 : Nat) : Int) := w64 (by omega) (by omega)
 have n1 : (0 : Int) <= (k : Int) := by omega
 have hside : (k + 1) * 72 <= 70368744177664 := by omega
 have e1 : ((axC p.Lattice v.Type_ o, up p.Lattice v.Type_.Data.toNat o.toNat) : (Bool × Bool) × Bool) = siC p.Lattice v.Type_ o := rfl
 simp only [hlt, decide_true, cond_true, zi, n1, if_true, Int.toNat_natCast, hv, Option.bind_some, um h.lat (hgood v (List.mem_of_getElem? hv)) ho, Bool.not_true, cond_false, e1, zyr hx (hfx k x v hx hv).2.1, zg, hwr, ji, zk, hside, zum hv hx]
end Go.Sx.O
end
namespace Go.Sx.O
open Go
open Go
open Go
open Go
theorem jI {p : TP} {w : List TW} {o : Int} {n k : Nat} (hk : k < n) {v : TV} {x : TW} (hv : p.Vars[k]? = some v) (hx : w[k]? = some x) : (yt p w o n)[k]? = some ⟨x.Name, wj (siC p.Lattice v.Type_ o) x.Value⟩ := by
 unfold yt
 rw [List.getElem?_map, List.getElem?_range hk]
 simp [hv, hx]
theorem zh2 {s : (Bool × Bool) × Bool} {a : TA} (h : wR a = 0) : (wj s a).Cells.length <= 400 := by
 unfold wj
 split
 . exact zon h
 . have := uM (zg2 s (zue h).1)
   simp only [List.length_replicate]
   omega
theorem zs7 {p : TP} {w : List TW} {o : Int} : (zgk p w o).1.length <= 32 /\ ∀ x ∈ (zgk p w o).1, x.Value.Cells.length <= 400 := by
 unfold zgk
 split
 case isFalse => simp
 rename_i hf
 split
 case isFalse => simp
 obtain ⟨hk, hl, _, hfx⟩ := wP hf
 obtain ⟨h32, _⟩ := zac hk
 refine ⟨by simpa only [ji] using h32, fun z hz => ?_⟩
 obtain ⟨k, hk'⟩ := List.mem_iff_getElem?.1 hz
 have hlt : k < p.Vars.length := by have := (List.getElem?_eq_some_iff.1 hk').1; simpa only [ji] using this
 obtain ⟨v, hv⟩ := zv hlt
 obtain ⟨x, hx⟩ := zv (l := w) (i := k) (by omega)
 have e := jI (o := o) hlt hv hx
 rw [show yt p w o p.Vars.length = (yt p w o p.Vars.length, (0 : Int)).1 from rfl, hk'] at e
 cases e
 exact zh2 (hfx k x v hx hv).2.1
open Go
end Go.Sx.O
noncomputable section
namespace Go.Sx.O
open Go
def AgW (p : TP) (a b : List TW) (o : Int) : Prop := ∀ (k : Nat) v x y, p.Vars[k]? = some v -> a[k]? = some x -> b[k]? = some y -> za9 (siC p.Lattice v.Type_ o) x.Value y.Value = true
theorem zyw {X : List Int} : yD X = [] ↔ ∀ x ∈ X, x < 0 := by
 unfold yD
 rw [List.filter_eq_nil_iff]
 constructor
 . intro h x hx
   have := h x hx
   simp only [decide_eq_true_eq] at this
   omega
 . intro h x hx
   have := h x hx
   simp only [decide_eq_true_eq]
   omega
structure Fit2 (p : TP) (a b : List TW) : Prop where
 fa : (qx p a).2 = 0
 fb : (qx p b).2 = 0
theorem zBn {p : TP} {a b : List TW} {o : Int} (f : Fit2 p a b) : (yD (vL p a b o p.Vars.length)).length = 0 ↔ AgW p a b o := by
 obtain ⟨_, hla, _, _⟩ := wP f.fa
 obtain ⟨_, hlb, _, _⟩ := wP f.fb
 rw [List.length_eq_zero_iff, zyw]
 constructor
 . intro h k v x y hv hx hy
   have hk : k < p.Vars.length := (List.getElem?_eq_some_iff.1 hv).1
   have := h (vK p a b o k) (by unfold vL; rw [List.mem_map]; exact ⟨k, List.mem_range.2 hk, rfl⟩)
   unfold vK at this
   rw [hv, hx, hy] at this
   simp only at this
   by_cases e : za9 (siC p.Lattice v.Type_ o) x.Value y.Value = true
   . exact e
   . rw [if_neg e] at this; omega
 . intro h x hx
   unfold vL at hx
   rw [List.mem_map] at hx
   obtain ⟨k, hk, rfl⟩ := hx
   have hk := List.mem_range.1 hk
   obtain ⟨v, hv⟩ := zv hk
   obtain ⟨x, hx⟩ := zv (l := a) (i := k) (by omega)
   obtain ⟨y, hy⟩ := zv (l := b) (i := k) (by omega)
   unfold vK
   rw [hv, hx, hy]
   simp only [h k v x y hv hx hy, if_true]
   decide
def agD (p : TP) (a b : List TW) (o : Int) : Bool := decide ((yD (vL p a b o p.Vars.length)).length = 0)
theorem zz6 {p : TP} {a b : List TW} {o : Int} (f : Fit2 p a b) : agD p a b o = true ↔ AgW p a b o := by
 unfold agD; rw [decide_eq_true_iff]; exact zBn f
theorem zt5 {p : TP} (h : PolIn p) {a b : List TW} (ha : a.length <= 1000000) (hb : b.length <= 1000000) {o : Int} (f : Fit2 p a b) (ho : qj p.Lattice o = true) : zh8 p a b o = some (agD p a b o, 0) := by
 rw [zjq h ha hb]
 have : zd0 p a b o = (yD (vL p a b o p.Vars.length), 0) := by
  unfold zd0
  rw [if_pos (by rw [if_pos f.fa]; exact f.fb), if_pos ho]
 rw [this]
 simp [agD]
theorem zi6 (x y : TW) (h : x.Value.Cells.length <= 9223372036854775807) : zly x y = some (decide (x.Name = y.Name) && uH x.Value y.Value) := by
 unfold zly
 rw [zbh _ _ h]
 by_cases e : x.Name = y.Name <;> simp [e]
theorem zhk (a b : List TW) (ha : a.length <= 1000000) (hc : ∀ x ∈ a, x.Value.Cells.length <= 9223372036854775807) : Tot (zh0 a b) fun r => (r = true ↔ a = b) := by
 unfold zh0 zsp
 simp only [List.length_map]
 by_cases e5 : a.length = b.length
 case neg =>
  have e6 : ¬ (a.length : Int) = b.length := by omega
  have e7 : a ≠ b := fun e => e5 (by rw [e])
  simp [e6, e7, zo]
 simp only [e5, decide_true, Bool.not_true, cond_false, zw]
 refine zfj (l := a) (m := b) b.length (fun x y => decide (x.Name = y.Name) && uH x.Value y.Value) (bad := fun _ => false) (e := ()) (by omega) (Nat.le_refl _) (fun k x y hx hy hk => ?_) (by simp) (fun hall => ?_) (fun k x y hx hy hk e _ => ?_)
 . simp only [Int.ofNat_lt, hk, decide_true, cond_true, zi, Int.toNat_natCast, hx, hy, Option.bind_some, zg, Int.natCast_nonneg, if_true, zi6 x y (hc x (List.mem_of_getElem? hx))]
   rw [w64 (by omega) (by omega)]
   cases (decide (x.Name = y.Name) && uH x.Value y.Value) <;> simp
 . have : a = b := uf e5 fun k x y hx hy hk => by
    have := hall k x y hx hy (by omega)
    simp only [Bool.and_eq_true, decide_eq_true_eq, sameA_iff] at this
    obtain ⟨xn, xv⟩ := x
    obtain ⟨yn, yv⟩ := y
    simp only at this
    rw [this.1, this.2]
   simp [this, zo]
 . have : a ≠ b := by
    rintro rfl
    rw [hx] at hy; cases hy
    simp [sameA_iff.2 (rfl : x.Value = x.Value)] at e
   simp [this, zo]
end Go.Sx.O
end
namespace Go.Sx.O
open Go
open Go
open Go
theorem zAk {s : (Bool × Bool) × Bool} {a b : TA} (hk : a.Kind = b.Kind) (hr : a.Rank = b.Rank) : za9 s a b = true ↔ wj s a = wj s b := by
 obtain ⟨k1, r1, ⟨l1, l2⟩, c1⟩ := a
 obtain ⟨k2, r2, ⟨m1, m2⟩, c2⟩ := b
 obtain ⟨⟨s1, s2⟩, s3⟩ := s
 simp only at hk hr
 subst hk; subst hr
 unfold za9 wj
 cases s3
 . cases s1 <;> cases s2 <;> simp [jL] <;> (intros; simp_all)
 . simp only [if_true, Bool.not_true, Bool.false_or, Bool.and_eq_true, sameA_iff, TA.mk.injEq, Prod.mk.injEq, true_and]
   constructor
   . exact fun e => e.2.2
   . rintro ⟨⟨rfl, rfl⟩, rfl⟩; simp
theorem zgx {p : TP} {w : List TW} {o : Int} (hf : (qx p w).2 = 0) (ho : qj p.Lattice o = true) : zgk p w o = (yt p w o p.Vars.length, 0) := by
 unfold zgk
 rw [if_pos hf, if_pos ho]
open Go
theorem arrC_iff {a : TA} : wR a = 0 ↔ (a.Kind = 1 \/ a.Kind = 2) /\ shC a.Rank a.Lens = 0 /\ (a.Cells.length : Int) = qH a.Rank a.Lens /\ (a.Kind = 2 -> ∀ c ∈ a.Cells, wd c = true) := by
 unfold wR
 by_cases k : a.Kind = 1 \/ a.Kind = 2
 case neg => simp [k]
 by_cases s : shC a.Rank a.Lens = 0
 case neg => simp [k, s]
 by_cases l : (a.Cells.length : Int) = qH a.Rank a.Lens
 case neg => simp [k, s, l]
 simp only [k, s, l, if_true, true_and]
 by_cases q : a.Kind = 2 /\ (a.Cells.any fun c => !wd c) = true
 . rw [if_pos q]
   constructor
   . intro e; exact absurd e (by decide)
   . intro g
     obtain ⟨c, hc, hb⟩ := List.any_eq_true.1 q.2
     rw [g q.1 c hc] at hb; cases hb
 . rw [if_neg q]
   refine ⟨fun _ k2 c hc => ?_, fun _ => rfl⟩
   cases hb : wd c
   . exact absurd ⟨k2, List.any_eq_true.2 ⟨c, hc, by rw [hb]; rfl⟩⟩ q
   . rfl
theorem zp9 {s : (Bool × Bool) × Bool} {a : TA} (h : wR a = 0) : wR (wj s a) = 0 /\ (wj s a).Kind = a.Kind /\ (wj s a).Rank = a.Rank := by
 unfold wj
 split
 . exact ⟨h, rfl, rfl⟩
 . obtain ⟨k, sh, _, _⟩ := arrC_iff.1 h
   have hs := zg2 s sh
   obtain ⟨m0, _⟩ := uM hs
   refine ⟨arrC_iff.2 ⟨k, hs, ?_, fun _ c hc => ?_⟩, rfl, rfl⟩
   . simp only [List.length_replicate]; omega
   . rw [(List.mem_replicate.1 hc).2]; decide
theorem bluA_idem {s : (Bool × Bool) × Bool} {a : TA} : wj s (wj s a) = wj s a := by
 obtain ⟨⟨s1, s2⟩, s3⟩ := s
 cases s3
 . cases s1 <;> cases s2 <;> simp [wj, jL]
 . simp [wj]
theorem zB0 {p : TP} {w : List TW} (hk : (wE p).2.2 = 0) (hl : w.length = p.Vars.length) (h : ∀ (k : Nat) x v, w[k]? = some x -> p.Vars[k]? = some v -> x.Name = v.Name /\ wR x.Value = 0 /\ x.Value.Kind = v.Type_.Kind /\ x.Value.Rank = v.Type_.Rank) : qx p w = (0, 0) := by
 unfold qx
 rw [if_pos hk, if_pos hl]
 have : zx (ui p w) 0 w.length = none := scan_none.2 fun i _ _ => by
  unfold ui
  split
  . rename_i x v hx hv
    obtain ⟨e1, e2, e3, e4⟩ := h _ x v hx hv
    rw [if_pos e1, if_pos e2, if_pos e3, if_pos e4]
  . rfl
 rw [this]
theorem zAo {p : TP} {w : List TW} {o : Int} (hf : (qx p w).2 = 0) : qx p (yt p w o p.Vars.length) = (0, 0) := by
 obtain ⟨hk, hl, _, hfx⟩ := wP hf
 refine zB0 hk ji fun k x v hx hv => ?_
 have hlt := (List.getElem?_eq_some_iff.1 hv).1
 obtain ⟨y, hy⟩ := zv (l := w) (i := k) (by omega)
 rw [jI (o := o) hlt hv hy] at hx
 cases hx
 obtain ⟨e1, e2, e3, e4⟩ := hfx k y v hy hv
 obtain ⟨b1, b2, b3⟩ := zp9 (s := siC p.Lattice v.Type_ o) e2
 exact ⟨e1, b1, b2.trans e3, b3.trans e4⟩
theorem zw1 {p : TP} {w : List TW} {o : Int} (hf : (qx p w).2 = 0) : yt p (yt p w o p.Vars.length) o p.Vars.length = yt p w o p.Vars.length := by
 obtain ⟨hk, hl, _, hfx⟩ := wP hf
 refine uf (by rw [ji, ji]) fun k x y hx hy hlt => ?_
 rw [ji] at hlt
 obtain ⟨v, hv⟩ := zv hlt
 obtain ⟨z, hz⟩ := zv (l := w) (i := k) (by omega)
 rw [jI (o := o) hlt hv hz] at hy
 cases hy
 rw [jI (o := o) hlt hv (jI (o := o) hlt hv hz)] at hx
 cases hx
 rw [bluA_idem]
theorem zzl {p : TP} {w : List TW} {o : Int} (hf : (qx p w).2 = 0) : AgW p w (yt p w o p.Vars.length) o := fun k v x y hv hx hy => by
 have hlt := (List.getElem?_eq_some_iff.1 hv).1
 rw [jI (o := o) hlt hv hx] at hy
 cases hy
 obtain ⟨_, _, _, hfx⟩ := wP hf
 obtain ⟨b1, b2, b3⟩ := zp9 (s := siC p.Lattice v.Type_ o) (hfx k x v hx hv).2.1
 exact (zAk b2.symm b3.symm).2 bluA_idem.symm
theorem zvv {p : TP} {o : Int} (hk : (wE p).2.2 = 0) (ho : qj p.Lattice o = true) : zlb p o = (za8 p o, 0) := by
 unfold zlb
 rw [if_pos hk, if_pos ho]
theorem zun {p : TP} {o : Int} {k : Nat} {v : TV} (hv : p.Vars[k]? = some v) : (za8 p o)[k]? = some (siC p.Lattice v.Type_ o) := by
 unfold za8
 rw [List.getElem?_map, hv]; rfl
theorem zzw {a b : List TW} (h : a.length <= 1000000) (hc : ∀ x ∈ a, x.Value.Cells.length <= 400) (e : a = b) : zh0 a b = some true := by
 obtain ⟨r, er, q⟩ := zhk a b h (fun x hx => Nat.le_trans (hc x hx) (by omega))
 rw [er, q.2 e]
open Go
theorem zu0 {s : (Bool × Bool) × Bool} {a : TA} : (s.1.1 = true -> (wj s a).Lens.1 = a.Lens.1) /\ (s.1.2 = true -> (wj s a).Lens.2 = a.Lens.2) /\ (s.1.1 = false -> s.2 = false -> (wj s a).Lens.1 = 0) /\ (s.1.2 = false -> s.2 = false -> (wj s a).Lens.2 = 0) := by
 obtain ⟨⟨s1, s2⟩, s3⟩ := s
 cases s1 <;> cases s2 <;> cases s3 <;> simp [wj, jL]
theorem zit (p : TP) (w : List TW) (x : Int) (w1 : W_TP p) (_ : yZ W_TW w) (hx : inK .u8 x) : zs5 p w x = some true := by
 unfold zs5
 obtain ⟨r, hr, hf⟩ := zrb p w [] (zBq w1.Lattice.Up)
 rw [hr]
 cases r
 case true => rfl
 obtain ⟨h, ha, _⟩ := hf rfl
 rw [zcv h w (by omega)]
 simp only [Option.bind_some, cond_false]
 by_cases fa : (qx p w).2 = 0
 case neg => simp [fa]
 obtain ⟨hk, hla, _, hfa⟩ := wP fa
 obtain ⟨h32, hgood⟩ := zac hk
 have ok := je h.lat (zAa hk)
 have hle := ok.le
 have hpos := ok.pos
 have hx2 := zu2 hx
 have hwx : IntKind.wrap .i64 x = x := w64 (by omega) (by omega)
 have hn : ((p.Lattice.Names.length : Nat) : Int) ≠ 0 := by omega
 have ho : qj p.Lattice (Int.tmod x (p.Lattice.Names.length : Int)) = true := labB_iff.2 ⟨Int.tmod_nonneg _ (by omega), Int.tmod_lt_of_pos _ (by omega)⟩
 simp only [fa, decide_true, Bool.not_true, cond_false, zg, hwx, List.length_map, zk, ne_eq, hn, not_false_eq_true, if_true]
 generalize Int.tmod x (p.Lattice.Names.length : Int) = o at ho ⊢
 have fb0 := zAo (o := o) fa
 have fb : (qx p (yt p w o p.Vars.length)).2 = 0 := by rw [fb0]
 have sm := zs7 (p := p) (w := w) (o := o)
 rw [zgx fa ho] at sm
 simp only at sm
 have hag : agD p w (yt p w o p.Vars.length) o = true := (zz6 ⟨fa, fb⟩).2 (zzl fa)
 have hlB : (yt p w o p.Vars.length).length <= 1000000 := by omega
 rw [zcq h (show w.length <= 1000000 by omega), zgx fa ho]
 simp only [Option.bind_some]
 rw [zcq h hlB, zgx fb ho, zw1 fa, zt5 h (show w.length <= 1000000 by omega) hlB ⟨fa, fb⟩ ho, zk6 h, zvv hk ho, zcv h _ hlB, fb0, hag]
 have hsl : (za8 p o).length = p.Vars.length := by simp [za8]
 simp only [Option.bind_some, decide_true, Bool.not_true, cond_false, zzw hlB sm.2 rfl, ji, hsl]
 refine (wI p.Vars.length (fun k => (k : Int)) () (fun k hk' => ?_) (by simp) rfl).trans rfl
 obtain ⟨v, hv⟩ := zv hk'
 obtain ⟨y, hy⟩ := zv (l := w) (i := k) (by omega)
 have hs := zun (o := o) hv
 have hb := jI (o := o) hk' hv hy
 have hlt : (k : Int) < (p.Vars.length : Int) := by omega
 have hwr : IntKind.wrap .i64 ((k : Int) + 1) = ((k + 1 : Nat) : Int) := w64 (by omega) (by omega)
 have n1 : (0 : Int) <= (k : Int) := by omega
 have hya := (hfa k y v hy hv).2.1
 have hbl := zh2 (s := siC p.Lattice v.Type_ o) hya
 obtain ⟨l1, l2, l3, l4⟩ := zu0 (s := siC p.Lattice v.Type_ o) (a := y.Value)
 have hsame : (siC p.Lattice v.Type_ o).2 = true -> zhh (wj (siC p.Lattice v.Type_ o) y.Value) y.Value = some true := fun e => by
  obtain ⟨r, er, q⟩ := zhe (wj (siC p.Lattice v.Type_ o) y.Value) y.Value (by omega)
  rw [er, q.2 (by unfold wj; rw [if_pos e])]
 have hz : (siC p.Lattice v.Type_ o).2 = false -> ∀ (i : Nat), i < (wj (siC p.Lattice v.Type_ o) y.Value).Cells.length -> (wj (siC p.Lattice v.Type_ o) y.Value).Cells[i]? = some 0 := fun e i hi => by
  unfold wj at hi ⊢
  rw [e] at hi ⊢
  simp only [Bool.false_eq_true, if_false, List.length_replicate] at hi ⊢
  rw [List.getElem?_replicate, if_pos hi]
 simp only [hlt, decide_true, cond_true, zi, n1, if_true, Int.toNat_natCast, hs, hb, hy, Option.bind_some]
 generalize wj (siC p.Lattice v.Type_ o) y.Value = B at *
 generalize siC p.Lattice v.Type_ o = s at *
 have e2 : ∀ j : Nat, j < 2 -> IntKind.wrap .i64 ((j : Int) + 1) = ((j + 1 : Nat) : Int) := fun j hj => w64 (by omega) (by omega)
 obtain ⟨⟨s1, s2⟩, s3⟩ := s
 simp only at *
 have fin : ∀ (τ : Type) (A : Option τ) (z : Option τ), A = z -> A = z := fun _ _ _ e => e
 cases s3
 . simp only [cond_false, Bool.not_false, cond_true]
   refine (wI 2 (fun j => (j : Int)) () (fun j hj => ?_) (by simp) rfl).trans ?_
   . have hj2 : j = 0 \/ j = 1 := by omega
     rcases hj2 with rfl | rfl
     . cases s1
       . have := l3 rfl rfl; simp [this, zk, zg, show IntKind.wrap .i64 1 = 1 by decide]
       . have := l1 rfl; simp [this, zk, zg, show IntKind.wrap .i64 1 = 1 by decide]
     . cases s2
       . have := l4 rfl rfl; simp [this, zk, zg, show IntKind.wrap .i64 2 = 2 by decide]
       . have := l2 rfl; simp [this, zk, zg, show IntKind.wrap .i64 2 = 2 by decide]
   . refine (wI B.Cells.length (fun j => (j : Int)) () (fun j hj => ?_) (by simp) rfl).trans ?_
     . have hj1 : (j : Int) < (B.Cells.length : Int) := by omega
       have hw2 : IntKind.wrap .i64 ((j : Int) + 1) = ((j + 1 : Nat) : Int) := w64 (by omega) (by omega)
       have := hz rfl j hj
       simp [hj1, this, zg, hw2]
     . simp [zg, hwr]
 . simp only [cond_true, Bool.not_true, cond_false, hsame rfl, Option.bind_some]
   refine (wI 2 (fun j => (j : Int)) () (fun j hj => ?_) (by simp) rfl).trans ?_
   . have hj2 : j = 0 \/ j = 1 := by omega
     rcases hj2 with rfl | rfl
     . cases s1
       . simp [zk, zg, show IntKind.wrap .i64 1 = 1 by decide]
       . have := l1 rfl; simp [this, zk, zg, show IntKind.wrap .i64 1 = 1 by decide]
     . cases s2
       . simp [zk, zg, show IntKind.wrap .i64 2 = 2 by decide]
       . have := l2 rfl; simp [this, zk, zg, show IntKind.wrap .i64 2 = 2 by decide]
   . rw [qt]
     by_cases hc : (0 : Int) < (B.Cells.length : Int) <;> simp [hc, zg, hwr]
end Go.Sx.O
