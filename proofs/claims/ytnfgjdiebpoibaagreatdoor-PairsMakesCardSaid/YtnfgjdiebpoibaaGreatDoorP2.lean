/-
  An own text of this claim.
-/
import Derived.Test.YtnfgjdiebpoibaaGreatDoorP1
namespace Go.Sx.O
open Go
def zad (ns : List (List UInt8)) (i : Nat) : Option (Int × Int) :=
 if zb7 (ns.getD i []) = true then (if ns.getD i [] ∈ ns.take i then some ((i : Int), 8) else none) else some ((i : Int), 6)
def jy (ns : List (List UInt8)) : Int × Int := if ns.length < 1 \/ 8 < ns.length then (-1, 3) else (zA (zad ns) 0 ns.length).getD (0, 0)
theorem yW {α : Type} {l : List α} {i : Nat} {d x : α} (h : l[i]? = some x) : l.getD i d = x := by rw [List.getD_eq_getElem?_getD, h]; rfl
theorem zwj (ns : List (List UInt8)) (h : ns.length <= 20) (hn : ∀ s ∈ ns, s.length <= 1000) : zj0 ns = some (jy ns) := by
 unfold zj0 jy
 simp only [List.length_map]
 by_cases h1 : ns.length < 1
 . have : (ns.length : Int) < 1 := by omega
   simp [h1, this]
 by_cases h2 : 8 < ns.length
 . have : (8 : Int) < ns.length := by omega
   have g1 : ¬ (ns.length : Int) < 1 := by omega
   simp [h2, this, g1]
 have g1 : ¬ (ns.length : Int) < 1 := by omega
 have g2 : ¬ (8 : Int) < ns.length := by omega
 simp only [g1, g2, h1, h2, decide_false, cond_false, or_self, if_false]
 rw [wx ns.length (zad ns) () (fun k hk => ?_) (by simp)]
 . cases zA (zad ns) 0 ns.length <;> rfl
 . obtain ⟨x, hx⟩ := zw (l := ns) (i := k) hk
   have hxl := hn x (List.mem_of_getElem? hx)
   simp only [Int.ofNat_lt, hk, decide_true, cond_true, zh, Int.toNat_natCast, hx, Option.bind_some, zg, Int.natCast_nonneg, if_true]
   rw [zkv x (by omega), jV _ _ (by simp; omega)]
   unfold zad
   rw [yW hx, w64 (by omega) (by omega)]
   cases e : zb7 x with
   | false => simp
   | true =>
     have hk' : k <= ns.length := by omega
     simp only [Option.bind_some, Bool.not_true, cond_false, Int.toNat_zero, List.drop_zero, if_true]
     by_cases hm : x ∈ ns.take k
     . simp [hm, zj, hk']
     . simp [hm, zj, hk']
theorem zic (c : UInt8) : zne (c.toNat : Int) = some (decide (97 <= c.toNat) && decide (c.toNat <= 122)) := by
 unfold zne
 by_cases h : (97 : Int) <= c.toNat
 . have : 97 <= c.toNat := by omega
   simp only [h, this, decide_true, cond_true, Bool.true_and]
   congr 1
   rw [Bool.eq_iff_iff]; simp; omega
 . have : ¬ 97 <= c.toNat := by omega
   simp only [h, this, decide_false, cond_false, Bool.false_and]
theorem zs5 (c : UInt8) : zsh (c.toNat : Int) = some (decide (48 <= c.toNat) && decide (c.toNat <= 57)) := by
 unfold zsh
 by_cases h : (48 : Int) <= c.toNat
 . have : 48 <= c.toNat := by omega
   simp only [h, this, decide_true, cond_true, Bool.true_and]
   congr 1
   rw [Bool.eq_iff_iff]; simp; omega
 . have : ¬ 48 <= c.toNat := by omega
   simp only [h, this, decide_false, cond_false, Bool.false_and]
theorem zvm (c : UInt8) : decide (c ∈ ji) = (decide (97 <= c.toNat) && decide (c.toNat <= 122) || (decide (48 <= c.toNat) && decide (c.toNat <= 57)) || decide (c.toNat = 45)) := by
 have key : ∀ n : Fin 256, decide (UInt8.ofNat n ∈ ji) = (decide (97 <= n.val) && decide (n.val <= 122) || (decide (48 <= n.val) && decide (n.val <= 57)) || decide (n.val = 45)) := by decide +kernel
 have := key ⟨c.toNat, c.toNat_lt⟩
 simpa using this
theorem zkx (s : List UInt8) (h : s.length <= 1000000000) : zt9 s = some (zb7 s) := by
 unfold zt9
 cases s with
 | nil => rfl
 | cons a r =>
   have g1 : ¬ ((a :: r).length : Int) < 1 := by simp; omega
   simp only [g1, decide_false, cond_false]
   unfold zb7
   by_cases h1 : (16 : Int) < ((a :: r).length : Int)
   . have : ¬ (a :: r).length <= 16 := by omega
     simp only [h1, decide_true, cond_true, this, decide_false, Bool.false_and]
   have h1' : (a :: r).length <= 16 := by omega
   have e5 : zh (a :: r) 0 = fun f => (f a : Option Bool) := rfl
   simp only [h1, decide_false, cond_false, h1', decide_true, Bool.true_and, e5, zic, Option.bind_some]
   cases e : (decide (97 <= a.toNat) && decide (a.toNat <= 122)) with
   | false => rfl
   | true =>
     simp only [Bool.not_true, cond_false, Bool.true_and]
     generalize a :: r = s at *
     rw [wx s.length (fun k => if decide (s.getD k 0 ∈ ji) = true then none else some false) () (fun k hk => ?_) (by simp)]
     . cases hs : zA (fun k => if decide (s.getD k 0 ∈ ji) = true then none else some false) 0 s.length with
       | none =>
         have := scan_none.1 hs
         simp only
         congr 1
         symm
         rw [List.all_eq_true]
         intro c hc
         obtain ⟨i, hi, rfl⟩ := List.getElem_of_mem hc
         have := this i (by omega) (by omega)
         rw [yW (List.getElem?_eq_getElem hi)] at this
         split at this
         . assumption
         . cases this
       | some b =>
         simp only
         congr 1
         have hall : ¬ s.all (fun c => decide (c ∈ ji)) = true := by
          intro hall
          rw [List.all_eq_true] at hall
          have : zA (fun k => if decide (s.getD k 0 ∈ ji) = true then none else some false) 0 s.length = none := scan_none.2 fun i _ hi => by
           have hi' : i < s.length := by omega
           rw [yW (List.getElem?_eq_getElem hi'), if_pos (hall _ (List.getElem_mem hi'))]
          rw [this] at hs; cases hs
         have hb : b = false := by
          have key : ∀ {j k : Nat}, zA (fun k => if decide (s.getD k 0 ∈ ji) = true then none else some false) k j = some b -> b = false := by
           intro j
           induction j with
           | zero => intro k h; cases h
           | succ j ih =>
             intro k h
             simp only [zA] at h
             split at h
             . rename_i r hr
               cases h
               split at hr
               . cases hr
               . cases hr; rfl
             . exact ih h
          exact key hs
         rw [hb]
         cases e : s.all (fun c => decide (c ∈ ji)) with
         | false => rfl
         | true => exact absurd e hall
     . obtain ⟨x, hx⟩ := zw (l := s) (i := k) hk
       simp only [Int.ofNat_lt, hk, decide_true, cond_true, zh, Int.toNat_natCast, hx, Option.bind_some, zg, Int.natCast_nonneg, if_true, zic, zs5]
       rw [yW hx, w64 (by omega) (by omega), zvm]
       cases (decide (97 <= x.toNat) && decide (x.toNat <= 122)) with
       | true => simp
       | false =>
         cases (decide (48 <= x.toNat) && decide (x.toNat <= 57)) with
         | true => simp
         | false =>
           by_cases h45 : x.toNat = 45
           . simp [h45]
           . have : ¬ (x.toNat : Int) = 45 := by omega
             simp [h45, this]
theorem zoe (ns : List (List UInt8)) (h : ns.length <= 20) (hn : ∀ s ∈ ns, s.length <= 1000) : zrz ns = some (jy ns) := by
 unfold zrz jy
 simp only [List.length_map]
 by_cases h1 : ns.length < 1
 . have : (ns.length : Int) < 1 := by omega
   simp [h1, this]
 by_cases h2 : 8 < ns.length
 . have : (8 : Int) < ns.length := by omega
   have g1 : ¬ (ns.length : Int) < 1 := by omega
   simp [h2, this, g1]
 have g1 : ¬ (ns.length : Int) < 1 := by omega
 have g2 : ¬ (8 : Int) < ns.length := by omega
 simp only [g1, g2, h1, h2, decide_false, cond_false, or_self, if_false]
 rw [wx ns.length (zad ns) () (fun k hk => ?_) (by simp)]
 . cases zA (zad ns) 0 ns.length <;> rfl
 . obtain ⟨x, hx⟩ := zw (l := ns) (i := k) hk
   have hxl := hn x (List.mem_of_getElem? hx)
   simp only [Int.ofNat_lt, hk, decide_true, cond_true, zh, Int.toNat_natCast, hx, Option.bind_some, Int.natCast_nonneg, if_true]
   rw [zkx x (by omega)]
   unfold zad
   rw [yW hx]
   cases e : zb7 x with
   | false => simp
   | true =>
     simp only [Option.bind_some, Bool.not_true, cond_false, if_true]
     rw [wx k (fun j => if ns.getD j [] = x then some (.inr (.inr ((k : Int), (8 : Int)))) else none) () (fun j hj => ?_) (by simp)]
     . by_cases hm : x ∈ ns.take k
       . obtain ⟨j, hj, rfl⟩ := List.getElem_of_mem hm
         have hj' : j < k /\ j < ns.length := by simp at hj; omega
         cases hs : zA (fun i => if ns.getD i [] = (ns.take k)[j] then some ((.inr (.inr ((k : Int), (8 : Int)))) : Int ⊕ (Unit ⊕ (Int × Int))) else none) 0 k with
         | none =>
           have := scan_none.1 hs j (by omega) (by omega)
           rw [yW (List.getElem?_eq_getElem hj'.2)] at this
           simp at this
         | some b =>
           have : b = .inr (.inr ((k : Int), (8 : Int))) := uZ (fun i => by split <;> simp) hs
           rw [this, if_pos hm]
       . have : zA (fun j => if ns.getD j [] = x then some ((.inr (.inr ((k : Int), (8 : Int)))) : Int ⊕ (Unit ⊕ (Int × Int))) else none) 0 k = none := scan_none.2 fun i _ hi => by
          have hi' : i < ns.length := by omega
          rw [yW (List.getElem?_eq_getElem hi'), if_neg]
          rintro rfl
          exact hm (List.mem_iff_getElem.2 ⟨i, by simp; omega, by simp⟩)
         rw [this]
         simp only [hm, if_false, zg]
         rw [w64 (by omega) (by omega)]
     . obtain ⟨y, hy⟩ := zw (l := ns) (i := j) (by omega)
       simp only [Int.ofNat_lt, hj, decide_true, cond_true, zh, Int.toNat_natCast, hy, Option.bind_some, zg, Int.natCast_nonneg, if_true, hx]
       rw [yW hy, w64 (by omega) (by omega)]
       by_cases hxy : y = x
       . simp [hxy]
       . simp [hxy]
open Go
def dn (l : TL) (b : Nat) : Nat -> Nat
 | 0 => 0
 | k + 1 => dn l b k ||| (if up l k b = true then 2 ^ k else 0)
theorem zof (l : TL) (b : Nat) : ∀ (k i : Nat), (dn l b k).testBit i = (decide (i < k) && up l i b)
 | 0, i => by simp [dn]
 | k + 1, i => by
   simp only [dn, Nat.testBit_or, zof l b k i]
   by_cases h : up l k b = true
   . simp only [h, if_true, Nat.testBit_two_pow]
     by_cases hik : i = k
     . subst hik; simp [h]
     . have h1 : ¬ k = i := fun e => hik e.symm
       have h2 : (i < k + 1) = (i < k) := by simp; omega
       simp [h1, h2]
   . simp only [h, if_false, Nat.zero_testBit, Bool.or_false]
     by_cases hik : i = k
     . subst hik; simp [h]
     . have h2 : (i < k + 1) = (i < k) := by simp; omega
       simp [h2]
theorem zy8 (l : TL) (b : Nat) : ∀ k : Nat, dn l b k < 2 ^ k
 | 0 => by simp [dn]
 | k + 1 => by
   simp only [dn]
   refine Nat.or_lt_two_pow (Nat.lt_of_lt_of_le (zy8 l b k) (Nat.pow_le_pow_right (by omega) (by omega))) ?_
   split
   . exact Nat.pow_lt_pow_right (by omega) (by omega)
   . exact Nat.two_pow_pos _
theorem zit (l : TL) (b : Nat) {k : Nat} (h : k <= 8) : dn l b k < 256 := Nat.lt_of_lt_of_le (zy8 l b k) (Nat.pow_le_pow_right (n := 2) (by omega) h)
theorem zqs {c : Bool} {k : Nat} (h : k < 8) : IntKind.wrap .u8 ((if c = true then (1 : Int) else 0) * 2 ^ min k (IntKind.bits .u8)) = ((if c = true then 2 ^ k else 0 : Nat) : Int) := by
 have key : ∀ (c : Bool) (k : Fin 8), IntKind.wrap .u8 ((if c = true then (1 : Int) else 0) * 2 ^ min k.val (IntKind.bits .u8)) = ((if c = true then 2 ^ k.val else 0 : Nat) : Int) := by decide +kernel
 exact key c ⟨k, h⟩
theorem zu1 {a b : Nat} (ha : a < 256) (hb : b < 256) : bits .or .u8 (a : Int) (b : Int) = ((a ||| b : Nat) : Int) := by
 rw [zrb (by omega) (by omega) (by omega) (by omega)]; rfl
theorem zp7 {a b : Nat} (ha : a < 256) (hb : b < 256) : bits .and .u8 (a : Int) (b : Int) = ((a &&& b : Nat) : Int) := by
 rw [zco (by omega) (by omega) (by omega) (by omega)]; rfl
theorem zD4 {c : Bool} {k : Nat} (h : k < 8) : (if c = true then 2 ^ k else 0) < 256 := by
 split
 . exact Nat.lt_of_lt_of_le (Nat.pow_lt_pow_right (a := 2) (by omega) h) (by omega)
 . omega
theorem zjr {α : Type} {l : List α} {i j : Nat} {x : α} (h : i < l.length) : (l.set i x)[j]? = if i = j then some x else l[j]? := by
 rw [List.getElem?_set]
 split
 . simp [h]
 . rfl
theorem zmi (l : TL) (hu : U8s l.Up) (hn : l.Names.length <= 8) (hl : l.Up.length = l.Names.length) :
 Tot (zgx l) fun o => o.n_ = l.Names.length /\ o.up_.length = 8 /\ o.down_.length = 8 /\ (∀ j, j < l.Names.length -> o.up_[j]? = l.Up[j]?) /\ ∀ b, b < l.Names.length -> o.down_[b]? = some (dn l b l.Names.length : Int) := by
 unfold zgx
 simp only [zv, List.length_map]
 refine Tot.count l.Up.length (fun k s => s.1 = (k : Int) /\ s.2.1.length = 8 /\ s.2.2.length = 8 /\ (∀ j, j < k -> s.2.1[j]? = l.Up[j]?) /\ ∀ b, b < l.Names.length -> s.2.2[b]? = some (dn l b k : Int)) ?_ ⟨rfl, rfl, rfl, fun j hj => absurd hj (by omega), fun b hb => ?_⟩
 . rintro k ⟨i, up', down⟩ hk ⟨h0, h1, h2, h3, h4⟩
   simp only at h0 h1 h2 h3 h4
   subst h0
   simp only [zt, zF, qc, qp, qF, zv, Sum.elim_inl, Sum.elim_inr, decide_eq_true_eq, decide_eq_false_iff_not, Int.toNat_natCast]
   refine ⟨fun hlt => ?_, fun hlt => ?_⟩
   . obtain ⟨x, hx⟩ := zw (l := l.Up) (i := k) (by omega)
     obtain ⟨y, hy⟩ := zw (l := up') (i := k) (by omega)
     refine ⟨by omega, x, hx, ⟨by omega, by omega⟩, by omega, y, hy, ?_⟩
     have hx' := hu.get hx
     refine Tot.count l.Names.length (fun j s => s.1 = (j : Int) /\ s.2.length = 8 /\ ∀ b, b < l.Names.length -> s.2[b]? = some (dn l b (if b < j then k + 1 else k) : Int)) ?_ ⟨rfl, h2, fun b hb => by simpa using h4 b hb⟩
     rintro j ⟨i', d⟩ hj ⟨g0, g1, g2⟩
     simp only at g0 g1 g2
     subst g0
     simp only [zt, zF, qc, qp, qF, zv, Sum.elim_inl, Sum.elim_inr, decide_eq_true_eq, decide_eq_false_iff_not, Int.toNat_natCast]
     refine ⟨fun hlt' => ?_, fun hlt' => ?_⟩
     . have hz := g2 j (by omega)
       rw [if_neg (by omega)] at hz
       rw [w64 (by omega) (by omega)]
       refine ⟨⟨by omega, by omega⟩, by omega, _, hz, by omega, by omega, ⟨by omega, by omega⟩, by omega, _, hz, by omega, by omega, by simpa using g1, fun b hb => ?_⟩
       rw [zjr (by omega)]
       by_cases hjb : j = b
       . subst hjb
         rw [if_pos rfl, if_pos (by omega), zbq hx'.1 hx'.2 (by omega), <- jE hx, zqs (by omega), zu1 (zit l j (by omega)) (zD4 (by omega))]
         rfl
       . rw [if_neg hjb, g2 b hb]
         have : (b < j + 1) = (b < j) := by simp; omega
         simp only [this]
     . rw [w64 (by omega) (by omega)]
       refine ⟨by omega, by omega, by simpa using h1, g1, fun q hq => ?_, fun b hb => ?_⟩
       . rw [zjr (by omega)]
         by_cases hkq : k = q
         . subst hkq; rw [if_pos rfl, hx]
         . rw [if_neg hkq]; exact h3 q (by omega)
       . rw [g2 b hb, if_pos (by omega)]
   . have hkn : k = l.Names.length := by omega
     subst hkn
     exact ⟨trivial, h1, h2, h3, h4⟩
 . have h8 : ∀ b : Fin 8, ([0, 0, 0, 0, 0, 0, 0, 0] : List Int)[b.val]? = some 0 := by decide
   exact h8 ⟨b, by omega⟩
theorem yq {ρ : Type} {p : Prop} [Decidable p] {x : Option ρ} (h : p) : zj p x = x := by unfold zj; rw [if_pos h]
def bnd (g : Nat -> Nat) (n a b : Nat) : Option Nat := zA (fun c => if g c = g a &&& g b then some c else none) 0 n
def zc5 (g : Nat -> Nat) (n a b : Nat) : Int := match bnd g n a b with | some c => c | none => -1
theorem zff (m : List Int) (g : Nat -> Nat) (n a b : Nat) (hn : n <= 8) (hg : ∀ c, c < n -> m[c]? = some (g c : Int)) (hg8 : ∀ c, c < n -> g c < 256) (hs : ∀ c, c < n -> (g c).testBit c = true) (ha : a < n) (hb : b < n) :
 zjb m n a b = some (zc5 g n a b) := by
 unfold zjb zc5 bnd
 have s1 : ((0 : Int) <= (a : Int) /\ (a : Int) < ((8 : Nat) : Int)) := by omega
 have s2 : ((0 : Int) <= (b : Int) /\ (b : Int) < ((8 : Nat) : Int)) := by omega
 simp only [yq s1, yq s2]
 simp only [zh, Int.toNat_natCast, Int.natCast_nonneg, if_true, hg a ha, hg b hb, Option.bind_some, zp7 (hg8 a ha) (hg8 b hb)]
 have h8 : g a &&& g b < 256 := zdp (hg8 a ha)
 generalize g a &&& g b = both at *
 rw [wx n (fun c => if g c = both then some (c : Int) else none) () (fun c hc => ?_) (by simp)]
 . have e : (fun c => if g c = both then some (c : Int) else none) = fun c => (if g c = both then some c else none).map (fun c : Nat => (c : Int)) := by
    funext c; split <;> rfl
   rw [e, jJ]
   cases zA (fun c => if g c = both then some c else none) 0 n <;> rfl
 . have s3 : ((0 : Int) <= (c : Int) /\ (c : Int) < ((8 : Nat) : Int)) := by omega
   simp only [yq s3]
   simp only [Int.ofNat_lt, hc, decide_true, cond_true, zj, Int.natCast_nonneg, if_true, hg c hc, Option.bind_some, zg]
   rw [w64 (by omega) (by omega), zbq (by omega) (by omega) (by omega)]
   simp only [Int.toNat_natCast]
   by_cases hbc : both.testBit c = true
   . simp only [hbc, if_true, decide_true, cond_true]
     rw [hg c hc]
     by_cases hgc : g c = both
     . simp [hgc]
     . have : ¬ (g c : Int) = (both : Int) := by omega
       simp [hgc, this]
   . have : g c ≠ both := fun e => hbc (e ▸ hs c hc)
     simp [hbc, this]
theorem uj (m : List Int) (g : Nat -> Nat) (a b : Nat) (hn : m.length <= 8) (hg : ∀ c, c < m.length -> m[c]? = some (g c : Int)) (hg8 : ∀ c, c < m.length -> g c < 256) (ha : a < m.length) (hb : b < m.length) :
 zjh m a b = some (zc5 g m.length a b) := by
 unfold zjh zc5 bnd
 simp only [zh, Int.toNat_natCast, Int.natCast_nonneg, if_true, hg a ha, hg b hb, Option.bind_some, zp7 (hg8 a ha) (hg8 b hb), List.length_map]
 have h8 : g a &&& g b < 256 := zdp (hg8 a ha)
 generalize g a &&& g b = both at *
 rw [wx m.length (fun c => if g c = both then some (c : Int) else none) () (fun c hc => ?_) (by simp)]
 . have e : (fun c => if g c = both then some (c : Int) else none) = fun c => (if g c = both then some c else none).map (fun c : Nat => (c : Int)) := by
    funext c; split <;> rfl
   rw [e, jJ]
   cases zA (fun c => if g c = both then some c else none) 0 m.length <;> rfl
 . simp only [Int.ofNat_lt, hc, decide_true, cond_true, hg c hc, Option.bind_some, zg]
   rw [w64 (by omega) (by omega), Int.toNat_natCast, if_pos (by omega), hg c hc]
   by_cases hgc : g c = both
   . simp [hgc]
   . have : ¬ (g c : Int) = (both : Int) := by omega
     simp [hgc, this]
open Go
def upN (l : TL) (a : Nat) : Nat := (l.Up.getD a 0).toNat
def zf3 (l : TL) (a b : Nat) : Bool := !up l a b || ((decide (b = a) || !up l b a) && (List.range l.Names.length).all fun i => !up l b i || up l a i)
def xk (l : TL) (a : Nat) : Bool := decide (upN l a < 2 ^ l.Names.length) && up l a a && (List.range l.Names.length).all fun b => zf3 l a b
def dnN (l : TL) (b : Nat) : Nat := dn l b l.Names.length
def wO (l : TL) (a b : Nat) : Bool := (bnd (upN l) l.Names.length a b).isNone || (bnd (dnN l) l.Names.length a b).isNone
def zgl (l : TL) : Int × Int :=
 if (jy l.Names).2 = 0 then
  if l.Up.length = l.Names.length then
   match zA (fun a => if xk l a = true then none else some ((a : Int), (6 : Int))) 0 l.Names.length with
   | some r => r
   | none => (zA (fun a => zA (fun b => if wO l a b = true then some ((a : Int), (4 : Int)) else none) 0 l.Names.length) 0 l.Names.length).getD (0, 0)
  else (-1, 6)
 else jy l.Names
theorem zq6 {α : Type} {p : Nat -> Bool} {v : α} : ∀ {j k : Nat}, zA (fun i => if p i = true then none else some v) k j = if (List.range j).all (fun i => p (k + i)) = true then none else some v
 | 0, _ => by simp [zA]
 | j + 1, k => by
   simp only [zA, zq6 (j := j) (k := k + 1)]
   have e : (List.range (j + 1)).all (fun i => p (k + i)) = (p k && (List.range j).all fun i => p (k + 1 + i)) := by
    rw [List.range_succ_eq_map, List.all_cons, List.all_map]
    congr 1
    congr 1
    funext i
    simp only [Function.comp]
    congr 1; omega
   rw [e]
   cases p k <;> simp
theorem zkp {α : Type} {p : Nat -> Bool} {u v : α} {n : Nat} : ∀ {j k : Nat}, k + j = n -> 0 < j -> zA (fun i => if p i = true then (if i + 1 = n then some u else none) else some v) k j = some (if (List.range j).all (fun i => p (k + i)) = true then u else v)
 | 0, _, _, h => by omega
 | j + 1, k, hk, _ => by
   have e : (List.range (j + 1)).all (fun i => p (k + i)) = (p k && (List.range j).all fun i => p (k + 1 + i)) := by
    rw [List.range_succ_eq_map, List.all_cons, List.all_map]
    congr 1
    congr 1
    funext i
    simp only [Function.comp]
    congr 1; omega
   rw [e]
   simp only [zA]
   cases hp : p k with
   | false => simp
   | true =>
     simp only [if_true, Bool.true_and]
     by_cases hj : j = 0
     . subst hj
       have : k + 1 = n := by omega
       simp [this]
     . have : ¬ k + 1 = n := by omega
       simp only [this, if_false]
       exact zkp (by omega) (by omega)
theorem zsl (x : Int) (h0 : 0 <= x) (h1 : x < 256) : Tot (zjv x) fun y => ∀ n : Nat, n <= 8 -> decide ((n : Int) < y) = !decide (x.toNat < 2 ^ n) := by
 unfold zjv
 rw [qp]
 refine ⟨h0, ?_⟩
 have key : ∀ l : List UInt8, (∀ x : Fin 256, ∀ n : Fin 9, (l[x.val]?.map fun y => decide ((n.val : Int) < IntKind.wrap .i64 (y.toNat : Int))) = some (!decide (x.val < 2 ^ n.val))) ->
  ∃ y, l[x.toNat]? = some y /\ Tot (zg (IntKind.wrap .i64 (y.toNat : Int)) fun z => some z) fun y => ∀ n : Nat, n <= 8 -> decide ((n : Int) < y) = !decide (x.toNat < 2 ^ n) := by
  intro l hl
  cases e : l[x.toNat]? with
  | none =>
    have := hl ⟨x.toNat, by omega⟩ ⟨0, by omega⟩
    simp only [e] at this
    cases this
  | some y =>
    refine ⟨y, rfl, .mk fun n hn => ?_⟩
    have := hl ⟨x.toNat, by omega⟩ ⟨n, by omega⟩
    simp only [e] at this
    exact Option.some.inj this
 exact key _ (by decide +kernel)
theorem jh {l : TL} (hu : U8s l.Up) {a b : Nat} (ha : a < l.Up.length) (hb : b <= 8) : jH l a b = some (up l a b) := by
 unfold jH
 obtain ⟨x, hx⟩ := zw ha
 have hx' := hu.get hx
 have key : ∀ u : Fin 256, ∀ b : Fin 9, decide (Int.tmod (Int.fdiv (u.val : Int) (2 ^ min b.val (IntKind.bits .u8))) 2 = 1) = Nat.testBit u b := by decide +kernel
 have := key ⟨x.toNat, by omega⟩ ⟨b, by omega⟩
 simp only [Int.toNat_of_nonneg hx'.1] at this
 simp only [List.length_map, Int.natCast_nonneg, decide_true, cond_true, Int.ofNat_lt, ha, zh, Int.toNat_natCast, if_true, hx, Option.bind_some, zj, this, jE hx]
theorem zdi {n : Nat} (h : n < 1000000) : IntKind.wrap .i64 (n : Int) = n := w64 (by omega) (by omega)
theorem zqy (n : Nat) : BitVec.ofInt 64 (n : Int) = BitVec.ofNat 64 n := BitVec.ofInt_natCast 64 n
theorem zqc {a b : Nat} (ha : a < 1000000) (hb : b < 1000000) : bits .and .i64 (a : Int) (b : Int) = ((a &&& b : Nat) : Int) := by
 have e : bits .and .i64 (a : Int) (b : Int) = IntKind.wrap .i64 ((BitVec.ofInt 64 (a : Int) &&& BitVec.ofInt 64 (b : Int)).toNat : Int) := rfl
 rw [e, zqy, zqy, BitVec.toNat_and, BitVec.toNat_ofNat, BitVec.toNat_ofNat, Nat.mod_eq_of_lt (by omega), Nat.mod_eq_of_lt (by omega)]
 exact zdi (Nat.lt_of_le_of_lt Nat.and_le_left ha)
theorem zw0 {x y n : Nat} : ((y &&& (2 ^ n - 1)) &&& x = y &&& (2 ^ n - 1)) ↔ ((List.range n).all fun i => !y.testBit i || x.testBit i) = true := by
 rw [List.all_eq_true]
 constructor
 . intro h i hi
   have hi' : i < n := by simpa using hi
   have := congrArg (fun z => z.testBit i) h
   simp only [Nat.testBit_and, Nat.testBit_two_pow_sub_one, hi', decide_true, Bool.and_true] at this
   cases e : y.testBit i with
   | false => rfl
   | true => rw [e] at this; simpa using this
 . intro h
   apply Nat.eq_of_testBit_eq
   intro i
   simp only [Nat.testBit_and, Nat.testBit_two_pow_sub_one]
   by_cases hi : i < n
   . have := h i (by simpa using hi)
     simp only [hi, decide_true, Bool.and_true]
     cases e : y.testBit i with
     | false => rfl
     | true => rw [e] at this; simpa using this
   . simp [hi]
open Go
theorem zvn {l : TL} {a : Nat} {x : Int} (h : l.Up[a]? = some x) : upN l a = x.toNat := by unfold upN; rw [yW h]
theorem zes {l : TL} {a b : Nat} : (upN l a).testBit b = up l a b := rfl
theorem zbi {l : TL} (hu : U8s l.Up) {a : Nat} (ha : a < l.Up.length) : upN l a < 256 := by
 obtain ⟨x, hx⟩ := zw ha
 have := hu.get hx
 rw [zvn hx]; omega
theorem uM {l : TL} (hu : U8s l.Up) {a : Nat} (ha : a < l.Up.length) : l.Up[a]? = some (upN l a : Int) := by
 obtain ⟨x, hx⟩ := zw ha
 have := hu.get hx
 rw [hx, zvn hx, Int.toNat_of_nonneg this.1]
theorem zn2 {l : TL} (hu : U8s l.Up) (h8 : l.Names.length <= 8) (hl : l.Up.length = l.Names.length) {a : Nat} (ha : a < l.Names.length) : zrd l a = some (xk l a) := by
 unfold zrd xk
 have g0 : ((0 : Int) <= (l.Names.length : Int)) := by omega
 have hb := fun b (hb : b < l.Names.length) => jh hu (a := a) (b := b) (by omega) (by omega)
 have hxa := uM hu (a := a) (by omega)
 have hlt := zbi hu (a := a) (by omega)
 have sh : decide ((0 : Int) < Int.fdiv (upN l a : Int) (2 ^ min l.Names.length (IntKind.bits .i64))) = !decide (upN l a < 2 ^ l.Names.length) := by
  have key : ∀ u : Fin 256, ∀ n : Fin 9, decide ((0 : Int) < Int.fdiv (u.val : Int) (2 ^ min n.val (IntKind.bits .i64))) = !decide (u.val < 2 ^ n.val) := by decide +kernel
  exact key ⟨upN l a, hlt⟩ ⟨l.Names.length, by omega⟩
 have mk : IntKind.wrap .i64 (IntKind.wrap .i64 (1 * 2 ^ min l.Names.length (IntKind.bits .i64)) - 1) = ((2 ^ l.Names.length - 1 : Nat) : Int) := by
  have key : ∀ n : Fin 9, IntKind.wrap .i64 (IntKind.wrap .i64 (1 * 2 ^ min n.val (IntKind.bits .i64)) - 1) = ((2 ^ n.val - 1 : Nat) : Int) := by decide +kernel
  exact key ⟨l.Names.length, by omega⟩
 have mk' : 2 ^ l.Names.length - 1 < 1000000 := by
  have : 2 ^ l.Names.length <= 2 ^ 8 := Nat.pow_le_pow_right (by omega) h8
  omega
 simp only [List.length_map, yq g0, Int.toNat_natCast]
 simp only [zh, Int.toNat_natCast, Int.natCast_nonneg, if_true, hxa, Option.bind_some, zg]
 rw [zdi (by omega), sh, hb a ha, mk]
 cases e1 : decide (upN l a < 2 ^ l.Names.length) with
 | false => simp
 | true =>
   simp only [Bool.not_true, cond_false, Bool.true_and, Option.bind_some]
   cases e2 : up l a a with
   | false => simp
   | true =>
     simp only [Bool.not_true, cond_false, Bool.true_and]
     rw [wx l.Names.length (fun b => if zf3 l a b = true then none else some false) () (fun b hbn => ?_) (by simp)]
     . rw [zq6]
       simp only [Nat.zero_add]
       cases (List.range l.Names.length).all fun b => zf3 l a b <;> rfl
     . have hxb := uM hu (a := b) (by omega)
       have hltb := zbi hu (a := b) (by omega)
       simp only [Int.ofNat_lt, hbn, decide_true, cond_true, Option.bind_some, Int.toNat_natCast, hxb]
       rw [hb b hbn, zdi (n := upN l b) (by omega), zqc (by omega) mk', w64 (by omega) (by omega), jh hu (by omega) (by omega)]
       have hand : upN l b &&& (2 ^ l.Names.length - 1) < 1000000 := Nat.lt_of_le_of_lt Nat.and_le_left (by omega)
       rw [zqc hand (by omega)]
       have hsub := zw0 (x := upN l a) (y := upN l b) (n := l.Names.length)
       simp only [zes] at hsub
       have hsub' : decide ((((upN l b &&& (2 ^ l.Names.length - 1)) &&& upN l a : Nat) : Int) = ((upN l b &&& (2 ^ l.Names.length - 1) : Nat) : Int)) = (List.range l.Names.length).all fun i => !up l b i || up l a i := by
        rw [Bool.eq_iff_iff, <- hsub, decide_eq_true_eq]; omega
       rw [hsub']
       unfold zf3
       cases e3 : up l a b with
       | false => simp
       | true =>
         simp only [Option.bind_some, Bool.not_true, cond_false, Bool.false_or]
         by_cases hba : b = a
         . subst hba
           simp only [decide_true, Bool.not_true, cond_false, Bool.true_or, Bool.true_and]
           cases (List.range l.Names.length).all fun i => !up l b i || up l b i <;> simp
         . have : ¬ (b : Int) = (a : Int) := by omega
           simp only [this, hba, decide_false, Bool.not_false, cond_true, Bool.false_or]
           cases up l b a with
           | true => simp
           | false =>
             cases (List.range l.Names.length).all fun i => !up l b i || up l a i <;> simp
theorem zhu {l : TL} (hu : U8s l.Up) (h8 : l.Names.length <= 8) (hl : l.Up.length = l.Names.length) : Tot (zmt l) fun d => d.length = l.Names.length /\ ∀ b, b < l.Names.length -> d[b]? = some (dnN l b : Int) := by
 unfold zmt
 simp only [zv, qF, List.length_map, Int.toNat_natCast]
 refine ⟨⟨by omega, trivial, by omega, by omega⟩, ?_⟩
 refine Tot.count l.Names.length (fun k s => s.1 = (k : Int) /\ s.2.length = l.Names.length /\ ∀ b, b < l.Names.length -> s.2[b]? = some (dn l b k : Int)) ?_ ⟨rfl, by simp, fun b hb => ?_⟩
 . rintro k ⟨i, down⟩ hk ⟨h0, h2, h4⟩
   simp only at h0 h2 h4
   subst h0
   simp only [zt, zF, qc, qp, qF, zv, Sum.elim_inl, Sum.elim_inr, decide_eq_true_eq, decide_eq_false_iff_not, Int.toNat_natCast]
   refine ⟨fun hlt => ?_, fun hlt => ?_⟩
   . refine Tot.count l.Names.length (fun j s => s.1 = (j : Int) /\ s.2.length = l.Names.length /\ ∀ b, b < l.Names.length -> s.2[b]? = some (dn l b (if b < j then k + 1 else k) : Int)) ?_ ⟨rfl, h2, fun b hb => by simpa using h4 b hb⟩
     rintro j ⟨i', d⟩ hj ⟨g0, g1, g2⟩
     simp only at g0 g1 g2
     subst g0
     simp only [zt, zF, qc, qp, qF, zv, Sum.elim_inl, Sum.elim_inr, decide_eq_true_eq, decide_eq_false_iff_not, Int.toNat_natCast]
     refine ⟨fun hlt' => ?_, fun hlt' => ?_⟩
     . rw [jh hu (by omega) (by omega), zt]
       have hz := g2 j (by omega)
       rw [if_neg (by omega)] at hz
       rw [w64 (by omega) (by omega)]
       refine ⟨fun hup => ⟨⟨by omega, by simp; omega⟩, by omega, _, hz, by omega, ⟨by omega, by simp; omega⟩, by omega, _, hz, by omega, by omega, by simpa using g1, fun b hb => ?_⟩, fun hup => ⟨by omega, by omega, g1, fun b hb => ?_⟩⟩
       . have hsh := zqs (c := true) (k := k) (by omega)
         simp only [if_true] at hsh
         rw [zjr (by omega), hsh]
         by_cases hjb : j = b
         . subst hjb
           have hp : 2 ^ k < 256 := Nat.lt_of_lt_of_le (Nat.pow_lt_pow_right (a := 2) (by omega) (show k < 8 by omega)) (by omega)
           rw [if_pos rfl, if_pos (by omega), zu1 (zit l j (by omega)) hp]
           simp [dn, hup]
         . rw [if_neg hjb, g2 b hb]
           have : (b < j + 1) = (b < j) := by simp; omega
           simp only [this]
       . rw [g2 b hb]
         by_cases hjb : j = b
         . subst hjb
           rw [if_neg (by omega), if_pos (by omega)]
           simp [dn, hup]
         . have : (b < j + 1) = (b < j) := by simp; omega
           simp only [this]
     . rw [w64 (by omega) (by omega)]
       refine ⟨by omega, by omega, g1, fun b hb => ?_⟩
       rw [g2 b hb, if_pos (by omega)]
   . have hkn : k = l.Names.length := by omega
     subst hkn
     exact ⟨h2, h4⟩
 . rw [List.getElem?_replicate, if_pos hb]; rfl
open Go
theorem zm6 (g : Nat -> Nat) (n a b : Nat) : decide (zc5 g n a b < 0) = (bnd g n a b).isNone := by
 unfold zc5
 cases bnd g n a b with
 | none => rfl
 | some c => simp
theorem zvt {l : TL} (h8 : l.Names.length <= 8) (b : Nat) : dnN l b < 256 := zit l b h8
theorem zaj (l : TL) (hu : U8s l.Up) (hn : l.Names.length <= 20) (hs : ∀ s ∈ l.Names, s.length <= 1000) : zje l = some (zgl l) := by
 unfold zje zgl
 rw [zoe _ hn hs]
 simp only [Option.bind_some, List.length_map]
 by_cases h0 : (jy l.Names).2 = 0
 case neg => simp [h0]
 simp only [h0, decide_true, Bool.not_true, cond_false, if_true]
 by_cases hlen : l.Up.length = l.Names.length
 case neg =>
  have : ¬ (l.Up.length : Int) = l.Names.length := by omega
  simp [hlen, this]
 have h8 : l.Names.length <= 8 := by
  unfold jy at h0
  split at h0
  . cases h0
  . omega
 simp only [hlen, decide_true, Bool.not_true, cond_false, if_true]
 rw [wx l.Names.length (fun a => if xk l a = true then none else some ((a : Int), (6 : Int))) () (fun a ha => ?_) (by simp)]
 . cases h1 : zA (fun a => if xk l a = true then none else some ((a : Int), (6 : Int))) 0 l.Names.length with
   | some r => rfl
   | none =>
     simp only
     obtain ⟨d, ed, hdl, hd⟩ := zhu hu h8 hlen
     rw [ed, Option.bind_some]
     rw [wx l.Names.length (fun a => zA (fun b => if wO l a b = true then some ((a : Int), (4 : Int)) else none) 0 l.Names.length) () (fun a ha => ?_) (by simp)]
     . cases zA (fun a => zA (fun b => if wO l a b = true then some ((a : Int), (4 : Int)) else none) 0 l.Names.length) 0 l.Names.length <;> rfl
     . simp only [Int.ofNat_lt, ha, decide_true, cond_true]
       rw [wx l.Names.length (fun b => if wO l a b = true then some (.inr (.inr ((a : Int), (4 : Int)))) else none) () (fun b hb => ?_) (by simp)]
       . have e : (fun b => if wO l a b = true then some (Sum.inr (Sum.inr ((a : Int), (4 : Int))) : Int ⊕ (Unit ⊕ (Int × Int))) else none) = fun b => (if wO l a b = true then some ((a : Int), (4 : Int)) else none).map fun v => .inr (.inr v) := by
          funext b; split <;> rfl
         rw [e, jJ]
         cases zA (fun b => if wO l a b = true then some ((a : Int), (4 : Int)) else none) 0 l.Names.length with
         | some r => rfl
         | none =>
           simp only [Option.map_none, zg]
           rw [w64 (by omega) (by omega)]
       . simp only [Int.ofNat_lt, hb, decide_true, cond_true]
         have n1 := uj l.Up (upN l) a b (by omega) (fun c hc => uM hu hc) (fun c hc => zbi hu hc) (by omega) (by omega)
         have n2 := uj d (dnN l) a b (by omega) (fun c hc => hd c (by omega)) (fun c hc => zvt h8 c) (by omega) (by omega)
         rw [hlen] at n1
         rw [hdl] at n2
         rw [n1, n2]
         simp only [Option.bind_some, zm6, zg]
         rw [w64 (by omega) (by omega)]
         unfold wO
         cases (bnd (upN l) l.Names.length a b).isNone with
         | true => simp
         | false => cases (bnd (dnN l) l.Names.length a b).isNone <;> simp
 . simp only [Int.ofNat_lt, ha, decide_true, cond_true]
   rw [zn2 hu h8 hlen ha]
   simp only [Option.bind_some, zg]
   rw [w64 (by omega) (by omega)]
   cases xk l a <;> simp
open Go
theorem zp2 (l : TL) (hu : U8s l.Up) (hn : l.Names.length <= 20) (hs : ∀ s ∈ l.Names, s.length <= 1000) : uS l = some (zgl l) := by
 unfold uS zgl
 rw [zwj _ hn hs]
 simp only [Option.bind_some, List.length_map]
 by_cases h0 : (jy l.Names).2 = 0
 case neg => simp [h0]
 simp only [h0, decide_true, Bool.not_true, cond_false, if_true]
 by_cases hlen : l.Up.length = l.Names.length
 case neg =>
  have : ¬ (l.Up.length : Int) = l.Names.length := by omega
  simp [hlen, this]
 have h8 : 1 <= l.Names.length /\ l.Names.length <= 8 := by
  unfold jy at h0
  split at h0
  . cases h0
  . omega
 obtain ⟨h1, h8⟩ := h8
 have g0 : ((0 : Int) <= (l.Names.length : Int)) := by omega
 simp only [hlen, decide_true, Bool.not_true, cond_false, if_true, yq g0, zg, Int.toNat_natCast]
 have hmask := zpb l.Names.length h8
 have hm0 := zn7 (e := IntKind.wrap .u8 (1 * 2 ^ min l.Names.length (IntKind.bits .u8)) - 1)
 rw [wx l.Names.length (fun a => if xk l a = true then none else some ((a : Int), (6 : Int))) () (fun a ha => ?_) (by simp)]
 . cases h1 : zA (fun a => if xk l a = true then none else some ((a : Int), (6 : Int))) 0 l.Names.length with
   | some r => rfl
   | none =>
     simp only
     have hself : ∀ a, a < l.Names.length -> up l a a = true := by
      intro a ha
      have := scan_none.1 h1 a (by omega) (by omega)
      split at this
      . rename_i h
        unfold xk at h
        simp only [Bool.and_eq_true] at h
        exact h.1.2
      . cases this
     obtain ⟨o, eo, _, o1, o2, o3, o4⟩ := zmi l hu h8 hlen
     rw [eo, Option.bind_some]
     rw [wx l.Names.length (fun a => zA (fun b => if wO l a b = true then some ((a : Int), (4 : Int)) else none) 0 l.Names.length) () (fun a ha => ?_) (by simp)]
     . cases zA (fun a => zA (fun b => if wO l a b = true then some ((a : Int), (4 : Int)) else none) 0 l.Names.length) 0 l.Names.length <;> rfl
     . simp only [Int.ofNat_lt, ha, decide_true, cond_true]
       rw [wx l.Names.length (fun b => if wO l a b = true then some (.inr (.inr ((a : Int), (4 : Int)))) else none) () (fun b hb => ?_) (by simp)]
       . have e : (fun b => if wO l a b = true then some (Sum.inr (Sum.inr ((a : Int), (4 : Int))) : Int ⊕ (Unit ⊕ (Int × Int))) else none) = fun b => (if wO l a b = true then some ((a : Int), (4 : Int)) else none).map fun v => .inr (.inr v) := by
          funext b; split <;> rfl
         rw [e, jJ]
         cases zA (fun b => if wO l a b = true then some ((a : Int), (4 : Int)) else none) 0 l.Names.length with
         | some r => rfl
         | none =>
           simp only [Option.map_none]
           rw [w64 (by omega) (by omega)]
       . simp only [Int.ofNat_lt, hb, decide_true, cond_true]
         have n1 := zff o.up_ (upN l) l.Names.length a b h8 (fun c hc => by rw [o3 c hc]; exact uM hu (by omega)) (fun c hc => zbi hu (by omega)) (fun c hc => hself c hc) ha hb
         have n2 : zrc o.down_ l.Names.length a b = some (zc5 (dnN l) l.Names.length a b) := zff o.down_ (dnN l) l.Names.length a b h8 (fun c hc => o4 c hc) (fun c hc => zvt h8 c) (fun c hc => by unfold dnN; rw [zof, hself c hc]; simp [hc]) ha hb
         rw [n1, n2]
         simp only [Option.bind_some, zm6]
         rw [w64 (by omega) (by omega)]
         unfold wO
         cases (bnd (upN l) l.Names.length a b).isNone with
         | true => simp
         | false => cases (bnd (dnN l) l.Names.length a b).isNone <;> simp
 . -- one label's row
   have hxa := uM hu (a := a) (by omega)
   have hlt := zbi hu (a := a) (by omega)
   obtain ⟨y, ey, hy⟩ := zsl (upN l a : Int) (by omega) (by omega)
   have hy := hy l.Names.length h8
   rw [Int.toNat_natCast] at hy
   have ga : ((0 : Int) <= (a : Int)) := by omega
   have hbit : ∀ b, b < l.Names.length -> bits .and .u8 (Int.fdiv (upN l a : Int) (2 ^ min b (IntKind.bits .u8))) 1 = if up l a b = true then 1 else 0 := fun b hb => by
    rw [zbq (by omega) (by omega) (by omega), Int.toNat_natCast]; rfl
   simp only [Int.ofNat_lt, ha, decide_true, cond_true, zh, Int.toNat_natCast, if_pos ga, hxa, Option.bind_some, ey, hy, yq ga]
   simp only [hbit a ha]
   unfold xk
   cases e1 : decide (upN l a < 2 ^ l.Names.length) with
   | false => simp
   | true =>
     simp only [Bool.not_true, cond_false, Bool.true_and]
     cases e2 : up l a a with
     | false => simp
     | true =>
       simp only [if_true, Int.reduceEq, decide_false, cond_false, Bool.true_and]
       rw [wx l.Names.length (fun b => if zf3 l a b = true then (if b + 1 = l.Names.length then some (.inl ((a : Int) + 1)) else none) else some (.inr (.inr ((a : Int), (6 : Int))))) () (fun b hb => ?_) (by simp)]
       . rw [zkp (by omega) (by omega)]
         simp only [Nat.zero_add]
         cases (List.range l.Names.length).all fun b => zf3 l a b <;> rfl
       . have hxb := uM hu (a := b) (by omega)
         have hltb := zbi hu (a := b) (by omega)
         have gb : ((0 : Int) <= (b : Int)) := by omega
         have hbit' : bits .and .u8 (Int.fdiv (upN l b : Int) (2 ^ min a (IntKind.bits .u8))) 1 = if up l b a = true then 1 else 0 := by
          rw [zbq (by omega) (by omega) (by omega), Int.toNat_natCast]; rfl
         simp only [Int.ofNat_lt, hb, decide_true, cond_true, Option.bind_some, Int.toNat_natCast, hxb, if_pos gb, yq gb]
         simp only [hbit b hb, hbit', w64 (e := (l.Names.length : Int) - 1) (by omega) (by omega), w64 (e := (a : Int) + 1) (by omega) (by omega), w64 (e := (b : Int) + 1) (by omega) (by omega)]
         have hnot : decide (bits .andNot .u8 (bits .and .u8 (upN l b : Int) (IntKind.wrap .u8 (IntKind.wrap .u8 (1 * 2 ^ min l.Names.length (IntKind.bits .u8)) - 1))) (upN l a : Int) = 0) = (List.range l.Names.length).all fun i => !up l b i || up l a i := by
          revert hmask hm0
          generalize IntKind.wrap .u8 (IntKind.wrap .u8 (1 * 2 ^ min l.Names.length (IntKind.bits .u8)) - 1) = mask
          intro hmask hm0
          have hand : bits .and .u8 (upN l b : Int) mask = ((upN l b &&& mask.toNat : Nat) : Int) := by
           rw [zco (by omega) (by omega) hm0.1 hm0.2, Int.toNat_natCast]
          have hlt2 : upN l b &&& mask.toNat < 256 := zdp hltb
          rw [hand, Bool.eq_iff_iff, decide_eq_true_eq, za9 (by omega) (by omega) (by omega) (by omega), List.all_eq_true]
          simp only [Int.toNat_natCast, Nat.testBit_and, hmask, zes]
          constructor
          . intro h i hi
            have := h i
            have hi' : i < l.Names.length := by simpa using hi
            cases e : up l b i with
            | false => rfl
            | true => rw [e] at this; simpa [hi'] using this
          . intro h i hi
            simp only [Bool.and_eq_true, decide_eq_true_eq] at hi
            have := h i (by simpa using hi.2)
            rw [hi.1] at this; simpa using this
         simp only [hnot]
         have hlast : decide ((b : Int) = (l.Names.length : Int) - 1) = decide (b + 1 = l.Names.length) := by
          rw [Bool.eq_iff_iff, decide_eq_true_eq, decide_eq_true_eq]; omega
         simp only [hlast]
         unfold zf3
         cases e3 : up l a b with
         | false => by_cases hl : b + 1 = l.Names.length <;> simp [hl]
         | true =>
           by_cases hba : b = a
           . subst hba
             have d2 : decide ((b : Int) = (b : Int)) = true := by simp
             cases (List.range l.Names.length).all fun i => !up l b i || up l b i with
             | false => by_cases hl : b + 1 = l.Names.length <;> simp [hl]
             | true => by_cases hl : b + 1 = l.Names.length <;> simp [hl]
           . have d2 : decide ((b : Int) = (a : Int)) = false := by simp; omega
             have d3 : decide (b = a) = false := by simp [hba]
             simp only [d2, d3]
             cases up l b a with
             | true => by_cases hl : b + 1 = l.Names.length <;> simp [hl]
             | false =>
               cases (List.range l.Names.length).all fun i => !up l b i || up l a i with
               | false => by_cases hl : b + 1 = l.Names.length <;> simp [hl]
               | true => by_cases hl : b + 1 = l.Names.length <;> simp [hl]
theorem zev {l : TL} (h : LatIn l) : qJ l = zgl l := by
 unfold qJ; rw [zp2 l h.u8 h.names h.name]; rfl
open Go
theorem zi7 {l : TL} (h : LatIn l) (a b : Int) : zlz l a b = some (zb6 l [a, b]) := by
 unfold zlz zb6
 rw [zaj l h.u8 h.names h.name, zev h]
 simp only [Option.bind_some, List.length_map, List.all_cons, List.all_nil, Bool.and_true]
 by_cases h0 : (zgl l).2 = 0
 . simp only [h0, decide_true, cond_true, if_true]
   unfold wt
   by_cases a1 : a < 0
   . have : ¬ 0 <= a := by omega
     simp [a1, this]
   by_cases a2 : (l.Names.length : Int) <= a
   . have : ¬ a < (l.Names.length : Int) := by omega
     simp [a1, a2, this]
   by_cases b1 : b < 0
   . have : ¬ 0 <= b := by omega
     simp [a1, a2, b1, this]
   by_cases b2 : (l.Names.length : Int) <= b
   . have : ¬ b < (l.Names.length : Int) := by omega
     simp [a1, a2, b1, b2, this]
   have a1' : 0 <= a := by omega
   have a2' : a < (l.Names.length : Int) := by omega
   have b1' : 0 <= b := by omega
   have b2' : b < (l.Names.length : Int) := by omega
   simp [a1, a2, b1, b2, a1', a2', b1', b2']
 . simp [h0]
open Go
theorem zwq {g : Nat -> Nat} {n a b c : Nat} (h : bnd g n a b = some c) : c < n /\ g c = g a &&& g b := by
 have key : ∀ {j k : Nat}, zA (fun c => if g c = g a &&& g b then some c else none) k j = some c -> c < k + j /\ g c = g a &&& g b := by
  intro j
  induction j with
  | zero => intro k h; cases h
  | succ j ih =>
    intro k h
    simp only [zA] at h
    split at h
    . rename_i r hr
      cases h
      split at hr
      . rename_i hh; cases hr; exact ⟨by omega, hh⟩
      . cases hr
    . have := ih h
      exact ⟨by omega, this.2⟩
 have := key h
 simpa using this
theorem zek {l : TL} (h : LatIn l) (k : (qJ l).2 = 0) : (∀ a, a < l.Names.length -> xk l a = true) /\ ∀ a b, a < l.Names.length -> b < l.Names.length -> wO l a b = false := by
 rw [zev h] at k
 unfold zgl at k
 split at k
 case isFalse h0 => exact absurd k h0
 split at k
 case isFalse => cases k
 split at k
 case h_1 r hr =>
  exfalso
  have key : ∀ {j k : Nat}, zA (fun a => if xk l a = true then none else some ((a : Int), (6 : Int))) k j = some r -> r.2 = 6 := by
   intro j
   induction j with
   | zero => intro k h; cases h
   | succ j ih =>
     intro k h
     simp only [zA] at h
     split at h
     . rename_i r' hr'
       cases h
       split at hr'
       . cases hr'
       . cases hr'; rfl
     . exact ih h
  rw [key hr] at k; cases k
 case h_2 hord =>
  have key2 : ∀ {a j k : Nat} {r : Int × Int}, zA (fun b => if wO l a b = true then some ((a : Int), (4 : Int)) else none) k j = some r -> r.2 = 4 := by
   intro a j
   induction j with
   | zero => intro k r h; cases h
   | succ j ih =>
     intro k r h
     simp only [zA] at h
     split at h
     . rename_i r' hr'
       cases h
       split at hr'
       . cases hr'; rfl
       . cases hr'
     . exact ih h
  have key : ∀ {j k : Nat} {r : Int × Int}, zA (fun a => zA (fun b => if wO l a b = true then some ((a : Int), (4 : Int)) else none) 0 l.Names.length) k j = some r -> r.2 = 4 := by
   intro j
   induction j with
   | zero => intro k r h; cases h
   | succ j ih =>
     intro k r h
     simp only [zA] at h
     split at h
     . rename_i r' hr'
       cases h
       exact key2 hr'
     . exact ih h
  cases hs : zA (fun a => zA (fun b => if wO l a b = true then some ((a : Int), (4 : Int)) else none) 0 l.Names.length) 0 l.Names.length with
  | some r =>
    rw [hs] at k
    have := key hs
    simp only [Option.getD_some] at k
    rw [this] at k; cases k
  | none =>
    refine ⟨fun a ha => ?_, fun a b ha hb => ?_⟩
    . have h1 := scan_none.1 hord a (by omega) (by omega)
      split at h1
      . assumption
      . cases h1
    . have h1 := scan_none.1 (scan_none.1 hs a (by omega) (by omega)) b (by omega) (by omega)
      split at h1
      . cases h1
      . rename_i h2; simpa using h2
theorem znu {l : TL} (h : LatIn l) (k : (qJ l).2 = 0) {a b : Nat} (ha : a < l.Names.length) (hb : b < l.Names.length) : ∃ c, bnd (dnN l) l.Names.length a b = some c /\ c < l.Names.length /\ dnN l c = dnN l a &&& dnN l b := by
 have h2 := (zek h k).2 a b ha hb
 unfold wO at h2
 cases e : bnd (dnN l) l.Names.length a b with
 | none => rw [e] at h2; simp at h2
 | some c => exact ⟨c, rfl, zwq e⟩
theorem zwi {l : TL} (ok : LatOK l) {a b c : Nat} (ha : a < l.Names.length) (hb : b < l.Names.length) (hc : c < l.Names.length) (h1 : up l a b = true) (h2 : up l b c = true) : up l a c = true := (ok.row a ha b hb h1).2 c hc h2
theorem zAn {l : TL} {b i : Nat} : (dnN l b).testBit i = (decide (i < l.Names.length) && up l i b) := zof l b l.Names.length i
theorem zhj {l : TL} {a b c i : Nat} (hi : i < l.Names.length) (hg : dnN l c = dnN l a &&& dnN l b) : up l i c = (up l i a && up l i b) := by
 have h1 := congrArg (fun x => x.testBit i) hg
 simp only [Nat.testBit_and, zAn, hi, decide_true, Bool.true_and] at h1
 exact h1
theorem zAi {l : TL} (ok : LatOK l) {a b : Nat} (ha : a < l.Names.length) (hb : b < l.Names.length) (h1 : up l a b = true) (h2 : up l b a = true) : a = b := by
 by_cases e : b = a
 . exact e.symm
 . have := (ok.row a ha b hb h1).1 e
   rw [h2] at this; cases this
theorem zzs {l : TL} (h : LatIn l) (k : (qJ l).2 = 0) : ∃ t, t < l.Names.length /\ ∀ a, a < l.Names.length -> up l t a = true := by
 have ok := je h k
 have key : ∀ j, j <= l.Names.length -> ∃ t, t < l.Names.length /\ ∀ a, a < j -> up l t a = true := by
  intro j
  induction j with
  | zero => intro _; exact ⟨0, ok.pos, fun a ha => absurd ha (by omega)⟩
  | succ j ih =>
    intro hj
    obtain ⟨t, ht, hall⟩ := ih (by omega)
    obtain ⟨c, _, hc, hg⟩ := znu h k ht (show j < l.Names.length by omega)
    have hcc := ok.self c hc
    rw [zhj hc hg, Bool.and_eq_true] at hcc
    refine ⟨c, hc, fun a ha => ?_⟩
    rcases Nat.lt_or_ge a j with g | g
    . exact zwi ok hc ht (by omega) hcc.1 (hall a g)
    . have : a = j := by omega
      subst this; exact hcc.2
 exact key _ (Nat.le_refl _)
def qK (l : TL) : Nat := ((List.range l.Names.length).find? fun b => (List.range l.Names.length).all fun a => up l b a).getD 0
theorem zfz {l : TL} (h : LatIn l) (k : (qJ l).2 = 0) : qK l < l.Names.length /\ ∀ a, a < l.Names.length -> up l (qK l) a = true := by
 obtain ⟨t, ht, hall⟩ := zzs h k
 unfold qK
 cases e : (List.range l.Names.length).find? fun b => (List.range l.Names.length).all fun a => up l b a with
 | none =>
   have := List.find?_eq_none.1 e t (by simpa using ht)
   exact absurd (by simp only [List.all_eq_true, List.mem_range]; exact hall) this
 | some b =>
   have h1 := List.find?_some e
   have h2 := List.mem_of_find?_eq_some e
   simp only [List.all_eq_true, List.mem_range] at h1 h2
   exact ⟨h2, h1⟩
theorem zul {l : TL} (h : LatIn l) (k : (qJ l).2 = 0) {b : Nat} (hb : b < l.Names.length) (hall : ∀ a, a < l.Names.length -> up l b a = true) : b = qK l := by
 obtain ⟨h1, h2⟩ := zfz h k
 exact zAi (je h k) hb h1 (hall _ h1) (h2 _ hb)
theorem zw2 {l : TL} (h : LatIn l) (k : (qJ l).2 = 0) {b : Nat} (hb : b < l.Names.length) : upN l b = 2 ^ l.Names.length - 1 ↔ b = qK l := by
 have h1 := (zek h k).1 b hb
 unfold xk at h1
 simp only [Bool.and_eq_true, decide_eq_true_eq] at h1
 constructor
 . intro e
   refine zul h k hb fun a ha => ?_
   rw [<- zes, e, Nat.testBit_two_pow_sub_one]
   simpa using ha
 . rintro rfl
   have h2 := (zfz h k).2
   refine Nat.eq_of_testBit_eq fun i => ?_
   rw [Nat.testBit_two_pow_sub_one]
   rcases Nat.lt_or_ge i l.Names.length with g | g
   . rw [zes, h2 i g]; simp [g]
   . rw [Nat.testBit_lt_two_pow (Nat.lt_of_lt_of_le h1.1.1 (Nat.pow_le_pow_right (by omega) g))]
     simp; omega
open Go
theorem zns (s : List UInt8) (c : Int) : zdq s c = some (Go.Lib.indexByte s c.toNat.toUInt8) := by
 unfold zdq qo
 rfl
theorem zap (r : Int) (h0 : 0 <= r) (h1 : r < 256) : xy [] r = some false := by
 unfold xy
 have key : Tot (zju [] r) fun x => x < 0 := by
  unfold zju
  have e0 : decide (0 <= r) = true := by simp [h0]
  simp only [e0, cond_true]
  rw [zF]
  refine ⟨fun _ => ?_, fun h2 => ?_⟩
  . rw [qc, zv, zns]
    simp only [zt]
    simp [Go.Lib.indexByte]
  . simp only [decide_eq_false_iff_not] at h2
    obtain ⟨x, y, exy, hy⟩ := zv4 (r := r) (by omega) h1
    have e1 : decide (r = 65533) = false := by simp; omega
    simp only [e1, cond_false, exy]
    rw [zv]
    refine (za0 r).mono fun v _ => ?_
    rw [zF]
    refine ⟨fun _ => .mk (by decide), fun _ => ?_⟩
    rw [qc]
    have e2 : IntKind.wrap .i64 (((List.length [x, y] : Nat) : Int) - 1) = 1 := rfl
    rw [e2, zv]
    refine Tot.loop (fun _ => 0) (fun _ => True) (fun _ _ => ?_) trivial
    rw [zF]
    refine ⟨fun h3 => ?_, fun _ => ?_⟩
    . simp only [decide_eq_true_eq, List.length_nil] at h3
      exact absurd h3 (by decide)
    . simp only [zt, Sum.elim_inr, Sum.elim_inl]
      decide
 obtain ⟨x, e, hx⟩ := key
 rw [e]
 have : decide (0 <= x) = false := by simp; omega
 simp [this]
theorem znf (r : Int) (h0 : 0 <= r) (h1 : r < 256) : zao r = some true := by
 unfold zao
 have e0 : decide (0 <= r) = true := by simp [h0]
 have e1 : decide (r < 55296) = true := by simp; omega
 simp only [e0, e1, cond_true]
theorem zph (r : Int) (h0 : 0 <= r) (h1 : r < 256) : zsr r = some true := by
 unfold zsr
 simp only [zg, zng h0 h1]
 rw [w64 (by omega) (by omega)]
 simp [znf r h0 h1]
def yD (c : UInt8) : Bool := decide (97 <= c.toNat) && decide (c.toNat <= 122)
def xl (c : UInt8) : Bool := decide (48 <= c.toNat) && decide (c.toNat <= 57)
theorem zp3 {cs : List (List UInt8)} (hcs : cs.length = 10) (h : ∀ s ∈ cs, s.length <= 1000 /\ ∀ c ∈ s, c.toNat < 128) (h6 : cs[6]? = some []) (h8 : cs[8]? = some []) (r : Int) (h0 : 0 <= r) (h1 : r < 256) {Q : Unit ⊕ (Int × Int) -> Prop} (hQ : Q (.inl ())) (hQ' : ∀ x, x ≠ 6 -> x ≠ 8 -> Q (.inr (x, 0))) :
 Tot (lpO (fun (s : Int) => cond (decide (s < 10)) (zh cs s fun x => zg (IntKind.wrap IntKind.i32 r) fun y => Option.bind (xy x y) fun z => cond z (some (Sum.inr (Sum.inr (s, (0 : Int))))) (zg (IntKind.wrap IntKind.i64 (s + 1)) fun u => some (Sum.inl u))) (some (Sum.inr (Sum.inl ())))) 0) Q := by
 refine Tot.count 10 (fun k s => s = (k : Int)) ?_ rfl
 rintro k _ hk rfl
 simp only [zF, zt, qc, qp, zv, Sum.elim_inl, Sum.elim_inr, decide_eq_true_eq, decide_eq_false_iff_not, Int.toNat_natCast]
 refine ⟨fun hlt => ?_, fun _ => hQ⟩
 obtain ⟨x, hx⟩ := zw (l := cs) (i := k) (by omega)
 have hx' := h x (List.mem_of_getElem? hx)
 refine ⟨by omega, x, hx, ?_⟩
 rw [zng h0 h1]
 have nx : k < 10 /\ IntKind.wrap .i64 ((k : Int) + 1) = ((k + 1 : Nat) : Int) := by
  rw [w64 (by omega) (by omega)]; exact ⟨by omega, by omega⟩
 by_cases g6 : k = 6
 . subst g6
   rw [h6] at hx; cases hx
   rw [zap r h0 h1, zt]
   exact ⟨fun e => (by cases e), fun _ => nx⟩
 by_cases g8 : k = 8
 . subst g8
   rw [h8] at hx; cases hx
   rw [zap r h0 h1, zt]
   exact ⟨fun e => (by cases e), fun _ => nx⟩
 refine (zd3 x r hx'.2 hx'.1 h0 h1).mono fun _ _ => ⟨fun _ => hQ' _ (by omega) (by omega), fun _ => nx⟩
theorem zb1 (c : UInt8) : Tot (zc7 (IntKind.wrap .i64 (c.toNat : Int))) fun x => (decide (x.1 = 8) = yD c) /\ (decide (x.1 = 6) = xl c) := by
 have hc := c.toNat_lt
 rw [w64 (by omega) (by omega)]
 have h0 : (0 : Int) <= c.toNat := by omega
 have h1 : (c.toNat : Int) < 256 := by omega
 unfold zc7 zhc yD xl
 rw [zph _ h0 h1]
 simp only [Option.bind_some, Bool.not_true, cond_false]
 have L : ¬ (48 <= c.toNat /\ c.toNat <= 57) -> ¬ (97 <= c.toNat /\ c.toNat <= 122) -> _ := fun d1 d2 => zp3 (cs := [[], [32], [10], [40, 91], [41, 93], [34], [], [45], [], [60, 61]]) rfl (by decide) rfl rfl c.toNat h0 h1 (Q := fun a => Tot (Sum.elim (fun _ => some ((10 : Int), (0 : Int))) some a) fun (x : Int × Int) => (decide (x.1 = 8) = (decide (97 <= c.toNat) && decide (c.toNat <= 122))) /\ (decide (x.1 = 6) = (decide (48 <= c.toNat) && decide (c.toNat <= 57))))
  (.mk (by
    have a1 : (decide (97 <= c.toNat) && decide (c.toNat <= 122)) = false := by simp; omega
    have a2 : (decide (48 <= c.toNat) && decide (c.toNat <= 57)) = false := by simp; omega
    rw [a1, a2]; exact ⟨rfl, rfl⟩)) (fun x e6 e8 => .mk (by
    have a1 : (decide (97 <= c.toNat) && decide (c.toNat <= 122)) = false := by simp; omega
    have a2 : (decide (48 <= c.toNat) && decide (c.toNat <= 57)) = false := by simp; omega
    rw [a1, a2]; simp [e6, e8]))
 simp only [zF, zt, zv, decide_eq_true_eq, decide_eq_false_iff_not]
 have six : 48 <= c.toNat -> c.toNat <= 57 -> decide ((6 : Int) = 8) = (decide (97 <= c.toNat) && decide (c.toNat <= 122)) /\ decide ((6 : Int) = 6) = (decide (48 <= c.toNat) && decide (c.toNat <= 57)) := by
  intro d1 d2
  have a1 : (decide (97 <= c.toNat) && decide (c.toNat <= 122)) = false := by simp; omega
  have a2 : (decide (48 <= c.toNat) && decide (c.toNat <= 57)) = true := by simp; omega
  rw [a1, a2]; exact ⟨rfl, rfl⟩
 have eight : 97 <= c.toNat -> c.toNat <= 122 -> decide ((8 : Int) = 8) = (decide (97 <= c.toNat) && decide (c.toNat <= 122)) /\ decide ((8 : Int) = 6) = (decide (48 <= c.toNat) && decide (c.toNat <= 57)) := by
  intro d1 d2
  have a1 : (decide (97 <= c.toNat) && decide (c.toNat <= 122)) = true := by simp; omega
  have a2 : (decide (48 <= c.toNat) && decide (c.toNat <= 57)) = false := by simp; omega
  rw [a1, a2]; exact ⟨rfl, rfl⟩
 refine ⟨fun d1 => ⟨fun d2 => six (by omega) (by omega), fun d2 => ⟨fun d3 => ⟨fun d4 => eight (by omega) (by omega), fun d4 => L (by omega) (by omega)⟩, fun d3 => L (by omega) (by omega)⟩⟩, fun d1 => ⟨fun d3 => ⟨fun d4 => eight (by omega) (by omega), fun d4 => L (by omega) (by omega)⟩, fun d3 => L (by omega) (by omega)⟩⟩
def wW (s : List UInt8) : Bool := (match s with | [] => false | c :: _ => yD c) && s.all fun c => yD c || xl c
theorem zgd {s : List UInt8} {p : UInt8 -> Bool} {k : Nat} {c : UInt8} (h : (s.take k).all p = true) (hc : s[k]? = some c) (hp : p c = true) : (s.take (k + 1)).all p = true := by
 rw [List.take_add_one, hc, List.all_append, h]
 simp [hp]
theorem zii (s : List UInt8) (h : s.length <= 1000000) : Tot (zs0 (TK.mk 1 0 0 0 s)) fun x => decide (x = 0) = (wW s && decide (s.length <= 16)) := by
 unfold zs0
 dsimp only
 have e2 : decide ((1 : Int) < 1) = false := rfl
 have e3 : decide ((9 : Int) < 1) = false := rfl
 simp only [e2, e3, decide_true, cond_true, cond_false, Option.bind_some, Sum.elim_inl, Bool.and_self, Bool.not_true]
 rw [zv]
 have Qn : ∀ x : Int, wW s = false -> Tot (Sum.elim (fun (n : Int) => cond (decide (n < (s.length : Int))) (some (3 : Int)) (some (0 : Int))) some (Sum.inr 6 : Int ⊕ Int)) fun x => decide (x = 0) = (wW s && decide (s.length <= 16)) := by
  intro _ e
  rw [e]; exact .mk rfl
 have Qy : wW s = true -> Tot (Sum.elim (fun (n : Int) => cond (decide (n < (s.length : Int))) (some (3 : Int)) (some (0 : Int))) some (Sum.inl 16 : Int ⊕ Int)) fun x => decide (x = 0) = (wW s && decide (s.length <= 16)) := by
  intro e
  rw [e]
  simp only [Sum.elim_inl, zF, zt, decide_eq_true_eq, decide_eq_false_iff_not]
  refine ⟨fun g => ?_, fun g => ?_⟩
  . have : decide (s.length <= 16) = false := by simp; omega
    rw [this]; rfl
  . have : decide (s.length <= 16) = true := by simp; omega
    rw [this]; rfl
 rw [zF]
 refine ⟨fun h1 => ?_, fun h1 => ?_⟩
 . simp only [zt]
   refine Qn 0 ?_
   have : s = [] := List.length_eq_zero_iff.1 (by simpa using h1)
   rw [this]; rfl
 simp only [decide_eq_false_iff_not] at h1
 obtain ⟨c, hc⟩ := zw (l := s) (i := 0) (by omega)
 have hs0 : ∃ r, s = c :: r := by
  cases s with
  | nil => simp at hc
  | cons a r => simp at hc; exact ⟨r, by rw [hc]⟩
 have e0 : (0 : Int).toNat = 0 := rfl
 simp only [qp, qc, zv, e0]
 refine ⟨by omega, c, hc, (zb1 c).mono fun x hx => ?_⟩
 rw [zF]
 refine ⟨fun g => ?_, fun g => ?_⟩
 . simp only [zt]
   refine Qn 0 ?_
   obtain ⟨r, rfl⟩ := hs0
   have : yD c = false := by rw [<- hx.1]; simpa using g
   unfold wW; simp [this]
 have hlow : yD c = true := by rw [<- hx.1]; simpa using g
 simp only [qp, qc, zv, e0]
 refine ⟨by omega, c, hc, (zb1 c).mono fun y hy => ?_⟩
 refine Tot.loop (fun (p : Int × Int) => s.length - p.2.toNat) (fun (p : Int × Int) => 0 <= p.2 /\ p.2 <= (s.length : Int) /\ (s.take p.2.toNat).all (fun c => yD c || xl c) = true /\ ((p.2 = (s.length : Int) /\ p.1 = 10) \/ ∃ d, s[p.2.toNat]? = some d /\ decide (p.1 = 8) = yD d /\ decide (p.1 = 6) = xl d)) ?_ ⟨by simp, by simp, by simp, .inr ⟨c, by simpa using hc, hy⟩⟩
 rintro ⟨k, a⟩ ⟨h2, h3, hall, h4⟩
 simp only at h2 h3 hall h4
 have round : (k = 8 \/ k = 6) -> ∀ {Q : (Bool × Int × Int) ⊕ (Int ⊕ Int) -> Prop}, Tot (zg (IntKind.wrap .i64 (a + 1)) fun (u : Int) => cond (decide ((s.length : Int) <= u)) (some (Sum.inl ((10 : Int), u))) (zh s u fun (v : UInt8) => zg (IntKind.wrap .i64 (v.toNat : Int)) fun (z : Int) => Option.bind (zc7 z) fun r => some (Sum.inl (r.1, u)))) (Sum.elim (fun (s' : Int × Int) => (0 <= s'.2 /\ s'.2 <= (s.length : Int) /\ (s.take s'.2.toNat).all (fun c => yD c || xl c) = true /\ ((s'.2 = (s.length : Int) /\ s'.1 = 10) \/ ∃ d, s[s'.2.toNat]? = some d /\ decide (s'.1 = 8) = yD d /\ decide (s'.1 = 6) = xl d)) /\ s.length - s'.2.toNat < s.length - a.toNat) Q) := by
  intro hk Q
  rcases h4 with ⟨g1, g2⟩ | ⟨d, hd, d1, d2⟩
  . omega
  have hlt : a.toNat < s.length := by
   rcases Nat.lt_or_ge a.toNat s.length with g | g
   . exact g
   . rw [List.getElem?_eq_none g] at hd; cases hd
  have hp : (yD d || xl d) = true := by
   rw [<- d1, <- d2]
   rcases hk with rfl | rfl <;> rfl
  have e1 : (a + 1).toNat = a.toNat + 1 := by omega
  have hall' : (s.take (a + 1).toNat).all (fun c => yD c || xl c) = true := by rw [e1]; exact zgd hall hd hp
  rw [qc, w64 (by omega) (by omega), zF]
  refine ⟨fun g => ?_, fun g => ?_⟩
  . simp only [decide_eq_true_eq] at g
    simp only [zt, Sum.elim_inl]
    exact ⟨⟨by omega, by omega, hall', .inl ⟨by omega, trivial⟩⟩, by omega⟩
  . simp only [decide_eq_false_iff_not] at g
    obtain ⟨d', hd'⟩ := zw (l := s) (i := (a + 1).toNat) (by omega)
    simp only [qp, qc, zv]
    refine ⟨by omega, d', hd', (zb1 d').mono fun z hz => ?_⟩
    simp only [zt, Sum.elim_inl]
    exact ⟨⟨by omega, by omega, hall', .inr ⟨d', hd', hz⟩⟩, by omega⟩
 rw [zF]
 refine ⟨fun g => round (.inl (by simpa using g)), fun g => ?_⟩
 rw [zF]
 refine ⟨fun g' => round (.inr (by simpa using g')), fun g' => ?_⟩
 simp only [zt, Sum.elim_inr, Sum.elim_inl, qF, zF, e0, List.drop_zero]
 refine ⟨by omega, fun hne => ?_, fun heq => ?_⟩
 . refine (zt (Q := fun x => decide (x = 0) = (wW s && decide (s.length <= 16)))).1 (Qn 0 ?_)
   rcases h4 with ⟨g1, _⟩ | ⟨d, hd, d1, d2⟩
   . exfalso
     have : a.toNat = s.length := by omega
     rw [this, List.take_length] at hne
     simp at hne
   . unfold wW
     have : (s.all fun c => yD c || xl c) = false := by
      rw [List.all_eq_false]
      refine ⟨d, List.mem_of_getElem? hd, ?_⟩
      rw [<- d1, <- d2, g, g']
      simp
     rw [this, Bool.and_false]
 . have ht : s.take a.toNat = s := by simpa using heq
   rw [ht] at hall
   have hw : wW s = true := by
    unfold wW
    obtain ⟨r, rfl⟩ := hs0
    simp only [hall, hlow, Bool.and_self]
   rw [hw]
   refine ⟨fun g => ?_, fun g => ?_⟩
   . have : decide (s.length <= 16) = false := by simp at g ⊢; omega
     rw [this]; rfl
   . have : decide (s.length <= 16) = true := by simp at g ⊢; omega
     rw [this]; rfl
open Go
theorem zmr (c : UInt8) : zos (c.toNat : Int) = some (yD c) := by
 unfold zos yD
 by_cases h : 97 <= c.toNat
 . have : decide ((97 : Int) <= (c.toNat : Int)) = true := by simp; omega
   rw [this]
   simp only [cond_true, h, decide_true, Bool.true_and, Option.some.injEq]
   rw [Bool.eq_iff_iff]; simp; omega
 . have : decide ((97 : Int) <= (c.toNat : Int)) = false := by simp; omega
   rw [this]
   simp [h]
theorem zz9 (c : UInt8) : zl9 (c.toNat : Int) = some (xl c) := by
 unfold zl9 xl
 by_cases h : 48 <= c.toNat
 . have : decide ((48 : Int) <= (c.toNat : Int)) = true := by simp; omega
   rw [this]
   simp only [cond_true, h, decide_true, Bool.true_and, Option.some.injEq]
   rw [Bool.eq_iff_iff]; simp; omega
 . have : decide ((48 : Int) <= (c.toNat : Int)) = false := by simp; omega
   rw [this]
   simp [h]
theorem zz7 (s : List UInt8) (h : s.length <= 1000000) : uu s = some (wW s) := by
 unfold uu
 cases s with
 | nil => rfl
 | cons c r =>
   have e1 : decide (c :: r = (ByteArray.mk #[]).data.toList) = false := by
    exact decide_eq_false (fun e => by cases (show c :: r = [] from e))
   rw [e1]
   apply Tot.eq
   have e0 : (0 : Int).toNat = 0 := rfl
   simp only [cond_false, qp, e0, zv]
   refine ⟨by omega, c, rfl, ?_⟩
   rw [zmr, zt, zF]
   refine ⟨fun g => ?_, fun g => ?_⟩
   . have : yD c = false := by simpa using g
     simp [zt, wW, this]
   have hl : yD c = true := by simpa using g
   rw [zv]
   refine Tot.count (c :: r).length (fun k s => s = (k : Int) /\ ((c :: r).take k).all (fun c => yD c || xl c) = true) ?_ ⟨rfl, by simp⟩
   rintro k _ hk ⟨rfl, hall⟩
   simp only [zF, zt, qc, qp, zv, Sum.elim_inl, Sum.elim_inr, decide_eq_true_eq, decide_eq_false_iff_not, Int.toNat_natCast]
   refine ⟨fun hlt => ?_, fun hge => ?_⟩
   . obtain ⟨d, hd⟩ := zw (l := c :: r) (i := k) (by omega)
     refine ⟨by omega, d, hd, ?_⟩
     rw [zmr, zt]
     have nx : k < (c :: r).length /\ IntKind.wrap .i64 ((k : Int) + 1) = ((k + 1 : Nat) : Int) := by
      rw [w64 (by omega) (by omega)]; exact ⟨by omega, by omega⟩
     refine ⟨fun g1 => ⟨by omega, d, hd, ?_⟩, fun g1 => ⟨nx.1, nx.2, zgd hall hd (by simp at g1; simp [g1])⟩⟩
     rw [zz9, zt]
     refine ⟨fun g2 => ?_, fun g2 => ⟨nx.1, nx.2, zgd hall hd (by simp at g2; simp [g2])⟩⟩
     have : ((c :: r).all fun c => yD c || xl c) = false := by
      rw [List.all_eq_false]
      refine ⟨d, List.mem_of_getElem? hd, ?_⟩
      simp at g1 g2
      simp [g1, g2]
     unfold wW
     rw [this, Bool.and_false]
   . rw [List.take_of_length_le (by omega)] at hall
     unfold wW
     rw [hall]
     show true = (yD c && true)
     rw [hl]; rfl
theorem zCe (s : List UInt8) (h : s.length <= 1000000) : Tot (zl0 (TK.mk 1 0 0 0 s)) fun x => decide (x = 0) = (wW s && decide (s.length <= 16)) := by
 unfold zl0
 dsimp only
 have e2 : decide ((1 : Int) < 1) = false := rfl
 have e3 : decide ((9 : Int) < 1) = false := rfl
 have e4 : decide ((1 : Int) = 2) = false := rfl
 simp only [e2, e3, e4, decide_true, cond_true, cond_false, Bool.not_true, Bool.not_false, zz7 s h, Option.bind_some, zF, zt]
 refine ⟨fun g => ?_, fun g => ?_⟩
 . have : wW s = false := by simpa using g
   rw [this]; rfl
 . have : wW s = true := by simpa using g
   rw [this]
   refine ⟨fun g => ?_, fun g => ?_⟩
   . have : decide (s.length <= 16) = false := by simp at g ⊢; omega
     rw [this]; rfl
   . have : decide (s.length <= 16) = true := by simp at g ⊢; omega
     rw [this]; rfl
def primN : List (List UInt8) := [[110, 101, 103], [97, 98, 115], [110, 111, 116], [115, 104, 97, 112, 101], [114, 97, 118, 101, 108], [114, 101, 118, 101, 114, 115, 101], [102, 108, 105, 112], [105, 111, 116, 97], [115, 117, 109], [108, 101, 97, 115, 116], [109, 111, 115, 116], [99, 111, 117, 110, 116], [115, 99, 97, 110], [103, 114, 97, 100, 101], [97, 100, 100], [115, 117, 98], [109, 117, 108], [100, 105, 118], [109, 111, 100], [112, 108, 117, 115], [109, 105, 110, 117, 115], [116, 105, 109, 101, 115], [101, 113], [110, 101], [108, 116], [108, 101], [103, 116], [103, 101], [97, 110, 100], [111, 114], [109, 105, 110], [109, 97, 120], [116, 97, 107, 101], [100, 114, 111, 112], [102, 105, 108, 108], [103, 114, 105, 100], [99, 97, 116], [97, 116], [105, 110], [112, 105, 99, 107]]
theorem zij (s : List UInt8) : Tot (zow s) fun x => decide (x.2 = 0) = decide (s ∈ primN) := by
 by_cases hm : s ∈ primN
 . have h2 : ∀ t ∈ primN, ∃ x, zow t = some x /\ decide (x.2 = 0) = true := by
    unfold primN
    simp only [List.forall_mem_cons]
    repeat' constructor
    intro t ht; cases ht
   obtain ⟨x, e, hx⟩ := h2 s hm
   exact ⟨x, e, by show decide (x.2 = 0) = _; rw [hx]; simp [hm]⟩
 . have hd : decide (s ∈ primN) = false := by simp [hm]
   rw [hd]
   unfold zow
   unfold primN at hm
   simp only [List.mem_cons, List.not_mem_nil, or_false, not_or] at hm
   have sw : ∀ n : List UInt8, (n = s) = (s = n) := fun n => propext eq_comm
   simp only [sw, hm, decide_false, cond_false, Option.bind_some, Sum.elim_inl, zt]
   rfl
theorem zk8 (s : List UInt8) : Tot (zrx s) fun x => decide (x.2 = 0) = decide (s ∈ primN) := by
 unfold zrx zsq
 simp only [Option.bind_some]
 change Tot (Option.bind (lpO (fun (k : Int) => cond (decide (k < ((List.length (List.map SV.str primN) : Nat) : Int))) (zh primN k _) _) 0) _) _
 rw [zv]
 have hn : (List.map SV.str primN).length = 40 := rfl
 have hn' : primN.length = 40 := rfl
 rw [hn]
 refine Tot.count 40 (fun k x => x = (k : Int) /\ s ∉ primN.take k) ?_ ⟨rfl, by simp⟩
 rintro k _ hk ⟨rfl, hmem⟩
 simp only [zF, zt, qc, qp, zv, Sum.elim_inl, Sum.elim_inr, decide_eq_true_eq, decide_eq_false_iff_not, Int.toNat_natCast]
 refine ⟨fun hlt => ?_, fun hge => ?_⟩
 . obtain ⟨x, hx⟩ := zw (l := primN) (i := k) (by omega)
   refine ⟨by omega, x, hx, fun g => ?_, fun g => ?_⟩
   . subst g
     have := List.mem_of_getElem? hx
     simp [this]
   . rw [w64 (by omega) (by omega), List.take_add_one, hx]
     refine ⟨by omega, by omega, fun hm => ?_⟩
     rcases List.mem_append.1 hm with hm | hm
     . exact hmem hm
     . simp at hm; exact g hm.symm
 . rw [List.take_of_length_le (by omega)] at hmem
   simp [hmem]
def resN : List (List UInt8) := [[118, 97, 114], [100, 101, 102], [111, 117, 116], [105, 102], [101, 108, 115, 101], [119, 104, 105, 108, 101], [101, 110, 100], [114, 101, 108, 101, 97, 115, 101], [105, 110, 116], [99, 104, 97, 114]]
def exN (s : List UInt8) : Bool := !decide (s ∈ resN) && !decide (s ∈ primN) && (wW s && decide (s.length <= 16))
theorem zbn (s : List UInt8) (h : s.length <= 1000000) : zi5 s = some (exN s) := by
 apply Tot.eq
 unfold exN
 by_cases hm : s ∈ resN
 . have h2 : ∀ t ∈ resN, zi5 t = some false := by
    unfold resN
    simp only [List.forall_mem_cons]
    repeat' constructor
    intro t ht; cases ht
   rw [h2 s hm, zt]
   simp [hm]
 . have hd : decide (s ∈ resN) = false := by simp [hm]
   rw [hd]
   unfold zi5
   unfold resN at hm
   simp only [List.mem_cons, List.not_mem_nil, or_false, not_or] at hm
   change Tot (cond (decide (s = [118, 97, 114])) _ (cond (decide (s = [100, 101, 102])) _ (cond (decide (s = [111, 117, 116])) _ (cond (decide (s = [105, 102])) _ (cond (decide (s = [101, 108, 115, 101])) _ (cond (decide (s = [119, 104, 105, 108, 101])) _ (cond (decide (s = [101, 110, 100])) _ (cond (decide (s = [114, 101, 108, 101, 97, 115, 101])) _ (cond (decide (s = [105, 110, 116])) _ (cond (decide (s = [99, 104, 97, 114])) _ _)))))))))) _
   simp only [hm, decide_false, cond_false, zv]
   refine (zij s).mono fun x hx => ?_
   rw [hx, zF]
   refine ⟨fun g => ?_, fun g => ?_⟩
   . rw [g]; exact .mk rfl
   . rw [g, zv]
     refine (zii s h).mono fun y hy => .mk ?_
     rw [hy]; rfl
theorem zlg (s : List UInt8) : zmf s = some (decide (s ∈ resN)) := by
 unfold zmf
 apply Tot.eq
 change Tot (Option.bind (lpO (fun (k : Int) => cond (decide (k < ((10 : Nat) : Int))) (zj (0 <= k /\ k < ((10 : Nat) : Int)) (zh resN ((k.toNat : Nat) : Int) _)) _) 0) _) _
 rw [zv]
 have hn' : resN.length = 10 := rfl
 refine Tot.count 10 (fun k x => x = (k : Int) /\ s ∉ resN.take k) ?_ ⟨rfl, by simp⟩
 rintro k _ hk ⟨rfl, hmem⟩
 simp only [zF, zt, qc, qp, qF, zv, Sum.elim_inl, Sum.elim_inr, decide_eq_true_eq, decide_eq_false_iff_not, Int.toNat_natCast]
 refine ⟨fun hlt => ?_, fun hge => ?_⟩
 . obtain ⟨x, hx⟩ := zw (l := resN) (i := k) (by omega)
   refine ⟨⟨by omega, by omega⟩, by omega, x, hx, fun g => ?_, fun g => ?_⟩
   . subst g
     have := List.mem_of_getElem? hx
     simp [this]
   . rw [w64 (by omega) (by omega), List.take_add_one, hx]
     refine ⟨by omega, by omega, fun hm => ?_⟩
     rcases List.mem_append.1 hm with hm | hm
     . exact hmem hm
     . simp at hm; exact g hm.symm
 . rw [List.take_of_length_le (by omega)] at hmem
   simp [hmem]
theorem zhq (s : List UInt8) (h : s.length <= 1000000) : zlw s = some (exN s) := by
 unfold zlw exN
 apply Tot.eq
 rw [zv]
 refine (zk8 s).mono fun x hx => ?_
 rw [zv]
 refine (zCe s h).mono fun y hy => ?_
 rw [hx, hy, zlg]
 cases wW s && decide (s.length <= 16) <;> cases decide (s ∈ primN) <;> cases decide (s ∈ resN) <;> exact .mk rfl
open Go
def qr (r : Int) (l : Int × Int) : Int := if r = 2 then l.1 * l.2 else if r = 1 then l.1 else 1
def shC (r : Int) (l : Int × Int) : Int :=
 if r = 0 then (if l.1 = 0 then (if l.2 = 0 then 0 else 6) else 6)
 else if r = 1 then (if l.1 < 0 then 7 else if l.2 = 0 then (if 400 < l.1 then 15 else 0) else 6)
 else if r = 2 then (if l.1 < 0 then 7 else if l.2 < 0 then 7 else if 400 < l.1 then 15 else if 400 < l.2 then 15 else if 400 < l.1 * l.2 then 15 else 0)
 else 7
theorem zdw {a b : Int} (h0 : 0 <= a) (h1 : a <= 400) (h2 : 0 <= b) (h3 : b <= 400) : 0 <= a * b /\ a * b <= 160000 :=
 ⟨Int.mul_nonneg h0 h2, by have := Int.mul_le_mul h1 h3 h2 (by omega : (0 : Int) <= 400); omega⟩
theorem zgm : IntKind.wrap .i64 1 = 1 := by decide
theorem zst : IntKind.wrap .i64 2 = 2 := by decide
theorem m1 : max (1 : Int) 0 = 1 := by decide
theorem zdo (r : Int) (l : Int × Int) (h : shC r l = 0) : zdg r l = some (qr r l) := by
 unfold zdg qr
 unfold shC at h
 by_cases h2 : r = 2
 . subst h2
   simp only [decide_true, cond_true, zg, if_true]
   simp (config := { decide := true }) only [if_false, if_true] at h
   split at h
   . cases h
   split at h
   . cases h
   split at h
   . cases h
   split at h
   . cases h
   have hm := zdw (a := l.1) (b := l.2) (by omega) (by omega) (by omega) (by omega)
   rw [w64 (e := 1 * l.2) (by omega) (by omega), Int.one_mul, Int.mul_comm l.2 l.1, w64 (by omega) (by omega)]
 by_cases h1 : r = 1
 . subst h1
   simp (config := { decide := true }) only [if_false, if_true] at h ⊢
   split at h
   . cases h
   split at h
   case isFalse => cases h
   split at h
   . cases h
   simp only [decide_true, cond_true, decide_false, cond_false, zg]
   rw [w64 (e := 1 * l.1) (by omega) (by omega), Int.one_mul]
 . simp [h1, h2]
theorem um (r : Int) (l : Int × Int) : zo4 r l = some (shC r l) := by
 unfold zo4
 by_cases hr : r < 0
 . have : shC r l = 7 := by unfold shC; rw [if_neg (by omega), if_neg (by omega), if_neg (by omega)]
   simp [hr, this]
 by_cases hr2 : 2 < r
 . have : shC r l = 7 := by unfold shC; rw [if_neg (by omega), if_neg (by omega), if_neg (by omega)]
   simp [hr, hr2, this]
 have e1 : decide (r < 0) = false := by simp; omega
 have e2 : decide (2 < r) = false := by simp; omega
 simp only [e1, e2, cond_false]
 rw [yq ⟨by omega, by omega⟩, yq ⟨by omega, by omega⟩]
 rw [zk6 _ (by simp; omega), zlc _ (by simp; omega), zle _ (by simp; omega)]
 obtain ⟨a, b⟩ := l
 have hp := zdo r (a, b)
 rcases (by omega : r = 0 \/ r = 1 \/ r = 2) with rfl | rfl | rfl
 . by_cases ha : a = 0 <;> by_cases hb : b = 0 <;> simp [shC, ha, hb, zdg]
 . by_cases ha : a < 0
   . simp [shC, ha]
   by_cases hb : b = 0
   case neg => simp [shC, ha, hb]
   by_cases h4 : 400 < a
   . simp [shC, ha, hb, h4]
   have hs : shC 1 (a, b) = 0 := by simp [shC, ha, hb, h4]
   have hp' := hp hs
   rw [hb] at hp' hs
   simp [hp', hs, ha, hb, h4, qr]
 . by_cases ha : a < 0
   . simp [shC, ha]
   by_cases hb : b < 0
   . simp [shC, ha, hb]
   by_cases h4 : 400 < a
   . simp [shC, ha, hb, h4]
   by_cases h5 : 400 < b
   . simp [shC, ha, hb, h4, h5]
   have hm := zdw (a := a) (b := b) (by omega) (by omega) (by omega) (by omega)
   have hq : zdg 2 (a, b) = some (a * b) := by
    unfold zdg
    simp only [decide_true, cond_true, zg]
    rw [w64 (e := 1 * b) (by omega) (by omega), Int.one_mul, Int.mul_comm b a, w64 (by omega) (by omega)]
   by_cases h6 : 400 < a * b
   . simp [shC, ha, hb, h4, h5, h6, hq]
   . simp [shC, ha, hb, h4, h5, h6, hq]
theorem wd (r : Int) (l : Int × Int) : zei r l = some (if shC r l = 0 then qr r l else 0, shC r l) := by
 unfold zei
 rw [um, Option.bind_some]
 by_cases h : shC r l = 0
 . simp [h, zdo r l h]
 . simp [h]
theorem zdj (r : Int) (l : Int × Int) (h : shC r l = 0 \/ (r = 2 /\ 0 <= l.1 /\ l.1 <= 400 /\ 0 <= l.2 /\ l.2 <= 400)) : za3 r l = some (qr r l) := by
 unfold za3
 obtain ⟨a, b⟩ := l
 by_cases h2 : r = 2
 . subst h2
   have hb : 0 <= a /\ a <= 400 /\ 0 <= b /\ b <= 400 := by
    rcases h with h | ⟨_, h⟩
    . unfold shC at h
      simp (config := { decide := true }) only [if_false, if_true] at h
      split at h
      . cases h
      split at h
      . cases h
      split at h
      . cases h
      split at h
      . cases h
      omega
    . exact h
   have hm := zdw (a := a) (b := b) hb.1 hb.2.1 hb.2.2.1 hb.2.2.2
   have w1 : IntKind.wrap .i64 a = a := w64 (by omega) (by omega)
   have w2 : IntKind.wrap .i64 (a * b) = a * b := w64 (by omega) (by omega)
   rw [zy]
   simp [zj, zh, zg, m1, zgm, w1]
   rw [zy]
   simp [zj, zh, zg, m1, zst, w2]
   rw [zy]
   simp [qr]
 by_cases h1 : r = 1
 . subst h1
   have hb : 0 <= a /\ a <= 400 := by
    rcases h with h | ⟨h, _⟩
    . unfold shC at h
      simp (config := { decide := true }) only [if_false, if_true] at h
      split at h
      . cases h
      split at h
      case isFalse => cases h
      split at h
      . cases h
      omega
    . cases h
   have w1 : IntKind.wrap .i64 a = a := w64 (by omega) (by omega)
   rw [zy]
   simp [zj, zh, zg, m1, zgm, w1]
   rw [zy]
   simp [qr]
 . have h0 : r <= 0 := by
    rcases h with h | ⟨h, _⟩
    . unfold shC at h
      rw [if_neg h1, if_neg h2] at h
      split at h
      . omega
      . cases h
    . exact absurd h h2
   have : ¬ 0 < r := by omega
   rw [zy]
   simp [qr, h1, h2, this]
theorem zar (r : Int) (l : Int × Int) : ziq r l = some (shC r l) := by
 unfold ziq
 by_cases hr : r < 0
 . have : shC r l = 7 := by unfold shC; rw [if_neg (by omega), if_neg (by omega), if_neg (by omega)]
   simp [hr, this]
 by_cases hr2 : 2 < r
 . have : shC r l = 7 := by unfold shC; rw [if_neg (by omega), if_neg (by omega), if_neg (by omega)]
   simp [hr, hr2, this]
 have e1 : decide (r < 0) = false := by simp; omega
 have e2 : decide (2 < r) = false := by simp; omega
 simp only [e1, e2, cond_false]
 obtain ⟨a, b⟩ := l
 have hp := zdj r (a, b)
 rcases (by omega : r = 0 \/ r = 1 \/ r = 2) with rfl | rfl | rfl
 . rw [zy]
   simp only [decide_false, Int.lt_irrefl, cond_false, Option.bind_some, Sum.elim_inr, Sum.elim_inl]
   rw [zy]
   by_cases ha : a = 0
   case neg => simp [zj, zh, zg, m1, shC, ha]
   simp [zj, zh, zg, m1, ha, zgm]
   rw [zy]
   by_cases hb : b = 0
   case neg => simp [zj, zh, zg, m1, shC, ha, hb]
   have hs : shC 0 (a, b) = 0 := by simp [shC, ha, hb]
   have hp' := hp (.inl hs)
   rw [ha, hb] at hp' hs
   simp [zj, zh, zg, m1, hb, zst]
   rw [zy]
   simp [hp', hs, qr]
 . rw [zy]
   by_cases ha : a < 0
   . simp [zj, zh, zg, m1, shC, ha]
   simp [zj, zh, zg, m1, ha, zgm]
   rw [zy]
   simp
   rw [zy]
   by_cases hb : b = 0
   case neg => simp [zj, zh, zg, m1, shC, ha, hb]
   simp [zj, zh, zg, m1, hb, zst]
   rw [zy]
   by_cases h4 : 400 < a
   . simp [shC, ha, h4]
   have hs : shC 1 (a, b) = 0 := by simp [shC, ha, hb, h4]
   have hp' := hp (.inl hs)
   rw [hb] at hp' hs
   simp [hp', hs, qr, h4]
 . rw [zy]
   by_cases ha : a < 0
   . simp [zj, zh, zg, m1, shC, ha]
   simp [zj, zh, zg, m1, ha, zgm]
   rw [zy]
   by_cases hb : b < 0
   . simp [zj, zh, zg, m1, shC, ha, hb]
   simp [zj, zh, zg, m1, hb, zst]
   rw [zy]
   simp
   rw [zy]
   by_cases h4 : 400 < a
   . simp [shC, ha, hb, h4]
   by_cases h5 : 400 < b
   . simp [shC, ha, hb, h4, h5]
   have hp' := hp (.inr ⟨rfl, by simp; omega, by simp; omega, by simp; omega, by simp; omega⟩)
   by_cases h6 : 400 < a * b
   . simp [shC, ha, hb, h4, h5, h6, hp', qr]
   . simp [shC, ha, hb, h4, h5, h6, hp', qr]
theorem ye (r : Int) (l : Int × Int) : zb0 r l = some (if shC r l = 0 then qr r l else 0, shC r l) := by
 unfold zb0
 rw [zar, Option.bind_some]
 by_cases h : shC r l = 0
 . simp [h, zdj r l (.inl h)]
 . simp [h]
open Go
def wy (c : Int) : Bool := decide (0 <= c) && decide (c <= 1114111) && (decide (c < 55296) || decide (57343 < c))
def wF (a : TA) : Int :=
 if a.Kind = 1 \/ a.Kind = 2 then
  if shC a.Rank a.Lens = 0 then
   if (a.Cells.length : Int) = qr a.Rank a.Lens then
    if a.Kind = 2 /\ (a.Cells.any fun c => !wy c) = true then 7 else 0
   else 6
  else shC a.Rank a.Lens
 else 2
theorem zuq {r : Int} (h0 : 0 <= r) (h1 : r <= 1114111) : IntKind.wrap .i32 r = r := by
 simp only [IntKind.wrap, IntKind.signed, IntKind.bits]
 have h3 : (2 : Int) ^ 32 = 4294967296 := by decide
 have h4 : (2 : Int) ^ (32 - 1) = 2147483648 := by decide
 simp only [h3, h4, Bool.true_and, decide_eq_true_eq, ge_iff_le]
 split <;> omega
theorem zjp (c : Int) : zao c = some (wy c) := by
 unfold zao wy
 by_cases h0 : 0 <= c <;> by_cases h1 : c < 55296 <;> by_cases h2 : 57343 < c <;> by_cases h3 : c <= 1114111 <;> simp [h0, h1, h2, h3] <;> omega
theorem zto (k c : Int) : ztw k c = some (decide (k = 1) || wy c) := by
 unfold ztw
 by_cases hk : k = 1
 . simp [hk]
 by_cases h0 : 0 <= c
 case neg => simp [hk, h0, wy]
 by_cases h1 : c <= 1114111
 case neg => simp [hk, h0, h1, wy]
 simp only [hk, h0, h1, decide_true, decide_false, cond_true, cond_false, zg, zuq h0 h1, zjp, Option.bind_some, Bool.false_or]
theorem zpv (c : Int) : zel c = some (wy c) := by
 unfold zel wy
 by_cases h0 : 0 <= c <;> by_cases h1 : c < 55296 <;> by_cases h2 : 57343 < c <;> by_cases h3 : c <= 1114111 <;> simp [h0, h1, h2, h3]
theorem zd4 (l : List Int) (a : TA) (h : l.length <= 1000000000) : zpc l a = some (l.any fun c => !(decide (a.Kind = 1) || wy c)) := by
 unfold zpc zwg
 refine zbu (l := l) (fun c => !(decide (a.Kind = 1) || wy c)) (e := ()) rfl (fun k x hx hlt => ?_) (by simp)
 simp only [List.length_map, Int.ofNat_lt, hlt, decide_true, cond_true, zh, Int.toNat_natCast, hx, Option.bind_some, zg, Int.natCast_nonneg, if_true, zxv, zto]
 rw [w64 (by omega) (by omega)]
 cases decide (a.Kind = 1) || wy x <;> rfl
theorem zfb (a : TA) (h : a.Cells.length <= 1000000000) : zf1 a = some (wF a) := by
 unfold zf1 wF
 rw [wd, zd4 _ _ h]
 simp only [Option.bind_some, List.length_map]
 have key : cond (!decide (shC a.Rank a.Lens = 0)) (some (shC a.Rank a.Lens)) (cond (!decide ((a.Cells.length : Int) = if shC a.Rank a.Lens = 0 then qr a.Rank a.Lens else 0)) (some 6) (cond (a.Cells.any fun c => !(decide (a.Kind = 1) || wy c)) (some 7) (some (0 : Int)))) = some (if shC a.Rank a.Lens = 0 then if (a.Cells.length : Int) = qr a.Rank a.Lens then if (a.Cells.any fun c => !(decide (a.Kind = 1) || wy c)) = true then 7 else 0 else 6 else shC a.Rank a.Lens) := by
  by_cases h1 : shC a.Rank a.Lens = 0
  case neg => simp [h1]
  by_cases h2 : (a.Cells.length : Int) = qr a.Rank a.Lens
  case neg => simp [h1, h2]
  simp only [h1, h2, if_true, decide_true, Bool.not_true, cond_false]
  cases (a.Cells.any fun c => !(decide (a.Kind = 1) || wy c)) <;> rfl
 rw [key]
 by_cases k1 : a.Kind = 1
 . have : (a.Cells.any fun c => !(decide (a.Kind = 1) || wy c)) = false := by
    rw [List.any_eq_false]; intro c _; simp [k1]
   rw [this]
   simp [k1]
 by_cases k2 : a.Kind = 2
 . have : (a.Cells.any fun c => !(decide (a.Kind = 1) || wy c)) = a.Cells.any fun c => !wy c := by
    congr 1; funext c; simp [k1]
   rw [this]
   simp [k2]
 . simp [k1, k2]
theorem zg8 (a : TA) (h : a.Cells.length <= 1000000000) : za2 a = some (wF a) := by
 unfold za2 wF
 rw [ye]
 simp only [Option.bind_some, List.length_map]
 have lp0 : ∀ (v : Int), Option.bind (lpO (fun (_ : Unit) => cond (decide ((0 : Int) < (a.Cells.length : Int))) (some (Sum.inr (Sum.inl ()) : Unit ⊕ (Unit ⊕ Int))) (some (Sum.inr (Sum.inl ())))) ()) (Sum.elim (fun _ => some v) some) = some v := by
  intro v
  rw [zy]
  cases decide ((0 : Int) < (a.Cells.length : Int)) <;> rfl
 have lp1 : Option.bind (lpO (fun (s : Int × Int) => cond (decide (s.1 < (a.Cells.length : Int))) (cond (decide (s.2 = 0)) (cond (decide (a.Kind = 2)) (zh a.Cells s.1 fun x => Option.bind (zel x) fun y => cond (!y) (zg (IntKind.wrap .i64 (s.1 + 1)) fun z => some (Sum.inl (z, (7 : Int)))) (zg (IntKind.wrap .i64 (s.1 + 1)) fun z => some (Sum.inl (z, s.2)))) (zg (IntKind.wrap .i64 (s.1 + 1)) fun z => some (Sum.inl (z, s.2)))) (some (Sum.inr (Sum.inl s.2 : Int ⊕ Int)))) (some (Sum.inr (Sum.inl s.2)))) ((0 : Int), (0 : Int))) (Sum.elim (fun v => some v) some) = some (if a.Kind = 2 /\ (a.Cells.any fun c => !wy c) = true then 7 else 0) := by
  apply Tot.eq
  rw [zv]
  refine Tot.count a.Cells.length (fun k s => s.1 = (k : Int) /\ s.2 = if a.Kind = 2 /\ ((a.Cells.take k).any fun c => !wy c) = true then 7 else 0) ?_ ⟨rfl, by simp⟩
  rintro k ⟨i, e⟩ hk ⟨rfl, he⟩
  simp only at he
  simp only [zF, zt, qc, qp, zv, Sum.elim_inl, Sum.elim_inr, decide_eq_true_eq, decide_eq_false_iff_not, Int.toNat_natCast, zpv]
  refine ⟨fun hlt => ⟨fun e0 => ⟨fun k2 => ?_, fun k2 => ?_⟩, fun e0 => ?_⟩, fun hge => ?_⟩
  . obtain ⟨x, hx⟩ := zw (l := a.Cells) (i := k) (by omega)
    refine ⟨by omega, x, hx, ?_⟩
    have hp : ((a.Cells.take k).any fun c => !wy c) = false := by
     rw [e0] at he
     cases hh : (a.Cells.take k).any fun c => !wy c with
     | false => rfl
     | true => rw [if_pos ⟨k2, hh⟩] at he; cases he
    rw [w64 (by omega) (by omega), List.take_add_one, hx, List.any_append, hp]
    refine ⟨fun g => ⟨by omega, by omega, ?_⟩, fun g => ⟨by omega, by omega, ?_⟩⟩
    . simp at g; simp [k2, g]
    . simp at g; simp [g, e0]
  . rw [w64 (by omega) (by omega)]
    refine ⟨by omega, by omega, ?_⟩
    rw [if_neg (fun h => k2 h.1)]; exact e0
  . have k2 : a.Kind = 2 /\ ((a.Cells.take k).any fun c => !wy c) = true := by
     by_cases hh : a.Kind = 2 /\ ((a.Cells.take k).any fun c => !wy c) = true
     . exact hh
     . rw [if_neg hh] at he; exact absurd he e0
    rw [if_pos k2] at he
    rw [he, if_pos]
    refine ⟨k2.1, ?_⟩
    obtain ⟨x, hx, hb⟩ := List.any_eq_true.1 k2.2
    exact List.any_eq_true.2 ⟨x, List.mem_of_mem_take hx, hb⟩
  . rw [List.take_of_length_le (by omega)] at he
    exact he
 by_cases h1 : shC a.Rank a.Lens = 0
 case neg =>
  simp only [h1, decide_false, cond_false, if_false, lp0]
  by_cases k1 : a.Kind = 1
  . simp [k1]
  by_cases k2 : a.Kind = 2
  . simp [k2]
  . simp [k1, k2]
 simp only [h1, decide_true, cond_true, if_true]
 by_cases h2 : (a.Cells.length : Int) = qr a.Rank a.Lens
 case neg =>
  simp only [h2, decide_false, Bool.not_false, cond_true, if_false, lp0]
  by_cases k1 : a.Kind = 1
  . simp [k1]
  by_cases k2 : a.Kind = 2
  . simp [k2]
  . simp [k1, k2]
 rw [lp1]
 simp only [h2, decide_true, Bool.not_true, cond_false, if_true]
 by_cases k1 : a.Kind = 1
 . simp [k1]
 by_cases k2 : a.Kind = 2
 . simp [k2]
 . simp [k1, k2]
open Go
theorem qD {σ τ ε : Type} {step : σ -> Option (σ ⊕ (ε ⊕ τ))} {k1 : ε -> Option τ} (n : Nat) (S : Nat -> σ) (f : Nat -> Option τ) (e : ε)
 (h1 : ∀ k : Nat, k < n -> step (S k) = some (match f k with | some r => .inr (.inr r) | none => .inl (S (k + 1))))
 (h2 : step (S n) = some (.inr (.inl e))) {s0 : σ} (h0 : S 0 = s0) : (lpO step s0).bind (Sum.elim k1 some) = match zA f 0 n with | some r => some r | none => k1 e := by
 subst h0
 rw [zgg n S (fun k => (f k).map Sum.inr) (.inl e) (fun k hk => by rw [h1 k hk]; cases f k <;> rfl) h2, jJ]
 cases zA f 0 n <;> rfl
theorem wv {σ τ ε : Type} {step : σ -> Option (σ ⊕ (ε ⊕ τ))} {k1 : ε -> Option τ} (n : Nat) (S : Nat -> σ) (e : ε)
 (h1 : ∀ k : Nat, k < n -> step (S k) = some (.inl (S (k + 1)))) (h2 : step (S n) = some (.inr (.inl e))) {s0 : σ} (h0 : S 0 = s0) : (lpO step s0).bind (Sum.elim k1 some) = k1 e := by
 subst h0
 rw [zzx n S (.inl e) h1 h2]; rfl
def i64 (n : Int) : Prop := -9223372036854775808 <= n /\ n <= 9223372036854775807
open Go
open Go
open Go
theorem zB4 {n : Int} (h : inK .u8 n) : 0 <= n /\ n < 256 := by
 have e1 : IntKind.u8.min = 0 := by decide
 have e2 : IntKind.u8.max = 255 := by decide
 unfold inK at h
 omega
open Go
def qj (l : TL) (a : Int) : Bool := decide (0 <= a) && decide (a < (l.Names.length : Int))
theorem ul (l : TL) (a : Int) : xA l a = some (qj l a) := by
 unfold xA qj
 by_cases h : 0 <= a <;> simp [h]
theorem xD (l : TL) (a : Int) : jD l a = some (qj l a) := by
 unfold jD qj
 by_cases h : 0 <= a <;> simp [h]
def nmE (s : List UInt8) (before : List (List UInt8)) : Int := if exN s = true then (if s ∈ before then 8 else 0) else 24
theorem inL_iff {α : Type} [DecidableEq α] {a : α} {l : List α} : inL a l = true ↔ a ∈ l := by
 unfold inL; simp
theorem zbk (s : List UInt8) (b : List (List UInt8)) (h : s.length <= 1000000) (hb : b.length <= 1000000) : zh2 s b = some (nmE s b) := by
 unfold zh2 nmE
 rw [zhq s h]
 simp only [Option.bind_some, List.length_map]
 cases exN s with
 | false => simp
 | true =>
   simp only [Bool.not_true, cond_false, if_true]
   refine (qD b.length (fun k => (k : Int)) (fun k => match b[k]? with | some x => if x = s then some (8 : Int) else none | none => none) () (fun k hk => ?_) ?_ rfl).trans ?_
   . obtain ⟨x, hx⟩ := zw hk
     have hlt : (k : Int) < (b.length : Int) := by omega
     have hw : IntKind.wrap .i64 ((k : Int) + 1) = ((k + 1 : Nat) : Int) := w64 (by omega) (by omega)
     have n1 : (0 : Int) <= (k : Int) := by omega
     simp only [hlt, decide_true, cond_true, zh, n1, if_true, Int.toNat_natCast, hx, Option.bind_some, zg, hw]
     by_cases he : x = s <;> simp [he]
   . simp
   . cases hr : zA (fun k => match b[k]? with | some x => if x = s then some (8 : Int) else none | none => none) 0 b.length with
     | some r =>
       have h8 : r = 8 := uZ (v := (8 : Int)) (fun i => by
        cases b[i]? with
        | none => exact .inr rfl
        | some x => by_cases hx : x = s <;> simp [hx]) hr
       have hm : s ∈ b := by
        by_cases hm : s ∈ b
        . exact hm
        have : zA (fun k => match b[k]? with | some x => if x = s then some (8 : Int) else none | none => none) 0 b.length = none := by
         rw [scan_none]
         intro i _ hi
         obtain ⟨x, hx⟩ := zw (l := b) (i := i) (by omega)
         rw [hx]
         have : x ≠ s := fun e => hm (e ▸ List.mem_of_getElem? hx)
         simp [this]
        rw [this] at hr; cases hr
       simp [hm, h8]
     | none =>
       have hm : ¬ s ∈ b := by
        intro hm
        obtain ⟨i, hi, e⟩ := List.getElem_of_mem hm
        have := scan_none.1 hr i (by omega) (by omega)
        rw [List.getElem?_eq_getElem hi, e] at this
        simp at this
       simp [hm]
def chK (p : TP) (k : Nat) : Option (Int × Int) := match p.Channels[k]? with
 | some c => if nmE c.s_ ((p.Channels.take k).map (·.s_)) ≠ 0 then some ((k : Int), nmE c.s_ ((p.Channels.take k).map (·.s_))) else if qj p.Lattice c.at_ = true then none else some ((k : Int), 7)
 | none => none
def chC (p : TP) : Int × Int := if (16 : Int) < (p.Channels.length : Int) then (-1, 3) else match zA (chK p) 0 p.Channels.length with | some r => r | none => (0, 0)
theorem zd8 (p : TP) (hs : ∀ c ∈ p.Channels, c.s_.length <= 1000000) : zr4 p = some (chC p) := by
 unfold zr4 chC
 simp only [List.length_map]
 by_cases h : (16 : Int) < (p.Channels.length : Int)
 . simp [h]
 simp only [h, decide_false, cond_false, if_false]
 refine (qD p.Channels.length (fun k => ((k : Int), (p.Channels.take k).map (·.s_))) (chK p) () (fun k hk => ?_) ?_ rfl).trans ?_
 . obtain ⟨x, hx⟩ := zw hk
   have hlt : (k : Int) < (p.Channels.length : Int) := by omega
   have hw : IntKind.wrap .i64 ((k : Int) + 1) = ((k + 1 : Nat) : Int) := w64 (by omega) (by omega)
   have n1 : (0 : Int) <= (k : Int) := by omega
   have e : (p.Channels.take (k + 1)).map (·.s_) = (p.Channels.take k).map (·.s_) ++ [x.s_] := by rw [List.take_add_one, hx]; simp
   simp only [hlt, decide_true, cond_true, zh, n1, if_true, Int.toNat_natCast, hx, Option.bind_some, zg, hw, zbn x.s_ (hs x (List.mem_of_getElem? hx)), ul, chK, e]
   unfold nmE
   cases exN x.s_ with
   | false => simp
   | true =>
     cases hi : inL x.s_ ((p.Channels.take k).map (·.s_)) with
     | true =>
       have := inL_iff.1 hi
       simp only [Bool.not_true, cond_false, cond_true, if_true, if_pos this]
       simp
     | false =>
       have : ¬ x.s_ ∈ (p.Channels.take k).map (·.s_) := fun h => by rw [inL_iff.2 h] at hi; cases hi
       simp only [Bool.not_true, cond_false, if_true, if_neg this]
       cases qj p.Lattice x.at_ <;> simp
 . simp
 . cases zA (chK p) 0 p.Channels.length <;> rfl
theorem zfa (p : TP) (hs : ∀ c ∈ p.Channels, c.s_.length <= 1000000) : zl4 p = some (chC p) := by
 unfold zl4 chC
 simp only [List.length_map]
 by_cases h : (16 : Int) < (p.Channels.length : Int)
 . simp [h]
 simp only [h, decide_false, cond_false, if_false]
 refine (qD p.Channels.length (fun k => ((k : Int), (p.Channels.take k).map (·.s_))) (chK p) () (fun k hk => ?_) ?_ rfl).trans ?_
 . obtain ⟨x, hx⟩ := zw hk
   have hlt : (k : Int) < (p.Channels.length : Int) := by omega
   have hw : IntKind.wrap .i64 ((k : Int) + 1) = ((k + 1 : Nat) : Int) := w64 (by omega) (by omega)
   have n1 : (0 : Int) <= (k : Int) := by omega
   have e : (p.Channels.take (k + 1)).map (·.s_) = (p.Channels.take k).map (·.s_) ++ [x.s_] := by rw [List.take_add_one, hx]; simp
   have hl : ((p.Channels.take k).map (·.s_)).length <= 16 := by rw [List.length_map, List.length_take]; omega
   simp only [hlt, decide_true, cond_true, zh, n1, if_true, Int.toNat_natCast, hx, Option.bind_some, zg, hw, zbk x.s_ _ (hs x (List.mem_of_getElem? hx)) (Nat.le_trans hl (by omega)), xD, chK, e, zj, List.length_map]
   rw [if_pos (by rw [List.length_map] at hl; omega)]
   by_cases h0 : nmE x.s_ ((p.Channels.take k).map (·.s_)) = 0
   . simp only [h0]
     cases qj p.Lattice x.at_ <;> simp
   . generalize nmE x.s_ ((p.Channels.take k).map (·.s_)) = z at h0 ⊢
     simp [h0]
 . simp
 . cases zA (chK p) 0 p.Channels.length <;> rfl
open Go
def vrK (g : TY -> Int) (p : TP) (k : Nat) : Option (Int × Int) := match p.Vars[k]? with
 | some c => if nmE c.Name ((p.Vars.take k).map (·.Name)) ≠ 0 then some ((k : Int), nmE c.Name ((p.Vars.take k).map (·.Name))) else if g c.Type_ = 0 then none else some ((k : Int), g c.Type_)
 | none => none
def vrC (g : TY -> Int) (p : TP) : Int × Int := if (32 : Int) < (p.Vars.length : Int) then (-1, 3) else match zA (vrK g p) 0 p.Vars.length with | some r => r | none => (0, 0)
theorem ziy (g : TY -> Int) (p : TP) (hs : ∀ c ∈ p.Vars, c.Name.length <= 1000000) (hg : ∀ c ∈ p.Vars, ziz p.Lattice c.Type_ = some (g c.Type_)) : ztd p = some (vrC g p) := by
 unfold ztd vrC
 simp only [List.length_map]
 by_cases h : (32 : Int) < (p.Vars.length : Int)
 . simp [h]
 simp only [h, decide_false, cond_false, if_false]
 refine (qD p.Vars.length (fun k => ((k : Int), (p.Vars.take k).map (·.Name))) (vrK g p) () (fun k hk => ?_) ?_ rfl).trans ?_
 . obtain ⟨x, hx⟩ := zw hk
   have hlt : (k : Int) < (p.Vars.length : Int) := by omega
   have hw : IntKind.wrap .i64 ((k : Int) + 1) = ((k + 1 : Nat) : Int) := w64 (by omega) (by omega)
   have n1 : (0 : Int) <= (k : Int) := by omega
   have e : (p.Vars.take (k + 1)).map (·.Name) = (p.Vars.take k).map (·.Name) ++ [x.Name] := by rw [List.take_add_one, hx]; simp
   simp only [hlt, decide_true, cond_true, zh, n1, if_true, Int.toNat_natCast, hx, Option.bind_some, zg, hw, zbn x.Name (hs x (List.mem_of_getElem? hx)), hg x (List.mem_of_getElem? hx), vrK, e]
   unfold nmE
   cases exN x.Name with
   | false => simp
   | true =>
     cases hi : inL x.Name ((p.Vars.take k).map (·.Name)) with
     | true =>
       have := inL_iff.1 hi
       simp only [Bool.not_true, cond_false, cond_true, if_true, if_pos this]
       simp
     | false =>
       have : ¬ x.Name ∈ (p.Vars.take k).map (·.Name) := fun h => by rw [inL_iff.2 h] at hi; cases hi
       simp only [Bool.not_true, cond_false, if_true, if_neg this]
       by_cases hz : g x.Type_ = 0 <;> simp [hz]
 . simp
 . cases zA (vrK g p) 0 p.Vars.length <;> rfl
theorem zld (g : TY -> Int) (p : TP) (hs : ∀ c ∈ p.Vars, c.Name.length <= 1000000) (hg : ∀ c ∈ p.Vars, zim p.Lattice c.Type_ = some (g c.Type_)) : zl5 p = some (vrC g p) := by
 unfold zl5 vrC
 simp only [List.length_map]
 by_cases h : (32 : Int) < (p.Vars.length : Int)
 . simp [h]
 simp only [h, decide_false, cond_false, if_false]
 refine (qD p.Vars.length (fun k => ((k : Int), (p.Vars.take k).map (·.Name))) (vrK g p) () (fun k hk => ?_) ?_ rfl).trans ?_
 . obtain ⟨x, hx⟩ := zw hk
   have hlt : (k : Int) < (p.Vars.length : Int) := by omega
   have hw : IntKind.wrap .i64 ((k : Int) + 1) = ((k + 1 : Nat) : Int) := w64 (by omega) (by omega)
   have n1 : (0 : Int) <= (k : Int) := by omega
   have e : (p.Vars.take (k + 1)).map (·.Name) = (p.Vars.take k).map (·.Name) ++ [x.Name] := by rw [List.take_add_one, hx]; simp
   have hl : ((p.Vars.take k).map (·.Name)).length <= 32 := by rw [List.length_map, List.length_take]; omega
   simp only [hlt, decide_true, cond_true, zh, n1, if_true, Int.toNat_natCast, hx, Option.bind_some, zg, hw, zbk x.Name _ (hs x (List.mem_of_getElem? hx)) (Nat.le_trans hl (by omega)), hg x (List.mem_of_getElem? hx), vrK, e, zj, List.length_map]
   rw [if_pos (by rw [List.length_map] at hl; omega)]
   by_cases h0 : nmE x.Name ((p.Vars.take k).map (·.Name)) = 0
   . simp only [h0]
     by_cases hz : g x.Type_ = 0 <;> simp [hz]
   . generalize nmE x.Name ((p.Vars.take k).map (·.Name)) = z at h0 ⊢
     simp [h0]
 . simp
 . cases zA (vrK g p) 0 p.Vars.length <;> rfl
open Go
theorem zpw (x : Int) (h0 : 0 <= x) (h1 : x < 256) : Tot (zmv x) fun y => ∀ n : Nat, n <= 8 -> x.toNat < 2 ^ n -> decide (y < (n : Int)) = !decide (x.toNat = 2 ^ n - 1) := by
 unfold zmv
 rw [qp]
 refine ⟨h0, ?_⟩
 have key : ∀ l : List UInt8, (∀ x : Fin 256, ∀ n : Fin 9, (l[x.val]?.map fun y => decide (x.val < 2 ^ n.val -> decide (IntKind.wrap .i64 (y.toNat : Int) < (n.val : Int)) = !decide (x.val = 2 ^ n.val - 1))) = some true) ->
  ∃ y, l[x.toNat]? = some y /\ Tot (zg (IntKind.wrap .i64 (y.toNat : Int)) fun z => some z) fun y => ∀ n : Nat, n <= 8 -> x.toNat < 2 ^ n -> decide (y < (n : Int)) = !decide (x.toNat = 2 ^ n - 1) := by
  intro l hl
  cases e : l[x.toNat]? with
  | none =>
    have := hl ⟨x.toNat, by omega⟩ ⟨0, by omega⟩
    simp only [e] at this
    cases this
  | some y =>
    refine ⟨y, rfl, .mk fun n hn hx => ?_⟩
    have := hl ⟨x.toNat, by omega⟩ ⟨n, by omega⟩
    simp only [e, Option.map_some, Option.some.injEq, decide_eq_true_eq] at this
    exact this hx
 exact key _ (by decide +kernel)
theorem zj8 {l : TL} (h : LatIn l) : znx l = some (if (qJ l).2 = 0 then ((qK l : Int), 0) else (0, (qJ l).2)) := by
 unfold znx
 rw [zpp h [] (by simp)]
 simp only [Option.bind_some, zb6, List.all_nil, if_true]
 by_cases hk : (qJ l).2 = 0
 case neg => simp [hk]
 have ok := je h hk
 simp only [hk, if_true, decide_true, Bool.not_true, cond_false]
 obtain ⟨o, e1, on, ol, _, ou, _⟩ := zmi l ok.u8 ok.le ok.len
 rw [e1]
 simp only [Option.bind_some]
 have hb := (zfz h hk).1
 have hend : zso o.up_ o.n_ = some (qK l : Int) := by
  unfold zso
  rw [on]
  have hw : IntKind.wrap .i64 ((l.Names.length : Int) - 1) = ((l.Names.length - 1 : Nat) : Int) := by
   have := ok.pos; have := ok.le
   rw [w64 (by omega) (by omega)]; omega
  have hle := ok.le
  have hpos := ok.pos
  have hrun := zgg (step := fun (s585 : Int) =>
   zg (IntKind.wrap IntKind.i64 ((l.Names.length : Int) - (1 : Int))) fun x591 =>
   cond (decide (s585 < x591))
   (zj ((0 : Int) <= s585 /\ s585 < (↑(8 : Nat) : Int)) (
   zh (o.up_) ((↑(Int.toNat s585) : Int)) fun x593 =>
   Option.bind (zmv (x593)) fun x594 =>
   cond (decide (x594 < (l.Names.length : Int)))
   (zg (IntKind.wrap IntKind.i64 (s585 + (1 : Int))) fun x596 =>
   some (Sum.inl (x596)))
   (some (Sum.inr (Sum.inl (β := Int) s585)))))
   (some (Sum.inr (Sum.inl s585)))) (l.Names.length - 1) (fun k => (k : Int)) (fun k => if k = qK l then some (Sum.inl (k : Int)) else none) (Sum.inl ((l.Names.length - 1 : Nat) : Int)) (fun k hk2 => by
     have hlt : (k : Int) < ((l.Names.length - 1 : Nat) : Int) := by omega
     have n1 : (0 : Int) <= (k : Int) := by omega
     have n2 : (k : Int) < ((8 : Nat) : Int) := by omega
     have hw2 : IntKind.wrap .i64 ((k : Int) + 1) = ((k + 1 : Nat) : Int) := w64 (by omega) (by omega)
     obtain ⟨x, hx⟩ := zw (l := l.Up) (i := k) (by have := ok.len; omega)
     have hx' := ok.u8.get hx
     have hox : o.up_[k]? = some x := by rw [ou k (by omega)]; exact hx
     obtain ⟨y, ey, hy⟩ := zpw x hx'.1 hx'.2
     have hux : x.toNat = upN l k := by unfold upN; rw [List.getD_eq_getElem?_getD, hx]; rfl
     have hf := zw2 h hk (b := k) (by omega)
     have hlt2 : x.toNat < 2 ^ l.Names.length := by
      have h1 := (zek h hk).1 k (by omega)
      unfold xk at h1
      simp only [Bool.and_eq_true, decide_eq_true_eq] at h1
      rw [hux]; exact h1.1.1
     have hd := hy l.Names.length hle hlt2
     rw [hux] at hd
     simp only [zg, hw, hlt, decide_true, cond_true, zj, n1, n2, and_self, if_true, zh, Int.toNat_natCast, hox, Option.bind_some, ey, hw2, hd]
     by_cases hq : k = qK l
     . have := hf.2 hq
       simp only [this, if_pos hq, decide_true, Bool.not_true, cond_false]
     . have : ¬ upN l k = 2 ^ l.Names.length - 1 := fun e => hq (hf.1 e)
       simp only [this, if_neg hq, decide_false, Bool.not_false, cond_true]) (by
     simp only [zg, hw]
     simp)
  have hs0 : ((0 : Nat) : Int) = 0 := rfl
  simp only [hs0] at hrun
  rw [hrun]
  have hsc : (zA (fun k => if k = qK l then some (Sum.inl (α := Int) (β := Int) (k : Int)) else none) 0 (l.Names.length - 1)).getD (Sum.inl ((l.Names.length - 1 : Nat) : Int)) = Sum.inl (qK l : Int) := by
   cases e : zA (fun k => if k = qK l then some (Sum.inl (α := Int) (β := Int) (k : Int)) else none) 0 (l.Names.length - 1) with
   | some r =>
     have : r = Sum.inl (qK l : Int) := uZ (v := Sum.inl (qK l : Int)) (fun i => by
      by_cases hi : i = qK l
      . exact .inl (by rw [if_pos hi, hi])
      . exact .inr (by rw [if_neg hi])) e
     rw [this]; rfl
   | none =>
     have hn := scan_none.1 e
     rcases Nat.lt_or_ge (qK l) (l.Names.length - 1) with g | g
     . have := hn (qK l) (by omega) (by omega)
       simp at this
     . have : qK l = l.Names.length - 1 := by omega
       rw [this]; rfl
  rw [hsc]
  rfl
 rw [hend]
 rfl
open Go
theorem zk0 {l : TL} (h : LatIn l) : zik l = some (if (qJ l).2 = 0 then ((qK l : Int), 0) else (0, (qJ l).2)) := by
 apply Tot.eq
 unfold zik
 rw [zi7 h]
 simp only [Option.bind_some]
 by_cases hk : (qJ l).2 = 0
 case neg =>
  have : zb6 l [0, 0] = (qJ l).2 := by unfold zb6; rw [if_neg hk]
  simp only [this, hk, decide_false, Bool.not_false, cond_true, if_false]
  exact .mk rfl
 have ok := je h hk
 have hpos := ok.pos
 have hle := ok.le
 have h0n : (0 : Int) < (l.Names.length : Int) := by omega
 have hl0 : wt l 0 = true := by unfold wt; rw [decide_eq_true (Int.le_refl 0), decide_eq_true h0n]; rfl
 have ha : zb6 l [0, 0] = 0 := by unfold zb6; rw [if_pos hk, List.all_cons, List.all_cons, hl0]; rfl
 simp only [ha, hk, decide_true, Bool.not_true, cond_false, if_true]
 obtain ⟨d, e1, dl, dd⟩ := zhu ok.u8 ok.le ok.len
 rw [e1]
 simp only [Option.bind_some, zv, List.length_map]
 refine Tot.count l.Names.length (fun k s => s.1 = (k : Int) /\ ∃ v : Nat, s.2 = (v : Int) /\ v < l.Names.length /\ ∀ i, i < l.Names.length -> up l i v = true -> ∀ j, j < k -> up l i j = true) ?_ ⟨rfl, 0, rfl, by omega, fun i _ _ j hj => by omega⟩
 rintro k ⟨i, w⟩ hkn ⟨h0, v, h1, h2, h3⟩
 simp only at h0 h1
 subst h0 h1
 simp only [zF, decide_eq_true_eq, decide_eq_false_iff_not]
 refine ⟨fun hlt => ?_, fun hlt => ?_⟩
 . obtain ⟨c, hc, hcn, hg⟩ := znu h hk (a := k) (b := v) (by omega) h2
   rw [uj d (dnN l) k v (by omega) (fun c hc => dd c (by omega)) (fun c hc2 => zit l c hle) (by omega) (by omega)]
   unfold zc5
   rw [dl, hc]
   simp only [Option.bind_some, zg, zt, Sum.elim_inl]
   refine ⟨by omega, w64 (by omega) (by omega), c, rfl, hcn, fun i hi hu j hj => ?_⟩
   rw [zhj hi hg] at hu
   simp only [Bool.and_eq_true] at hu
   rcases Nat.lt_or_ge j k with g | g
   . exact h3 i hi hu.2 j g
   . have : j = k := by omega
     rw [this]; exact hu.1
 . have hke : k = l.Names.length := by omega
   simp only [zt, Sum.elim_inl, Sum.elim_inr]
   have := zul h hk h2 fun a ha => h3 v h2 (ok.self v h2) a (by omega)
   rw [<- this]
open Go
theorem zv2 {l : TL} (hu : U8s l.Up) {a b : Nat} (ha : a < l.Up.length) (hb : b <= 8) : zmh l a b = some (up l a b) := by
 unfold zmh
 obtain ⟨x, hx⟩ := zw ha
 have hx' := hu.get hx
 have key : ∀ u : Fin 256, ∀ b : Fin 9, decide (bits .and .u8 (Int.fdiv (u.val : Int) (2 ^ min b.val (IntKind.bits .u8))) 1 = 1) = Nat.testBit u b := by decide +kernel
 have := key ⟨x.toNat, by omega⟩ ⟨b, by omega⟩
 simp only [Int.toNat_of_nonneg hx'.1] at this
 simp only [Int.natCast_nonneg, zh, Int.toNat_natCast, if_true, hx, Option.bind_some, zj, this, jE hx]
theorem zhf {l : TL} (h : LatIn l) (hk : (qJ l).2 = 0) (xs : List Int) (hx : xs.length <= 64) (hl : ∀ x ∈ xs, wt l x = true) : zs3 l xs = some (0, 0) := by
 unfold zs3
 rw [uU h]
 have h64 : ¬ (64 : Int) < (xs.length : Int) := by omega
 simp only [Option.bind_some, hk, decide_true, Bool.not_true, cond_false, List.length_map, h64, decide_false]
 refine (wv xs.length (fun k => (k : Int)) () (fun k hk => ?_) (by simp) rfl).trans rfl
 obtain ⟨x, hx⟩ := zw hk
 have hq := hl x (List.mem_of_getElem? hx)
 unfold wt at hq
 simp only [Bool.and_eq_true, decide_eq_true_eq] at hq
 have hlt : (k : Int) < (xs.length : Int) := by omega
 have hw : IntKind.wrap .i64 ((k : Int) + 1) = ((k + 1 : Nat) : Int) := w64 (by omega) (by omega)
 have n1 : (0 : Int) <= (k : Int) := by omega
 have n2 : ¬ x < 0 := by omega
 have n3 : ¬ (l.Names.length : Int) <= x := by omega
 simp only [hlt, decide_true, cond_true, zh, n1, if_true, Int.toNat_natCast, hx, Option.bind_some, zg, hw, n2, n3, decide_false, cond_false]
def flK (l : TL) (xs : List Int) (a : Int) (k : Nat) : Option Int := match xs[k]? with
 | some x => if up l x.toNat a.toNat = true then none else some (k : Int)
 | none => none
def flV (l : TL) (xs : List Int) (a : Int) : Int × Int := match zA (flK l xs a) 0 xs.length with | some r => (r, 25) | none => (0, 0)
theorem zyh {l : TL} (h : LatIn l) (hk : (qJ l).2 = 0) (xs : List Int) (hx : xs.length <= 64) (hl : ∀ x ∈ xs, wt l x = true) (a : Int) (ha : wt l a = true) :
 zjx l xs a = some (flV l xs a) := by
 have ok := je h hk
 have hle := ok.le
 have hlen := ok.len
 unfold zjx
 rw [zhf h hk xs hx hl]
 unfold wt at ha
 simp only [Bool.and_eq_true, decide_eq_true_eq] at ha
 have n2 : ¬ a < 0 := by omega
 have n3 : ¬ (l.Names.length : Int) <= a := by omega
 simp only [Option.bind_some, decide_true, Bool.not_true, cond_false, n2, n3, decide_false, List.length_map]
 have hi : zr0 xs (l, a) = some (match zA (flK l xs a) 0 xs.length with | some r => r | none => -1) := by
  unfold zr0
  simp only [List.length_map]
  refine (qD xs.length (fun k => (k : Int)) (flK l xs a) () (fun k hk => ?_) (by simp) rfl).trans ?_
  . obtain ⟨x, hx⟩ := zw hk
    have hq := hl x (List.mem_of_getElem? hx)
    unfold wt at hq
    simp only [Bool.and_eq_true, decide_eq_true_eq] at hq
    have hlt : (k : Int) < (xs.length : Int) := by omega
    have hw : IntKind.wrap .i64 ((k : Int) + 1) = ((k + 1 : Nat) : Int) := w64 (by omega) (by omega)
    have n1 : (0 : Int) <= (k : Int) := by omega
    have hb : zmh l x a = some (up l x.toNat a.toNat) := by
     have := zv2 ok.u8 (a := x.toNat) (b := a.toNat) (by omega) (by omega)
     rwa [Int.toNat_of_nonneg hq.1, Int.toNat_of_nonneg ha.1] at this
    simp only [hlt, decide_true, cond_true, zh, n1, if_true, Int.toNat_natCast, hx, Option.bind_some, zg, hw, zx5, hb, flK]
    cases up l x.toNat a.toNat <;> simp
  . cases zA (flK l xs a) 0 xs.length <;> rfl
 rw [hi]
 unfold flV
 cases e : zA (flK l xs a) 0 xs.length with
 | none => simp
 | some r =>
   have : 0 <= r := by
    have key : ∀ {j k : Nat} {b : Int}, zA (flK l xs a) k j = some b -> 0 <= b := by
     intro j
     induction j with
     | zero => intro k b h; cases h
     | succ j ih =>
       intro k b h
       simp only [zA] at h
       cases hf : flK l xs a k with
       | none => rw [hf] at h; exact ih h
       | some z =>
         rw [hf] at h
         cases h
         unfold flK at hf
         split at hf
         . split at hf
           . cases hf
           . cases hf; omega
         . cases hf
    exact key e
   simp [this]
end Go.Sx.O
noncomputable section
namespace Go.Sx.O
open Go
def yx (l : TL) (t : TY) : Int :=
 if t.Rank < 0 \/ 2 < t.Rank then 7
 else if qj l t.Axes.1 = true /\ qj l t.Axes.2 = true /\ qj l t.Data = true then
  if ([t.Axes.1, t.Axes.2].drop t.Rank.toNat).all (fun x => decide (x = (qK l : Int))) = true then
   if ([t.Axes.1, t.Axes.2].take t.Rank.toNat).all (fun x => up l x.toNat t.Data.toNat) = true then 0 else 25
  else 6
 else 7
def yj (l : TL) (t : TY) : Int := if (qJ l).2 = 0 then (if t.Kind = 1 \/ t.Kind = 2 then yx l t else 7) else (qJ l).2
theorem zug {β : Type} (v : β) (b : Int) (xs : List Int) (hx : xs.length <= 2) : zA (fun k => match xs[k]? with | some x => if x = b then none else some v | none => none) 0 xs.length = if xs.all (fun x => decide (x = b)) = true then none else some v := by
 match xs, hx with
 | [], _ => rfl
 | [x], _ => by_cases h : x = b <;> simp [zA, h]
 | [x, y], _ => by_cases h : x = b <;> by_cases g : y = b <;> simp [zA, h, g]
theorem zx0 (l : TL) (a : Int) (xs : List Int) (hx : xs.length <= 2) : (flV l xs a).2 = if xs.all (fun x => up l x.toNat a.toNat) = true then 0 else 25 := by
 match xs, hx with
 | [], _ => rfl
 | [x], _ => cases h : up l x.toNat a.toNat <;> simp [flV, zA, flK, h]
 | [x, y], _ => cases h : up l x.toNat a.toNat <;> cases g : up l y.toNat a.toNat <;> simp [flV, zA, flK, h, g]
theorem zuh {l : TL} (h : LatIn l) (hk : (qJ l).2 = 0) (t : TY) (hr : ¬ (t.Rank < 0 \/ 2 < t.Rank)) (l1 : qj l t.Axes.1 = true) (l2 : qj l t.Axes.2 = true) (l3 : qj l t.Data = true) :
 (Option.bind (lpO (fun (s612 : Int) =>
 cond (decide (s612 < (↑(List.length (List.drop (Int.toNat t.Rank) (List.take (Int.toNat (↑(2 : Nat) : Int)) [SV.int IntKind.i64 t.Axes.fst, SV.int IntKind.i64 t.Axes.snd]))) : Int)))
 (zh (List.drop (Int.toNat t.Rank) (List.take (Int.toNat (↑(2 : Nat) : Int)) [t.Axes.fst, t.Axes.snd])) (s612) fun x617 =>
 cond (!decide (x617 = (qK l : Int)))
 (some (Sum.inr (Sum.inr ((6 : Int)))))
 (zg (IntKind.wrap IntKind.i64 (s612 + (1 : Int))) fun x619 =>
 some (Sum.inl (x619))))
 (some (Sum.inr (Sum.inl (()))))) ((0 : Int)))
 (Sum.elim (fun (_ : Unit) =>
 zj ((0 : Int) <= t.Rank /\ t.Rank <= (↑(2 : Nat) : Int)) (
 Option.bind (zjx l (List.drop (Int.toNat (0 : Int)) (List.take (Int.toNat t.Rank) [t.Axes.fst, t.Axes.snd])) (t.Data)) fun x653 =>
 cond (!decide (x653.snd = (0 : Int)))
 (some (x653.snd))
 (some ((0 : Int))))) some)) = some (yx l t) := by
 have e0 : List.take (Int.toNat ((2 : Nat) : Int)) [t.Axes.fst, t.Axes.snd] = [t.Axes.fst, t.Axes.snd] := rfl
 have e1 : List.take (Int.toNat ((2 : Nat) : Int)) [SV.int IntKind.i64 t.Axes.fst, SV.int IntKind.i64 t.Axes.snd] = [SV.int IntKind.i64 t.Axes.fst, SV.int IntKind.i64 t.Axes.snd] := rfl
 have e2 : List.drop (Int.toNat 0) (List.take (Int.toNat t.Rank) [t.Axes.fst, t.Axes.snd]) = List.take (Int.toNat t.Rank) [t.Axes.fst, t.Axes.snd] := rfl
 rw [e0, e1, e2]
 have hlen : (List.drop (Int.toNat t.Rank) [SV.int IntKind.i64 t.Axes.fst, SV.int IntKind.i64 t.Axes.snd]).length = (List.drop (Int.toNat t.Rank) [t.Axes.fst, t.Axes.snd]).length := by simp
 rw [hlen]
 have hd2 : (List.drop (Int.toNat t.Rank) [t.Axes.fst, t.Axes.snd]).length <= 2 := by simp
 have ht2 : (List.take (Int.toNat t.Rank) [t.Axes.fst, t.Axes.snd]).length <= 2 := by simp; omega
 have htl : ∀ x ∈ List.take (Int.toNat t.Rank) [t.Axes.fst, t.Axes.snd], wt l x = true := fun x hx => by
  have := List.mem_of_mem_take hx
  simp only [List.mem_cons, List.not_mem_nil, or_false] at this
  rcases this with rfl | rfl
  . exact l1
  . exact l2
 unfold yx
 rw [if_neg hr, if_pos ⟨l1, l2, l3⟩]
 generalize hD : List.drop (Int.toNat t.Rank) [t.Axes.fst, t.Axes.snd] = D at hd2 ⊢
 generalize hT : List.take (Int.toNat t.Rank) [t.Axes.fst, t.Axes.snd] = T at ht2 htl ⊢
 refine (qD D.length (fun k => (k : Int)) (fun k => match D[k]? with | some x => if x = (qK l : Int) then none else some (6 : Int) | none => none) () (fun k hk => ?_) (by simp) rfl).trans ?_
 . obtain ⟨x, hx⟩ := zw hk
   have hlt : (k : Int) < (D.length : Int) := by omega
   have hw : IntKind.wrap .i64 ((k : Int) + 1) = ((k + 1 : Nat) : Int) := w64 (by omega) (by omega)
   have n1 : (0 : Int) <= (k : Int) := by omega
   simp only [hlt, decide_true, cond_true, zh, n1, if_true, Int.toNat_natCast, hx, Option.bind_some, zg, hw]
   by_cases hb : x = (qK l : Int) <;> simp [hb]
 . rw [zug (6 : Int) (qK l : Int) D hd2]
   by_cases hall : D.all (fun x => decide (x = (qK l : Int))) = true
   . simp only [hall, if_true]
     unfold zj
     rw [if_pos (by omega), zyh h hk T (by omega) htl t.Data l3]
     have := zx0 l t.Data T ht2
     simp only [Option.bind_some]
     rw [this]
     split <;> rfl
   . rw [if_neg hall, if_neg hall]
end Go.Sx.O
end
namespace Go.Sx.O
open Go
theorem zjd {l : TL} (h : LatIn l) (t : TY) : ziz l t = some (yj l t) := by
 unfold ziz yj
 rw [zj8 h]
 by_cases hk : (qJ l).2 = 0
 case neg => simp [hk]
 simp only [hk, if_true, Option.bind_some, decide_true, Bool.not_true, cond_false, ul]
 by_cases r1 : t.Rank < 0
 . by_cases k1 : t.Kind = 1 <;> by_cases k2 : t.Kind = 2 <;> simp [k1, k2, r1, yx]
 by_cases r2 : 2 < t.Rank
 . by_cases k1 : t.Kind = 1 <;> by_cases k2 : t.Kind = 2 <;> simp [k1, k2, r1, r2, yx]
 have hr : ¬ (t.Rank < 0 \/ 2 < t.Rank) := by omega
 have hside : (0 : Int) <= t.Rank /\ t.Rank <= ((2 : Nat) : Int) := by omega
 cases l1 : qj l t.Axes.fst with
 | false => by_cases k1 : t.Kind = 1 <;> by_cases k2 : t.Kind = 2 <;> simp [k1, k2, r1, r2, yx, l1]
 | true =>
   cases l2 : qj l t.Axes.snd with
   | false => by_cases k1 : t.Kind = 1 <;> by_cases k2 : t.Kind = 2 <;> simp [k1, k2, r1, r2, yx, l1, l2]
   | true =>
     cases l3 : qj l t.Data with
     | false => by_cases k1 : t.Kind = 1 <;> by_cases k2 : t.Kind = 2 <;> simp [k1, k2, r1, r2, yx, l1, l2, l3]
     | true =>
       have key := zuh h hk t hr l1 l2 l3
       simp only [Bool.not_true, cond_false, r1, r2, decide_false]
       by_cases k1 : t.Kind = 1
       . simp only [k1, decide_true, Bool.not_true, cond_false, true_or, if_true]
         rw [zj, if_pos hside]
         exact key
       . by_cases k2 : t.Kind = 2
         . simp only [k1, k2, decide_true, decide_false, Bool.not_true, Bool.not_false, cond_true, cond_false, or_true, if_true]
           rw [zj, if_pos hside]
           exact key
         . simp [k1, k2]
open Go
def bK {β : Type} (v : β) (b : Int) (xs : List Int) (k : Nat) : Option β := match xs[k]? with | some x => if x = b then none else some v | none => none
theorem zAq {β : Type} (v : β) (b : Int) (xs : List Int) (hx : xs.length <= 2) : zA (bK v b xs) 0 xs.length = if xs.all (fun x => decide (x = b)) = true then none else some v := by
 match xs, hx with
 | [], _ => rfl
 | [x], _ => by_cases h : x = b <;> simp [zA, bK, h]
 | [x, y], _ => by_cases h : x = b <;> by_cases g : y = b <;> simp [zA, bK, h, g]
def uK {β : Type} (v : β) (l : TL) (a : Int) (xs : List Int) (k : Nat) : Option β := match xs[k]? with | some x => if up l x.toNat a.toNat = true then none else some v | none => none
theorem zAo {β : Type} (v : β) (l : TL) (a : Int) (xs : List Int) (hx : xs.length <= 2) : zA (uK v l a xs) 0 xs.length = if xs.all (fun x => up l x.toNat a.toNat) = true then none else some v := by
 match xs, hx with
 | [], _ => rfl
 | [x], _ => cases h : up l x.toNat a.toNat <;> simp [zA, uK, h]
 | [x, y], _ => cases h : up l x.toNat a.toNat <;> cases g : up l y.toNat a.toNat <;> simp [zA, uK, h, g]
theorem zk5 {l : TL} (h : LatIn l) (hk : (qJ l).2 = 0) (t : TY) (hr : ¬ (t.Rank < 0 \/ 2 < t.Rank)) (l1 : qj l t.Axes.1 = true) (l2 : qj l t.Axes.2 = true) (l3 : qj l t.Data = true) :
 (Option.bind (lpO (fun (s598 : Int) =>
 cond (decide (s598 < (2 : Int)))
 (zj ((0 : Int) <= s598 /\ s598 < (↑(2 : Nat) : Int)) (
 zh ([t.Axes.fst, t.Axes.snd]) ((↑(Int.toNat s598) : Int)) fun x604 =>
 cond (!decide (x604 = (qK l : Int)))
 (some (Sum.inr (Sum.inr ((6 : Int)))))
 (zg (IntKind.wrap IntKind.i64 (s598 + (1 : Int))) fun x606 =>
 some (Sum.inl (x606)))))
 (some (Sum.inr (Sum.inl (()))))) (t.Rank))
 (Sum.elim (fun (_ : Unit) =>
 Option.bind (
 lpO (fun (s609 : Int) =>
 cond (decide (s609 < t.Rank))
 (zj ((0 : Int) <= s609 /\ s609 < (↑(2 : Nat) : Int)) (
 zh ([t.Axes.fst, t.Axes.snd]) ((↑(Int.toNat s609) : Int)) fun x614 =>
 Option.bind (jH l (x614) (t.Data)) fun x615 =>
 cond (!x615)
 (some (Sum.inr (Sum.inr ((25 : Int)))))
 (zg (IntKind.wrap IntKind.i64 (s609 + (1 : Int))) fun x617 =>
 some (Sum.inl (x617)))))
 (some (Sum.inr (Sum.inl (()))))) ((0 : Int)))
 (Sum.elim (fun (_ : Unit) =>
 some ((0 : Int))) some)) some)) = some (yx l t) := by
 have ok := je h hk
 have hle := ok.le
 have hlen := ok.len
 unfold yx
 rw [if_neg hr, if_pos ⟨l1, l2, l3⟩]
 have l1' : wt l t.Axes.1 = true := l1
 have l2' : wt l t.Axes.2 = true := l2
 unfold qj at l1 l2 l3
 simp only [Bool.and_eq_true, decide_eq_true_eq] at l1 l2 l3
 have hB : ∀ x : Int, 0 <= x /\ x < (l.Names.length : Int) -> jH l x t.Data = some (up l x.toNat t.Data.toNat) := fun x hx => by
  have := jh ok.u8 (a := x.toNat) (b := t.Data.toNat) (by omega) (by omega)
  rwa [Int.toNat_of_nonneg hx.1, Int.toNat_of_nonneg l3.1] at this
 have hdl : (2 - t.Rank).toNat = ([t.Axes.1, t.Axes.2].drop t.Rank.toNat).length := by simp; omega
 have htl : t.Rank.toNat = ([t.Axes.1, t.Axes.2].take t.Rank.toNat).length := by simp; omega
 refine (qD (2 - t.Rank).toNat (fun k => t.Rank + (k : Int)) (bK (6 : Int) (qK l : Int) ([t.Axes.1, t.Axes.2].drop t.Rank.toNat)) () (fun k hk2 => ?_) ?_ (by simp)).trans ?_
 . have hkk : t.Rank.toNat + k < 2 := by omega
   have hw : IntKind.wrap .i64 (t.Rank + (k : Int) + 1) = t.Rank + ((k + 1 : Nat) : Int) := by rw [w64 (by omega) (by omega)]; omega
   have hlt : t.Rank + (k : Int) < 2 := by omega
   have n1 : (0 : Int) <= t.Rank + (k : Int) /\ t.Rank + (k : Int) < ((2 : Nat) : Int) := by omega
   have hn : (t.Rank + (k : Int)).toNat = t.Rank.toNat + k := by omega
   obtain ⟨x, hx⟩ := zw (l := [t.Axes.1, t.Axes.2]) (i := t.Rank.toNat + k) (by simpa using hkk)
   have n0 : (0 : Int) <= ((t.Rank.toNat + k : Nat) : Int) := by omega
   simp only [hlt, decide_true, cond_true, zj, n1, and_self, if_true, zh, hn, n0, Int.toNat_natCast, hx, Option.bind_some, zg, hw, bK, List.getElem?_drop]
   by_cases hb : x = (qK l : Int) <;> simp [hb]
 . have : ¬ t.Rank + ((2 - t.Rank).toNat : Int) < 2 := by omega
   simp only [this, decide_false, cond_false]
 . rw [hdl, zAq (6 : Int) (qK l : Int) _ (by simp)]
   by_cases hall : ([t.Axes.1, t.Axes.2].drop t.Rank.toNat).all (fun x => decide (x = (qK l : Int))) = true
   . simp only [hall, if_true]
     refine (qD t.Rank.toNat (fun k => (k : Int)) (uK (25 : Int) l t.Data ([t.Axes.1, t.Axes.2].take t.Rank.toNat)) () (fun k hk2 => ?_) ?_ rfl).trans ?_
     . have hkk : k < 2 := by omega
       have hw : IntKind.wrap .i64 ((k : Int) + 1) = ((k + 1 : Nat) : Int) := w64 (by omega) (by omega)
       have hlt : (k : Int) < t.Rank := by omega
       have n1 : (0 : Int) <= (k : Int) /\ (k : Int) < ((2 : Nat) : Int) := by omega
       obtain ⟨x, hx⟩ := zw (l := [t.Axes.1, t.Axes.2]) (i := k) (by simpa using hkk)
       have hxl : wt l x = true := by
        have := List.mem_of_getElem? hx
        simp only [List.mem_cons, List.not_mem_nil, or_false] at this
        rcases this with rfl | rfl
        . exact l1'
        . exact l2'
       have hxb : 0 <= x /\ x < (l.Names.length : Int) := by unfold wt at hxl; simpa using hxl
       simp only [hlt, decide_true, cond_true, zj, n1, and_self, if_true, zh, Int.toNat_natCast, hx, Option.bind_some, zg, hw, uK, hB x hxb, List.getElem?_take, hk2]
       cases up l x.toNat t.Data.toNat <;> simp
     . have : ¬ (t.Rank.toNat : Int) < t.Rank := by omega
       simp only [this, decide_false, cond_false]
     . rw (occs := .pos [2]) [htl]
       rw [zAo (25 : Int) l t.Data _ (by simp; omega)]
       cases (List.take t.Rank.toNat [t.Axes.fst, t.Axes.snd]).all fun x => up l x.toNat t.Data.toNat <;> rfl
   . rw [if_neg hall, if_neg hall]
open Go
theorem zk1 {l : TL} (h : LatIn l) (t : TY) : zim l t = some (yj l t) := by
 unfold zim yj
 rw [zaj l h.u8 h.names h.name, <- zev h]
 by_cases hk : (qJ l).2 = 0
 case neg => simp [hk]
 simp only [hk, if_true, Option.bind_some, decide_true, Bool.not_true, cond_false, xD]
 by_cases r1 : t.Rank < 0
 . by_cases k1 : t.Kind = 1 <;> by_cases k2 : t.Kind = 2 <;> simp [k1, k2, r1, yx]
 by_cases r2 : 2 < t.Rank
 . by_cases k1 : t.Kind = 1 <;> by_cases k2 : t.Kind = 2 <;> simp [k1, k2, r1, r2, yx]
 have hr : ¬ (t.Rank < 0 \/ 2 < t.Rank) := by omega
 cases l1 : qj l t.Axes.fst with
 | false => by_cases k1 : t.Kind = 1 <;> by_cases k2 : t.Kind = 2 <;> simp [k1, k2, r1, r2, yx, l1]
 | true =>
   cases l2 : qj l t.Axes.snd with
   | false => by_cases k1 : t.Kind = 1 <;> by_cases k2 : t.Kind = 2 <;> simp [k1, k2, r1, r2, yx, l1, l2]
   | true =>
     cases l3 : qj l t.Data with
     | false => by_cases k1 : t.Kind = 1 <;> by_cases k2 : t.Kind = 2 <;> simp [k1, k2, r1, r2, yx, l1, l2, l3]
     | true =>
       have key := zk5 h hk t hr l1 l2 l3
       simp only [Bool.not_true, cond_false, r1, r2, decide_false, zk0 h, hk, if_true, Option.bind_some]
       by_cases k1 : t.Kind = 1
       . simp only [k1, decide_true, Bool.not_true, cond_false, true_or, if_true]
         exact key
       . by_cases k2 : t.Kind = 2
         . simp only [k1, k2, decide_true, decide_false, Bool.not_true, Bool.not_false, cond_true, cond_false, or_true, if_true]
           exact key
         . simp [k1, k2]
def ckK {α τ : Type} (c : α -> Bool) (v : τ) (L : List α) (j : Nat) : Option τ := match L[j]? with | some y => if c y = true then some v else none | none => none
theorem zci {α τ : Type} (c : α -> Bool) (v : τ) (L : List α) (n : Nat) (hn : n <= L.length) : zA (ckK c v L) 0 n = if (L.take n).any c = true then some v else none := by
 by_cases h : (L.take n).any c = true
 . rw [if_pos h]
   cases e : zA (ckK c v L) 0 n with
   | some r =>
     have : r = v := uZ (v := v) (fun i => by
      unfold ckK
      cases L[i]? with
      | none => exact .inr rfl
      | some x => by_cases hx : c x = true <;> simp [hx]) e
     rw [this]
   | none =>
     exfalso
     rw [List.any_eq_true] at h
     obtain ⟨x, hx, hc⟩ := h
     obtain ⟨i, hi, hxi⟩ := List.getElem_of_mem hx
     rw [List.length_take] at hi
     have := scan_none.1 e i (by omega) (by omega)
     rw [List.getElem_take] at hxi
     unfold ckK at this
     rw [List.getElem?_eq_getElem (by omega), hxi] at this
     simp [hc] at this
 . rw [if_neg h, scan_none]
   intro i _ hi
   unfold ckK
   obtain ⟨x, hx⟩ := zw (l := L) (i := i) (by omega)
   rw [hx]
   have : ¬ c x = true := fun hc => h (by
    rw [List.any_eq_true]
    exact ⟨x, List.mem_take_iff_getElem.2 ⟨i, by omega, by rw [List.getElem?_eq_getElem (by omega)] at hx; exact Option.some.inj hx⟩, hc⟩)
   simp [this]
def zcg (x y : TU) : Bool := decide (y.From = x.From) && decide (y.Goal = x.Goal)
def rlK (p : TP) (k : Nat) : Option (Int × Int) := match p.Rules[k]? with
 | some x => if qj p.Lattice x.From = true then (if qj p.Lattice x.Goal = true then (if x.From = x.Goal then some ((k : Int), 25) else if up p.Lattice x.Goal.toNat x.From.toNat = true then (if (p.Rules.take k).any (zcg x) = true then some ((k : Int), 8) else if x.K < 2 then some ((k : Int), 3) else if 400 < x.K then some ((k : Int), 3) else none) else some ((k : Int), 25)) else some ((k : Int), 7)) else some ((k : Int), 7)
 | none => none
def rlC (p : TP) : Int × Int := if (64 : Int) < (p.Rules.length : Int) then (-1, 3) else match zA (rlK p) 0 p.Rules.length with | some r => r | none => (0, 0)
theorem zz1 (x : TU) (L : List TU) : inL (x.From, x.Goal) (L.map fun y => (y.From, y.Goal)) = L.any (zcg x) := by
 rw [Bool.eq_iff_iff, inL_iff, List.any_eq_true]
 simp only [List.mem_map, Prod.mk.injEq, zcg, Bool.and_eq_true, decide_eq_true_eq]
theorem zAj {x : Int} (h0 : 0 <= x) (h1 : x < 256) {b : Nat} (hb : b <= 8) : decide (bits .and .u8 (Int.fdiv x (2 ^ min b (IntKind.bits .u8))) 1 = 0) = !Nat.testBit x.toNat b := by
 have key : ∀ u : Fin 256, ∀ b : Fin 9, decide (bits .and .u8 (Int.fdiv (u.val : Int) (2 ^ min b.val (IntKind.bits .u8))) 1 = 0) = !Nat.testBit u b := by decide +kernel
 have := key ⟨x.toNat, by omega⟩ ⟨b, by omega⟩
 simpa only [Int.toNat_of_nonneg h0] using this
theorem zio (p : TP) (h : LatIn p.Lattice) (hk : (qJ p.Lattice).2 = 0) : zsg p = some (rlC p) := by
 have ok := je h hk
 have hle := ok.le
 have hlen := ok.len
 unfold zsg rlC
 simp only [List.length_map]
 by_cases h6 : (64 : Int) < (p.Rules.length : Int)
 . simp [h6]
 simp only [h6, decide_false, cond_false, if_false]
 refine (qD p.Rules.length (fun k => ((k : Int), (p.Rules.take k).map fun y => (y.From, y.Goal))) (rlK p) () (fun k hk => ?_) ?_ rfl).trans ?_
 . obtain ⟨x, hx⟩ := zw hk
   have hlt : (k : Int) < (p.Rules.length : Int) := by omega
   have hw : IntKind.wrap .i64 ((k : Int) + 1) = ((k + 1 : Nat) : Int) := w64 (by omega) (by omega)
   have n1 : (0 : Int) <= (k : Int) := by omega
   have e : (p.Rules.take (k + 1)).map (fun y => (y.From, y.Goal)) = (p.Rules.take k).map (fun y => (y.From, y.Goal)) ++ [(x.From, x.Goal)] := by rw [List.take_add_one, hx]; simp
   simp only [hlt, decide_true, cond_true, zh, n1, if_true, Int.toNat_natCast, hx, Option.bind_some, zg, hw, ul, rlK, e, zz1]
   cases l1 : qj p.Lattice x.From with
   | false => simp
   | true =>
     cases l2 : qj p.Lattice x.Goal with
     | false => simp
     | true =>
       unfold qj at l1 l2
       simp only [Bool.and_eq_true, decide_eq_true_eq] at l1 l2
       obtain ⟨u, hu⟩ := zw (l := p.Lattice.Up) (i := x.Goal.toNat) (by omega)
       have hu' := ok.u8.get hu
       have hb := zAj hu'.1 hu'.2 (b := x.From.toNat) (by omega)
       have n2 : (0 : Int) <= x.Goal := l2.1
       have n3 : (0 : Int) <= x.From := l1.1
       simp only [Bool.not_true, cond_false, n2, if_true, hu, Option.bind_some, zj, n3, hb, jE hu]
       by_cases hfg : x.From = x.Goal
       . simp [hfg]
       cases hbt : Nat.testBit u.toNat x.From.toNat with
       | false => simp [hfg]
       | true =>
         cases (p.Rules.take k).any (zcg x) with
         | true => simp [hfg]
         | false =>
           by_cases k2 : x.K < 2
           . simp [hfg, k2]
           . by_cases k4 : 400 < x.K <;> simp [hfg, k2, k4]
 . simp
 . cases zA (rlK p) 0 p.Rules.length <;> rfl
theorem zjw (p : TP) (h : LatIn p.Lattice) (hk : (qJ p.Lattice).2 = 0) : zlk p = some (rlC p) := by
 have ok := je h hk
 have hle := ok.le
 have hlen := ok.len
 unfold zlk rlC
 simp only [List.length_map]
 by_cases h6 : (64 : Int) < (p.Rules.length : Int)
 . simp [h6]
 simp only [h6, decide_false, cond_false, if_false]
 refine (qD p.Rules.length (fun k => (k : Int)) (rlK p) () (fun k hk => ?_) ?_ rfl).trans ?_
 . obtain ⟨x, hx⟩ := zw hk
   have hlt : (k : Int) < (p.Rules.length : Int) := by omega
   have hw : IntKind.wrap .i64 ((k : Int) + 1) = ((k + 1 : Nat) : Int) := w64 (by omega) (by omega)
   have n1 : (0 : Int) <= (k : Int) := by omega
   simp only [hlt, decide_true, cond_true, zh, n1, if_true, Int.toNat_natCast, hx, Option.bind_some, zg, hw, xD, rlK]
   cases l1 : qj p.Lattice x.From with
   | false => simp
   | true =>
     cases l2 : qj p.Lattice x.Goal with
     | false => simp
     | true =>
       unfold qj at l1 l2
       simp only [Bool.and_eq_true, decide_eq_true_eq] at l1 l2
       have hB := jh ok.u8 (a := x.Goal.toNat) (b := x.From.toNat) (by omega) (by omega)
       rw [Int.toNat_of_nonneg l2.1, Int.toNat_of_nonneg l1.1] at hB
       simp only [Bool.not_true, cond_false, if_true, hB, Option.bind_some]
       by_cases hfg : x.From = x.Goal
       . simp [hfg]
       cases hbt : up p.Lattice x.Goal.toNat x.From.toNat with
       | false => simp [hfg]
       | true =>
         simp only [hfg, decide_false, cond_false, Bool.not_true, if_true, if_false]
         refine (qD k (fun j => (j : Int)) (ckK (zcg x) (Sum.inr (Sum.inr ((k : Int), (8 : Int)))) p.Rules) () (fun j hj => ?_) ?_ rfl).trans ?_
         . obtain ⟨y, hy⟩ := zw (l := p.Rules) (i := j) (by omega)
           have hlt2 : (j : Int) < (k : Int) := by omega
           have hw2 : IntKind.wrap .i64 ((j : Int) + 1) = ((j + 1 : Nat) : Int) := w64 (by omega) (by omega)
           have n2 : (0 : Int) <= (j : Int) := by omega
           simp only [hlt2, decide_true, cond_true, n2, if_true, Int.toNat_natCast, hy, Option.bind_some, hw2, ckK, zcg]
           by_cases c1 : y.From = x.From <;> by_cases c2 : y.Goal = x.Goal <;> simp [c1, c2]
         . simp
         . rw [zci _ _ _ k (by omega)]
           cases (p.Rules.take k).any (zcg x) with
           | true => simp
           | false =>
             by_cases k2 : x.K < 2
             . simp [k2]
             . by_cases k4 : 400 < x.K <;> simp [k2, k4]
 . simp
 . cases zA (rlK p) 0 p.Rules.length <;> rfl
end Go.Sx.O
noncomputable section
namespace Go.Sx.O
open Go
structure PolIn (p : TP) : Prop where
 lat : LatIn p.Lattice
 chan : ∀ c ∈ p.Channels, c.s_.length <= 1000000
 var : ∀ c ∈ p.Vars, c.Name.length <= 1000000
def yl (p : TP) : Int × Int × Int :=
 if (qJ p.Lattice).2 = 0 then (if (chC p).2 = 0 then (if (vrC (yj p.Lattice) p).2 = 0 then (if (rlC p).2 = 0 then (0, 0, 0) else (4, rlC p)) else (3, vrC (yj p.Lattice) p)) else (2, chC p)) else (1, qJ p.Lattice)
theorem ziv {τ : Type} {P : τ -> Prop} {f : Nat -> Option τ} (hf : ∀ i r, f i = some r -> P r) : ∀ {n k r}, zA f k n = some r -> P r := by
 intro n
 induction n with
 | zero => intro k r h; cases h
 | succ n ih =>
   intro k r h
   simp only [zA] at h
   split at h
   . rename_i b hb; cases h; exact hf _ _ hb
   . exact ih h
theorem zw4 {p : TP} (h : (rlC p).2 = 0) : rlC p = (0, 0) := by
 unfold rlC at h ⊢
 split at h
 . simp at h
 . rename_i h6
   rw [if_neg h6]
   cases e : zA (rlK p) 0 p.Rules.length with
   | none => rfl
   | some r =>
     exfalso
     rw [e] at h
     have := ziv (P := fun r : Int × Int => r.2 ≠ 0) (fun i r hr => by
      unfold rlK at hr
      revert hr
      repeat' split
      all_goals (intro hr; cases hr <;> simp)) e
     exact this h
theorem zax {p : TP} (h : PolIn p) : zol p = some (yl p) := by
 unfold zol yl zw6
 rw [uU h.lat, zd8 p h.chan, ziy (yj p.Lattice) p h.var (fun c _ => zjd h.lat _)]
 by_cases hk : (qJ p.Lattice).2 = 0
 case neg => simp [hk]
 rw [zio p h.lat hk]
 by_cases h2 : (chC p).2 = 0
 case neg => simp [hk, h2]
 by_cases h3 : (vrC (yj p.Lattice) p).2 = 0
 case neg => simp [hk, h2, h3]
 by_cases h4 : (rlC p).2 = 0
 case neg => simp [hk, h2, h3, h4]
 simp [hk, h2, h3, zw4 h4]
theorem zbl {p : TP} (h : PolIn p) : zin p = some (yl p) := by
 unfold zin yl
 rw [zaj p.Lattice h.lat.u8 h.lat.names h.lat.name, <- zev h.lat, zfa p h.chan, zld (yj p.Lattice) p h.var (fun c _ => zk1 h.lat _)]
 by_cases hk : (qJ p.Lattice).2 = 0
 case neg => simp [hk]
 rw [zjw p h.lat hk]
 by_cases h2 : (chC p).2 = 0
 case neg => simp [hk, h2]
 by_cases h3 : (vrC (yj p.Lattice) p).2 = 0
 case neg => simp [hk, h2, h3]
 by_cases h4 : (rlC p).2 = 0
 case neg => simp [hk, h2, h3, h4]
 simp [hk, h2, h3, h4]
theorem zjk {α : Type} {L : List α} {N : Nat} {c : α -> Bool} (h : (L.take (min L.length N)).any c = false) (hn : L.length <= N) : ∀ x ∈ L, c x = false := by
 rw [Nat.min_eq_left hn, List.take_length] at h
 simpa using h
theorem zp1 (L : List (List UInt8)) : ∃ b, Fz0 L = some b /\ (b = false -> L.length <= 12 /\ ∀ s ∈ L, s.length <= 100) := by
 unfold Fz0
 simp only [List.length_map]
 rw [qD (s0 := (0 : Int)) (min L.length 20) (fun k => (k : Int)) (ckK (fun s : List UInt8 => decide ((100 : Int) < (s.length : Int))) true L) () ?_ ?_ rfl, zci _ _ _ _ (by omega)]
 . cases h : (L.take (min L.length 20)).any (fun s => decide ((100 : Int) < (s.length : Int))) with
   | true => exact ⟨true, rfl, fun h => by cases h⟩
   | false =>
     refine ⟨_, rfl, fun h12 => ?_⟩
     have h12 : L.length <= 12 := by simp at h12; omega
     exact ⟨h12, fun s hs => by have := zjk h (by omega) s hs; simp at this; omega⟩
 . intro k hk
   obtain ⟨x, hx⟩ := zw (l := L) (i := k) (by omega)
   have hlt : (k : Int) < (L.length : Int) := by omega
   have hlt2 : (k : Int) < 20 := by omega
   have hw : IntKind.wrap .i64 ((k : Int) + 1) = ((k + 1 : Nat) : Int) := w64 (by omega) (by omega)
   have n1 : (0 : Int) <= (k : Int) := by omega
   simp only [hlt, hlt2, decide_true, cond_true, zh, n1, if_true, Int.toNat_natCast, hx, zg, hw, ckK]
   by_cases c1 : (100 : Int) < (x.length : Int) <;> simp [c1]
 . by_cases c1 : ((min L.length 20 : Nat) : Int) < (L.length : Int)
   . have c2 : ¬ ((min L.length 20 : Nat) : Int) < 20 := by omega
     simp only [c1, c2, decide_true, decide_false, cond_true, cond_false]
   . simp only [c1, decide_false, cond_false]
theorem zxq (p : TP) (hu : U8s p.Lattice.Up) : ∃ b, Fz2 p = some b /\ (b = false -> PolIn p) := by
 unfold Fz2
 simp only [List.length_map]
 rw [qD (s0 := (0 : Int)) (min p.Channels.length 25) (fun k => (k : Int)) (ckK (fun s : TR => decide ((100 : Int) < (s.s_.length : Int))) true p.Channels) () ?_ ?_ rfl, zci _ _ _ _ (by omega)]
 rotate_left
 . intro k hk
   obtain ⟨x, hx⟩ := zw (l := p.Channels) (i := k) (by omega)
   have hlt : (k : Int) < (p.Channels.length : Int) := by omega
   have hlt2 : (k : Int) < 25 := by omega
   have hw : IntKind.wrap .i64 ((k : Int) + 1) = ((k + 1 : Nat) : Int) := w64 (by omega) (by omega)
   have n1 : (0 : Int) <= (k : Int) := by omega
   simp only [hlt, hlt2, decide_true, cond_true, zh, n1, if_true, Int.toNat_natCast, hx, zg, hw, ckK]
   by_cases c1 : (100 : Int) < (x.s_.length : Int) <;> simp [c1]
 . by_cases c1 : ((min p.Channels.length 25 : Nat) : Int) < (p.Channels.length : Int)
   . have c2 : ¬ ((min p.Channels.length 25 : Nat) : Int) < 25 := by omega
     simp only [c1, c2, decide_true, decide_false, cond_true, cond_false]
   . simp only [c1, decide_false, cond_false]
 cases hc : (p.Channels.take (min p.Channels.length 25)).any (fun s => decide ((100 : Int) < (s.s_.length : Int))) with
 | true => exact ⟨true, rfl, fun h => by cases h⟩
 | false =>
   simp only [Bool.false_eq_true, if_false]
   rw [qD (s0 := (0 : Int)) (min p.Vars.length 45) (fun k => (k : Int)) (ckK (fun s : TV => decide ((100 : Int) < (s.Name.length : Int))) true p.Vars) () ?_ ?_ rfl, zci _ _ _ _ (by omega)]
   rotate_left
   . intro k hk
     obtain ⟨x, hx⟩ := zw (l := p.Vars) (i := k) (by omega)
     have hlt : (k : Int) < (p.Vars.length : Int) := by omega
     have hlt2 : (k : Int) < 45 := by omega
     have hw : IntKind.wrap .i64 ((k : Int) + 1) = ((k + 1 : Nat) : Int) := w64 (by omega) (by omega)
     have n1 : (0 : Int) <= (k : Int) := by omega
     simp only [hlt, hlt2, decide_true, cond_true, zh, n1, if_true, Int.toNat_natCast, hx, zg, hw, ckK]
     by_cases c1 : (100 : Int) < (x.Name.length : Int) <;> simp [c1]
   . by_cases c1 : ((min p.Vars.length 45 : Nat) : Int) < (p.Vars.length : Int)
     . have c2 : ¬ ((min p.Vars.length 45 : Nat) : Int) < 45 := by omega
       simp only [c1, c2, decide_true, decide_false, cond_true, cond_false]
     . simp only [c1, decide_false, cond_false]
   cases hv : (p.Vars.take (min p.Vars.length 45)).any (fun s => decide ((100 : Int) < (s.Name.length : Int))) with
   | true => exact ⟨true, rfl, fun h => by cases h⟩
   | false =>
     simp only [Bool.false_eq_true, if_false]
     unfold Fz1
     obtain ⟨b, e, hb⟩ := zp1 p.Lattice.Names
     rw [e]
     simp only [Option.bind_some, List.length_map]
     cases b with
     | true => exact ⟨true, rfl, fun h => by cases h⟩
     | false =>
       obtain ⟨hb1, hb2⟩ := hb rfl
       simp only [cond_false, Option.bind_some]
       by_cases h12 : (12 : Int) < (p.Lattice.Up.length : Int)
       . exact ⟨true, by simp [h12], fun h => by cases h⟩
       by_cases h20 : (20 : Int) < (p.Channels.length : Int)
       . exact ⟨true, by simp [h12, h20], fun h => by cases h⟩
       by_cases h40 : (40 : Int) < (p.Vars.length : Int)
       . exact ⟨true, by simp [h12, h20, h40], fun h => by cases h⟩
       simp only [h12, h20, h40, decide_false, cond_false]
       refine ⟨_, rfl, fun _ => ⟨⟨hu, by omega, fun s hs => by have := hb2 s hs; omega⟩, fun c h => ?_, fun c h => ?_⟩⟩
       . have := zjk hc (by omega) c h; simp at this; omega
       . have := zjk hv (by omega) c h; simp at this; omega
end Go.Sx.O
end
noncomputable section
namespace Go.Sx.O
open Go
theorem yB {r : Int} {l : Int × Int} (h : shC r l = 0) : 0 <= qr r l /\ qr r l <= 400 := by
 unfold shC at h
 unfold qr
 by_cases r0 : r = 0
 . simp [r0]
 by_cases r1 : r = 1
 . rw [if_neg r0, if_pos r1] at h
   rw [if_neg (by omega), if_pos r1]
   by_cases c1 : l.1 < 0
   . rw [if_pos c1] at h; omega
   rw [if_neg c1] at h
   by_cases c2 : l.2 = 0
   . rw [if_pos c2] at h
     by_cases c3 : 400 < l.1
     . rw [if_pos c3] at h; omega
     . omega
   . rw [if_neg c2] at h; omega
 by_cases r2 : r = 2
 . rw [if_neg r0, if_neg r1, if_pos r2] at h
   rw [if_pos r2]
   by_cases c1 : l.1 < 0
   . rw [if_pos c1] at h; omega
   by_cases c2 : l.2 < 0
   . rw [if_neg c1, if_pos c2] at h; omega
   rw [if_neg c1, if_neg c2] at h
   have := Int.mul_nonneg (a := l.1) (b := l.2) (by omega) (by omega)
   by_cases c3 : 400 < l.1
   . rw [if_pos c3] at h; omega
   by_cases c4 : 400 < l.2
   . rw [if_neg c3, if_pos c4] at h; omega
   by_cases c5 : 400 < l.1 * l.2
   . rw [if_neg c3, if_neg c4, if_pos c5] at h; omega
   . omega
 . rw [if_neg r0, if_neg r1, if_neg r2] at h; omega
theorem zhb {a : TA} (h : wF a = 0) : a.Cells.length <= 400 := by
 unfold wF at h
 split at h
 . split at h
   . rename_i hs
     have := yB hs
     split at h
     . omega
     . omega
   . omega
 . omega
theorem zak (a : TA) : zf1 a = some (wF a) := by
 by_cases hl : a.Cells.length <= 1000000000
 . exact zfb a hl
 unfold zf1 wF
 rw [wd]
 simp only [Option.bind_some, List.length_map]
 by_cases hs : shC a.Rank a.Lens = 0
 . have hm := yB hs
   have hne : ¬ (a.Cells.length : Int) = qr a.Rank a.Lens := by omega
   simp only [hs, if_true, decide_true, Bool.not_true, cond_false, hne, decide_false, Bool.not_false, cond_true, if_false]
   by_cases k1 : a.Kind = 1 <;> by_cases k2 : a.Kind = 2 <;> simp [k1, k2]
 . simp only [hs, if_false, decide_false, Bool.not_false, cond_true]
   by_cases k1 : a.Kind = 1 <;> by_cases k2 : a.Kind = 2 <;> simp [k1, k2]
theorem zaz (a : TA) : za2 a = some (wF a) := by
 by_cases hl : a.Cells.length <= 1000000000
 . exact zg8 a hl
 unfold za2 wF
 rw [ye]
 simp only [Option.bind_some, List.length_map]
 have lp0 : ∀ (v : Int), Option.bind (lpO (fun (_ : Unit) => cond (decide ((0 : Int) < (a.Cells.length : Int))) (some (Sum.inr (Sum.inl ()) : Unit ⊕ (Unit ⊕ Int))) (some (Sum.inr (Sum.inl ())))) ()) (Sum.elim (fun _ => some v) some) = some v := by
  intro v
  rw [zy]
  cases decide ((0 : Int) < (a.Cells.length : Int)) <;> rfl
 by_cases hs : shC a.Rank a.Lens = 0
 . have hm := yB hs
   have hne : ¬ (a.Cells.length : Int) = qr a.Rank a.Lens := by omega
   simp only [hs, if_true, decide_true, Bool.not_true, cond_false, hne, decide_false, Bool.not_false, cond_true, if_false, lp0]
   by_cases k1 : a.Kind = 1 <;> by_cases k2 : a.Kind = 2 <;> simp [k1, k2]
 . simp only [hs, if_false, decide_false, Bool.not_false, cond_true, cond_false, lp0]
   by_cases k1 : a.Kind = 1 <;> by_cases k2 : a.Kind = 2 <;> simp [k1, k2]
theorem zkj (w : List TW) : ∃ b, Fz3 w = some b /\ (b = false -> w.length <= 40 /\ ∀ x ∈ w, x.Name.length <= 100) := by
 have key : Tot (Fz3 w) fun b => b = false -> w.length <= 40 /\ ∀ x ∈ w, x.Name.length <= 100 := by
  unfold Fz3
  rw [zv]
  refine Tot.count (min w.length 50) (fun k s => s.1 = (k : Int) /\ ∀ x ∈ w.take k, x.Name.length <= 100) ?_ ⟨rfl, by simp⟩
  rintro k ⟨i, n⟩ hk ⟨h0, h1⟩
  simp only at h0
  subst h0
  simp only [zF, zt, qc, qp, Sum.elim_inl, Sum.elim_inr, decide_eq_true_eq, decide_eq_false_iff_not, Int.toNat_natCast, List.length_map]
  refine ⟨fun hlt => ⟨fun h5 => ?_, fun h5 => ?_⟩, fun hge => ?_⟩
  . obtain ⟨x, hx⟩ := zw (l := w) (i := k) (by omega)
    refine ⟨by omega, x, hx, by omega, x, hx, fun hc => ?_, fun hc => ?_⟩
    . intro h; cases h
    . rw [w64 (by omega) (by omega)]
      refine ⟨by omega, by omega, ?_⟩
      rw [List.take_add_one, hx]
      intro y hy
      simp only [List.mem_append, Option.toList_some, List.mem_singleton] at hy
      rcases hy with hy | rfl
      . exact h1 y hy
      . omega
  . refine ⟨fun _ => (fun h => by cases h), fun _ h4 => ?_⟩
    simp at h4
    omega
  . refine ⟨fun _ => (fun h => by cases h), fun _ h4 => ?_⟩
    simp at h4
    have : w.take k = w := List.take_of_length_le (by omega)
    rw [this] at h1
    exact ⟨by omega, h1⟩
 obtain ⟨b, e, h⟩ := key
 exact ⟨b, e, h⟩
def zbe (p : TP) (w : List TW) (k : Nat) : Option (Int × Int) := match w[k]?, p.Vars[k]? with
 | some x, some v => if x.Name = v.Name then (if wF x.Value = 0 then (if x.Value.Kind = v.Type_.Kind then (if x.Value.Rank = v.Type_.Rank then none else some ((k : Int), 22)) else some ((k : Int), 21)) else some ((k : Int), wF x.Value)) else some ((k : Int), 24)
 | _, _ => none
def qZ (p : TP) (w : List TW) : Int × Int := if (yl p).2.2 = 0 then (if w.length = p.Vars.length then (match zA (zbe p w) 0 w.length with | some r => r | none => (0, 0)) else (-1, 3)) else (-1, (yl p).2.2)
theorem zjq {p : TP} (h : PolIn p) (w : List TW) (hw : w.length <= 1000000) : zrm p w = some (qZ p w) := by
 unfold zrm qZ
 rw [zax h]
 simp only [Option.bind_some, List.length_map]
 by_cases hk : (yl p).2.2 = 0
 case neg => simp [hk]
 simp only [hk, decide_true, Bool.not_true, cond_false, if_true]
 by_cases hl : w.length = p.Vars.length
 case neg =>
  have : ¬ (w.length : Int) = (p.Vars.length : Int) := by omega
  simp [hl, this]
 have hl' : (w.length : Int) = (p.Vars.length : Int) := by omega
 simp only [hl', hl, decide_true, Bool.not_true, cond_false, if_true]
 refine (qD p.Vars.length (fun k => (k : Int)) (zbe p w) () (fun k hk => ?_) (by simp) rfl).trans ?_
 . obtain ⟨v, hv⟩ := zw hk
   obtain ⟨x, hx⟩ := zw (l := w) (i := k) (by omega)
   have hlt : (k : Int) < (p.Vars.length : Int) := by omega
   have hw : IntKind.wrap .i64 ((k : Int) + 1) = ((k + 1 : Nat) : Int) := w64 (by omega) (by omega)
   have n1 : (0 : Int) <= (k : Int) := by omega
   simp only [hlt, decide_true, cond_true, zh, n1, if_true, Int.toNat_natCast, hx, hv, Option.bind_some, zg, hw, zak, zbe]
   by_cases c1 : x.Name = v.Name <;> by_cases c2 : wF x.Value = 0 <;> by_cases c3 : x.Value.Kind = v.Type_.Kind <;> by_cases c4 : x.Value.Rank = v.Type_.Rank <;> simp [c1, c2, c3, c4]
 . cases zA (zbe p w) 0 p.Vars.length <;> rfl
theorem uk {p : TP} (h : PolIn p) (w : List TW) (hw : w.length <= 1000000) : ze6 p w = some (qZ p w) := by
 unfold ze6 qZ
 rw [zbl h]
 simp only [Option.bind_some, List.length_map]
 by_cases hk : (yl p).2.2 = 0
 case neg => simp [hk]
 simp only [hk, decide_true, Bool.not_true, cond_true, cond_false, if_true]
 by_cases hl : w.length = p.Vars.length
 case neg =>
  have : ¬ (w.length : Int) = (p.Vars.length : Int) := by omega
  simp [hl, this]
 have hl' : (w.length : Int) = (p.Vars.length : Int) := by omega
 simp only [hl', hl, decide_true, Bool.not_true, cond_false, if_true]
 refine (qD p.Vars.length (fun k => (k : Int)) (zbe p w) () (fun k hk => ?_) (by simp) rfl).trans ?_
 . obtain ⟨v, hv⟩ := zw hk
   obtain ⟨x, hx⟩ := zw (l := w) (i := k) (by omega)
   have hlt : (k : Int) < (p.Vars.length : Int) := by omega
   have hw : IntKind.wrap .i64 ((k : Int) + 1) = ((k + 1 : Nat) : Int) := w64 (by omega) (by omega)
   have n1 : (0 : Int) <= (k : Int) := by omega
   simp only [hlt, decide_true, cond_true, zh, n1, if_true, Int.toNat_natCast, hx, hv, Option.bind_some, zg, hw, zaz, zbe]
   by_cases c1 : x.Name = v.Name <;> by_cases c2 : wF x.Value = 0 <;> by_cases c3 : x.Value.Kind = v.Type_.Kind <;> by_cases c4 : x.Value.Rank = v.Type_.Rank <;> simp [c1, c2, c3, c4]
 . cases zA (zbe p w) 0 p.Vars.length <;> rfl
theorem xB {p : TP} (h : (yl p).2.2 = 0) : p.Vars.length <= 32 /\ ∀ v ∈ p.Vars, yj p.Lattice v.Type_ = 0 := by
 unfold yl at h
 by_cases h1 : (qJ p.Lattice).2 = 0
 case neg => rw [if_neg h1] at h; exact absurd h h1
 rw [if_pos h1] at h
 by_cases h2 : (chC p).2 = 0
 case neg => rw [if_neg h2] at h; exact absurd h h2
 rw [if_pos h2] at h
 by_cases h3 : (vrC (yj p.Lattice) p).2 = 0
 case neg => rw [if_neg h3] at h; exact absurd h h3
 unfold vrC at h3
 by_cases h6 : (32 : Int) < (p.Vars.length : Int)
 . rw [if_pos h6] at h3; exact absurd h3 (by decide)
 rw [if_neg h6] at h3
 refine ⟨by omega, fun v hv => ?_⟩
 cases hs : zA (vrK (yj p.Lattice) p) 0 p.Vars.length with
 | some r =>
   rw [hs] at h3
   have : r.2 ≠ 0 := ziv (P := fun r => r.2 ≠ 0) (fun i r hr => by
    unfold vrK at hr
    split at hr
    . split at hr
      . cases hr; assumption
      . split at hr
        . cases hr
        . cases hr; assumption
    . cases hr) hs
   exact absurd h3 this
 | none =>
   obtain ⟨i, hi, e⟩ := List.getElem_of_mem hv
   have := scan_none.1 hs i (by omega) (by omega)
   unfold vrK at this
   rw [List.getElem?_eq_getElem hi, e] at this
   simp only at this
   split at this
   . cases this
   . split at this
     . assumption
     . cases this
end Go.Sx.O
end
namespace Go.Sx.O
open Go
theorem zhl (a b : TA) (h : a.Cells.length <= 9223372036854775807) : Tot (zlx a b) fun r => (r = true ↔ a = b) := by
 unfold zlx zre
 obtain ⟨k1, r1, ⟨p1, q1⟩, c1⟩ := a
 obtain ⟨k2, r2, ⟨p2, q2⟩, c2⟩ := b
 simp only [TA.mk.injEq, Prod.mk.injEq, List.length_map]
 by_cases e1 : k1 = k2
 case neg => simp [e1, zt]
 by_cases e2 : r1 = r2
 case neg => simp [e1, e2, zt]
 by_cases e3 : p1 = p2
 case neg => simp [e1, e2, e3, zt]
 by_cases e4 : q1 = q2
 case neg => simp [e1, e2, e3, e4, zt]
 by_cases e5 : c1.length = c2.length
 case neg =>
  have e6 : ¬ (c1.length : Int) = c2.length := by omega
  have e7 : c1 ≠ c2 := fun e => e5 (by rw [e])
  simp [e1, e2, e3, e4, e6, e7, zt]
 simp only [e1, e2, e3, e4, e5, decide_true, Bool.not_true, cond_true, cond_false, Bool.and_true, true_and, Option.bind_some, zv, and_self]
 simp only at h
 refine zmw (l := c1) (m := c2) c2.length (fun x y => decide (x = y)) (bad := fun _ => false) (e := ()) (by omega) (Nat.le_refl _) (fun k x y hx hy hk => ?_) (by simp) (fun hall => ?_) (fun k x y hx hy hk e _ => ?_)
 . simp only [Int.ofNat_lt, hk, decide_true, cond_true, zh, Int.toNat_natCast, hx, hy, Option.bind_some, zg, Int.natCast_nonneg, if_true]
   rw [w64 (by omega) (by omega)]
   by_cases hxy : x = y <;> simp [hxy]
 . have : c1 = c2 := zd2 e5 fun k x y hx hy hk => by simpa using hall k x y hx hy (by omega)
   simp [this, zt]
 . have : c1 ≠ c2 := by
    rintro rfl
    rw [hx] at hy; cases hy
    simp at e
   simp [this, zt]
theorem zkz (a b : List TW) (h : a.length <= 1000000) (hv : ∀ v ∈ a, v.Value.Cells.length <= 9223372036854775807) : Tot (zen a b) fun r => (r = true ↔ a = b) := by
 unfold zen
 simp only [List.length_map]
 by_cases e5 : a.length = b.length
 case neg =>
  have e6 : ¬ (a.length : Int) = b.length := by omega
  have e7 : a ≠ b := fun e => e5 (by rw [e])
  simp [e6, e7, zt]
 simp only [e5, decide_true, Bool.not_true, cond_false, zv]
 open Classical in
 refine zmw (l := a) (m := b) b.length (fun x y => decide (x = y)) (bad := fun _ => false) (e := ()) (by omega) (Nat.le_refl _) (fun k x y hx hy hk => ?_) (by simp) (fun hall => ?_) (fun k x y hx hy hk e _ => ?_)
 . obtain ⟨r, e, hr⟩ := zhl x.Value y.Value (hv x (List.mem_of_getElem? hx))
   simp only [Int.ofNat_lt, hk, decide_true, cond_true, zh, Int.toNat_natCast, hx, hy, Option.bind_some, zg, Int.natCast_nonneg, if_true, e]
   rw [w64 (by omega) (by omega)]
   obtain ⟨nx, vx⟩ := x
   obtain ⟨ny, vy⟩ := y
   simp only [TW.mk.injEq] at hr ⊢
   by_cases h1 : nx = ny
   . by_cases h2 : vx = vy
     . have : r = true := hr.2 h2
       simp [h1, h2, this]
     . have : r = false := by cases r <;> simp_all
       simp [h1, h2, this]
   . simp [h1]
 . have : a = b := zd2 e5 fun k x y hx hy hk => by simpa using hall k x y hx hy (by omega)
   simp [this, zt]
 . have : a ≠ b := by
    rintro rfl
    rw [hx] at hy; cases hy
    simp at e
   simp [this, zt]
theorem zB0 {l : List Int} (h : yz (inK .u8) l) : U8s l := fun x hx => zB4 (h x hx)
open Go
theorem wR {p : TP} {w : List TW} (h : (qZ p w).2 = 0) : (yl p).2.2 = 0 /\ w.length = p.Vars.length /\ qZ p w = (0, 0) /\ ∀ (k : Nat) x v, w[k]? = some x -> p.Vars[k]? = some v -> x.Name = v.Name /\ wF x.Value = 0 /\ x.Value.Kind = v.Type_.Kind /\ x.Value.Rank = v.Type_.Rank := by
 unfold qZ at h ⊢
 by_cases hk : (yl p).2.2 = 0
 case neg => rw [if_neg hk] at h; exact absurd h hk
 rw [if_pos hk] at h ⊢
 by_cases hl : w.length = p.Vars.length
 case neg => rw [if_neg hl] at h; exact absurd h (by decide)
 rw [if_pos hl] at h ⊢
 cases hs : zA (zbe p w) 0 w.length with
 | some r =>
   rw [hs] at h
   have : r.2 ≠ 0 := ziv (P := fun r => r.2 ≠ 0) (fun i r hr => by
    unfold zbe at hr
    split at hr
    . split at hr
      . split at hr
        . split at hr
          . split at hr
            . cases hr
            . cases hr; exact (by decide : (22 : Int) ≠ 0)
          . cases hr; exact (by decide : (21 : Int) ≠ 0)
        . cases hr; assumption
      . cases hr; exact (by decide : (24 : Int) ≠ 0)
    . cases hr) hs
   exact absurd h this
 | none =>
   refine ⟨hk, hl, rfl, fun k x v hx hv => ?_⟩
   have hlt : k < w.length := (List.getElem?_eq_some_iff.1 hx).1
   have := scan_none.1 hs k (by omega) (by omega)
   unfold zbe at this
   rw [hx, hv] at this
   simp only at this
   by_cases c1 : x.Name = v.Name
   case neg => rw [if_neg c1] at this; cases this
   rw [if_pos c1] at this
   by_cases c2 : wF x.Value = 0
   case neg => rw [if_neg c2] at this; cases this
   rw [if_pos c2] at this
   by_cases c3 : x.Value.Kind = v.Type_.Kind
   case neg => rw [if_neg c3] at this; cases this
   rw [if_pos c3] at this
   by_cases c4 : x.Value.Rank = v.Type_.Rank
   case neg => rw [if_neg c4] at this; cases this
   exact ⟨c1, c2, c3, c4⟩
open Go
theorem zAt {x : Int} (h0 : 0 <= x) (h1 : x < 256) {b : Nat} (hb : b <= 8) : decide (bits .and .u8 (Int.fdiv x (2 ^ min b (IntKind.bits .u8))) 1 = 1) = Nat.testBit x.toNat b := by
 have key : ∀ u : Fin 256, ∀ b : Fin 9, decide (bits .and .u8 (Int.fdiv (u.val : Int) (2 ^ min b.val (IntKind.bits .u8))) 1 = 1) = Nat.testBit u b := by decide +kernel
 have := key ⟨x.toNat, by omega⟩ ⟨b, by omega⟩
 simpa only [Int.toNat_of_nonneg h0] using this
theorem labB_iff {l : TL} {a : Int} : qj l a = true ↔ 0 <= a /\ a < (l.Names.length : Int) := by simp [qj]
theorem zcr {l : TL} {t : TY} (h : yj l t = 0) : (qJ l).2 = 0 /\ (t.Kind = 1 \/ t.Kind = 2) /\ 0 <= t.Rank /\ t.Rank <= 2 /\ qj l t.Axes.1 = true /\ qj l t.Axes.2 = true /\ qj l t.Data = true /\
 ([t.Axes.1, t.Axes.2].drop t.Rank.toNat).all (fun x => decide (x = (qK l : Int))) = true /\ ([t.Axes.1, t.Axes.2].take t.Rank.toNat).all (fun x => up l x.toNat t.Data.toNat) = true := by
 unfold yj at h
 by_cases hk : (qJ l).2 = 0
 case neg => rw [if_neg hk] at h; exact absurd h hk
 rw [if_pos hk] at h
 split at h
 case isFalse => exact absurd h (by decide)
 rename_i h1
 unfold yx at h
 split at h
 . exact absurd h (by decide)
 rename_i h2
 split at h
 case isFalse => exact absurd h (by decide)
 rename_i h3
 split at h
 case isFalse => exact absurd h (by decide)
 rename_i h4
 split at h
 case isFalse => exact absurd h (by decide)
 rename_i h5
 exact ⟨hk, h1, by omega, by omega, h3.1, h3.2.1, h3.2.2, h4, h5⟩
theorem zpq {l : TL} (h : LatIn l) (hk : (qJ l).2 = 0) : zsy l = some (TG.mk l (qK l), 0) := by
 unfold zsy
 rw [uU h, zj8 h]
 simp [hk]
theorem zbo (l : TL) (b a : Int) : zba (TG.mk l b) a = some (qj l a) := by
 unfold zba qj
 by_cases h : 0 <= a <;> simp [h]
theorem jX {l : TL} (ok : LatOK l) (b : Int) {a o : Int} (ha : qj l a = true) (ho : qj l o = true) : zji (TG.mk l b) a o = some (up l a.toNat o.toNat) := by
 obtain ⟨a0, a1⟩ := labB_iff.1 ha
 obtain ⟨o0, o1⟩ := labB_iff.1 ho
 have hle := ok.le
 have hlen := ok.len
 unfold zji zh
 obtain ⟨x, hx⟩ := zw (l := l.Up) (i := a.toNat) (by omega)
 have hu := ok.u8 x (List.mem_of_getElem? hx)
 simp only [a0, if_true, hx, Option.bind_some]
 unfold zj
 rw [if_pos o0, zAt hu.1 hu.2 (by omega), jE hx]
theorem zAe {l : TL} (ok : LatOK l) (b : Int) (t : TY) (hd : qj l t.Data = true) (xs : List Int) (hx : xs.length <= 2) (hl : ∀ x ∈ xs, qj l x = true) (hu : xs.all (fun x => up l x.toNat t.Data.toNat) = true) :
 za8 xs (TG.mk l b, t) = some false := by
 unfold za8 zxj
 have : (Option.bind (lpO (fun (s115 : Int) =>
 cond (decide (s115 < (↑(List.length (List.map (SV.int IntKind.i64) xs)) : Int)))
 (zh (xs) (s115) fun x121 =>
 Option.bind (zry (x121) ((TG.mk l b, t).fst) ((TG.mk l b, t).snd)) fun x122 =>
 cond (x122)
 (some (Sum.inr (Sum.inr (s115))))
 (zg (IntKind.wrap IntKind.i64 (s115 + (1 : Int))) fun x124 =>
 some (Sum.inl (x124))))
 (some (Sum.inr (Sum.inl (()))))) ((0 : Int)))
 (Sum.elim (fun (_ : Unit) =>
 some ((-1 : Int))) some)) = some (-1) := by
  refine (wv xs.length (fun k => (k : Int)) () (fun k hk => ?_) (by simp) rfl).trans rfl
  obtain ⟨x, hx'⟩ := zw hk
  have hm := List.mem_of_getElem? hx'
  have hlt : (k : Int) < (xs.length : Int) := by omega
  have hw : IntKind.wrap .i64 ((k : Int) + 1) = ((k + 1 : Nat) : Int) := w64 (by omega) (by omega)
  have n1 : (0 : Int) <= (k : Int) := by omega
  have hup : up l x.toNat t.Data.toNat = true := by
   have := List.all_eq_true.1 hu x hm
   simpa using this
  simp only [List.length_map, hlt, decide_true, cond_true, zh, n1, if_true, Int.toNat_natCast, hx', zg, hw, zry, jX ok b (hl x hm) hd, Option.bind_some, hup, Bool.not_true, cond_false]
 rw [this]
 rfl
theorem zjc {l : TL} (h : LatIn l) {t : TY} (hg : yj l t = 0) : ztz (TG.mk l (qK l)) t = some 0 := by
 obtain ⟨hk, hkind, hr0, hr2, l1, l2, l3, hbot, hup⟩ := zcr hg
 have ok := je h hk
 have c1 : ¬ t.Rank < 0 := by omega
 have c2 : ¬ 2 < t.Rank := by omega
 have tail : (zck (t.Rank) [
 cond (!(decide ((qK l : Int) = t.Axes.fst) && (decide ((qK l : Int) = t.Axes.snd) && true)))
 (some ((6 : Int)))
 (zj ((0 : Int) <= t.Rank /\ t.Rank <= (↑(2 : Nat) : Int)) (
 Option.bind (za8 (List.drop (Int.toNat (0 : Int)) (List.take (Int.toNat t.Rank) [t.Axes.fst, t.Axes.snd])) ((TG.mk l (qK l), t))) fun x126 =>
 cond (x126)
 (some ((25 : Int)))
 (some ((0 : Int))))),
 cond (!(decide (t.Axes.fst = t.Axes.fst) && (decide ((qK l : Int) = t.Axes.snd) && true)))
 (some ((6 : Int)))
 (zj ((0 : Int) <= t.Rank /\ t.Rank <= (↑(2 : Nat) : Int)) (
 Option.bind (za8 (List.drop (Int.toNat (0 : Int)) (List.take (Int.toNat t.Rank) [t.Axes.fst, t.Axes.snd])) ((TG.mk l (qK l), t))) fun x129 =>
 cond (x129)
 (some ((25 : Int)))
 (some ((0 : Int))))),
 cond (!(decide (t.Axes.fst = t.Axes.fst) && (decide (t.Axes.snd = t.Axes.snd) && true)))
 (some ((6 : Int)))
 (zj ((0 : Int) <= t.Rank /\ t.Rank <= (↑(2 : Nat) : Int)) (
 Option.bind (za8 (List.drop (Int.toNat (0 : Int)) (List.take (Int.toNat t.Rank) [t.Axes.fst, t.Axes.snd])) ((TG.mk l (qK l), t))) fun x132 =>
 cond (x132)
 (some ((25 : Int)))
 (some ((0 : Int)))))]) = some 0 := by
   have hc : za8 (List.drop (Int.toNat (0 : Int)) (List.take (Int.toNat t.Rank) [t.Axes.fst, t.Axes.snd])) ((TG.mk l (qK l), t)) = some false := by
    refine zAe ok _ t l3 _ (by simp; omega) (fun x hx => ?_) (by simpa using hup)
    have := List.mem_of_mem_take (by simpa using hx)
    simp only [List.mem_cons, List.not_mem_nil, or_false] at this
    rcases this with rfl | rfl
    . exact l1
    . exact l2
   have hs : (0 : Int) <= t.Rank /\ t.Rank <= ((2 : Nat) : Int) := ⟨hr0, by omega⟩
   have hsx : ∀ y : Option Int, zj ((0 : Int) <= t.Rank /\ t.Rank <= ((2 : Nat) : Int)) y = y := fun y => by unfold zj; rw [if_pos hs]
   rw [hc]
   simp only [hsx, Option.bind_some, cond_false, decide_true, Bool.true_and, Bool.and_true, Bool.not_true]
   have hr : t.Rank = 0 \/ t.Rank = 1 \/ t.Rank = 2 := by omega
   rcases hr with hr | hr | hr
   . rw [hr] at hbot ⊢
     simp only [Int.toNat_zero, List.drop_zero, List.all_cons, List.all_nil, Bool.and_true, Bool.and_eq_true, decide_eq_true_eq] at hbot
     simp [zck, hbot.1, hbot.2]
   . rw [hr] at hbot ⊢
     have e1 : (1 : Int).toNat = 1 := rfl
     simp only [e1, List.drop_succ_cons, List.drop_zero, List.all_cons, List.all_nil, Bool.and_true, decide_eq_true_eq] at hbot
     simp [zck, hbot]
   . rw [hr]
     simp [zck]
 unfold ztz
 have sw : ∀ (x y : Option (Unit ⊕ Int)), cond (!decide (t.Kind = 1)) (cond (!decide (t.Kind = 2)) (some (Sum.inr 7)) x) y = if t.Kind = 1 then y else x := fun x y => by
  by_cases k1 : t.Kind = 1
  . simp [k1]
  . have k2 : t.Kind = 2 := by omega
    simp [k2]
 rw [sw]
 simp only [zbo, l1, l2, l3, Option.bind_some, Bool.not_true, cond_false, c1, c2, decide_false, decide_true, Bool.true_and, ite_self, Sum.elim_inl] at tail ⊢
 exact tail
def axC (l : TL) (t : TY) (o : Int) : Bool × Bool := (decide (0 < t.Rank) && up l t.Axes.1.toNat o.toNat, decide (1 < t.Rank) && up l t.Axes.2.toNat o.toNat)
def siC (l : TL) (t : TY) (o : Int) : (Bool × Bool) × Bool := (axC l t o, up l t.Data.toNat o.toNat)
theorem zcy {l : TL} (h : LatIn l) {t : TY} (hg : yj l t = 0) {o : Int} (ho : qj l o = true) : zom l t o = some (axC l t o, up l t.Data.toNat o.toNat, 0) := by
 obtain ⟨hk, hkind, hr0, hr2, l1, l2, l3, hbot, hup⟩ := zcr hg
 have ok := je h hk
 unfold zom
 rw [zpq h hk]
 simp only [Option.bind_some, decide_true, Bool.not_true, cond_false, zjc h hg, zbo, ho]
 have hr : t.Rank = 0 \/ t.Rank = 1 \/ t.Rank = 2 := by omega
 refine (wv t.Rank.toNat (fun k => ((k : Int), (decide (0 < k) && up l t.Axes.1.toNat o.toNat, decide (1 < k) && up l t.Axes.2.toNat o.toNat))) (axC l t o) (fun k hk' => ?_) ?_ (by simp)).trans ?_
 . have hlt : (k : Int) < t.Rank := by omega
   have hw : IntKind.wrap .i64 ((k : Int) + 1) = ((k + 1 : Nat) : Int) := w64 (by omega) (by omega)
   have n1 : (0 : Int) <= (k : Int) := by omega
   have n2 : (0 : Int) <= (k : Int) /\ (k : Int) < ((2 : Nat) : Int) := ⟨n1, by omega⟩
   have hsx : ∀ y : Option ((Int × Bool × Bool) ⊕ ((Bool × Bool) ⊕ ((Bool × Bool) × Bool × Int))), zj ((0 : Int) <= (k : Int) /\ (k : Int) < ((2 : Nat) : Int)) y = y := fun y => by unfold zj; rw [if_pos n2]
   have hk2 : k = 0 \/ k = 1 := by omega
   simp only [hlt, decide_true, cond_true, hsx, zh, n1, if_true, Int.toNat_natCast, zg, hw]
   rcases hk2 with rfl | rfl
   . simp [jX ok _ l1 ho, qv, zj]
   . simp [jX ok _ l2 ho, qv, zj]
 . have e1 : ((t.Rank.toNat : Nat) : Int) = t.Rank := Int.toNat_of_nonneg hr0
   have e2 : ¬ ((t.Rank.toNat : Nat) : Int) < t.Rank := by omega
   simp only [e2, decide_false, cond_false, axC]
   have e3 : decide (0 < t.Rank.toNat) = decide (0 < t.Rank) := decide_eq_decide.2 (by omega)
   have e4 : decide (1 < t.Rank.toNat) = decide (1 < t.Rank) := decide_eq_decide.2 (by omega)
   rw [e3, e4]
 . simp only [jX ok _ l3 ho, Option.bind_some]
theorem zDp {l : TL} (ok : LatOK l) {a b c : Nat} (ha : a < l.Names.length) (hb : b < l.Names.length) (hc : c < l.Names.length) (h1 : up l a b = true) (h2 : up l b c = true) : up l a c = true := (ok.row a ha b hb h1).2 c hc h2
theorem zml {l : TL} (h : LatIn l) {t : TY} (hg : yj l t = 0) {o : Int} (ho : qj l o = true) : uF l t o = some (siC l t o) := by
 obtain ⟨hk, hkind, hr0, hr2, l1, l2, l3, hbot, hup⟩ := zcr hg
 have ok := je h hk
 obtain ⟨o0, o1⟩ := labB_iff.1 ho
 obtain ⟨a0, a1⟩ := labB_iff.1 l1
 obtain ⟨b0, b1⟩ := labB_iff.1 l2
 obtain ⟨d0, d1⟩ := labB_iff.1 l3
 have hle := ok.le
 have hlen := ok.len
 have bel : ∀ a : Int, 0 <= a -> a < (l.Names.length : Int) -> jH l a o = some (up l a.toNat o.toNat) := fun a h0 h1 => by
  have := jh ok.u8 (a := a.toNat) (b := o.toNat) (by omega) (by omega)
  rwa [Int.toNat_of_nonneg h0, Int.toNat_of_nonneg o0] at this
 unfold uF
 rw [bel _ d0 d1]
 simp only [Option.bind_some]
 have hr : t.Rank = 0 \/ t.Rank = 1 \/ t.Rank = 2 := by omega
 have tr : ∀ a : Int, 0 <= a -> a < (l.Names.length : Int) -> up l a.toNat t.Data.toNat = true -> up l t.Data.toNat o.toNat = true -> up l a.toNat o.toNat = true := fun a h0 h1 h2 h3 => zDp ok (by omega) (by omega) (by omega) h2 h3
 refine (wv t.Rank.toNat (fun k => ((k : Int), (decide (0 < k) && up l t.Axes.1.toNat o.toNat, decide (1 < k) && up l t.Axes.2.toNat o.toNat), up l t.Data.toNat o.toNat)) (siC l t o) (fun k hk' => ?_) ?_ (by simp)).trans rfl
 . have hlt : (k : Int) < t.Rank := by omega
   have hw : IntKind.wrap .i64 ((k : Int) + 1) = ((k + 1 : Nat) : Int) := w64 (by omega) (by omega)
   have n1 : (0 : Int) <= (k : Int) := by omega
   have n2 : (0 : Int) <= (k : Int) /\ (k : Int) < ((2 : Nat) : Int) := ⟨n1, by omega⟩
   have hsx : ∀ y : Option ((Int × (Bool × Bool) × Bool) ⊕ (((Bool × Bool) × Bool) ⊕ ((Bool × Bool) × Bool))), zj ((0 : Int) <= (k : Int) /\ (k : Int) < ((2 : Nat) : Int)) y = y := fun y => by unfold zj; rw [if_pos n2]
   have hk2 : k = 0 \/ k = 1 := by omega
   simp only [hlt, decide_true, cond_true, hsx, zh, n1, if_true, Int.toNat_natCast, zg, hw]
   rcases hk2 with rfl | rfl
   . have hu1 : up l t.Axes.1.toNat t.Data.toNat = true := by
      have : t.Rank.toNat = 1 \/ t.Rank.toNat = 2 := by omega
      rcases this with e | e <;> (rw [e] at hup; simp at hup) <;> first | exact hup | exact hup.1
     have := tr _ a0 a1 hu1
     simp only [List.getElem?_cons_zero, bel _ a0 a1, Option.bind_some]
     cases hd : up l t.Data.toNat o.toNat
     . simp [qv, zj]
     . simp [qv, this hd, zj]
   . have hu1 : up l t.Axes.2.toNat t.Data.toNat = true := by
      have : t.Rank.toNat = 2 := by omega
      rw [this] at hup; simp at hup; exact hup.2
     have := tr _ b0 b1 hu1
     simp only [List.getElem?_cons_zero, List.getElem?_cons_succ, bel _ b0 b1, Option.bind_some]
     cases hd : up l t.Data.toNat o.toNat
     . simp [qv, zj]
     . simp [qv, this hd, zj]
 . have e2 : ¬ ((t.Rank.toNat : Nat) : Int) < t.Rank := by omega
   simp only [e2, decide_false, cond_false, siC, axC]
   have e3 : decide (0 < t.Rank.toNat) = decide (0 < t.Rank) := decide_eq_decide.2 (by omega)
   have e4 : decide (1 < t.Rank.toNat) = decide (1 < t.Rank) := decide_eq_decide.2 (by omega)
   rw [e3, e4]
open Go
open Go
end Go.Sx.O
noncomputable section
namespace Go.Sx.O
open Go
def ftK (p : TP) (l : List (List TW)) (k : Nat) : Option Int := match l[k]? with | some w => if (qZ p w).2 = 0 then none else some (qZ p w).2 | none => none
theorem zeg {p : TP} (h : PolIn p) (l : List (List TW)) (hl : l.length <= 1000) (hw : ∀ w ∈ l, w.length <= 1000000) :
 zgn p l = some (if (yl p).2.2 = 0 then (match zA (ftK p l) 0 l.length with | some e => e | none => 0) else (yl p).2.2) := by
 unfold zgn
 rw [zax h]
 simp only [Option.bind_some]
 by_cases hk : (yl p).2.2 = 0
 case neg => simp [hk]
 simp only [hk, decide_true, Bool.not_true, cond_false, if_true]
 refine (qD l.length (fun k => (k : Int)) (ftK p l) () (fun k hk' => ?_) (by simp) rfl).trans ?_
 . obtain ⟨w, hx⟩ := zw hk'
   have hlt : (k : Int) < (l.length : Int) := by omega
   have hwr : IntKind.wrap .i64 ((k : Int) + 1) = ((k + 1 : Nat) : Int) := w64 (by omega) (by omega)
   have n1 : (0 : Int) <= (k : Int) := by omega
   simp only [List.length_map, hlt, decide_true, cond_true, zh, n1, if_true, Int.toNat_natCast, hx, Option.bind_some, zjq h w (hw w (List.mem_of_getElem? hx)), zg, hwr, ftK]
   by_cases e : (qZ p w).2 = 0 <;> simp [e]
 . cases zA (ftK p l) 0 l.length <;> rfl
theorem zm4 {p : TP} {w : List TW} (h : ¬ (yl p).2.2 = 0) : (qZ p w).2 = (yl p).2.2 := by unfold qZ; rw [if_neg h]
theorem zsv {p : TP} (h : PolIn p) {a : List TW} (ha : a.length <= 1000000) : zgn p [a] = some (qZ p a).2 := by
 rw [zeg h [a] (by simp) (by simpa using ha)]
 by_cases hk : (yl p).2.2 = 0
 . by_cases e : (qZ p a).2 = 0 <;> simp [hk, zA, ftK, e]
 . simp [hk, zm4 hk]
theorem zsa {p : TP} (h : PolIn p) {a b : List TW} (ha : a.length <= 1000000) (hb : b.length <= 1000000) : zgn p [a, b] = some (if (qZ p a).2 = 0 then (qZ p b).2 else (qZ p a).2) := by
 rw [zeg h [a, b] (by simp) (by simp [ha, hb])]
 by_cases hk : (yl p).2.2 = 0
 . by_cases e : (qZ p a).2 = 0 <;> by_cases e2 : (qZ p b).2 = 0 <;> simp [hk, zA, ftK, e, e2]
 . simp [hk, zm4 hk]
theorem zpd {p : TP} (h : PolIn p) (o : Int) : zh8 p o = some (if (yl p).2.2 = 0 then (if qj p.Lattice o = true then 0 else 7) else (yl p).2.2) := by
 unfold zh8
 rw [zbl h]
 by_cases hk : (yl p).2.2 = 0
 case neg => simp [hk]
 by_cases h1 : o < 0
 . have : ¬ qj p.Lattice o = true := fun e => by have := (labB_iff.1 e).1; omega
   simp [hk, h1, this]
 by_cases h2 : (p.Lattice.Names.length : Int) <= o
 . have : ¬ qj p.Lattice o = true := fun e => by have := (labB_iff.1 e).2; omega
   simp [hk, h1, h2, this]
 . have : qj p.Lattice o = true := labB_iff.2 ⟨by omega, by omega⟩
   simp [hk, h1, h2, this]
theorem zhi {l : TL} {o : Int} (h : ¬ qj l o = true) : o < 0 \/ (l.Names.length : Int) <= o := by
 rcases Int.lt_or_le o 0 with g | g
 . exact .inl g
 . rcases Int.lt_or_le o (l.Names.length : Int) with g2 | g2
   . exact absurd (labB_iff.2 ⟨g, g2⟩) h
   . exact .inr g2
end Go.Sx.O
end
namespace Go.Sx.O
open Go
theorem ztx (p : TP) (a b : List TW) (hu : U8s p.Lattice.Up) : ∃ r, Fz4 p a b = some r /\ (r = false -> PolIn p /\ a.length <= 40 /\ b.length <= 40) := by
 obtain ⟨x, hx, hf⟩ := zxq p hu
 obtain ⟨y, hy, hg⟩ := zkj a
 obtain ⟨z, hz, hh⟩ := zkj b
 unfold Fz4
 rw [hx, hy, hz]
 cases x
 . cases y
   . exact ⟨z, rfl, fun e => ⟨hf rfl, (hg rfl).1, (hh e).1⟩⟩
   . exact ⟨true, rfl, fun e => by cases e⟩
 . exact ⟨true, rfl, fun e => by cases e⟩
end Go.Sx.O
noncomputable section
namespace Go.Sx.O
open Go
def qO (s : (Bool × Bool) × Bool) (l m : Int × Int) : Int × Int := (if s.1.1 = true then l.1 else m.1, if s.1.2 = true then l.2 else m.2)
theorem zka {σ : Type} (s : (Bool × Bool) × Bool) (l m : Int × Int) {k1 : Int × Int -> Option σ} :
 (Option.bind (lpO (fun (s612 : Int × Int × Int) =>
 cond (decide (s612.fst < (2 : Int)))
 (zh ([s.fst.fst, s.fst.snd]) (s612.fst) fun x615 =>
 cond (!x615)
 (zj ((0 : Int) <= s612.fst /\ s612.fst < (↑(2 : Nat) : Int)) (
 zh ([m.fst, m.snd]) ((↑(Int.toNat s612.fst) : Int)) fun x617 =>
 zj ((0 : Int) <= s612.fst /\ s612.fst < (↑(2 : Nat) : Int)) (
 zh ([s612.snd.fst, s612.snd.snd]) ((↑(Int.toNat s612.fst) : Int)) fun _ =>
 zg (IntKind.wrap IntKind.i64 (s612.fst + (1 : Int))) fun x619 =>
 some (Sum.inl ((x619, qv s612.snd (Int.toNat s612.fst) x617))))))
 (zg (IntKind.wrap IntKind.i64 (s612.fst + (1 : Int))) fun x620 =>
 some (Sum.inl ((x620, s612.snd)))))
 (some (Sum.inr (Sum.inl (s612.snd) : (Int × Int) ⊕ σ)))) (((0 : Int), l)))
 (Sum.elim k1 some)) = k1 (qO s l m) := by
 obtain ⟨⟨s1, s2⟩, s3⟩ := s
 obtain ⟨l1, l2⟩ := l
 obtain ⟨m1, m2⟩ := m
 refine wv 2 (fun k => ((k : Int), (if k = 0 then l1 else if s1 = true then l1 else m1, if k < 2 then l2 else if s2 = true then l2 else m2))) (qO ((s1, s2), s3) (l1, l2) (m1, m2)) (fun k hk => ?_) (by simp [qO]) rfl
 have hk2 : k = 0 \/ k = 1 := by omega
 rcases hk2 with rfl | rfl
 . cases s1 <;> simp [zh, zj, zg, qv, show IntKind.wrap .i64 1 = 1 by decide]
 . cases s2 <;> simp [zh, zj, zg, qv, show IntKind.wrap .i64 2 = 2 by decide] <;> cases s1 <;> simp
def zcj (s : (Bool × Bool) × Bool) (a : TA) : TA := if s.2 = true then a else ⟨a.Kind, a.Rank, qO s a.Lens (0, 0), List.replicate (qr a.Rank (qO s a.Lens (0, 0))).toNat 0⟩
theorem uJ {r : Int} {l : Int × Int} (h : shC r l = 0) : 0 <= l.1 /\ l.1 <= 400 /\ 0 <= l.2 /\ l.2 <= 400 := by
 unfold shC at h
 repeat' split at h
 all_goals omega
theorem zg0 {r : Int} {l : Int × Int} (s : (Bool × Bool) × Bool) (h : shC r l = 0) : shC r (qO s l (0, 0)) = 0 := by
 obtain ⟨a0, a1, b0, b1⟩ := uJ h
 obtain ⟨⟨s1, s2⟩, s3⟩ := s
 unfold shC at h ⊢
 by_cases r0 : r = 0
 . simp only [r0, if_true] at h ⊢
   repeat' split at h
   all_goals first | omega | skip
   cases s1 <;> cases s2 <;> simp [qO, *]
 . by_cases r1 : r = 1
   . simp only [r1] at h ⊢
     simp (config := { decide := true }) only [if_false, if_true] at h ⊢
     repeat' split at h
     all_goals first | omega | skip
     cases s1 <;> cases s2 <;> simp [qO, *] <;> omega
   . by_cases r2 : r = 2
     . simp only [r2] at h ⊢
       simp (config := { decide := true }) only [if_false, if_true] at h ⊢
       repeat' split at h
       all_goals first | omega | skip
       cases s1 <;> cases s2 <;> simp [qO, *] <;> omega
     . simp only [r0, r1, r2, if_false] at h
       omega
theorem zwa {r : Int} {l : Int × Int} (h : shC r l = 0) {i : Int} (h0 : 0 <= i) (h1 : i < qr r l) : ∃ x, zf0 r l i = some (x, 0) := by
 obtain ⟨a0, a1, b0, b1⟩ := uJ h
 have c1 : ¬ i < 0 := by omega
 have c2 : ¬ qr r l <= i := by omega
 unfold zf0
 rw [wd]
 simp only [Option.bind_some, h, decide_true, Bool.not_true, cond_false, if_true, c1, c2, decide_false]
 by_cases h2 : r < 2
 . simp only [h2, decide_true, cond_true]; exact ⟨_, rfl⟩
 . have hr : r = 2 := by
    unfold shC at h
    repeat' split at h
    all_goals omega
   have hl : l.2 ≠ 0 := fun e => by
    unfold qr at h1
    rw [if_pos hr, e, Int.mul_zero] at h1
    omega
   simp only [h2, decide_false, cond_false, zj, hl, ne_eq, not_false_eq_true, if_true, zg]
   exact ⟨_, rfl⟩
theorem zr7 (n : Nat) : List.replicate n (0 : Int) ++ [0] = List.replicate (n + 1) 0 := by
 rw [List.replicate_succ']
theorem zjf (a : TA) (s : (Bool × Bool) × Bool) (h : shC a.Rank a.Lens = 0) : ztn a s (0, 0) = some (⟨a.Kind, a.Rank, qO s a.Lens (0, 0), List.replicate (qr a.Rank (qO s a.Lens (0, 0))).toNat 0⟩, true) := by
 unfold ztn
 rw [zka]
 have hs := zg0 s h
 obtain ⟨m0, m4⟩ := yB hs
 rw [wd]
 simp only [Option.bind_some, hs, decide_true, Bool.not_true, cond_false, if_true]
 generalize hM : qr a.Rank (qO s a.Lens (0, 0)) = M at m0 m4
 refine (wv M.toNat (fun k => ((k : Int), List.replicate k (0 : Int))) (List.replicate M.toNat (0 : Int)) (fun k hk => ?_) ?_ rfl).trans rfl
 . have hlt : (k : Int) < M := by omega
   have hw : IntKind.wrap .i64 ((k : Int) + 1) = ((k + 1 : Nat) : Int) := w64 (by omega) (by omega)
   obtain ⟨x, hx⟩ := zwa hs (i := (k : Int)) (by omega) (by rw [hM]; exact hlt)
   have hside : (k + 1) * 8 <= 70368744177664 := by omega
   simp only [hlt, decide_true, cond_true, hx, Option.bind_some, Bool.not_true, cond_false, zro, List.length_map, List.length_replicate, zj, hside, if_true, zg, hw, zr7]
 . have : ¬ ((M.toNat : Nat) : Int) < M := by omega
   simp only [this, decide_false, cond_false]
def jN (p : TP) (w : List TW) (o : Int) (n : Nat) : List TW := (List.range n).map fun k => match p.Vars[k]?, w[k]? with
 | some v, some x => ⟨x.Name, zcj (siC p.Lattice v.Type_ o) x.Value⟩
 | _, _ => ⟨[], ⟨0, 0, (0, 0), []⟩⟩
theorem zcb {p : TP} {w : List TW} {o : Int} {n : Nat} : (jN p w o n).length = n := by simp [jN]
theorem zke {p : TP} {w : List TW} {o : Int} {k : Nat} {v : TV} {x : TW} (hv : p.Vars[k]? = some v) (hx : w[k]? = some x) : jN p w o (k + 1) = jN p w o k ++ [⟨x.Name, zcj (siC p.Lattice v.Type_ o) x.Value⟩] := by
 unfold jN
 rw [List.range_succ, List.map_append]
 simp [hv, hx]
def zg6 (p : TP) (w : List TW) (o : Int) : List TW × Int := if (qZ p w).2 = 0 then (if qj p.Lattice o = true then (jN p w o p.Vars.length, 0) else ([], 7)) else ([], (qZ p w).2)
theorem zbp {a : TA} (h : wF a = 0) : shC a.Rank a.Lens = 0 /\ (a.Cells.length : Int) = qr a.Rank a.Lens := by
 unfold wF at h
 split at h
 . split at h
   . rename_i h1
     split at h
     . rename_i h2; exact ⟨h1, h2⟩
     . omega
   . rename_i h1; exact absurd h h1
 . omega
theorem zyt {p : TP} {w : List TW} {o : Int} {k : Nat} {v : TV} {x : TW} (hx : w[k]? = some x) (ha : wF x.Value = 0) : zs4 (k : Int) (siC p.Lattice v.Type_ o) w = some ⟨x.Name, zcj (siC p.Lattice v.Type_ o) x.Value⟩ := by
 unfold zs4 zcj
 have n1 : (0 : Int) <= (k : Int) := by omega
 simp only [zh, n1, if_true, Int.toNat_natCast, hx, Option.bind_some, zjf _ _ (zbp ha).1]
 cases (siC p.Lattice v.Type_ o).2 <;> simp
theorem zk9 {p : TP} (h : PolIn p) {w : List TW} (hw : w.length <= 1000000) (o : Int) : zr6 p w o = some (zg6 p w o) := by
 unfold zr6 zg6
 rw [zsv h hw]
 simp only [Option.bind_some]
 by_cases hf : (qZ p w).2 = 0
 case neg => simp [hf]
 obtain ⟨hk, hl, _, hfx⟩ := wR hf
 obtain ⟨h32, hgood⟩ := xB hk
 simp only [hf, decide_true, Bool.not_true, cond_false, if_true]
 unfold zw1
 simp only [List.length_map]
 by_cases ho : qj p.Lattice o = true
 case neg =>
  rcases zhi ho with g | g
  . simp [g, ho]
  . by_cases g2 : o < 0 <;> simp [g, g2, ho]
 obtain ⟨o0, o1⟩ := labB_iff.1 ho
 have c1 : ¬ o < 0 := by omega
 have c2 : ¬ (p.Lattice.Names.length : Int) <= o := by omega
 simp only [c1, c2, ho, decide_false, cond_false, if_true]
 refine (congrArg (fun x => Option.bind x fun y => some y) (wv p.Vars.length (fun k => ((k : Int), jN p w o k)) (jN p w o p.Vars.length) (fun k hk' => ?_) (by simp) rfl)).trans rfl
 obtain ⟨v, hv⟩ := zw hk'
 obtain ⟨x, hx⟩ := zw (l := w) (i := k) (by omega)
 have hlt : (k : Int) < (p.Vars.length : Int) := by omega
 have hwr : IntKind.wrap .i64 ((k : Int) + 1) = ((k + 1 : Nat) : Int) := w64 (by omega) (by omega)
 have n1 : (0 : Int) <= (k : Int) := by omega
 have hside : (k + 1) * 72 <= 70368744177664 := by omega
 have e1 : ((axC p.Lattice v.Type_ o, up p.Lattice v.Type_.Data.toNat o.toNat) : (Bool × Bool) × Bool) = siC p.Lattice v.Type_ o := rfl
 simp only [hlt, decide_true, cond_true, zh, n1, if_true, Int.toNat_natCast, hv, Option.bind_some, zcy h.lat (hgood v (List.mem_of_getElem? hv)) ho, Bool.not_true, cond_false, e1, zyt hx (hfx k x v hx hv).2.1, zg, hwr, zcb, zj, hside, zke hv hx]
end Go.Sx.O
end
namespace Go.Sx.O
open Go
theorem zta {σ : Type} (s : (Bool × Bool) × Bool) (l : Int × Int) {k1 : Int × Int -> Option σ} :
 (Option.bind (lpO (fun (s650 : Int × Int × Int) =>
 cond (decide (s650.fst < (2 : Int)))
 (zj ((0 : Int) <= s650.fst /\ s650.fst < (↑(2 : Nat) : Int)) (
 zh ([s.fst.fst, s.fst.snd]) ((↑(Int.toNat s650.fst) : Int)) fun x653 =>
 cond (!x653)
 (zj ((0 : Int) <= s650.fst /\ s650.fst < (↑(2 : Nat) : Int)) (
 zh ([s650.snd.fst, s650.snd.snd]) ((↑(Int.toNat s650.fst) : Int)) fun _ =>
 zg (IntKind.wrap IntKind.i64 (s650.fst + (1 : Int))) fun x656 =>
 some (Sum.inl ((x656, qv s650.snd (Int.toNat s650.fst) (0 : Int))))))
 (zg (IntKind.wrap IntKind.i64 (s650.fst + (1 : Int))) fun x657 =>
 some (Sum.inl ((x657, s650.snd))))))
 (some (Sum.inr (Sum.inl (s650.snd) : (Int × Int) ⊕ σ)))) (((0 : Int), l)))
 (Sum.elim k1 some)) = k1 (qO s l (0, 0)) := by
 obtain ⟨⟨s1, s2⟩, s3⟩ := s
 obtain ⟨l1, l2⟩ := l
 refine wv 2 (fun k => ((k : Int), (if k = 0 then l1 else if s1 = true then l1 else 0, if k < 2 then l2 else if s2 = true then l2 else 0))) (qO ((s1, s2), s3) (l1, l2) (0, 0)) (fun k hk => ?_) (by simp [qO]) rfl
 have hk2 : k = 0 \/ k = 1 := by omega
 rcases hk2 with rfl | rfl
 . cases s1 <;> simp [zh, zj, zg, qv, show IntKind.wrap .i64 1 = 1 by decide]
 . cases s2 <;> simp [zh, zj, zg, qv, show IntKind.wrap .i64 2 = 2 by decide] <;> cases s1 <;> simp
theorem zig {p : TP} (h : PolIn p) {w : List TW} {o : Int} (hf : (qZ p w).2 = 0) (ho : qj p.Lattice o = true) :
 (Option.bind (
 lpO (fun (s624 : Int × List TW) =>
 cond (decide (s624.fst < (↑(List.length (List.map zl w)) : Int)))
 (zh (p.Vars) (s624.fst) fun x644 =>
 Option.bind (uF (p.Lattice) (x644.Type_) (o)) fun x645 =>
 zh (w) (s624.fst) fun x646 =>
 cond (!x645.snd)
 (Option.bind (
 lpO (fun (s650 : Int × Int × Int) =>
 cond (decide (s650.fst < (2 : Int)))
 (zj ((0 : Int) <= s650.fst /\ s650.fst < (↑(2 : Nat) : Int)) (
 zh ([x645.fst.fst, x645.fst.snd]) ((↑(Int.toNat s650.fst) : Int)) fun x653 =>
 cond (!x653)
 (zj ((0 : Int) <= s650.fst /\ s650.fst < (↑(2 : Nat) : Int)) (
 zh ([s650.snd.fst, s650.snd.snd]) ((↑(Int.toNat s650.fst) : Int)) fun _ =>
 zg (IntKind.wrap IntKind.i64 (s650.fst + (1 : Int))) fun x656 =>
 some (Sum.inl ((x656, qv s650.snd (Int.toNat s650.fst) (0 : Int))))))
 (zg (IntKind.wrap IntKind.i64 (s650.fst + (1 : Int))) fun x657 =>
 some (Sum.inl ((x657, s650.snd))))))
 (some (Sum.inr (Sum.inl (s650.snd))))) (((0 : Int), x646.Value.Lens)))
 (Sum.elim (fun (s648 : Int × Int) =>
 Option.bind (za3 (x646.Value.Rank) (s648)) fun x658 =>
 zj ((0 : Int) <= x658 /\ x658 = x658 /\ x658 <= (70368744177664 : Int) /\ x658 * (↑(8 : Nat) : Int) <= (70368744177664 : Int)) (
 zh (w) (s624.fst) fun x659 =>
 zj ((List.length (List.map zl s624.snd) + (1 : Nat)) * (72 : Nat) <= (70368744177664 : Nat)) (
 zg (IntKind.wrap IntKind.i64 (s624.fst + (1 : Int))) fun x660 =>
 some (Sum.inl ((x660, s624.snd ++ [TW.mk x659.Name (TA.mk x646.Value.Kind x646.Value.Rank s648 (List.replicate (Int.toNat x658) (0 : Int)))])))))) some))
 (zh (w) (s624.fst) fun x661 =>
 zj ((List.length (List.map zl s624.snd) + (1 : Nat)) * (72 : Nat) <= (70368744177664 : Nat)) (
 zg (IntKind.wrap IntKind.i64 (s624.fst + (1 : Int))) fun x662 =>
 some (Sum.inl ((x662, s624.snd ++ [TW.mk x661.Name x646.Value]))))))
 (some (Sum.inr (Sum.inl (s624.snd))))) (((0 : Int), [])))
 (Sum.elim (fun (s622 : List TW) =>
 some ((s622, (0 : Int)))) some)) = (some (jN p w o p.Vars.length, 0) : Option (List TW × Int)) := by
 obtain ⟨hk, hl, _, hfx⟩ := wR hf
 obtain ⟨h32, hgood⟩ := xB hk
 simp only [List.length_map, hl]
 refine (wv p.Vars.length (fun k => ((k : Int), jN p w o k)) (jN p w o p.Vars.length) (fun k hk' => ?_) (by simp) rfl).trans rfl
 obtain ⟨v, hv⟩ := zw hk'
 obtain ⟨x, hx⟩ := zw (l := w) (i := k) (by omega)
 obtain ⟨sh, _⟩ := zbp (hfx k x v hx hv).2.1
 have hlt : (k : Int) < (p.Vars.length : Int) := by omega
 have hwr : IntKind.wrap .i64 ((k : Int) + 1) = ((k + 1 : Nat) : Int) := w64 (by omega) (by omega)
 have n1 : (0 : Int) <= (k : Int) := by omega
 have hside : (k + 1) * 72 <= 70368744177664 := by omega
 have hsB := zg0 (siC p.Lattice v.Type_ o) sh
 obtain ⟨m0, m4⟩ := yB hsB
 simp only [hlt, decide_true, cond_true, zh, n1, if_true, Int.toNat_natCast, hv, hx, Option.bind_some, zml h.lat (hgood v (List.mem_of_getElem? hv)) ho, zcb, hwr, zg]
 rw [zke hv hx]
 cases hc : (siC p.Lattice v.Type_ o).2
 . simp only [Bool.not_false, cond_true]
   refine (zta (siC p.Lattice v.Type_ o) x.Value.Lens).trans ?_
   simp only [zdj _ _ (.inl hsB), Option.bind_some, zj, hside, if_true]
   rw [if_pos ⟨m0, trivial, by omega, by omega⟩]
   simp [zcj, hc]
 . simp only [Bool.not_true, cond_false, zj, hside, if_true]
   simp [zcj, hc]
theorem zlb {p : TP} (h : PolIn p) {w : List TW} (hw : w.length <= 1000000) (o : Int) : zl8 p w o = some (zg6 p w o) := by
 unfold zl8 zg6
 refine (congrArg (Option.bind · _) (uk h w hw)).trans ?_
 refine (Option.bind_some _ _).trans ?_
 by_cases hf : (qZ p w).2 = 0
 case neg => simp [hf]
 obtain ⟨hk, _⟩ := wR hf
 rw [if_pos hf, decide_eq_true hf, cond_true, zpd h, if_pos hk]
 by_cases ho : qj p.Lattice o = true
 case neg => rw [if_neg ho, if_neg ho]; rfl
 rw [if_pos ho, if_pos ho]
 exact zig h hf ho
open Go
def ja (r : Int) (l x : Int × Int) : Int × Int :=
 if r = 0 then (if x.1 = 0 /\ x.2 = 0 then (0, 0) else (0, 4))
 else if r = 1 then (if 0 <= x.1 /\ x.1 < l.1 /\ x.2 = 0 then (x.1, 0) else (0, 4))
 else (if (0 <= x.1 /\ x.1 < l.1) /\ (0 <= x.2 /\ x.2 < l.2) then (x.1 * l.2 + x.2, 0) else (0, 4))
theorem zlq {r : Int} {l : Int × Int} (h : shC r l = 0) : r = 0 \/ r = 1 \/ r = 2 := by
 unfold shC at h
 repeat' split at h
 all_goals omega
theorem zEo {a b c d : Int} (h0 : 0 <= a) (h1 : a < c) (h2 : 0 <= b) (h3 : b < d) : 0 <= a * d + b /\ a * d + b < c * d := by
 have e1 : 0 <= a * d := Int.mul_nonneg h0 (by omega)
 have e2 : (a + 1) * d <= c * d := Int.mul_le_mul_of_nonneg_right (by omega) (by omega)
 rw [Int.add_mul, Int.one_mul] at e2
 omega
theorem zCo {r : Int} {l x : Int × Int} (h : shC r l = 0) (e : (ja r l x).2 = 0) : 0 <= (ja r l x).1 /\ (ja r l x).1 < qr r l := by
 unfold ja at e ⊢
 unfold qr
 rcases zlq h with rfl | rfl | rfl
 . simp only [if_true] at e ⊢
   split at e
   . rename_i g; simp [g]
   . exact absurd e (by decide)
 . simp (config := { decide := true }) only [if_false, if_true] at e ⊢
   split at e
   . rename_i g; rw [if_pos g]; exact ⟨g.1, g.2.1⟩
   . exact absurd e (by decide)
 . simp (config := { decide := true }) only [if_false, if_true] at e ⊢
   split at e
   . rename_i g; rw [if_pos g]; exact zEo g.1.1 g.1.2 g.2.1 g.2.2
   . exact absurd e (by decide)
theorem zgy {n : Int} (h0 : -1000000 <= n) (h1 : n <= 1000000) : IntKind.wrap .i64 n = n := w64 (by omega) (by omega)
theorem zhn {r : Int} {l : Int × Int} (h : shC r l = 0) (x : Int × Int) : zlu r l x = some (ja r l x) := by
 obtain ⟨a0, a1, b0, b1⟩ := uJ h
 obtain ⟨l1, l2⟩ := l
 obtain ⟨x1, x2⟩ := x
 simp only at a0 a1 b0 b1
 have w0 : IntKind.wrap .i64 0 = 0 := by decide
 unfold zlu ja
 rw [um, h]
 simp only [Option.bind_some, decide_true, Bool.not_true, cond_false]
 have hw1 : IntKind.wrap .i64 ((0 : Int) + 1) = 1 := by decide
 have hw2 : IntKind.wrap .i64 ((1 : Int) + 1) = 2 := by decide
 rcases zlq h with rfl | rfl | rfl
 . by_cases c1 : x1 < 0
   . have : ¬ x1 = 0 := by omega
     rw [zy]; simp [zh, c1, this]
   by_cases c2 : 1 <= x1
   . have : ¬ x1 = 0 := by omega
     rw [zy]; simp [zh, c1, c2, this]
   have : x1 = 0 := by omega
   subst this
   rw [zy]
   simp only [zh, zg, cond_true, if_true, Int.toNat_zero, List.getElem?_cons_zero, Option.bind_some, w0, hw1, Sum.elim_inl, Int.zero_mul, Int.add_zero, show decide ((0 : Int) < 2) = true by decide, show decide ((0 : Int) < 0) = false by decide, show decide ((1 : Int) <= 0) = false by decide, cond_false, show (0 : Int) <= 0 from Int.le_refl 0]
   by_cases d1 : x2 < 0
   . have : ¬ x2 = 0 := by omega
     rw [zy]; simp [d1, this]
   by_cases d2 : 1 <= x2
   . have : ¬ x2 = 0 := by omega
     rw [zy]; simp [d1, d2, this]
   have : x2 = 0 := by omega
   subst this
   rw [zy]
   simp only [cond_true, if_true, show (1 : Int).toNat = 1 from rfl, List.getElem?_cons_zero, List.getElem?_cons_succ, Option.bind_some, w0, hw2, Sum.elim_inl, Int.zero_mul, Int.add_zero, show decide ((1 : Int) < 2) = true by decide, show decide ((1 : Int) < 0) = false by decide, show decide ((0 : Int) < 0) = false by decide, show decide ((1 : Int) <= 0) = false by decide, cond_false, show (0 : Int) <= 1 by decide]
   rw [zy]
   simp
 . by_cases c1 : x1 < 0
   . have : ¬ 0 <= x1 := by omega
     rw [zy]; simp [zh, zj, c1, this]
   by_cases c2 : l1 <= x1
   . have : ¬ x1 < l1 := by omega
     rw [zy]; simp [zh, zj, c1, c2, this]
   have hx := zgy (n := x1) (by omega) (by omega)
   rw [zy]
   simp only [zh, zj, zg, cond_true, if_true, Int.toNat_zero, List.getElem?_cons_zero, Option.bind_some, w0, zgm, hx, Sum.elim_inl, Int.zero_mul, Int.zero_add, c1, c2, decide_false, show decide ((0 : Int) < 2) = true by decide, show decide ((0 : Int) < 1) = true by decide, cond_false, show (0 : Int) <= 0 from Int.le_refl 0, show (0 : Int) < ((2 : Nat) : Int) by decide, and_self, show ((0 : Nat) : Int) = 0 from rfl]
   by_cases d1 : x2 < 0
   . have : ¬ x2 = 0 := by omega
     rw [zy]; simp [d1, this]
   by_cases d2 : 1 <= x2
   . have : ¬ x2 = 0 := by omega
     rw [zy]; simp [d1, d2, this]
   have : x2 = 0 := by omega
   subst this
   rw [zy]
   have e1 : 0 <= x1 := by omega
   have e2 : x1 < l1 := by omega
   simp only [cond_true, if_true, show (1 : Int).toNat = 1 from rfl, List.getElem?_cons_zero, List.getElem?_cons_succ, Option.bind_some, hx, hw2, Sum.elim_inl, Int.mul_one, Int.add_zero, show decide ((1 : Int) < 2) = true by decide, show decide ((1 : Int) < 1) = false by decide, show decide ((0 : Int) < 0) = false by decide, show decide ((1 : Int) <= 0) = false by decide, cond_false, show (0 : Int) <= 1 by decide]
   rw [zy]
   simp [e1, e2]
 . by_cases c1 : x1 < 0
   . have : ¬ 0 <= x1 := by omega
     rw [zy]; simp [zh, zj, c1, this]
   by_cases c2 : l1 <= x1
   . have : ¬ x1 < l1 := by omega
     rw [zy]; simp [zh, zj, c1, c2, this]
   have hx := zgy (n := x1) (by omega) (by omega)
   rw [zy]
   simp only [zh, zj, zg, cond_true, if_true, Int.toNat_zero, List.getElem?_cons_zero, Option.bind_some, w0, zgm, hx, Sum.elim_inl, Int.zero_mul, Int.zero_add, c1, c2, decide_false, show decide ((0 : Int) < 2) = true by decide, cond_false, show (0 : Int) <= 0 from Int.le_refl 0, show (0 : Int) < ((2 : Nat) : Int) by decide, and_self, show ((0 : Nat) : Int) = 0 from rfl]
   by_cases d1 : x2 < 0
   . have : ¬ 0 <= x2 := by omega
     rw [zy]; simp [d1, this]
   by_cases d2 : l2 <= x2
   . have : ¬ x2 < l2 := by omega
     rw [zy]; simp [d1, d2, this]
   have e1 : 0 <= x1 := by omega
   have e2 : x1 < l1 := by omega
   have e3 : 0 <= x2 := by omega
   have e4 : x2 < l2 := by omega
   have m1 := zdw (a := x1) (b := l2) (by omega) (by omega) (by omega) (by omega)
   have hy := zgy (n := x1 * l2) (by omega) (by omega)
   have hz := zgy (n := x1 * l2 + x2) (by omega) (by omega)
   rw [zy]
   simp only [cond_true, if_true, show (1 : Int).toNat = 1 from rfl, show ((1 : Nat) : Int) = 1 from rfl, List.getElem?_cons_zero, List.getElem?_cons_succ, Option.bind_some, hy, hz, hw2, Sum.elim_inl, d1, d2, decide_false, show decide ((1 : Int) < 2) = true by decide, cond_false, show (0 : Int) <= 1 by decide, show (1 : Int) < ((2 : Nat) : Int) by decide, and_self]
   rw [zy]
   simp [e1, e2, e3, e4]
theorem zi4 {r : Int} {l : Int × Int} (h : shC r l = 0) (x : Int × Int) : zma r l x = some (ja r l x) := by
 obtain ⟨a0, a1, b0, b1⟩ := uJ h
 obtain ⟨l1, l2⟩ := l
 obtain ⟨x1, x2⟩ := x
 simp only at a0 a1 b0 b1
 unfold zma ja
 rw [zar, h]
 simp only [Option.bind_some, decide_true, Bool.not_true, cond_false]
 have hw1 : IntKind.wrap .i64 ((0 : Int) + 1) = 1 := by decide
 have hw2 : IntKind.wrap .i64 ((1 : Int) + 1) = 2 := by decide
 rcases zlq h with rfl | rfl | rfl
 . by_cases c1 : x1 = 0
   case neg => rw [zy]; simp [zh, zj, c1]
   rw [zy]
   simp only [zh, zj, zg, c1, decide_true, cond_true, if_true, Int.toNat_zero, List.getElem?_cons_zero, Option.bind_some, hw1, Sum.elim_inl, show decide ((0 : Int) < 2) = true by decide, show decide ((0 : Int) < 0) = false by decide, cond_false, show (0 : Int) <= 0 from Int.le_refl 0, show (0 : Int) < ((2 : Nat) : Int) by decide, and_self, show ((0 : Nat) : Int) = 0 from rfl, Bool.not_true]
   by_cases d1 : x2 = 0
   case neg => rw [zy]; simp [d1]
   rw [zy]
   simp only [d1, decide_true, cond_true, if_true, show (1 : Int).toNat = 1 from rfl, show ((1 : Nat) : Int) = 1 from rfl, List.getElem?_cons_zero, List.getElem?_cons_succ, Option.bind_some, hw2, Sum.elim_inl, show decide ((1 : Int) < 2) = true by decide, show decide ((1 : Int) < 0) = false by decide, cond_false, show (0 : Int) <= 1 by decide, show (1 : Int) < ((2 : Nat) : Int) by decide, and_self, Bool.not_true]
   rw [zy]
   simp
 . by_cases c1 : x1 < 0
   . have : ¬ 0 <= x1 := by omega
     rw [zy]; simp [zh, zj, c1, this]
   by_cases c2 : l1 <= x1
   . have : ¬ x1 < l1 := by omega
     rw [zy]; simp [zh, zj, c2, this]
   rw [zy]
   simp only [zh, zj, zg, cond_true, if_true, Int.toNat_zero, List.getElem?_cons_zero, Option.bind_some, hw1, Sum.elim_inl, c1, c2, decide_false, show decide ((0 : Int) < 2) = true by decide, show decide ((0 : Int) < 1) = true by decide, show decide ((1 : Int) <= 0) = false by decide, cond_false, show (0 : Int) <= 0 from Int.le_refl 0, show (0 : Int) < ((2 : Nat) : Int) by decide, and_self, show ((0 : Nat) : Int) = 0 from rfl]
   by_cases d1 : x2 = 0
   case neg => rw [zy]; simp [d1]
   have e1 : 0 <= x1 := by omega
   have e2 : x1 < l1 := by omega
   rw [zy]
   simp only [d1, decide_true, cond_true, if_true, show (1 : Int).toNat = 1 from rfl, show ((1 : Nat) : Int) = 1 from rfl, List.getElem?_cons_zero, List.getElem?_cons_succ, Option.bind_some, hw2, Sum.elim_inl, show decide ((1 : Int) < 2) = true by decide, show decide ((1 : Int) < 1) = false by decide, show decide ((1 : Int) <= 1) = true by decide, cond_false, show (0 : Int) <= 1 by decide, show (1 : Int) < ((2 : Nat) : Int) by decide, and_self, Bool.not_true]
   rw [zy]
   simp [e1, e2]
 . by_cases c1 : x1 < 0
   . have : ¬ 0 <= x1 := by omega
     rw [zy]; simp [zh, zj, c1, this]
   by_cases c2 : l1 <= x1
   . have : ¬ x1 < l1 := by omega
     rw [zy]; simp [zh, zj, c2, this]
   rw [zy]
   simp only [zh, zj, zg, decide_true, cond_true, if_true, Int.toNat_zero, List.getElem?_cons_zero, Option.bind_some, hw1, Sum.elim_inl, c1, c2, decide_false, show decide ((0 : Int) < 2) = true by decide, show decide ((2 : Int) <= 0) = false by decide, cond_false, show (0 : Int) <= 0 from Int.le_refl 0, show (0 : Int) < ((2 : Nat) : Int) by decide, and_self, show ((0 : Nat) : Int) = 0 from rfl]
   by_cases d1 : x2 < 0
   . have : ¬ 0 <= x2 := by omega
     rw [zy]; simp [d1, this]
   by_cases d2 : l2 <= x2
   . have : ¬ x2 < l2 := by omega
     rw [zy]; simp [d2, this]
   have e1 : 0 <= x1 := by omega
   have e2 : x1 < l1 := by omega
   have e3 : 0 <= x2 := by omega
   have e4 : x2 < l2 := by omega
   have m1 := zdw (a := x1) (b := l2) (by omega) (by omega) (by omega) (by omega)
   have hy := zgy (n := x1 * l2) (by omega) (by omega)
   have hz := zgy (n := x1 * l2 + x2) (by omega) (by omega)
   rw [zy]
   simp only [cond_true, if_true, show (1 : Int).toNat = 1 from rfl, show ((1 : Nat) : Int) = 1 from rfl, List.getElem?_cons_zero, List.getElem?_cons_succ, Option.bind_some, hw2, Sum.elim_inl, d1, d2, decide_false, show decide ((1 : Int) < 2) = true by decide, show decide ((2 : Int) <= 1) = false by decide, cond_false, show (0 : Int) <= 1 by decide, show (1 : Int) < ((2 : Nat) : Int) by decide, and_self]
   rw [zy]
   simp [e1, e2, e3, e4, hy, hz]
def atC (a : TA) (x : Int × Int) : Int := if (ja a.Rank a.Lens x).2 = 0 then a.Cells.getD (ja a.Rank a.Lens x).1.toNat 0 else 0
theorem zv6 {a : TA} (h : wF a = 0) {x : Int × Int} (e : (ja a.Rank a.Lens x).2 = 0) : ∃ v, a.Cells[(ja a.Rank a.Lens x).1.toNat]? = some v /\ atC a x = v /\ 0 <= (ja a.Rank a.Lens x).1 := by
 obtain ⟨sh, hl⟩ := zbp h
 obtain ⟨h0, h1⟩ := zCo sh e
 obtain ⟨v, hv⟩ := zw (l := a.Cells) (i := (ja a.Rank a.Lens x).1.toNat) (by omega)
 refine ⟨v, hv, ?_, h0⟩
 unfold atC
 rw [if_pos e, yW hv]
theorem znj {a : TA} (h : wF a = 0) (x : Int × Int) : ∃ e, zlh a x = some (atC a x, e) := by
 obtain ⟨sh, hl⟩ := zbp h
 unfold zlh zrh
 rw [zak, h]
 simp only [Option.bind_some, decide_true, Bool.not_true, cond_false, zhn sh]
 by_cases e : (ja a.Rank a.Lens x).2 = 0
 . obtain ⟨v, hv, ha, h0⟩ := zv6 h e
   exact ⟨0, by simp [e, zh, h0, hv, ha]⟩
 . refine ⟨(ja a.Rank a.Lens x).2, ?_⟩
   have : atC a x = 0 := by unfold atC; rw [if_neg e]
   simp [e, this]
theorem zpl {a : TA} (h : wF a = 0) (x : Int × Int) : ∃ e, zlo a x = some (atC a x, e) := by
 obtain ⟨sh, hl⟩ := zbp h
 unfold zlo
 rw [zaz, h]
 simp only [Option.bind_some, decide_true, Bool.not_true, cond_false, zi4 sh]
 by_cases e : (ja a.Rank a.Lens x).2 = 0
 . obtain ⟨v, hv, ha, h0⟩ := zv6 h e
   exact ⟨0, by simp [e, zh, h0, hv, ha]⟩
 . refine ⟨(ja a.Rank a.Lens x).2, ?_⟩
   have : atC a x = 0 := by unfold atC; rw [if_neg e]
   simp [e, this]
def ixC (r : Int) (l : Int × Int) (i : Int) : Int × Int := if r = 2 then (Int.tdiv i l.2, Int.tmod i l.2) else (i, 0)
theorem zy3 {i d : Int} (h0 : 0 <= i) (h1 : i <= 1000) (h2 : 0 <= d) : IntKind.wrap .i64 (Int.tdiv i d) = Int.tdiv i d := by
 have e1 : 0 <= Int.tdiv i d := Int.tdiv_nonneg h0 h2
 have e2 : Int.tdiv i d <= i := Int.tdiv_le_self d h0
 exact zgy (by omega) (by omega)
theorem zni {r : Int} {l : Int × Int} {i : Int} (h0 : 0 <= i) (h1 : i < qr r l) (hr : r = 2) : l.2 ≠ 0 := fun e => by
 unfold qr at h1
 rw [if_pos hr, e, Int.mul_zero] at h1
 omega
theorem zh3 {r : Int} {l : Int × Int} (h : shC r l = 0) {i : Int} (h0 : 0 <= i) (h1 : i < qr r l) : zf0 r l i = some (ixC r l i, 0) := by
 obtain ⟨a0, a1, b0, b1⟩ := uJ h
 obtain ⟨m0, m4⟩ := yB h
 have c1 : ¬ i < 0 := by omega
 have c2 : ¬ qr r l <= i := by omega
 unfold zf0 ixC
 rw [wd]
 simp only [Option.bind_some, h, decide_true, Bool.not_true, cond_false, if_true, c1, c2, decide_false]
 by_cases h2 : r < 2
 . have : ¬ r = 2 := by omega
   simp [h2, this]
 . have hr : r = 2 := by rcases zlq h with e | e | e <;> omega
   simp [hr, zj, zni h0 h1 hr, zg, zy3 (i := i) (d := l.2) h0 (by omega) b0]
theorem zi3 {r : Int} {l : Int × Int} (h : shC r l = 0) {i : Int} (h0 : 0 <= i) (h1 : i < qr r l) : zlv r l i = some (ixC r l i, 0) := by
 obtain ⟨a0, a1, b0, b1⟩ := uJ h
 obtain ⟨m0, m4⟩ := yB h
 have c1 : ¬ i < 0 := by omega
 have c2 : ¬ qr r l <= i := by omega
 unfold zlv ixC
 rw [ye]
 simp only [Option.bind_some, h, decide_true, Bool.not_true, cond_false, cond_true, if_true, c1, c2, decide_false]
 by_cases hr : r = 2
 . simp [hr, zj, zni h0 h1 hr, zg, zy3 (i := i) (d := l.2) h0 (by omega) b0]
 . simp [hr]
end Go.Sx.O
noncomputable section
namespace Go.Sx.O
open Go
def zcn (s : (Bool × Bool) × Bool) (a b : TA) : TA := if s.2 = true then a else if shC a.Rank (qO s a.Lens b.Lens) = 0 then ⟨a.Kind, a.Rank, qO s a.Lens b.Lens, (List.range (qr a.Rank (qO s a.Lens b.Lens)).toNat).map fun (i : Nat) => atC b (ixC a.Rank (qO s a.Lens b.Lens) (i : Int))⟩ else a
theorem zhm {α : Type} (f : Nat -> α) (k : Nat) : (List.range k).map f ++ [f k] = (List.range (k + 1)).map f := by
 rw [List.range_succ, List.map_append]; rfl
theorem zy1 {b : List TW} {k : Nat} {y : TW} (hy : b[k]? = some y) (ha : wF y.Value = 0) (x : Int × Int) : zme x b (k : Int) = some (atC y.Value x) := by
 obtain ⟨e, he⟩ := znj ha x
 have n1 : (0 : Int) <= (k : Int) := by omega
 unfold zme
 simp only [zh, n1, if_true, Int.toNat_natCast, hy, Option.bind_some, he]
theorem zk4 (a : TA) (s : (Bool × Bool) × Bool) (m : Int × Int) {b : List TW} {k : Nat} {y : TW} (hy : b[k]? = some y) (ha : wF y.Value = 0) :
 zl3 a s m (b, (k : Int)) = some (if shC a.Rank (qO s a.Lens m) = 0 then (⟨a.Kind, a.Rank, qO s a.Lens m, (List.range (qr a.Rank (qO s a.Lens m)).toNat).map fun (i : Nat) => atC y.Value (ixC a.Rank (qO s a.Lens m) (i : Int))⟩, true) else (⟨0, 0, (0, 0), []⟩, false)) := by
 unfold zl3
 rw [zka]
 by_cases hs : shC a.Rank (qO s a.Lens m) = 0
 case neg => rw [wd]; simp [hs]
 obtain ⟨m0, m4⟩ := yB hs
 rw [wd]
 simp only [Option.bind_some, hs, decide_true, Bool.not_true, cond_false, if_true]
 generalize hM : qr a.Rank (qO s a.Lens m) = M at m0 m4
 refine (wv M.toNat (fun k => ((k : Int), (List.range k).map fun (i : Nat) => atC y.Value (ixC a.Rank (qO s a.Lens m) (i : Int)))) ((List.range M.toNat).map fun (i : Nat) => atC y.Value (ixC a.Rank (qO s a.Lens m) (i : Int))) (fun k hk => ?_) ?_ rfl).trans rfl
 . have hlt : (k : Int) < M := by omega
   have hw : IntKind.wrap .i64 ((k : Int) + 1) = ((k + 1 : Nat) : Int) := w64 (by omega) (by omega)
   have hx := zh3 hs (i := (k : Int)) (by omega) (by rw [hM]; exact hlt)
   have hside : (k + 1) * 8 <= 70368744177664 := by omega
   simp only [hlt, decide_true, cond_true, hx, Option.bind_some, Bool.not_true, cond_false, zy1 hy ha, List.length_map, List.length_range, zj, hside, if_true, zg, hw]
   rw [zhm (fun (i : Nat) => atC y.Value (ixC a.Rank (qO s a.Lens m) (i : Int)))]
 . have : ¬ ((M.toNat : Nat) : Int) < M := by omega
   simp only [this, decide_false, cond_false]
theorem zAb {s : (Bool × Bool) × Bool} {a b : List TW} {k : Nat} {x y : TW} (hx : a[k]? = some x) (hy : b[k]? = some y) (ha : wF y.Value = 0) : zlm (k : Int) s a b = some ⟨x.Name, zcn s x.Value y.Value⟩ := by
 unfold zlm zcn
 have n1 : (0 : Int) <= (k : Int) := by omega
 simp only [zh, n1, if_true, Int.toNat_natCast, hx, hy, Option.bind_some, zk4 _ s _ hy ha]
 cases s.2
 . by_cases hs : shC x.Value.Rank (qO s x.Value.Lens y.Value.Lens) = 0 <;> simp [hs]
 . simp
theorem ztm {σ : Type} (s : (Bool × Bool) × Bool) (l m : Int × Int) {k1 : Int × Int -> Option σ} :
 (Option.bind (
 lpO (fun (s741 : Int × Int × Int) =>
 cond (decide (s741.fst < (2 : Int)))
 (zj ((0 : Int) <= s741.fst /\ s741.fst < (↑(2 : Nat) : Int)) (
 zh ([s.fst.fst, s.fst.snd]) ((↑(Int.toNat s741.fst) : Int)) fun x744 =>
 cond (!x744)
 (zj ((0 : Int) <= s741.fst /\ s741.fst < (↑(2 : Nat) : Int)) (
 zh ([m.fst, m.snd]) ((↑(Int.toNat s741.fst) : Int)) fun x746 =>
 zj ((0 : Int) <= s741.fst /\ s741.fst < (↑(2 : Nat) : Int)) (
 zh ([s741.snd.fst, s741.snd.snd]) ((↑(Int.toNat s741.fst) : Int)) fun _ =>
 zg (IntKind.wrap IntKind.i64 (s741.fst + (1 : Int))) fun x748 =>
 some (Sum.inl ((x748, qv s741.snd (Int.toNat s741.fst) x746))))))
 (zg (IntKind.wrap IntKind.i64 (s741.fst + (1 : Int))) fun x749 =>
 some (Sum.inl ((x749, s741.snd))))))
 (some (Sum.inr (Sum.inl (s741.snd) : (Int × Int) ⊕ σ)))) (((0 : Int), l)))
 (Sum.elim k1 some)) = k1 (qO s l m) := by
 obtain ⟨⟨s1, s2⟩, s3⟩ := s
 obtain ⟨l1, l2⟩ := l
 obtain ⟨m1, m2⟩ := m
 refine wv 2 (fun k => ((k : Int), (if k = 0 then l1 else if s1 = true then l1 else m1, if k < 2 then l2 else if s2 = true then l2 else m2))) (qO ((s1, s2), s3) (l1, l2) (m1, m2)) (fun k hk => ?_) (by simp [qO]) rfl
 have hk2 : k = 0 \/ k = 1 := by omega
 rcases hk2 with rfl | rfl
 . cases s1 <;> simp [zh, zj, zg, qv, show IntKind.wrap .i64 1 = 1 by decide]
 . cases s2 <;> simp [zh, zj, zg, qv, show IntKind.wrap .i64 2 = 2 by decide] <;> cases s1 <;> simp
theorem zyf (s : (Bool × Bool) × Bool) (a b : TA) (hb : wF b = 0) : ze3 s a b = some (zcn s a b) := by
 unfold ze3 zcn
 by_cases s2 : s.2 = true
 . rw [s2]; simp
 rw [if_neg s2, Bool.eq_false_iff.2 s2, cond_false]
 refine (ztm s a.Lens b.Lens).trans ?_
 by_cases hs : shC a.Rank (qO s a.Lens b.Lens) = 0
 case neg => rw [ye]; simp [hs]
 obtain ⟨m0, m4⟩ := yB hs
 rw [ye]
 simp only [Option.bind_some, hs, decide_true, Bool.not_true, cond_false, if_true]
 generalize hM : qr a.Rank (qO s a.Lens b.Lens) = M at m0 m4
 refine (wv M.toNat (fun k => ((k : Int), (List.range k).map fun (i : Nat) => atC b (ixC a.Rank (qO s a.Lens b.Lens) (i : Int)))) ((List.range M.toNat).map fun (i : Nat) => atC b (ixC a.Rank (qO s a.Lens b.Lens) (i : Int))) (fun k hk => ?_) ?_ rfl).trans rfl
 . have hlt : (k : Int) < M := by omega
   have hw : IntKind.wrap .i64 ((k : Int) + 1) = ((k + 1 : Nat) : Int) := w64 (by omega) (by omega)
   have hx := zi3 hs (i := (k : Int)) (by omega) (by rw [hM]; exact hlt)
   obtain ⟨e, he⟩ := zpl hb (ixC a.Rank (qO s a.Lens b.Lens) (k : Int))
   have hside : (k + 1) * 8 <= 70368744177664 := by omega
   simp only [hlt, decide_true, cond_true, hx, Option.bind_some, he, List.length_map, List.length_range, zj, hside, if_true, zg, hw]
   rw [zhm (fun (i : Nat) => atC b (ixC a.Rank (qO s a.Lens b.Lens) (i : Int)))]
 . have : ¬ ((M.toNat : Nat) : Int) < M := by omega
   simp only [this, decide_false, cond_false]
def jF (p : TP) (a b : List TW) (o : Int) (n : Nat) : List TW := (List.range n).map fun k => match p.Vars[k]?, a[k]?, b[k]? with
 | some v, some x, some y => ⟨x.Name, zcn (siC p.Lattice v.Type_ o) x.Value y.Value⟩
 | _, _, _ => ⟨[], ⟨0, 0, (0, 0), []⟩⟩
theorem zb3 {p : TP} {a b : List TW} {o : Int} {n : Nat} : (jF p a b o n).length = n := by simp [jF]
theorem zj9 {p : TP} {a b : List TW} {o : Int} {k : Nat} {v : TV} {x y : TW} (hv : p.Vars[k]? = some v) (hx : a[k]? = some x) (hy : b[k]? = some y) : jF p a b o (k + 1) = jF p a b o k ++ [⟨x.Name, zcn (siC p.Lattice v.Type_ o) x.Value y.Value⟩] := by
 unfold jF
 rw [List.range_succ, List.map_append]
 simp [hv, hx, hy]
def zgi (p : TP) (a b : List TW) (o : Int) : List TW × Int := if (qZ p a).2 = 0 then (if (qZ p b).2 = 0 then (if qj p.Lattice o = true then (jF p a b o p.Vars.length, 0) else ([], 7)) else ([], (qZ p b).2)) else ([], (qZ p a).2)
theorem znn {p : TP} (h : PolIn p) {a b : List TW} (ha : a.length <= 1000000) (hb : b.length <= 1000000) (o : Int) : zlr p a b o = some (zgi p a b o) := by
 unfold zlr zgi
 rw [zsa h ha hb]
 simp only [Option.bind_some]
 by_cases hf : (qZ p a).2 = 0
 case neg => simp [hf]
 by_cases hg : (qZ p b).2 = 0
 case neg => simp [hf, hg]
 obtain ⟨hk, hl, _, hfx⟩ := wR hf
 obtain ⟨_, hl2, _, hgx⟩ := wR hg
 obtain ⟨h32, hgood⟩ := xB hk
 simp only [hf, hg, decide_true, Bool.not_true, cond_false, if_true]
 unfold zrq
 simp only [List.length_map]
 by_cases ho : qj p.Lattice o = true
 case neg =>
  rcases zhi ho with g | g
  . simp [g, ho]
  . by_cases g2 : o < 0 <;> simp [g, g2, ho]
 obtain ⟨o0, o1⟩ := labB_iff.1 ho
 have c1 : ¬ o < 0 := by omega
 have c2 : ¬ (p.Lattice.Names.length : Int) <= o := by omega
 simp only [c1, c2, ho, decide_false, cond_false, if_true]
 refine (congrArg (fun x => Option.bind x fun y => some y) (wv p.Vars.length (fun k => ((k : Int), jF p a b o k)) (jF p a b o p.Vars.length) (fun k hk' => ?_) (by simp) rfl)).trans rfl
 obtain ⟨v, hv⟩ := zw hk'
 obtain ⟨x, hx⟩ := zw (l := a) (i := k) (by omega)
 obtain ⟨y, hy⟩ := zw (l := b) (i := k) (by omega)
 have hlt : (k : Int) < (p.Vars.length : Int) := by omega
 have hwr : IntKind.wrap .i64 ((k : Int) + 1) = ((k + 1 : Nat) : Int) := w64 (by omega) (by omega)
 have n1 : (0 : Int) <= (k : Int) := by omega
 have hside : (k + 1) * 72 <= 70368744177664 := by omega
 have e1 : ((axC p.Lattice v.Type_ o, up p.Lattice v.Type_.Data.toNat o.toNat) : (Bool × Bool) × Bool) = siC p.Lattice v.Type_ o := rfl
 simp only [hlt, decide_true, cond_true, zh, n1, if_true, Int.toNat_natCast, hv, Option.bind_some, zcy h.lat (hgood v (List.mem_of_getElem? hv)) ho, Bool.not_true, cond_false, e1, zAb hx hy (hgx k y v hy hv).2.1, zg, hwr, zb3, zj, hside, zj9 hv hx hy]
theorem zi0 {p : TP} (h : PolIn p) {a b : List TW} {o : Int} (hf : (qZ p a).2 = 0) (hg : (qZ p b).2 = 0) (ho : qj p.Lattice o = true) :
 (Option.bind (
 lpO (fun (s732 : Int × List TW) =>
 cond (decide (s732.fst < (↑(List.length (List.map zl a)) : Int)))
 (zh (a) (s732.fst) fun x741 =>
 zh (p.Vars) (s732.fst) fun x742 =>
 Option.bind (uF (p.Lattice) (x742.Type_) (o)) fun x743 =>
 zh (a) (s732.fst) fun x744 =>
 zh (b) (s732.fst) fun x745 =>
 Option.bind (ze3 (x743) (x744.Value) (x745.Value)) fun x746 =>
 zj ((List.length (List.map zl s732.snd) + (1 : Nat)) * (72 : Nat) <= (70368744177664 : Nat)) (
 zg (IntKind.wrap IntKind.i64 (s732.fst + (1 : Int))) fun x747 =>
 some (Sum.inl ((x747, s732.snd ++ [TW.mk x741.Name x746])))))
 (some (Sum.inr (Sum.inl (s732.snd))))) (((0 : Int), [])))
 (Sum.elim (fun (s730 : List TW) =>
 some ((s730, (0 : Int)))) some)) = (some (jF p a b o p.Vars.length, 0) : Option (List TW × Int)) := by
 obtain ⟨hk, hl, _, hfx⟩ := wR hf
 obtain ⟨_, hl2, _, hgx⟩ := wR hg
 obtain ⟨h32, hgood⟩ := xB hk
 simp only [List.length_map, hl]
 refine (wv p.Vars.length (fun k => ((k : Int), jF p a b o k)) (jF p a b o p.Vars.length) (fun k hk' => ?_) (by simp) rfl).trans rfl
 obtain ⟨v, hv⟩ := zw hk'
 obtain ⟨x, hx⟩ := zw (l := a) (i := k) (by omega)
 obtain ⟨y, hy⟩ := zw (l := b) (i := k) (by omega)
 have hlt : (k : Int) < (p.Vars.length : Int) := by omega
 have hwr : IntKind.wrap .i64 ((k : Int) + 1) = ((k + 1 : Nat) : Int) := w64 (by omega) (by omega)
 have n1 : (0 : Int) <= (k : Int) := by omega
 have hside : (k + 1) * 72 <= 70368744177664 := by omega
 simp only [hlt, decide_true, cond_true, zh, n1, if_true, Int.toNat_natCast, hv, hx, hy, Option.bind_some, zml h.lat (hgood v (List.mem_of_getElem? hv)) ho, zyf _ _ _ (hgx k y v hy hv).2.1, zb3, hwr, zg, zj, hside, zj9 hv hx hy]
theorem zm2 {p : TP} (h : PolIn p) {a b : List TW} (ha : a.length <= 1000000) (hb : b.length <= 1000000) (o : Int) : zlp p a b o = some (zgi p a b o) := by
 unfold zlp zgi zr8
 rw [uk h a ha, uk h b hb]
 simp only [Option.bind_some]
 by_cases hf : (qZ p a).2 = 0
 case neg => simp [hf]
 by_cases hg : (qZ p b).2 = 0
 case neg => simp [hf, hg]
 obtain ⟨hk, _⟩ := wR hf
 rw [if_pos hf, if_pos hg, decide_eq_true hf, cond_true, Option.bind_some, decide_eq_true hg, cond_true, zpd h, if_pos hk]
 by_cases ho : qj p.Lattice o = true
 case neg => rw [if_neg ho, if_neg ho]; rfl
 rw [if_pos ho, if_pos ho]
 exact zi0 h hf hg ho
end Go.Sx.O
end
namespace Go.Sx.O
open Go
theorem zxa {p : TP} {w : List TW} {o : Int} {n k : Nat} (hk : k < n) {v : TV} {x : TW} (hv : p.Vars[k]? = some v) (hx : w[k]? = some x) : (jN p w o n)[k]? = some ⟨x.Name, zcj (siC p.Lattice v.Type_ o) x.Value⟩ := by
 unfold jN
 rw [List.getElem?_map, List.getElem?_range hk]
 simp [hv, hx]
theorem zyc {p : TP} {a b : List TW} {o : Int} {n k : Nat} (hk : k < n) {v : TV} {x y : TW} (hv : p.Vars[k]? = some v) (hx : a[k]? = some x) (hy : b[k]? = some y) : (jF p a b o n)[k]? = some ⟨x.Name, zcn (siC p.Lattice v.Type_ o) x.Value y.Value⟩ := by
 unfold jF
 rw [List.getElem?_map, List.getElem?_range hk]
 simp [hv, hx, hy]
theorem zs7 {s : (Bool × Bool) × Bool} {a : TA} (h : wF a = 0) : (zcj s a).Cells.length <= 400 := by
 unfold zcj
 split
 . exact zhb h
 . have := yB (zg0 s (zbp h).1)
   simp only [List.length_replicate]
   omega
theorem ztu {s : (Bool × Bool) × Bool} {a b : TA} (h : wF a = 0) : (zcn s a b).Cells.length <= 400 := by
 unfold zcn
 split
 . exact zhb h
 . split
   . rename_i hs
     have := yB hs
     simp only [List.length_map, List.length_range]
     omega
   . exact zhb h
theorem ztt {p : TP} {w : List TW} {o : Int} : (zg6 p w o).1.length <= 32 /\ ∀ x ∈ (zg6 p w o).1, x.Value.Cells.length <= 400 := by
 unfold zg6
 split
 case isFalse => simp
 rename_i hf
 split
 case isFalse => simp
 obtain ⟨hk, hl, _, hfx⟩ := wR hf
 obtain ⟨h32, _⟩ := xB hk
 refine ⟨by simpa only [zcb] using h32, fun z hz => ?_⟩
 obtain ⟨k, hk'⟩ := List.mem_iff_getElem?.1 hz
 have hlt : k < p.Vars.length := by have := (List.getElem?_eq_some_iff.1 hk').1; simpa only [zcb] using this
 obtain ⟨v, hv⟩ := zw hlt
 obtain ⟨x, hx⟩ := zw (l := w) (i := k) (by omega)
 have e := zxa (o := o) hlt hv hx
 rw [show jN p w o p.Vars.length = (jN p w o p.Vars.length, (0 : Int)).1 from rfl, hk'] at e
 cases e
 exact zs7 (hfx k x v hx hv).2.1
theorem zti {p : TP} {a b : List TW} {o : Int} : (zgi p a b o).1.length <= 32 /\ ∀ x ∈ (zgi p a b o).1, x.Value.Cells.length <= 400 := by
 unfold zgi
 split
 case isFalse => simp
 rename_i hf
 split
 case isFalse => simp
 rename_i hg
 split
 case isFalse => simp
 obtain ⟨hk, hl, _, hfx⟩ := wR hf
 obtain ⟨_, hl2, _, hgx⟩ := wR hg
 obtain ⟨h32, _⟩ := xB hk
 refine ⟨by simpa only [zb3] using h32, fun z hz => ?_⟩
 obtain ⟨k, hk'⟩ := List.mem_iff_getElem?.1 hz
 have hlt : k < p.Vars.length := by have := (List.getElem?_eq_some_iff.1 hk').1; simpa only [zb3] using this
 obtain ⟨v, hv⟩ := zw hlt
 obtain ⟨x, hx⟩ := zw (l := a) (i := k) (by omega)
 obtain ⟨y, hy⟩ := zw (l := b) (i := k) (by omega)
 have e := zyc (o := o) hlt hv hx hy
 rw [show jF p a b o p.Vars.length = (jF p a b o p.Vars.length, (0 : Int)).1 from rfl, hk'] at e
 cases e
 exact ztu (hfx k x v hx hv).2.1
theorem zcv {w : List TW} (h : w.length <= 1000000) (hc : ∀ x ∈ w, x.Value.Cells.length <= 400) : zen w w = some true := by
 obtain ⟨r, e, q⟩ := zkz w w (by omega) (fun x hx => Nat.le_trans (hc x hx) (by omega))
 rw [e, q.2 rfl]
theorem znk (p : TP) (w : List TW × List TW) (o : Int) (w1 : W_TP p) (_ : w2 (yz W_TW) w) (_ : inK .i64 o) : zr2 p w o = some true := by
 obtain ⟨a, b⟩ := w
 unfold zr2
 obtain ⟨r, hr, hf⟩ := ztx p a b (zB0 w1.Lattice.Up)
 simp only
 rw [hr]
 cases r
 case true => rfl
 obtain ⟨h, ha, hb⟩ := hf rfl
 rw [zk9 h (by omega), zlb h (by omega), znn h (by omega) (by omega), zm2 h (by omega) (by omega)]
 simp only [Option.bind_some, cond_false]
 have s1 := ztt (p := p) (w := a) (o := o)
 have s2 := zti (p := p) (a := a) (b := b) (o := o)
 rw [zcv (by omega) s1.2, zcv (by omega) s2.2]
 simp
end Go.Sx.O
