/-
  An own text of this claim.
-/
import Derived.Test.YtkmifafghlbeaaaGreatDoorP1
namespace Go.Sx.O
open Go
def zad (ns : List (List UInt8)) (i : Nat) : Option (Int × Int) :=
 if zbr (ns.getD i []) = true then (if ns.getD i [] ∈ ns.take i then some ((i : Int), 8) else none) else some ((i : Int), 6)
def jx (ns : List (List UInt8)) : Int × Int := if ns.length < 1 \/ 8 < ns.length then (-1, 3) else (zw (zad ns) 0 ns.length).getD (0, 0)
theorem jj {α : Type} {l : List α} {i : Nat} {d x : α} (h : l[i]? = some x) : l.getD i d = x := by rw [List.getD_eq_getElem?_getD, h]; rfl
theorem zwp (ns : List (List UInt8)) (h : ns.length <= 20) (hn : ∀ s ∈ ns, s.length <= 1000) : zih ns = some (jx ns) := by
 unfold zih jx
 simp only [List.length_map]
 by_cases h1 : ns.length < 1
 . have : (ns.length : Int) < 1 := by omega
   simp [h1, this]
 by_cases h2 : 8 < ns.length
 . have : (8 : Int) < ns.length := by omega
   have g1 : ¬ (ns.length : Int) < 1 := by omega
   simp [h2, this, g1]
 have g1 : ¬ (ns.length : Int) < 1 := by omega
 have g2 : ¬ (8 : Int) < ns.length := by omega
 simp only [g1, g2, h1, h2, decide_false, cond_false, or_self, if_false]
 rw [ww ns.length (zad ns) () (fun k hk => ?_) (by simp)]
 . cases zw (zad ns) 0 ns.length <;> rfl
 . obtain ⟨x, hx⟩ := zD (l := ns) (i := k) hk
   have hxl := hn x (List.mem_of_getElem? hx)
   simp only [Int.ofNat_lt, hk, decide_true, cond_true, zh, Int.toNat_natCast, hx, Option.bind_some, zg, Int.natCast_nonneg, if_true]
   rw [zjs x (by omega), jY _ _ (by simp; omega)]
   unfold zad
   rw [jj hx, w64 (by omega) (by omega)]
   cases e : zbr x with
   | false => simp
   | true =>
     have hk' : k <= ns.length := by omega
     simp only [Option.bind_some, Bool.not_true, cond_false, Int.toNat_zero, List.drop_zero, if_true]
     by_cases hm : x ∈ ns.take k
     . simp [hm, zn, hk']
     . simp [hm, zn, hk']
theorem zgu (c : UInt8) : zl6 (c.toNat : Int) = some (decide (97 <= c.toNat) && decide (c.toNat <= 122)) := by
 unfold zl6
 by_cases h : (97 : Int) <= c.toNat
 . have : 97 <= c.toNat := by omega
   simp only [h, this, decide_true, cond_true, Bool.true_and]
   congr 1
   rw [Bool.eq_iff_iff]; simp; omega
 . have : ¬ 97 <= c.toNat := by omega
   simp only [h, this, decide_false, cond_false, Bool.false_and]
theorem zsk (c : UInt8) : zqw (c.toNat : Int) = some (decide (48 <= c.toNat) && decide (c.toNat <= 57)) := by
 unfold zqw
 by_cases h : (48 : Int) <= c.toNat
 . have : 48 <= c.toNat := by omega
   simp only [h, this, decide_true, cond_true, Bool.true_and]
   congr 1
   rw [Bool.eq_iff_iff]; simp; omega
 . have : ¬ 48 <= c.toNat := by omega
   simp only [h, this, decide_false, cond_false, Bool.false_and]
theorem zts (c : UInt8) : decide (c ∈ jl) = (decide (97 <= c.toNat) && decide (c.toNat <= 122) || (decide (48 <= c.toNat) && decide (c.toNat <= 57)) || decide (c.toNat = 45)) := by
 have key : ∀ n : Fin 256, decide (UInt8.ofNat n ∈ jl) = (decide (97 <= n.val) && decide (n.val <= 122) || (decide (48 <= n.val) && decide (n.val <= 57)) || decide (n.val = 45)) := by decide +kernel
 have := key ⟨c.toNat, c.toNat_lt⟩
 simpa using this
theorem zkb (s : List UInt8) (h : s.length <= 1000000000) : zsm s = some (zbr s) := by
 unfold zsm
 cases s with
 | nil => rfl
 | cons a r =>
   have g1 : ¬ ((a :: r).length : Int) < 1 := by simp; omega
   simp only [g1, decide_false, cond_false]
   unfold zbr
   by_cases h1 : (16 : Int) < ((a :: r).length : Int)
   . have : ¬ (a :: r).length <= 16 := by omega
     simp only [h1, decide_true, cond_true, this, decide_false, Bool.false_and]
   have h1' : (a :: r).length <= 16 := by omega
   have e5 : zh (a :: r) 0 = fun f => (f a : Option Bool) := rfl
   simp only [h1, decide_false, cond_false, h1', decide_true, Bool.true_and, e5, zgu, Option.bind_some]
   cases e : (decide (97 <= a.toNat) && decide (a.toNat <= 122)) with
   | false => rfl
   | true =>
     simp only [Bool.not_true, cond_false, Bool.true_and]
     generalize a :: r = s at *
     rw [ww s.length (fun k => if decide (s.getD k 0 ∈ jl) = true then none else some false) () (fun k hk => ?_) (by simp)]
     . cases hs : zw (fun k => if decide (s.getD k 0 ∈ jl) = true then none else some false) 0 s.length with
       | none =>
         have := scan_none.1 hs
         simp only
         congr 1
         symm
         rw [List.all_eq_true]
         intro c hc
         obtain ⟨i, hi, rfl⟩ := List.getElem_of_mem hc
         have := this i (by omega) (by omega)
         rw [jj (List.getElem?_eq_getElem hi)] at this
         split at this
         . assumption
         . cases this
       | some b =>
         simp only
         congr 1
         have hall : ¬ s.all (fun c => decide (c ∈ jl)) = true := by
          intro hall
          rw [List.all_eq_true] at hall
          have : zw (fun k => if decide (s.getD k 0 ∈ jl) = true then none else some false) 0 s.length = none := scan_none.2 fun i _ hi => by
           have hi' : i < s.length := by omega
           rw [jj (List.getElem?_eq_getElem hi'), if_pos (hall _ (List.getElem_mem hi'))]
          rw [this] at hs; cases hs
         have hb : b = false := by
          have key : ∀ {j k : Nat}, zw (fun k => if decide (s.getD k 0 ∈ jl) = true then none else some false) k j = some b -> b = false := by
           intro j
           induction j with
           | zero => intro k h; cases h
           | succ j ih =>
             intro k h
             simp only [zw] at h
             split at h
             . rename_i r hr
               cases h
               split at hr
               . cases hr
               . cases hr; rfl
             . exact ih h
          exact key hs
         rw [hb]
         cases e : s.all (fun c => decide (c ∈ jl)) with
         | false => rfl
         | true => exact absurd e hall
     . obtain ⟨x, hx⟩ := zD (l := s) (i := k) hk
       simp only [Int.ofNat_lt, hk, decide_true, cond_true, zh, Int.toNat_natCast, hx, Option.bind_some, zg, Int.natCast_nonneg, if_true, zgu, zsk]
       rw [jj hx, w64 (by omega) (by omega), zts]
       cases (decide (97 <= x.toNat) && decide (x.toNat <= 122)) with
       | true => simp
       | false =>
         cases (decide (48 <= x.toNat) && decide (x.toNat <= 57)) with
         | true => simp
         | false =>
           by_cases h45 : x.toNat = 45
           . simp [h45]
           . have : ¬ (x.toNat : Int) = 45 := by omega
             simp [h45, this]
theorem zm0 (ns : List (List UInt8)) (h : ns.length <= 20) (hn : ∀ s ∈ ns, s.length <= 1000) : zrp ns = some (jx ns) := by
 unfold zrp jx
 simp only [List.length_map]
 by_cases h1 : ns.length < 1
 . have : (ns.length : Int) < 1 := by omega
   simp [h1, this]
 by_cases h2 : 8 < ns.length
 . have : (8 : Int) < ns.length := by omega
   have g1 : ¬ (ns.length : Int) < 1 := by omega
   simp [h2, this, g1]
 have g1 : ¬ (ns.length : Int) < 1 := by omega
 have g2 : ¬ (8 : Int) < ns.length := by omega
 simp only [g1, g2, h1, h2, decide_false, cond_false, or_self, if_false]
 rw [ww ns.length (zad ns) () (fun k hk => ?_) (by simp)]
 . cases zw (zad ns) 0 ns.length <;> rfl
 . obtain ⟨x, hx⟩ := zD (l := ns) (i := k) hk
   have hxl := hn x (List.mem_of_getElem? hx)
   simp only [Int.ofNat_lt, hk, decide_true, cond_true, zh, Int.toNat_natCast, hx, Option.bind_some, Int.natCast_nonneg, if_true]
   rw [zkb x (by omega)]
   unfold zad
   rw [jj hx]
   cases e : zbr x with
   | false => simp
   | true =>
     simp only [Option.bind_some, Bool.not_true, cond_false, if_true]
     rw [ww k (fun j => if ns.getD j [] = x then some (.inr (.inr ((k : Int), (8 : Int)))) else none) () (fun j hj => ?_) (by simp)]
     . by_cases hm : x ∈ ns.take k
       . obtain ⟨j, hj, rfl⟩ := List.getElem_of_mem hm
         have hj' : j < k /\ j < ns.length := by simp at hj; omega
         cases hs : zw (fun i => if ns.getD i [] = (ns.take k)[j] then some ((.inr (.inr ((k : Int), (8 : Int)))) : Int ⊕ (Unit ⊕ (Int × Int))) else none) 0 k with
         | none =>
           have := scan_none.1 hs j (by omega) (by omega)
           rw [jj (List.getElem?_eq_getElem hj'.2)] at this
           simp at this
         | some b =>
           have : b = .inr (.inr ((k : Int), (8 : Int))) := zap (fun i => by split <;> simp) hs
           rw [this, if_pos hm]
       . have : zw (fun j => if ns.getD j [] = x then some ((.inr (.inr ((k : Int), (8 : Int)))) : Int ⊕ (Unit ⊕ (Int × Int))) else none) 0 k = none := scan_none.2 fun i _ hi => by
          have hi' : i < ns.length := by omega
          rw [jj (List.getElem?_eq_getElem hi'), if_neg]
          rintro rfl
          exact hm (List.mem_iff_getElem.2 ⟨i, by simp; omega, by simp⟩)
         rw [this]
         simp only [hm, if_false, zg]
         rw [w64 (by omega) (by omega)]
     . obtain ⟨y, hy⟩ := zD (l := ns) (i := j) (by omega)
       simp only [Int.ofNat_lt, hj, decide_true, cond_true, zh, Int.toNat_natCast, hy, Option.bind_some, zg, Int.natCast_nonneg, if_true, hx]
       rw [jj hy, w64 (by omega) (by omega)]
       by_cases hxy : y = x
       . simp [hxy]
       . simp [hxy]
open Go
def dn (l : TL) (b : Nat) : Nat -> Nat
 | 0 => 0
 | k + 1 => dn l b k ||| (if up l k b = true then 2 ^ k else 0)
theorem zn5 (l : TL) (b : Nat) : ∀ (k i : Nat), (dn l b k).testBit i = (decide (i < k) && up l i b)
 | 0, i => by simp [dn]
 | k + 1, i => by
   simp only [dn, Nat.testBit_or, zn5 l b k i]
   by_cases h : up l k b = true
   . simp only [h, if_true, Nat.testBit_two_pow]
     by_cases hik : i = k
     . subst hik; simp [h]
     . have h1 : ¬ k = i := fun e => hik e.symm
       have h2 : (i < k + 1) = (i < k) := by simp; omega
       simp [h1, h2]
   . simp only [h, if_false, Nat.zero_testBit, Bool.or_false]
     by_cases hik : i = k
     . subst hik; simp [h]
     . have h2 : (i < k + 1) = (i < k) := by simp; omega
       simp [h2]
theorem zx9 (l : TL) (b : Nat) : ∀ k : Nat, dn l b k < 2 ^ k
 | 0 => by simp [dn]
 | k + 1 => by
   simp only [dn]
   refine Nat.or_lt_two_pow (Nat.lt_of_lt_of_le (zx9 l b k) (Nat.pow_le_pow_right (by omega) (by omega))) ?_
   split
   . exact Nat.pow_lt_pow_right (by omega) (by omega)
   . exact Nat.two_pow_pos _
theorem zhj (l : TL) (b : Nat) {k : Nat} (h : k <= 8) : dn l b k < 256 := Nat.lt_of_lt_of_le (zx9 l b k) (Nat.pow_le_pow_right (n := 2) (by omega) h)
theorem zph {c : Bool} {k : Nat} (h : k < 8) : IntKind.wrap .u8 ((if c = true then (1 : Int) else 0) * 2 ^ min k (IntKind.bits .u8)) = ((if c = true then 2 ^ k else 0 : Nat) : Int) := by
 have key : ∀ (c : Bool) (k : Fin 8), IntKind.wrap .u8 ((if c = true then (1 : Int) else 0) * 2 ^ min k.val (IntKind.bits .u8)) = ((if c = true then 2 ^ k.val else 0 : Nat) : Int) := by decide +kernel
 exact key c ⟨k, h⟩
theorem zuu {a b : Nat} (ha : a < 256) (hb : b < 256) : bits .or .u8 (a : Int) (b : Int) = ((a ||| b : Nat) : Int) := by
 rw [zo4 (by omega) (by omega) (by omega) (by omega)]; rfl
theorem zp5 {a b : Nat} (ha : a < 256) (hb : b < 256) : bits .and .u8 (a : Int) (b : Int) = ((a &&& b : Nat) : Int) := by
 rw [zb3 (by omega) (by omega) (by omega) (by omega)]; rfl
theorem zCc {c : Bool} {k : Nat} (h : k < 8) : (if c = true then 2 ^ k else 0) < 256 := by
 split
 . exact Nat.lt_of_lt_of_le (Nat.pow_lt_pow_right (a := 2) (by omega) h) (by omega)
 . omega
theorem zi0 {α : Type} {l : List α} {i j : Nat} {x : α} (h : i < l.length) : (l.set i x)[j]? = if i = j then some x else l[j]? := by
 rw [List.getElem?_set]
 split
 . simp [h]
 . rfl
theorem zlq (l : TL) (hu : U8s l.Up) (hn : l.Names.length <= 8) (hl : l.Up.length = l.Names.length) :
 Tot (zgc l) fun o => o.n_ = l.Names.length /\ o.up_.length = 8 /\ o.down_.length = 8 /\ (∀ j, j < l.Names.length -> o.up_[j]? = l.Up[j]?) /\ ∀ b, b < l.Names.length -> o.down_[b]? = some (dn l b l.Names.length : Int) := by
 unfold zgc
 simp only [zu, List.length_map]
 refine Tot.count l.Up.length (fun k s => s.1 = (k : Int) /\ s.2.1.length = 8 /\ s.2.2.length = 8 /\ (∀ j, j < k -> s.2.1[j]? = l.Up[j]?) /\ ∀ b, b < l.Names.length -> s.2.2[b]? = some (dn l b k : Int)) ?_ ⟨rfl, rfl, rfl, fun j hj => absurd hj (by omega), fun b hb => ?_⟩
 . rintro k ⟨i, up', down⟩ hk ⟨h0, h1, h2, h3, h4⟩
   simp only at h0 h1 h2 h3 h4
   subst h0
   simp only [zq, zA, qd, qm, qJ, zu, Sum.elim_inl, Sum.elim_inr, decide_eq_true_eq, decide_eq_false_iff_not, Int.toNat_natCast]
   refine ⟨fun hlt => ?_, fun hlt => ?_⟩
   . obtain ⟨x, hx⟩ := zD (l := l.Up) (i := k) (by omega)
     obtain ⟨y, hy⟩ := zD (l := up') (i := k) (by omega)
     refine ⟨by omega, x, hx, ⟨by omega, by omega⟩, by omega, y, hy, ?_⟩
     have hx' := hu.get hx
     refine Tot.count l.Names.length (fun j s => s.1 = (j : Int) /\ s.2.length = 8 /\ ∀ b, b < l.Names.length -> s.2[b]? = some (dn l b (if b < j then k + 1 else k) : Int)) ?_ ⟨rfl, h2, fun b hb => by simpa using h4 b hb⟩
     rintro j ⟨i', d⟩ hj ⟨g0, g1, g2⟩
     simp only at g0 g1 g2
     subst g0
     simp only [zq, zA, qd, qm, qJ, zu, Sum.elim_inl, Sum.elim_inr, decide_eq_true_eq, decide_eq_false_iff_not, Int.toNat_natCast]
     refine ⟨fun hlt' => ?_, fun hlt' => ?_⟩
     . have hz := g2 j (by omega)
       rw [if_neg (by omega)] at hz
       rw [w64 (by omega) (by omega)]
       refine ⟨⟨by omega, by omega⟩, by omega, _, hz, by omega, by omega, ⟨by omega, by omega⟩, by omega, _, hz, by omega, by omega, by simpa using g1, fun b hb => ?_⟩
       rw [zi0 (by omega)]
       by_cases hjb : j = b
       . subst hjb
         rw [if_pos rfl, if_pos (by omega), zcv hx'.1 hx'.2 (by omega), <- xn hx, zph (by omega), zuu (zhj l j (by omega)) (zCc (by omega))]
         rfl
       . rw [if_neg hjb, g2 b hb]
         have : (b < j + 1) = (b < j) := by simp; omega
         simp only [this]
     . rw [w64 (by omega) (by omega)]
       refine ⟨by omega, by omega, by simpa using h1, g1, fun q hq => ?_, fun b hb => ?_⟩
       . rw [zi0 (by omega)]
         by_cases hkq : k = q
         . subst hkq; rw [if_pos rfl, hx]
         . rw [if_neg hkq]; exact h3 q (by omega)
       . rw [g2 b hb, if_pos (by omega)]
   . have hkn : k = l.Names.length := by omega
     subst hkn
     exact ⟨trivial, h1, h2, h3, h4⟩
 . have h8 : ∀ b : Fin 8, ([0, 0, 0, 0, 0, 0, 0, 0] : List Int)[b.val]? = some 0 := by decide
   exact h8 ⟨b, by omega⟩
theorem jf {ρ : Type} {p : Prop} [Decidable p] {x : Option ρ} (h : p) : zn p x = x := by unfold zn; rw [if_pos h]
def bnd (g : Nat -> Nat) (n a b : Nat) : Option Nat := zw (fun c => if g c = g a &&& g b then some c else none) 0 n
def zc8 (g : Nat -> Nat) (n a b : Nat) : Int := match bnd g n a b with | some c => c | none => -1
theorem ze5 (m : List Int) (g : Nat -> Nat) (n a b : Nat) (hn : n <= 8) (hg : ∀ c, c < n -> m[c]? = some (g c : Int)) (hg8 : ∀ c, c < n -> g c < 256) (hs : ∀ c, c < n -> (g c).testBit c = true) (ha : a < n) (hb : b < n) :
 zi4 m n a b = some (zc8 g n a b) := by
 unfold zi4 zc8 bnd
 have s1 : ((0 : Int) <= (a : Int) /\ (a : Int) < ((8 : Nat) : Int)) := by omega
 have s2 : ((0 : Int) <= (b : Int) /\ (b : Int) < ((8 : Nat) : Int)) := by omega
 simp only [jf s1, jf s2]
 simp only [zh, Int.toNat_natCast, Int.natCast_nonneg, if_true, hg a ha, hg b hb, Option.bind_some, zp5 (hg8 a ha) (hg8 b hb)]
 have h8 : g a &&& g b < 256 := zdy (hg8 a ha)
 generalize g a &&& g b = both at *
 rw [ww n (fun c => if g c = both then some (c : Int) else none) () (fun c hc => ?_) (by simp)]
 . have e : (fun c => if g c = both then some (c : Int) else none) = fun c => (if g c = both then some c else none).map (fun c : Nat => (c : Int)) := by
    funext c; split <;> rfl
   rw [e, jN]
   cases zw (fun c => if g c = both then some c else none) 0 n <;> rfl
 . have s3 : ((0 : Int) <= (c : Int) /\ (c : Int) < ((8 : Nat) : Int)) := by omega
   simp only [jf s3]
   simp only [Int.ofNat_lt, hc, decide_true, cond_true, zn, Int.natCast_nonneg, if_true, hg c hc, Option.bind_some, zg]
   rw [w64 (by omega) (by omega), zcv (by omega) (by omega) (by omega)]
   simp only [Int.toNat_natCast]
   by_cases hbc : both.testBit c = true
   . simp only [hbc, if_true, decide_true, cond_true]
     rw [hg c hc]
     by_cases hgc : g c = both
     . simp [hgc]
     . have : ¬ (g c : Int) = (both : Int) := by omega
       simp [hgc, this]
   . have : g c ≠ both := fun e => hbc (e ▸ hs c hc)
     simp [hbc, this]
theorem uu (m : List Int) (g : Nat -> Nat) (a b : Nat) (hn : m.length <= 8) (hg : ∀ c, c < m.length -> m[c]? = some (g c : Int)) (hg8 : ∀ c, c < m.length -> g c < 256) (ha : a < m.length) (hb : b < m.length) :
 zh0 m a b = some (zc8 g m.length a b) := by
 unfold zh0 zc8 bnd
 simp only [zh, Int.toNat_natCast, Int.natCast_nonneg, if_true, hg a ha, hg b hb, Option.bind_some, zp5 (hg8 a ha) (hg8 b hb), List.length_map]
 have h8 : g a &&& g b < 256 := zdy (hg8 a ha)
 generalize g a &&& g b = both at *
 rw [ww m.length (fun c => if g c = both then some (c : Int) else none) () (fun c hc => ?_) (by simp)]
 . have e : (fun c => if g c = both then some (c : Int) else none) = fun c => (if g c = both then some c else none).map (fun c : Nat => (c : Int)) := by
    funext c; split <;> rfl
   rw [e, jN]
   cases zw (fun c => if g c = both then some c else none) 0 m.length <;> rfl
 . simp only [Int.ofNat_lt, hc, decide_true, cond_true, hg c hc, Option.bind_some, zg]
   rw [w64 (by omega) (by omega), Int.toNat_natCast, if_pos (by omega), hg c hc]
   by_cases hgc : g c = both
   . simp [hgc]
   . have : ¬ (g c : Int) = (both : Int) := by omega
     simp [hgc, this]
open Go
def upN (l : TL) (a : Nat) : Nat := (l.Up.getD a 0).toNat
def zgd (l : TL) (a b : Nat) : Bool := !up l a b || ((decide (b = a) || !up l b a) && (List.range l.Names.length).all fun i => !up l b i || up l a i)
def xh (l : TL) (a : Nat) : Bool := decide (upN l a < 2 ^ l.Names.length) && up l a a && (List.range l.Names.length).all fun b => zgd l a b
def dnN (l : TL) (b : Nat) : Nat := dn l b l.Names.length
def wO (l : TL) (a b : Nat) : Bool := (bnd (upN l) l.Names.length a b).isNone || (bnd (dnN l) l.Names.length a b).isNone
def zfc (l : TL) : Int × Int :=
 if (jx l.Names).2 = 0 then
  if l.Up.length = l.Names.length then
   match zw (fun a => if xh l a = true then none else some ((a : Int), (6 : Int))) 0 l.Names.length with
   | some r => r
   | none => (zw (fun a => zw (fun b => if wO l a b = true then some ((a : Int), (4 : Int)) else none) 0 l.Names.length) 0 l.Names.length).getD (0, 0)
  else (-1, 6)
 else jx l.Names
theorem zpx {α : Type} {p : Nat -> Bool} {v : α} : ∀ {j k : Nat}, zw (fun i => if p i = true then none else some v) k j = if (List.range j).all (fun i => p (k + i)) = true then none else some v
 | 0, _ => by simp [zw]
 | j + 1, k => by
   simp only [zw, zpx (j := j) (k := k + 1)]
   have e : (List.range (j + 1)).all (fun i => p (k + i)) = (p k && (List.range j).all fun i => p (k + 1 + i)) := by
    rw [List.range_succ_eq_map, List.all_cons, List.all_map]
    congr 1
    congr 1
    funext i
    simp only [Function.comp]
    congr 1; omega
   rw [e]
   cases p k <;> simp
theorem zjt {α : Type} {p : Nat -> Bool} {u v : α} {n : Nat} : ∀ {j k : Nat}, k + j = n -> 0 < j -> zw (fun i => if p i = true then (if i + 1 = n then some u else none) else some v) k j = some (if (List.range j).all (fun i => p (k + i)) = true then u else v)
 | 0, _, _, h => by omega
 | j + 1, k, hk, _ => by
   have e : (List.range (j + 1)).all (fun i => p (k + i)) = (p k && (List.range j).all fun i => p (k + 1 + i)) := by
    rw [List.range_succ_eq_map, List.all_cons, List.all_map]
    congr 1
    congr 1
    funext i
    simp only [Function.comp]
    congr 1; omega
   rw [e]
   simp only [zw]
   cases hp : p k with
   | false => simp
   | true =>
     simp only [if_true, Bool.true_and]
     by_cases hj : j = 0
     . subst hj
       have : k + 1 = n := by omega
       simp [this]
     . have : ¬ k + 1 = n := by omega
       simp only [this, if_false]
       exact zjt (by omega) (by omega)
theorem zss (x : Int) (h0 : 0 <= x) (h1 : x < 256) : Tot (zhx x) fun y => ∀ n : Nat, n <= 8 -> decide ((n : Int) < y) = !decide (x.toNat < 2 ^ n) := by
 unfold zhx
 rw [qm]
 refine ⟨h0, ?_⟩
 have key : ∀ l : List UInt8, (∀ x : Fin 256, ∀ n : Fin 9, (l[x.val]?.map fun y => decide ((n.val : Int) < IntKind.wrap .i64 (y.toNat : Int))) = some (!decide (x.val < 2 ^ n.val))) ->
  ∃ y, l[x.toNat]? = some y /\ Tot (zg (IntKind.wrap .i64 (y.toNat : Int)) fun z => some z) fun y => ∀ n : Nat, n <= 8 -> decide ((n : Int) < y) = !decide (x.toNat < 2 ^ n) := by
  intro l hl
  cases e : l[x.toNat]? with
  | none =>
    have := hl ⟨x.toNat, by omega⟩ ⟨0, by omega⟩
    simp only [e] at this
    cases this
  | some y =>
    refine ⟨y, rfl, .mk fun n hn => ?_⟩
    have := hl ⟨x.toNat, by omega⟩ ⟨n, by omega⟩
    simp only [e] at this
    exact Option.some.inj this
 exact key _ (by decide +kernel)
theorem xd {l : TL} (hu : U8s l.Up) {a b : Nat} (ha : a < l.Up.length) (hb : b <= 8) : ur l a b = some (up l a b) := by
 unfold ur
 obtain ⟨x, hx⟩ := zD ha
 have hx' := hu.get hx
 have key : ∀ u : Fin 256, ∀ b : Fin 9, decide (Int.tmod (Int.fdiv (u.val : Int) (2 ^ min b.val (IntKind.bits .u8))) 2 = 1) = Nat.testBit u b := by decide +kernel
 have := key ⟨x.toNat, by omega⟩ ⟨b, by omega⟩
 simp only [Int.toNat_of_nonneg hx'.1] at this
 simp only [List.length_map, Int.natCast_nonneg, decide_true, cond_true, Int.ofNat_lt, ha, zh, Int.toNat_natCast, if_true, hx, Option.bind_some, zn, this, xn hx]
theorem zdq {n : Nat} (h : n < 1000000) : IntKind.wrap .i64 (n : Int) = n := w64 (by omega) (by omega)
theorem zpc (n : Nat) : BitVec.ofInt 64 (n : Int) = BitVec.ofNat 64 n := BitVec.ofInt_natCast 64 n
theorem zpt {a b : Nat} (ha : a < 1000000) (hb : b < 1000000) : bits .and .i64 (a : Int) (b : Int) = ((a &&& b : Nat) : Int) := by
 have e : bits .and .i64 (a : Int) (b : Int) = IntKind.wrap .i64 ((BitVec.ofInt 64 (a : Int) &&& BitVec.ofInt 64 (b : Int)).toNat : Int) := rfl
 rw [e, zpc, zpc, BitVec.toNat_and, BitVec.toNat_ofNat, BitVec.toNat_ofNat, Nat.mod_eq_of_lt (by omega), Nat.mod_eq_of_lt (by omega)]
 exact zdq (Nat.lt_of_le_of_lt Nat.and_le_left ha)
theorem zxa {x y n : Nat} : ((y &&& (2 ^ n - 1)) &&& x = y &&& (2 ^ n - 1)) ↔ ((List.range n).all fun i => !y.testBit i || x.testBit i) = true := by
 rw [List.all_eq_true]
 constructor
 . intro h i hi
   have hi' : i < n := by simpa using hi
   have := congrArg (fun z => z.testBit i) h
   simp only [Nat.testBit_and, Nat.testBit_two_pow_sub_one, hi', decide_true, Bool.and_true] at this
   cases e : y.testBit i with
   | false => rfl
   | true => rw [e] at this; simpa using this
 . intro h
   apply Nat.eq_of_testBit_eq
   intro i
   simp only [Nat.testBit_and, Nat.testBit_two_pow_sub_one]
   by_cases hi : i < n
   . have := h i (by simpa using hi)
     simp only [hi, decide_true, Bool.and_true]
     cases e : y.testBit i with
     | false => rfl
     | true => rw [e] at this; simpa using this
   . simp [hi]
open Go
theorem zu2 {l : TL} {a : Nat} {x : Int} (h : l.Up[a]? = some x) : upN l a = x.toNat := by unfold upN; rw [jj h]
theorem zef {l : TL} {a b : Nat} : (upN l a).testBit b = up l a b := rfl
theorem zbj {l : TL} (hu : U8s l.Up) {a : Nat} (ha : a < l.Up.length) : upN l a < 256 := by
 obtain ⟨x, hx⟩ := zD ha
 have := hu.get hx
 rw [zu2 hx]; omega
theorem uP {l : TL} (hu : U8s l.Up) {a : Nat} (ha : a < l.Up.length) : l.Up[a]? = some (upN l a : Int) := by
 obtain ⟨x, hx⟩ := zD ha
 have := hu.get hx
 rw [hx, zu2 hx, Int.toNat_of_nonneg this.1]
theorem zlb {l : TL} (hu : U8s l.Up) (h8 : l.Names.length <= 8) (hl : l.Up.length = l.Names.length) {a : Nat} (ha : a < l.Names.length) : zr2 l a = some (xh l a) := by
 unfold zr2 xh
 have g0 : ((0 : Int) <= (l.Names.length : Int)) := by omega
 have hb := fun b (hb : b < l.Names.length) => xd hu (a := a) (b := b) (by omega) (by omega)
 have hxa := uP hu (a := a) (by omega)
 have hlt := zbj hu (a := a) (by omega)
 have sh : decide ((0 : Int) < Int.fdiv (upN l a : Int) (2 ^ min l.Names.length (IntKind.bits .i64))) = !decide (upN l a < 2 ^ l.Names.length) := by
  have key : ∀ u : Fin 256, ∀ n : Fin 9, decide ((0 : Int) < Int.fdiv (u.val : Int) (2 ^ min n.val (IntKind.bits .i64))) = !decide (u.val < 2 ^ n.val) := by decide +kernel
  exact key ⟨upN l a, hlt⟩ ⟨l.Names.length, by omega⟩
 have mk : IntKind.wrap .i64 (IntKind.wrap .i64 (1 * 2 ^ min l.Names.length (IntKind.bits .i64)) - 1) = ((2 ^ l.Names.length - 1 : Nat) : Int) := by
  have key : ∀ n : Fin 9, IntKind.wrap .i64 (IntKind.wrap .i64 (1 * 2 ^ min n.val (IntKind.bits .i64)) - 1) = ((2 ^ n.val - 1 : Nat) : Int) := by decide +kernel
  exact key ⟨l.Names.length, by omega⟩
 have mk' : 2 ^ l.Names.length - 1 < 1000000 := by
  have : 2 ^ l.Names.length <= 2 ^ 8 := Nat.pow_le_pow_right (by omega) h8
  omega
 simp only [List.length_map, jf g0, Int.toNat_natCast]
 simp only [zh, Int.toNat_natCast, Int.natCast_nonneg, if_true, hxa, Option.bind_some, zg]
 rw [zdq (by omega), sh, hb a ha, mk]
 cases e1 : decide (upN l a < 2 ^ l.Names.length) with
 | false => simp
 | true =>
   simp only [Bool.not_true, cond_false, Bool.true_and, Option.bind_some]
   cases e2 : up l a a with
   | false => simp
   | true =>
     simp only [Bool.not_true, cond_false, Bool.true_and]
     rw [ww l.Names.length (fun b => if zgd l a b = true then none else some false) () (fun b hbn => ?_) (by simp)]
     . rw [zpx]
       simp only [Nat.zero_add]
       cases (List.range l.Names.length).all fun b => zgd l a b <;> rfl
     . have hxb := uP hu (a := b) (by omega)
       have hltb := zbj hu (a := b) (by omega)
       simp only [Int.ofNat_lt, hbn, decide_true, cond_true, Option.bind_some, Int.toNat_natCast, hxb]
       rw [hb b hbn, zdq (n := upN l b) (by omega), zpt (by omega) mk', w64 (by omega) (by omega), xd hu (by omega) (by omega)]
       have hand : upN l b &&& (2 ^ l.Names.length - 1) < 1000000 := Nat.lt_of_le_of_lt Nat.and_le_left (by omega)
       rw [zpt hand (by omega)]
       have hsub := zxa (x := upN l a) (y := upN l b) (n := l.Names.length)
       simp only [zef] at hsub
       have hsub' : decide ((((upN l b &&& (2 ^ l.Names.length - 1)) &&& upN l a : Nat) : Int) = ((upN l b &&& (2 ^ l.Names.length - 1) : Nat) : Int)) = (List.range l.Names.length).all fun i => !up l b i || up l a i := by
        rw [Bool.eq_iff_iff, <- hsub, decide_eq_true_eq]; omega
       rw [hsub']
       unfold zgd
       cases e3 : up l a b with
       | false => simp
       | true =>
         simp only [Option.bind_some, Bool.not_true, cond_false, Bool.false_or]
         by_cases hba : b = a
         . subst hba
           simp only [decide_true, Bool.not_true, cond_false, Bool.true_or, Bool.true_and]
           cases (List.range l.Names.length).all fun i => !up l b i || up l b i <;> simp
         . have : ¬ (b : Int) = (a : Int) := by omega
           simp only [this, hba, decide_false, Bool.not_false, cond_true, Bool.false_or]
           cases up l b a with
           | true => simp
           | false =>
             cases (List.range l.Names.length).all fun i => !up l b i || up l a i <;> simp
theorem zg4 {l : TL} (hu : U8s l.Up) (h8 : l.Names.length <= 8) (hl : l.Up.length = l.Names.length) : Tot (zn1 l) fun d => d.length = l.Names.length /\ ∀ b, b < l.Names.length -> d[b]? = some (dnN l b : Int) := by
 unfold zn1
 simp only [zu, qJ, List.length_map, Int.toNat_natCast]
 refine ⟨⟨by omega, trivial, by omega, by omega⟩, ?_⟩
 refine Tot.count l.Names.length (fun k s => s.1 = (k : Int) /\ s.2.length = l.Names.length /\ ∀ b, b < l.Names.length -> s.2[b]? = some (dn l b k : Int)) ?_ ⟨rfl, by simp, fun b hb => ?_⟩
 . rintro k ⟨i, down⟩ hk ⟨h0, h2, h4⟩
   simp only at h0 h2 h4
   subst h0
   simp only [zq, zA, qd, qm, qJ, zu, Sum.elim_inl, Sum.elim_inr, decide_eq_true_eq, decide_eq_false_iff_not, Int.toNat_natCast]
   refine ⟨fun hlt => ?_, fun hlt => ?_⟩
   . refine Tot.count l.Names.length (fun j s => s.1 = (j : Int) /\ s.2.length = l.Names.length /\ ∀ b, b < l.Names.length -> s.2[b]? = some (dn l b (if b < j then k + 1 else k) : Int)) ?_ ⟨rfl, h2, fun b hb => by simpa using h4 b hb⟩
     rintro j ⟨i', d⟩ hj ⟨g0, g1, g2⟩
     simp only at g0 g1 g2
     subst g0
     simp only [zq, zA, qd, qm, qJ, zu, Sum.elim_inl, Sum.elim_inr, decide_eq_true_eq, decide_eq_false_iff_not, Int.toNat_natCast]
     refine ⟨fun hlt' => ?_, fun hlt' => ?_⟩
     . rw [xd hu (by omega) (by omega), zq]
       have hz := g2 j (by omega)
       rw [if_neg (by omega)] at hz
       rw [w64 (by omega) (by omega)]
       refine ⟨fun hup => ⟨⟨by omega, by simp; omega⟩, by omega, _, hz, by omega, ⟨by omega, by simp; omega⟩, by omega, _, hz, by omega, by omega, by simpa using g1, fun b hb => ?_⟩, fun hup => ⟨by omega, by omega, g1, fun b hb => ?_⟩⟩
       . have hsh := zph (c := true) (k := k) (by omega)
         simp only [if_true] at hsh
         rw [zi0 (by omega), hsh]
         by_cases hjb : j = b
         . subst hjb
           have hp : 2 ^ k < 256 := Nat.lt_of_lt_of_le (Nat.pow_lt_pow_right (a := 2) (by omega) (show k < 8 by omega)) (by omega)
           rw [if_pos rfl, if_pos (by omega), zuu (zhj l j (by omega)) hp]
           simp [dn, hup]
         . rw [if_neg hjb, g2 b hb]
           have : (b < j + 1) = (b < j) := by simp; omega
           simp only [this]
       . rw [g2 b hb]
         by_cases hjb : j = b
         . subst hjb
           rw [if_neg (by omega), if_pos (by omega)]
           simp [dn, hup]
         . have : (b < j + 1) = (b < j) := by simp; omega
           simp only [this]
     . rw [w64 (by omega) (by omega)]
       refine ⟨by omega, by omega, g1, fun b hb => ?_⟩
       rw [g2 b hb, if_pos (by omega)]
   . have hkn : k = l.Names.length := by omega
     subst hkn
     exact ⟨h2, h4⟩
 . rw [List.getElem?_replicate, if_pos hb]; rfl
open Go
theorem zlh (g : Nat -> Nat) (n a b : Nat) : decide (zc8 g n a b < 0) = (bnd g n a b).isNone := by
 unfold zc8
 cases bnd g n a b with
 | none => rfl
 | some c => simp
theorem ztl {l : TL} (h8 : l.Names.length <= 8) (b : Nat) : dnN l b < 256 := zhj l b h8
theorem zaa (l : TL) (hu : U8s l.Up) (hn : l.Names.length <= 20) (hs : ∀ s ∈ l.Names, s.length <= 1000) : zi8 l = some (zfc l) := by
 unfold zi8 zfc
 rw [zm0 _ hn hs]
 simp only [Option.bind_some, List.length_map]
 by_cases h0 : (jx l.Names).2 = 0
 case neg => simp [h0]
 simp only [h0, decide_true, Bool.not_true, cond_false, if_true]
 by_cases hlen : l.Up.length = l.Names.length
 case neg =>
  have : ¬ (l.Up.length : Int) = l.Names.length := by omega
  simp [hlen, this]
 have h8 : l.Names.length <= 8 := by
  unfold jx at h0
  split at h0
  . cases h0
  . omega
 simp only [hlen, decide_true, Bool.not_true, cond_false, if_true]
 rw [ww l.Names.length (fun a => if xh l a = true then none else some ((a : Int), (6 : Int))) () (fun a ha => ?_) (by simp)]
 . cases h1 : zw (fun a => if xh l a = true then none else some ((a : Int), (6 : Int))) 0 l.Names.length with
   | some r => rfl
   | none =>
     simp only
     obtain ⟨d, ed, hdl, hd⟩ := zg4 hu h8 hlen
     rw [ed, Option.bind_some]
     rw [ww l.Names.length (fun a => zw (fun b => if wO l a b = true then some ((a : Int), (4 : Int)) else none) 0 l.Names.length) () (fun a ha => ?_) (by simp)]
     . cases zw (fun a => zw (fun b => if wO l a b = true then some ((a : Int), (4 : Int)) else none) 0 l.Names.length) 0 l.Names.length <;> rfl
     . simp only [Int.ofNat_lt, ha, decide_true, cond_true]
       rw [ww l.Names.length (fun b => if wO l a b = true then some (.inr (.inr ((a : Int), (4 : Int)))) else none) () (fun b hb => ?_) (by simp)]
       . have e : (fun b => if wO l a b = true then some (Sum.inr (Sum.inr ((a : Int), (4 : Int))) : Int ⊕ (Unit ⊕ (Int × Int))) else none) = fun b => (if wO l a b = true then some ((a : Int), (4 : Int)) else none).map fun v => .inr (.inr v) := by
          funext b; split <;> rfl
         rw [e, jN]
         cases zw (fun b => if wO l a b = true then some ((a : Int), (4 : Int)) else none) 0 l.Names.length with
         | some r => rfl
         | none =>
           simp only [Option.map_none, zg]
           rw [w64 (by omega) (by omega)]
       . simp only [Int.ofNat_lt, hb, decide_true, cond_true]
         have n1 := uu l.Up (upN l) a b (by omega) (fun c hc => uP hu hc) (fun c hc => zbj hu hc) (by omega) (by omega)
         have n2 := uu d (dnN l) a b (by omega) (fun c hc => hd c (by omega)) (fun c hc => ztl h8 c) (by omega) (by omega)
         rw [hlen] at n1
         rw [hdl] at n2
         rw [n1, n2]
         simp only [Option.bind_some, zlh, zg]
         rw [w64 (by omega) (by omega)]
         unfold wO
         cases (bnd (upN l) l.Names.length a b).isNone with
         | true => simp
         | false => cases (bnd (dnN l) l.Names.length a b).isNone <;> simp
 . simp only [Int.ofNat_lt, ha, decide_true, cond_true]
   rw [zlb hu h8 hlen ha]
   simp only [Option.bind_some, zg]
   rw [w64 (by omega) (by omega)]
   cases xh l a <;> simp
open Go
theorem zor (l : TL) (hu : U8s l.Up) (hn : l.Names.length <= 20) (hs : ∀ s ∈ l.Names, s.length <= 1000) : zba l = some (zfc l) := by
 unfold zba zfc
 rw [zwp _ hn hs]
 simp only [Option.bind_some, List.length_map]
 by_cases h0 : (jx l.Names).2 = 0
 case neg => simp [h0]
 simp only [h0, decide_true, Bool.not_true, cond_false, if_true]
 by_cases hlen : l.Up.length = l.Names.length
 case neg =>
  have : ¬ (l.Up.length : Int) = l.Names.length := by omega
  simp [hlen, this]
 have h8 : 1 <= l.Names.length /\ l.Names.length <= 8 := by
  unfold jx at h0
  split at h0
  . cases h0
  . omega
 obtain ⟨h1, h8⟩ := h8
 have g0 : ((0 : Int) <= (l.Names.length : Int)) := by omega
 simp only [hlen, decide_true, Bool.not_true, cond_false, if_true, jf g0, zg, Int.toNat_natCast]
 have hmask := zn0 l.Names.length h8
 have hm0 := zk8 (e := IntKind.wrap .u8 (1 * 2 ^ min l.Names.length (IntKind.bits .u8)) - 1)
 rw [ww l.Names.length (fun a => if xh l a = true then none else some ((a : Int), (6 : Int))) () (fun a ha => ?_) (by simp)]
 . cases h1 : zw (fun a => if xh l a = true then none else some ((a : Int), (6 : Int))) 0 l.Names.length with
   | some r => rfl
   | none =>
     simp only
     have hself : ∀ a, a < l.Names.length -> up l a a = true := by
      intro a ha
      have := scan_none.1 h1 a (by omega) (by omega)
      split at this
      . rename_i h
        unfold xh at h
        simp only [Bool.and_eq_true] at h
        exact h.1.2
      . cases this
     obtain ⟨o, eo, _, o1, o2, o3, o4⟩ := zlq l hu h8 hlen
     rw [eo, Option.bind_some]
     rw [ww l.Names.length (fun a => zw (fun b => if wO l a b = true then some ((a : Int), (4 : Int)) else none) 0 l.Names.length) () (fun a ha => ?_) (by simp)]
     . cases zw (fun a => zw (fun b => if wO l a b = true then some ((a : Int), (4 : Int)) else none) 0 l.Names.length) 0 l.Names.length <;> rfl
     . simp only [Int.ofNat_lt, ha, decide_true, cond_true]
       rw [ww l.Names.length (fun b => if wO l a b = true then some (.inr (.inr ((a : Int), (4 : Int)))) else none) () (fun b hb => ?_) (by simp)]
       . have e : (fun b => if wO l a b = true then some (Sum.inr (Sum.inr ((a : Int), (4 : Int))) : Int ⊕ (Unit ⊕ (Int × Int))) else none) = fun b => (if wO l a b = true then some ((a : Int), (4 : Int)) else none).map fun v => .inr (.inr v) := by
          funext b; split <;> rfl
         rw [e, jN]
         cases zw (fun b => if wO l a b = true then some ((a : Int), (4 : Int)) else none) 0 l.Names.length with
         | some r => rfl
         | none =>
           simp only [Option.map_none]
           rw [w64 (by omega) (by omega)]
       . simp only [Int.ofNat_lt, hb, decide_true, cond_true]
         have n1 := ze5 o.up_ (upN l) l.Names.length a b h8 (fun c hc => by rw [o3 c hc]; exact uP hu (by omega)) (fun c hc => zbj hu (by omega)) (fun c hc => hself c hc) ha hb
         have n2 : zql o.down_ l.Names.length a b = some (zc8 (dnN l) l.Names.length a b) := ze5 o.down_ (dnN l) l.Names.length a b h8 (fun c hc => o4 c hc) (fun c hc => ztl h8 c) (fun c hc => by unfold dnN; rw [zn5, hself c hc]; simp [hc]) ha hb
         rw [n1, n2]
         simp only [Option.bind_some, zlh]
         rw [w64 (by omega) (by omega)]
         unfold wO
         cases (bnd (upN l) l.Names.length a b).isNone with
         | true => simp
         | false => cases (bnd (dnN l) l.Names.length a b).isNone <;> simp
 . -- one label's row
   have hxa := uP hu (a := a) (by omega)
   have hlt := zbj hu (a := a) (by omega)
   obtain ⟨y, ey, hy⟩ := zss (upN l a : Int) (by omega) (by omega)
   have hy := hy l.Names.length h8
   rw [Int.toNat_natCast] at hy
   have ga : ((0 : Int) <= (a : Int)) := by omega
   have hbit : ∀ b, b < l.Names.length -> bits .and .u8 (Int.fdiv (upN l a : Int) (2 ^ min b (IntKind.bits .u8))) 1 = if up l a b = true then 1 else 0 := fun b hb => by
    rw [zcv (by omega) (by omega) (by omega), Int.toNat_natCast]; rfl
   simp only [Int.ofNat_lt, ha, decide_true, cond_true, zh, Int.toNat_natCast, if_pos ga, hxa, Option.bind_some, ey, hy, jf ga]
   simp only [hbit a ha]
   unfold xh
   cases e1 : decide (upN l a < 2 ^ l.Names.length) with
   | false => simp
   | true =>
     simp only [Bool.not_true, cond_false, Bool.true_and]
     cases e2 : up l a a with
     | false => simp
     | true =>
       simp only [if_true, Int.reduceEq, decide_false, cond_false, Bool.true_and]
       rw [ww l.Names.length (fun b => if zgd l a b = true then (if b + 1 = l.Names.length then some (.inl ((a : Int) + 1)) else none) else some (.inr (.inr ((a : Int), (6 : Int))))) () (fun b hb => ?_) (by simp)]
       . rw [zjt (by omega) (by omega)]
         simp only [Nat.zero_add]
         cases (List.range l.Names.length).all fun b => zgd l a b <;> rfl
       . have hxb := uP hu (a := b) (by omega)
         have hltb := zbj hu (a := b) (by omega)
         have gb : ((0 : Int) <= (b : Int)) := by omega
         have hbit' : bits .and .u8 (Int.fdiv (upN l b : Int) (2 ^ min a (IntKind.bits .u8))) 1 = if up l b a = true then 1 else 0 := by
          rw [zcv (by omega) (by omega) (by omega), Int.toNat_natCast]; rfl
         simp only [Int.ofNat_lt, hb, decide_true, cond_true, Option.bind_some, Int.toNat_natCast, hxb, if_pos gb, jf gb]
         simp only [hbit b hb, hbit', w64 (e := (l.Names.length : Int) - 1) (by omega) (by omega), w64 (e := (a : Int) + 1) (by omega) (by omega), w64 (e := (b : Int) + 1) (by omega) (by omega)]
         have hnot : decide (bits .andNot .u8 (bits .and .u8 (upN l b : Int) (IntKind.wrap .u8 (IntKind.wrap .u8 (1 * 2 ^ min l.Names.length (IntKind.bits .u8)) - 1))) (upN l a : Int) = 0) = (List.range l.Names.length).all fun i => !up l b i || up l a i := by
          revert hmask hm0
          generalize IntKind.wrap .u8 (IntKind.wrap .u8 (1 * 2 ^ min l.Names.length (IntKind.bits .u8)) - 1) = mask
          intro hmask hm0
          have hand : bits .and .u8 (upN l b : Int) mask = ((upN l b &&& mask.toNat : Nat) : Int) := by
           rw [zb3 (by omega) (by omega) hm0.1 hm0.2, Int.toNat_natCast]
          have hlt2 : upN l b &&& mask.toNat < 256 := zdy hltb
          rw [hand, Bool.eq_iff_iff, decide_eq_true_eq, zbf (by omega) (by omega) (by omega) (by omega), List.all_eq_true]
          simp only [Int.toNat_natCast, Nat.testBit_and, hmask, zef]
          constructor
          . intro h i hi
            have := h i
            have hi' : i < l.Names.length := by simpa using hi
            cases e : up l b i with
            | false => rfl
            | true => rw [e] at this; simpa [hi'] using this
          . intro h i hi
            simp only [Bool.and_eq_true, decide_eq_true_eq] at hi
            have := h i (by simpa using hi.2)
            rw [hi.1] at this; simpa using this
         simp only [hnot]
         have hlast : decide ((b : Int) = (l.Names.length : Int) - 1) = decide (b + 1 = l.Names.length) := by
          rw [Bool.eq_iff_iff, decide_eq_true_eq, decide_eq_true_eq]; omega
         simp only [hlast]
         unfold zgd
         cases e3 : up l a b with
         | false => by_cases hl : b + 1 = l.Names.length <;> simp [hl]
         | true =>
           by_cases hba : b = a
           . subst hba
             have d2 : decide ((b : Int) = (b : Int)) = true := by simp
             cases (List.range l.Names.length).all fun i => !up l b i || up l b i with
             | false => by_cases hl : b + 1 = l.Names.length <;> simp [hl]
             | true => by_cases hl : b + 1 = l.Names.length <;> simp [hl]
           . have d2 : decide ((b : Int) = (a : Int)) = false := by simp; omega
             have d3 : decide (b = a) = false := by simp [hba]
             simp only [d2, d3]
             cases up l b a with
             | true => by_cases hl : b + 1 = l.Names.length <;> simp [hl]
             | false =>
               cases (List.range l.Names.length).all fun i => !up l b i || up l a i with
               | false => by_cases hl : b + 1 = l.Names.length <;> simp [hl]
               | true => by_cases hl : b + 1 = l.Names.length <;> simp [hl]
theorem zep {l : TL} (h : LatIn l) : qO l = zfc l := by
 unfold qO; rw [zor l h.u8 h.names h.name]; rfl
open Go
theorem zhu {l : TL} (h : LatIn l) (a b : Int) : zr7 l a b = some (zct l [a, b]) := by
 unfold zr7 zct
 rw [zaa l h.u8 h.names h.name, zep h]
 simp only [Option.bind_some, List.length_map, List.all_cons, List.all_nil, Bool.and_true]
 by_cases h0 : (zfc l).2 = 0
 . simp only [h0, decide_true, cond_true, if_true]
   unfold wu
   by_cases a1 : a < 0
   . have : ¬ 0 <= a := by omega
     simp [a1, this]
   by_cases a2 : (l.Names.length : Int) <= a
   . have : ¬ a < (l.Names.length : Int) := by omega
     simp [a1, a2, this]
   by_cases b1 : b < 0
   . have : ¬ 0 <= b := by omega
     simp [a1, a2, b1, this]
   by_cases b2 : (l.Names.length : Int) <= b
   . have : ¬ b < (l.Names.length : Int) := by omega
     simp [a1, a2, b1, b2, this]
   have a1' : 0 <= a := by omega
   have a2' : a < (l.Names.length : Int) := by omega
   have b1' : 0 <= b := by omega
   have b2' : b < (l.Names.length : Int) := by omega
   simp [a1, a2, b1, b2, a1', a2', b1', b2']
 . simp [h0]
open Go
theorem zvz {g : Nat -> Nat} {n a b c : Nat} (h : bnd g n a b = some c) : c < n /\ g c = g a &&& g b := by
 have key : ∀ {j k : Nat}, zw (fun c => if g c = g a &&& g b then some c else none) k j = some c -> c < k + j /\ g c = g a &&& g b := by
  intro j
  induction j with
  | zero => intro k h; cases h
  | succ j ih =>
    intro k h
    simp only [zw] at h
    split at h
    . rename_i r hr
      cases h
      split at hr
      . rename_i hh; cases hr; exact ⟨by omega, hh⟩
      . cases hr
    . have := ih h
      exact ⟨by omega, this.2⟩
 have := key h
 simpa using this
theorem zdf {l : TL} (h : LatIn l) (k : (qO l).2 = 0) : (∀ a, a < l.Names.length -> xh l a = true) /\ ∀ a b, a < l.Names.length -> b < l.Names.length -> wO l a b = false := by
 rw [zep h] at k
 unfold zfc at k
 split at k
 case isFalse h0 => exact absurd k h0
 split at k
 case isFalse => cases k
 split at k
 case h_1 r hr =>
  exfalso
  have key : ∀ {j k : Nat}, zw (fun a => if xh l a = true then none else some ((a : Int), (6 : Int))) k j = some r -> r.2 = 6 := by
   intro j
   induction j with
   | zero => intro k h; cases h
   | succ j ih =>
     intro k h
     simp only [zw] at h
     split at h
     . rename_i r' hr'
       cases h
       split at hr'
       . cases hr'
       . cases hr'; rfl
     . exact ih h
  rw [key hr] at k; cases k
 case h_2 hord =>
  have key2 : ∀ {a j k : Nat} {r : Int × Int}, zw (fun b => if wO l a b = true then some ((a : Int), (4 : Int)) else none) k j = some r -> r.2 = 4 := by
   intro a j
   induction j with
   | zero => intro k r h; cases h
   | succ j ih =>
     intro k r h
     simp only [zw] at h
     split at h
     . rename_i r' hr'
       cases h
       split at hr'
       . cases hr'; rfl
       . cases hr'
     . exact ih h
  have key : ∀ {j k : Nat} {r : Int × Int}, zw (fun a => zw (fun b => if wO l a b = true then some ((a : Int), (4 : Int)) else none) 0 l.Names.length) k j = some r -> r.2 = 4 := by
   intro j
   induction j with
   | zero => intro k r h; cases h
   | succ j ih =>
     intro k r h
     simp only [zw] at h
     split at h
     . rename_i r' hr'
       cases h
       exact key2 hr'
     . exact ih h
  cases hs : zw (fun a => zw (fun b => if wO l a b = true then some ((a : Int), (4 : Int)) else none) 0 l.Names.length) 0 l.Names.length with
  | some r =>
    rw [hs] at k
    have := key hs
    simp only [Option.getD_some] at k
    rw [this] at k; cases k
  | none =>
    refine ⟨fun a ha => ?_, fun a b ha hb => ?_⟩
    . have h1 := scan_none.1 hord a (by omega) (by omega)
      split at h1
      . assumption
      . cases h1
    . have h1 := scan_none.1 (scan_none.1 hs a (by omega) (by omega)) b (by omega) (by omega)
      split at h1
      . cases h1
      . rename_i h2; simpa using h2
theorem zmu {l : TL} (h : LatIn l) (k : (qO l).2 = 0) {a b : Nat} (ha : a < l.Names.length) (hb : b < l.Names.length) : ∃ c, bnd (dnN l) l.Names.length a b = some c /\ c < l.Names.length /\ dnN l c = dnN l a &&& dnN l b := by
 have h2 := (zdf h k).2 a b ha hb
 unfold wO at h2
 cases e : bnd (dnN l) l.Names.length a b with
 | none => rw [e] at h2; simp at h2
 | some c => exact ⟨c, rfl, zvz e⟩
theorem zwg {l : TL} (ok : LatOK l) {a b c : Nat} (ha : a < l.Names.length) (hb : b < l.Names.length) (hc : c < l.Names.length) (h1 : up l a b = true) (h2 : up l b c = true) : up l a c = true := (ok.row a ha b hb h1).2 c hc h2
theorem zze {l : TL} {b i : Nat} : (dnN l b).testBit i = (decide (i < l.Names.length) && up l i b) := zn5 l b l.Names.length i
theorem zhs {l : TL} {a b c i : Nat} (hi : i < l.Names.length) (hg : dnN l c = dnN l a &&& dnN l b) : up l i c = (up l i a && up l i b) := by
 have h1 := congrArg (fun x => x.testBit i) hg
 simp only [Nat.testBit_and, zze, hi, decide_true, Bool.true_and] at h1
 exact h1
theorem zyr {l : TL} (ok : LatOK l) {a b : Nat} (ha : a < l.Names.length) (hb : b < l.Names.length) (h1 : up l a b = true) (h2 : up l b a = true) : a = b := by
 by_cases e : b = a
 . exact e.symm
 . have := (ok.row a ha b hb h1).1 e
   rw [h2] at this; cases this
theorem zzs {l : TL} (h : LatIn l) (k : (qO l).2 = 0) : ∃ t, t < l.Names.length /\ ∀ a, a < l.Names.length -> up l t a = true := by
 have ok := xj h k
 have key : ∀ j, j <= l.Names.length -> ∃ t, t < l.Names.length /\ ∀ a, a < j -> up l t a = true := by
  intro j
  induction j with
  | zero => intro _; exact ⟨0, ok.pos, fun a ha => absurd ha (by omega)⟩
  | succ j ih =>
    intro hj
    obtain ⟨t, ht, hall⟩ := ih (by omega)
    obtain ⟨c, _, hc, hg⟩ := zmu h k ht (show j < l.Names.length by omega)
    have hcc := ok.self c hc
    rw [zhs hc hg, Bool.and_eq_true] at hcc
    refine ⟨c, hc, fun a ha => ?_⟩
    rcases Nat.lt_or_ge a j with g | g
    . exact zwg ok hc ht (by omega) hcc.1 (hall a g)
    . have : a = j := by omega
      subst this; exact hcc.2
 exact key _ (Nat.le_refl _)
def wv (l : TL) : Nat := ((List.range l.Names.length).find? fun b => (List.range l.Names.length).all fun a => up l b a).getD 0
theorem zf3 {l : TL} (h : LatIn l) (k : (qO l).2 = 0) : wv l < l.Names.length /\ ∀ a, a < l.Names.length -> up l (wv l) a = true := by
 obtain ⟨t, ht, hall⟩ := zzs h k
 unfold wv
 cases e : (List.range l.Names.length).find? fun b => (List.range l.Names.length).all fun a => up l b a with
 | none =>
   have := List.find?_eq_none.1 e t (by simpa using ht)
   exact absurd (by simp only [List.all_eq_true, List.mem_range]; exact hall) this
 | some b =>
   have h1 := List.find?_some e
   have h2 := List.mem_of_find?_eq_some e
   simp only [List.all_eq_true, List.mem_range] at h1 h2
   exact ⟨h2, h1⟩
theorem zs3 {l : TL} (h : LatIn l) (k : (qO l).2 = 0) {b : Nat} (hb : b < l.Names.length) (hall : ∀ a, a < l.Names.length -> up l b a = true) : b = wv l := by
 obtain ⟨h1, h2⟩ := zf3 h k
 exact zyr (xj h k) hb h1 (hall _ h1) (h2 _ hb)
theorem zxf {l : TL} (h : LatIn l) (k : (qO l).2 = 0) {b : Nat} (hb : b < l.Names.length) : upN l b = 2 ^ l.Names.length - 1 ↔ b = wv l := by
 have h1 := (zdf h k).1 b hb
 unfold xh at h1
 simp only [Bool.and_eq_true, decide_eq_true_eq] at h1
 constructor
 . intro e
   refine zs3 h k hb fun a ha => ?_
   rw [<- zef, e, Nat.testBit_two_pow_sub_one]
   simpa using ha
 . rintro rfl
   have h2 := (zf3 h k).2
   refine Nat.eq_of_testBit_eq fun i => ?_
   rw [Nat.testBit_two_pow_sub_one]
   rcases Nat.lt_or_ge i l.Names.length with g | g
   . rw [zef, h2 i g]; simp [g]
   . rw [Nat.testBit_lt_two_pow (Nat.lt_of_lt_of_le h1.1.1 (Nat.pow_le_pow_right (by omega) g))]
     simp; omega
open Go
theorem zmi (s : List UInt8) (c : Int) : zdz s c = some (Go.Lib.indexByte s c.toNat.toUInt8) := by
 unfold zdz qg
 rfl
theorem zar (r : Int) (h0 : 0 <= r) (h1 : r < 256) : xB [] r = some false := by
 unfold xB
 have key : Tot (ziu [] r) fun x => x < 0 := by
  unfold ziu
  have e0 : decide (0 <= r) = true := by simp [h0]
  simp only [e0, cond_true]
  rw [zA]
  refine ⟨fun _ => ?_, fun h2 => ?_⟩
  . rw [qd, zu, zmi]
    simp only [zq]
    simp [Go.Lib.indexByte]
  . simp only [decide_eq_false_iff_not] at h2
    obtain ⟨x, y, exy, hy⟩ := zuq (r := r) (by omega) h1
    have e1 : decide (r = 65533) = false := by simp; omega
    simp only [e1, cond_false, exy]
    rw [zu]
    refine (za1 r).mono fun v _ => ?_
    rw [zA]
    refine ⟨fun _ => .mk (by decide), fun _ => ?_⟩
    rw [qd]
    have e2 : IntKind.wrap .i64 (((List.length [x, y] : Nat) : Int) - 1) = 1 := rfl
    rw [e2, zu]
    refine Tot.loop (fun _ => 0) (fun _ => True) (fun _ _ => ?_) trivial
    rw [zA]
    refine ⟨fun h3 => ?_, fun _ => ?_⟩
    . simp only [decide_eq_true_eq, List.length_nil] at h3
      exact absurd h3 (by decide)
    . simp only [zq, Sum.elim_inr, Sum.elim_inl]
      decide
 obtain ⟨x, e, hx⟩ := key
 rw [e]
 have : decide (0 <= x) = false := by simp; omega
 simp [this]
theorem zm4 (r : Int) (h0 : 0 <= r) (h1 : r < 256) : zd1 r = some true := by
 unfold zd1
 have e0 : decide (0 <= r) = true := by simp [h0]
 have e1 : decide (r < 55296) = true := by simp; omega
 simp only [e0, e1, cond_true]
theorem zoc (r : Int) (h0 : 0 <= r) (h1 : r < 256) : zqm r = some true := by
 unfold zqm
 simp only [zg, zlt h0 h1]
 rw [w64 (by omega) (by omega)]
 simp [zm4 r h0 h1]
def yA (c : UInt8) : Bool := decide (97 <= c.toNat) && decide (c.toNat <= 122)
def xk (c : UInt8) : Bool := decide (48 <= c.toNat) && decide (c.toNat <= 57)
theorem zog {cs : List (List UInt8)} (hcs : cs.length = 10) (h : ∀ s ∈ cs, s.length <= 1000 /\ ∀ c ∈ s, c.toNat < 128) (h6 : cs[6]? = some []) (h8 : cs[8]? = some []) (r : Int) (h0 : 0 <= r) (h1 : r < 256) {Q : Unit ⊕ (Int × Int) -> Prop} (hQ : Q (.inl ())) (hQ' : ∀ x, x ≠ 6 -> x ≠ 8 -> Q (.inr (x, 0))) :
 Tot (lpO (fun (s : Int) => cond (decide (s < 10)) (zh cs s fun x => zg (IntKind.wrap IntKind.i32 r) fun y => Option.bind (xB x y) fun z => cond z (some (Sum.inr (Sum.inr (s, (0 : Int))))) (zg (IntKind.wrap IntKind.i64 (s + 1)) fun u => some (Sum.inl u))) (some (Sum.inr (Sum.inl ())))) 0) Q := by
 refine Tot.count 10 (fun k s => s = (k : Int)) ?_ rfl
 rintro k _ hk rfl
 simp only [zA, zq, qd, qm, zu, Sum.elim_inl, Sum.elim_inr, decide_eq_true_eq, decide_eq_false_iff_not, Int.toNat_natCast]
 refine ⟨fun hlt => ?_, fun _ => hQ⟩
 obtain ⟨x, hx⟩ := zD (l := cs) (i := k) (by omega)
 have hx' := h x (List.mem_of_getElem? hx)
 refine ⟨by omega, x, hx, ?_⟩
 rw [zlt h0 h1]
 have nx : k < 10 /\ IntKind.wrap .i64 ((k : Int) + 1) = ((k + 1 : Nat) : Int) := by
  rw [w64 (by omega) (by omega)]; exact ⟨by omega, by omega⟩
 by_cases g6 : k = 6
 . subst g6
   rw [h6] at hx; cases hx
   rw [zar r h0 h1, zq]
   exact ⟨fun e => (by cases e), fun _ => nx⟩
 by_cases g8 : k = 8
 . subst g8
   rw [h8] at hx; cases hx
   rw [zar r h0 h1, zq]
   exact ⟨fun e => (by cases e), fun _ => nx⟩
 refine (zdg x r hx'.2 hx'.1 h0 h1).mono fun _ _ => ⟨fun _ => hQ' _ (by omega) (by omega), fun _ => nx⟩
theorem zbz (c : UInt8) : Tot (zdh (IntKind.wrap .i64 (c.toNat : Int))) fun x => (decide (x.1 = 8) = yA c) /\ (decide (x.1 = 6) = xk c) := by
 have hc := c.toNat_lt
 rw [w64 (by omega) (by omega)]
 have h0 : (0 : Int) <= c.toNat := by omega
 have h1 : (c.toNat : Int) < 256 := by omega
 unfold zdh zfa yA xk
 rw [zoc _ h0 h1]
 simp only [Option.bind_some, Bool.not_true, cond_false]
 have L : ¬ (48 <= c.toNat /\ c.toNat <= 57) -> ¬ (97 <= c.toNat /\ c.toNat <= 122) -> _ := fun d1 d2 => zog (cs := [[], [32], [10], [40, 91], [41, 93], [34], [], [45], [], [60, 61]]) rfl (by decide) rfl rfl c.toNat h0 h1 (Q := fun a => Tot (Sum.elim (fun _ => some ((10 : Int), (0 : Int))) some a) fun (x : Int × Int) => (decide (x.1 = 8) = (decide (97 <= c.toNat) && decide (c.toNat <= 122))) /\ (decide (x.1 = 6) = (decide (48 <= c.toNat) && decide (c.toNat <= 57))))
  (.mk (by
    have a1 : (decide (97 <= c.toNat) && decide (c.toNat <= 122)) = false := by simp; omega
    have a2 : (decide (48 <= c.toNat) && decide (c.toNat <= 57)) = false := by simp; omega
    rw [a1, a2]; exact ⟨rfl, rfl⟩)) (fun x e6 e8 => .mk (by
    have a1 : (decide (97 <= c.toNat) && decide (c.toNat <= 122)) = false := by simp; omega
    have a2 : (decide (48 <= c.toNat) && decide (c.toNat <= 57)) = false := by simp; omega
    rw [a1, a2]; simp [e6, e8]))
 simp only [zA, zq, zu, decide_eq_true_eq, decide_eq_false_iff_not]
 have six : 48 <= c.toNat -> c.toNat <= 57 -> decide ((6 : Int) = 8) = (decide (97 <= c.toNat) && decide (c.toNat <= 122)) /\ decide ((6 : Int) = 6) = (decide (48 <= c.toNat) && decide (c.toNat <= 57)) := by
  intro d1 d2
  have a1 : (decide (97 <= c.toNat) && decide (c.toNat <= 122)) = false := by simp; omega
  have a2 : (decide (48 <= c.toNat) && decide (c.toNat <= 57)) = true := by simp; omega
  rw [a1, a2]; exact ⟨rfl, rfl⟩
 have eight : 97 <= c.toNat -> c.toNat <= 122 -> decide ((8 : Int) = 8) = (decide (97 <= c.toNat) && decide (c.toNat <= 122)) /\ decide ((8 : Int) = 6) = (decide (48 <= c.toNat) && decide (c.toNat <= 57)) := by
  intro d1 d2
  have a1 : (decide (97 <= c.toNat) && decide (c.toNat <= 122)) = true := by simp; omega
  have a2 : (decide (48 <= c.toNat) && decide (c.toNat <= 57)) = false := by simp; omega
  rw [a1, a2]; exact ⟨rfl, rfl⟩
 refine ⟨fun d1 => ⟨fun d2 => six (by omega) (by omega), fun d2 => ⟨fun d3 => ⟨fun d4 => eight (by omega) (by omega), fun d4 => L (by omega) (by omega)⟩, fun d3 => L (by omega) (by omega)⟩⟩, fun d1 => ⟨fun d3 => ⟨fun d4 => eight (by omega) (by omega), fun d4 => L (by omega) (by omega)⟩, fun d3 => L (by omega) (by omega)⟩⟩
def wY (s : List UInt8) : Bool := (match s with | [] => false | c :: _ => yA c) && s.all fun c => yA c || xk c
theorem zfj {s : List UInt8} {p : UInt8 -> Bool} {k : Nat} {c : UInt8} (h : (s.take k).all p = true) (hc : s[k]? = some c) (hp : p c = true) : (s.take (k + 1)).all p = true := by
 rw [List.take_add_one, hc, List.all_append, h]
 simp [hp]
theorem zhk (s : List UInt8) (h : s.length <= 1000000) : Tot (zsc (TK.mk 1 0 0 0 s)) fun x => decide (x = 0) = (wY s && decide (s.length <= 16)) := by
 unfold zsc
 dsimp only
 have e2 : decide ((1 : Int) < 1) = false := rfl
 have e3 : decide ((9 : Int) < 1) = false := rfl
 simp only [e2, e3, decide_true, cond_true, cond_false, Option.bind_some, Sum.elim_inl, Bool.and_self, Bool.not_true]
 rw [zu]
 have Qn : ∀ x : Int, wY s = false -> Tot (Sum.elim (fun (n : Int) => cond (decide (n < (s.length : Int))) (some (3 : Int)) (some (0 : Int))) some (Sum.inr 6 : Int ⊕ Int)) fun x => decide (x = 0) = (wY s && decide (s.length <= 16)) := by
  intro _ e
  rw [e]; exact .mk rfl
 have Qy : wY s = true -> Tot (Sum.elim (fun (n : Int) => cond (decide (n < (s.length : Int))) (some (3 : Int)) (some (0 : Int))) some (Sum.inl 16 : Int ⊕ Int)) fun x => decide (x = 0) = (wY s && decide (s.length <= 16)) := by
  intro e
  rw [e]
  simp only [Sum.elim_inl, zA, zq, decide_eq_true_eq, decide_eq_false_iff_not]
  refine ⟨fun g => ?_, fun g => ?_⟩
  . have : decide (s.length <= 16) = false := by simp; omega
    rw [this]; rfl
  . have : decide (s.length <= 16) = true := by simp; omega
    rw [this]; rfl
 rw [zA]
 refine ⟨fun h1 => ?_, fun h1 => ?_⟩
 . simp only [zq]
   refine Qn 0 ?_
   have : s = [] := List.length_eq_zero_iff.1 (by simpa using h1)
   rw [this]; rfl
 simp only [decide_eq_false_iff_not] at h1
 obtain ⟨c, hc⟩ := zD (l := s) (i := 0) (by omega)
 have hs0 : ∃ r, s = c :: r := by
  cases s with
  | nil => simp at hc
  | cons a r => simp at hc; exact ⟨r, by rw [hc]⟩
 have e0 : (0 : Int).toNat = 0 := rfl
 simp only [qm, qd, zu, e0]
 refine ⟨by omega, c, hc, (zbz c).mono fun x hx => ?_⟩
 rw [zA]
 refine ⟨fun g => ?_, fun g => ?_⟩
 . simp only [zq]
   refine Qn 0 ?_
   obtain ⟨r, rfl⟩ := hs0
   have : yA c = false := by rw [<- hx.1]; simpa using g
   unfold wY; simp [this]
 have hlow : yA c = true := by rw [<- hx.1]; simpa using g
 simp only [qm, qd, zu, e0]
 refine ⟨by omega, c, hc, (zbz c).mono fun y hy => ?_⟩
 refine Tot.loop (fun (p : Int × Int) => s.length - p.2.toNat) (fun (p : Int × Int) => 0 <= p.2 /\ p.2 <= (s.length : Int) /\ (s.take p.2.toNat).all (fun c => yA c || xk c) = true /\ ((p.2 = (s.length : Int) /\ p.1 = 10) \/ ∃ d, s[p.2.toNat]? = some d /\ decide (p.1 = 8) = yA d /\ decide (p.1 = 6) = xk d)) ?_ ⟨by simp, by simp, by simp, .inr ⟨c, by simpa using hc, hy⟩⟩
 rintro ⟨k, a⟩ ⟨h2, h3, hall, h4⟩
 simp only at h2 h3 hall h4
 have round : (k = 8 \/ k = 6) -> ∀ {Q : (Bool × Int × Int) ⊕ (Int ⊕ Int) -> Prop}, Tot (zg (IntKind.wrap .i64 (a + 1)) fun (u : Int) => cond (decide ((s.length : Int) <= u)) (some (Sum.inl ((10 : Int), u))) (zh s u fun (v : UInt8) => zg (IntKind.wrap .i64 (v.toNat : Int)) fun (z : Int) => Option.bind (zdh z) fun r => some (Sum.inl (r.1, u)))) (Sum.elim (fun (s' : Int × Int) => (0 <= s'.2 /\ s'.2 <= (s.length : Int) /\ (s.take s'.2.toNat).all (fun c => yA c || xk c) = true /\ ((s'.2 = (s.length : Int) /\ s'.1 = 10) \/ ∃ d, s[s'.2.toNat]? = some d /\ decide (s'.1 = 8) = yA d /\ decide (s'.1 = 6) = xk d)) /\ s.length - s'.2.toNat < s.length - a.toNat) Q) := by
  intro hk Q
  rcases h4 with ⟨g1, g2⟩ | ⟨d, hd, d1, d2⟩
  . omega
  have hlt : a.toNat < s.length := by
   rcases Nat.lt_or_ge a.toNat s.length with g | g
   . exact g
   . rw [List.getElem?_eq_none g] at hd; cases hd
  have hp : (yA d || xk d) = true := by
   rw [<- d1, <- d2]
   rcases hk with rfl | rfl <;> rfl
  have e1 : (a + 1).toNat = a.toNat + 1 := by omega
  have hall' : (s.take (a + 1).toNat).all (fun c => yA c || xk c) = true := by rw [e1]; exact zfj hall hd hp
  rw [qd, w64 (by omega) (by omega), zA]
  refine ⟨fun g => ?_, fun g => ?_⟩
  . simp only [decide_eq_true_eq] at g
    simp only [zq, Sum.elim_inl]
    exact ⟨⟨by omega, by omega, hall', .inl ⟨by omega, trivial⟩⟩, by omega⟩
  . simp only [decide_eq_false_iff_not] at g
    obtain ⟨d', hd'⟩ := zD (l := s) (i := (a + 1).toNat) (by omega)
    simp only [qm, qd, zu]
    refine ⟨by omega, d', hd', (zbz d').mono fun z hz => ?_⟩
    simp only [zq, Sum.elim_inl]
    exact ⟨⟨by omega, by omega, hall', .inr ⟨d', hd', hz⟩⟩, by omega⟩
 rw [zA]
 refine ⟨fun g => round (.inl (by simpa using g)), fun g => ?_⟩
 rw [zA]
 refine ⟨fun g' => round (.inr (by simpa using g')), fun g' => ?_⟩
 simp only [zq, Sum.elim_inr, Sum.elim_inl, qJ, zA, e0, List.drop_zero]
 refine ⟨by omega, fun hne => ?_, fun heq => ?_⟩
 . refine (zq (Q := fun x => decide (x = 0) = (wY s && decide (s.length <= 16)))).1 (Qn 0 ?_)
   rcases h4 with ⟨g1, _⟩ | ⟨d, hd, d1, d2⟩
   . exfalso
     have : a.toNat = s.length := by omega
     rw [this, List.take_length] at hne
     simp at hne
   . unfold wY
     have : (s.all fun c => yA c || xk c) = false := by
      rw [List.all_eq_false]
      refine ⟨d, List.mem_of_getElem? hd, ?_⟩
      rw [<- d1, <- d2, g, g']
      simp
     rw [this, Bool.and_false]
 . have ht : s.take a.toNat = s := by simpa using heq
   rw [ht] at hall
   have hw : wY s = true := by
    unfold wY
    obtain ⟨r, rfl⟩ := hs0
    simp only [hall, hlow, Bool.and_self]
   rw [hw]
   refine ⟨fun g => ?_, fun g => ?_⟩
   . have : decide (s.length <= 16) = false := by simp at g ⊢; omega
     rw [this]; rfl
   . have : decide (s.length <= 16) = true := by simp at g ⊢; omega
     rw [this]; rfl
open Go
theorem zl8 (c : UInt8) : zn4 (c.toNat : Int) = some (yA c) := by
 unfold zn4 yA
 by_cases h : 97 <= c.toNat
 . have : decide ((97 : Int) <= (c.toNat : Int)) = true := by simp; omega
   rw [this]
   simp only [cond_true, h, decide_true, Bool.true_and, Option.some.injEq]
   rw [Bool.eq_iff_iff]; simp; omega
 . have : decide ((97 : Int) <= (c.toNat : Int)) = false := by simp; omega
   rw [this]
   simp [h]
theorem zy6 (c : UInt8) : zrj (c.toNat : Int) = some (xk c) := by
 unfold zrj xk
 by_cases h : 48 <= c.toNat
 . have : decide ((48 : Int) <= (c.toNat : Int)) = true := by simp; omega
   rw [this]
   simp only [cond_true, h, decide_true, Bool.true_and, Option.some.injEq]
   rw [Bool.eq_iff_iff]; simp; omega
 . have : decide ((48 : Int) <= (c.toNat : Int)) = false := by simp; omega
   rw [this]
   simp [h]
theorem zy9 (s : List UInt8) (h : s.length <= 1000000) : zcs s = some (wY s) := by
 unfold zcs
 cases s with
 | nil => rfl
 | cons c r =>
   have e1 : decide (c :: r = (ByteArray.mk #[]).data.toList) = false := by
    exact decide_eq_false (fun e => by cases (show c :: r = [] from e))
   rw [e1]
   apply Tot.eq
   have e0 : (0 : Int).toNat = 0 := rfl
   simp only [cond_false, qm, e0, zu]
   refine ⟨by omega, c, rfl, ?_⟩
   rw [zl8, zq, zA]
   refine ⟨fun g => ?_, fun g => ?_⟩
   . have : yA c = false := by simpa using g
     simp [zq, wY, this]
   have hl : yA c = true := by simpa using g
   rw [zu]
   refine Tot.count (c :: r).length (fun k s => s = (k : Int) /\ ((c :: r).take k).all (fun c => yA c || xk c) = true) ?_ ⟨rfl, by simp⟩
   rintro k _ hk ⟨rfl, hall⟩
   simp only [zA, zq, qd, qm, zu, Sum.elim_inl, Sum.elim_inr, decide_eq_true_eq, decide_eq_false_iff_not, Int.toNat_natCast]
   refine ⟨fun hlt => ?_, fun hge => ?_⟩
   . obtain ⟨d, hd⟩ := zD (l := c :: r) (i := k) (by omega)
     refine ⟨by omega, d, hd, ?_⟩
     rw [zl8, zq]
     have nx : k < (c :: r).length /\ IntKind.wrap .i64 ((k : Int) + 1) = ((k + 1 : Nat) : Int) := by
      rw [w64 (by omega) (by omega)]; exact ⟨by omega, by omega⟩
     refine ⟨fun g1 => ⟨by omega, d, hd, ?_⟩, fun g1 => ⟨nx.1, nx.2, zfj hall hd (by simp at g1; simp [g1])⟩⟩
     rw [zy6, zq]
     refine ⟨fun g2 => ?_, fun g2 => ⟨nx.1, nx.2, zfj hall hd (by simp at g2; simp [g2])⟩⟩
     have : ((c :: r).all fun c => yA c || xk c) = false := by
      rw [List.all_eq_false]
      refine ⟨d, List.mem_of_getElem? hd, ?_⟩
      simp at g1 g2
      simp [g1, g2]
     unfold wY
     rw [this, Bool.and_false]
   . rw [List.take_of_length_le (by omega)] at hall
     unfold wY
     rw [hall]
     show true = (yA c && true)
     rw [hl]; rfl
theorem zAm (s : List UInt8) (h : s.length <= 1000000) : Tot (zsh (TK.mk 1 0 0 0 s)) fun x => decide (x = 0) = (wY s && decide (s.length <= 16)) := by
 unfold zsh
 dsimp only
 have e2 : decide ((1 : Int) < 1) = false := rfl
 have e3 : decide ((9 : Int) < 1) = false := rfl
 have e4 : decide ((1 : Int) = 2) = false := rfl
 simp only [e2, e3, e4, decide_true, cond_true, cond_false, Bool.not_true, Bool.not_false, zy9 s h, Option.bind_some, zA, zq]
 refine ⟨fun g => ?_, fun g => ?_⟩
 . have : wY s = false := by simpa using g
   rw [this]; rfl
 . have : wY s = true := by simpa using g
   rw [this]
   refine ⟨fun g => ?_, fun g => ?_⟩
   . have : decide (s.length <= 16) = false := by simp at g ⊢; omega
     rw [this]; rfl
   . have : decide (s.length <= 16) = true := by simp at g ⊢; omega
     rw [this]; rfl
def primN : List (List UInt8) := [[110, 101, 103], [97, 98, 115], [110, 111, 116], [115, 104, 97, 112, 101], [114, 97, 118, 101, 108], [114, 101, 118, 101, 114, 115, 101], [102, 108, 105, 112], [105, 111, 116, 97], [115, 117, 109], [108, 101, 97, 115, 116], [109, 111, 115, 116], [99, 111, 117, 110, 116], [115, 99, 97, 110], [103, 114, 97, 100, 101], [97, 100, 100], [115, 117, 98], [109, 117, 108], [100, 105, 118], [109, 111, 100], [112, 108, 117, 115], [109, 105, 110, 117, 115], [116, 105, 109, 101, 115], [101, 113], [110, 101], [108, 116], [108, 101], [103, 116], [103, 101], [97, 110, 100], [111, 114], [109, 105, 110], [109, 97, 120], [116, 97, 107, 101], [100, 114, 111, 112], [102, 105, 108, 108], [103, 114, 105, 100], [99, 97, 116], [97, 116], [105, 110], [112, 105, 99, 107]]
theorem zg8 (s : List UInt8) : Tot (zng s) fun x => decide (x.2 = 0) = decide (s ∈ primN) := by
 by_cases hm : s ∈ primN
 . have h2 : ∀ t ∈ primN, ∃ x, zng t = some x /\ decide (x.2 = 0) = true := by
    unfold primN
    simp only [List.forall_mem_cons]
    repeat' constructor
    intro t ht; cases ht
   obtain ⟨x, e, hx⟩ := h2 s hm
   exact ⟨x, e, by show decide (x.2 = 0) = _; rw [hx]; simp [hm]⟩
 . have hd : decide (s ∈ primN) = false := by simp [hm]
   rw [hd]
   unfold zng
   unfold primN at hm
   simp only [List.mem_cons, List.not_mem_nil, or_false, not_or] at hm
   have sw : ∀ n : List UInt8, (n = s) = (s = n) := fun n => propext eq_comm
   simp only [sw, hm, decide_false, cond_false, Option.bind_some, Sum.elim_inl, zq]
   rfl
theorem zkd (s : List UInt8) : Tot (zqb s) fun x => decide (x.2 = 0) = decide (s ∈ primN) := by
 unfold zqb zqa
 simp only [Option.bind_some]
 change Tot (Option.bind (lpO (fun (k : Int) => cond (decide (k < ((List.length (List.map SV.str primN) : Nat) : Int))) (zh primN k _) _) 0) _) _
 rw [zu]
 have hn : (List.map SV.str primN).length = 40 := rfl
 have hn' : primN.length = 40 := rfl
 rw [hn]
 refine Tot.count 40 (fun k x => x = (k : Int) /\ s ∉ primN.take k) ?_ ⟨rfl, by simp⟩
 rintro k _ hk ⟨rfl, hmem⟩
 simp only [zA, zq, qd, qm, zu, Sum.elim_inl, Sum.elim_inr, decide_eq_true_eq, decide_eq_false_iff_not, Int.toNat_natCast]
 refine ⟨fun hlt => ?_, fun hge => ?_⟩
 . obtain ⟨x, hx⟩ := zD (l := primN) (i := k) (by omega)
   refine ⟨by omega, x, hx, fun g => ?_, fun g => ?_⟩
   . subst g
     have := List.mem_of_getElem? hx
     simp [this]
   . rw [w64 (by omega) (by omega), List.take_add_one, hx]
     refine ⟨by omega, by omega, fun hm => ?_⟩
     rcases List.mem_append.1 hm with hm | hm
     . exact hmem hm
     . simp at hm; exact g hm.symm
 . rw [List.take_of_length_le (by omega)] at hmem
   simp [hmem]
def resN : List (List UInt8) := [[118, 97, 114], [100, 101, 102], [111, 117, 116], [105, 102], [101, 108, 115, 101], [119, 104, 105, 108, 101], [101, 110, 100], [114, 101, 108, 101, 97, 115, 101], [105, 110, 116], [99, 104, 97, 114]]
def exN (s : List UInt8) : Bool := !decide (s ∈ resN) && !decide (s ∈ primN) && (wY s && decide (s.length <= 16))
theorem zbp (s : List UInt8) (h : s.length <= 1000000) : zix s = some (exN s) := by
 apply Tot.eq
 unfold exN
 by_cases hm : s ∈ resN
 . have h2 : ∀ t ∈ resN, zix t = some false := by
    unfold resN
    simp only [List.forall_mem_cons]
    repeat' constructor
    intro t ht; cases ht
   rw [h2 s hm, zq]
   simp [hm]
 . have hd : decide (s ∈ resN) = false := by simp [hm]
   rw [hd]
   unfold zix
   unfold resN at hm
   simp only [List.mem_cons, List.not_mem_nil, or_false, not_or] at hm
   change Tot (cond (decide (s = [118, 97, 114])) _ (cond (decide (s = [100, 101, 102])) _ (cond (decide (s = [111, 117, 116])) _ (cond (decide (s = [105, 102])) _ (cond (decide (s = [101, 108, 115, 101])) _ (cond (decide (s = [119, 104, 105, 108, 101])) _ (cond (decide (s = [101, 110, 100])) _ (cond (decide (s = [114, 101, 108, 101, 97, 115, 101])) _ (cond (decide (s = [105, 110, 116])) _ (cond (decide (s = [99, 104, 97, 114])) _ _)))))))))) _
   simp only [hm, decide_false, cond_false, zu]
   refine (zg8 s).mono fun x hx => ?_
   rw [hx, zA]
   refine ⟨fun g => ?_, fun g => ?_⟩
   . rw [g]; exact .mk rfl
   . rw [g, zu]
     refine (zhk s h).mono fun y hy => .mk ?_
     rw [hy]; rfl
theorem zkg (s : List UInt8) : zsi s = some (decide (s ∈ resN)) := by
 unfold zsi
 apply Tot.eq
 change Tot (Option.bind (lpO (fun (k : Int) => cond (decide (k < ((10 : Nat) : Int))) (zn (0 <= k /\ k < ((10 : Nat) : Int)) (zh resN ((k.toNat : Nat) : Int) _)) _) 0) _) _
 rw [zu]
 have hn' : resN.length = 10 := rfl
 refine Tot.count 10 (fun k x => x = (k : Int) /\ s ∉ resN.take k) ?_ ⟨rfl, by simp⟩
 rintro k _ hk ⟨rfl, hmem⟩
 simp only [zA, zq, qd, qm, qJ, zu, Sum.elim_inl, Sum.elim_inr, decide_eq_true_eq, decide_eq_false_iff_not, Int.toNat_natCast]
 refine ⟨fun hlt => ?_, fun hge => ?_⟩
 . obtain ⟨x, hx⟩ := zD (l := resN) (i := k) (by omega)
   refine ⟨⟨by omega, by omega⟩, by omega, x, hx, fun g => ?_, fun g => ?_⟩
   . subst g
     have := List.mem_of_getElem? hx
     simp [this]
   . rw [w64 (by omega) (by omega), List.take_add_one, hx]
     refine ⟨by omega, by omega, fun hm => ?_⟩
     rcases List.mem_append.1 hm with hm | hm
     . exact hmem hm
     . simp at hm; exact g hm.symm
 . rw [List.take_of_length_le (by omega)] at hmem
   simp [hmem]
theorem zhl (s : List UInt8) (h : s.length <= 1000000) : zq5 s = some (exN s) := by
 unfold zq5 exN
 apply Tot.eq
 rw [zu]
 refine (zkd s).mono fun x hx => ?_
 rw [zu]
 refine (zAm s h).mono fun y hy => ?_
 rw [hx, hy, zkg]
 cases wY s && decide (s.length <= 16) <;> cases decide (s ∈ primN) <;> cases decide (s ∈ resN) <;> exact .mk rfl
open Go
open Go
open Go
theorem qy {σ τ ε : Type} {step : σ -> Option (σ ⊕ (ε ⊕ τ))} {k1 : ε -> Option τ} (n : Nat) (S : Nat -> σ) (f : Nat -> Option τ) (e : ε)
 (h1 : ∀ k : Nat, k < n -> step (S k) = some (match f k with | some r => .inr (.inr r) | none => .inl (S (k + 1))))
 (h2 : step (S n) = some (.inr (.inl e))) {s0 : σ} (h0 : S 0 = s0) : (lpO step s0).bind (Sum.elim k1 some) = match zw f 0 n with | some r => some r | none => k1 e := by
 subst h0
 rw [zf9 n S (fun k => (f k).map Sum.inr) (.inl e) (fun k hk => by rw [h1 k hk]; cases f k <;> rfl) h2, jN]
 cases zw f 0 n <;> rfl
theorem jc {σ τ ε : Type} {step : σ -> Option (σ ⊕ (ε ⊕ τ))} {k1 : ε -> Option τ} (n : Nat) (S : Nat -> σ) (e : ε)
 (h1 : ∀ k : Nat, k < n -> step (S k) = some (.inl (S (k + 1)))) (h2 : step (S n) = some (.inr (.inl e))) {s0 : σ} (h0 : S 0 = s0) : (lpO step s0).bind (Sum.elim k1 some) = k1 e := by
 subst h0
 rw [zyw n S (.inl e) h1 h2]; rfl
def foldN : List (List UInt8) := [[], [115, 117, 109], [99, 111, 117, 110, 116], [108, 101, 97, 115, 116], [109, 111, 115, 116]]
def jG (n : Int) : List UInt8 × Int := if n < 1 \/ 4 < n then ([], 2) else (foldN.getD n.toNat [], 0)
theorem zgs {n : Int} (h : ¬ (n < 1 \/ 4 < n)) : n = 1 \/ n = 2 \/ n = 3 \/ n = 4 := by omega
theorem zov (n : Int) : zrd n = some (jG n) := by
 unfold zrd jG
 by_cases h : n < 1 \/ 4 < n
 . rw [if_pos h]
   rcases h with h | h
   . simp [h]
   . have : ¬ n < 1 := by omega
     simp [this, h]
 . rw [if_neg h]
   rcases zgs h with rfl | rfl | rfl | rfl <;> rfl
theorem zok (n : Int) : zqo n = some (jG n) := by
 unfold zqo jG zrc
 by_cases h : n < 1 \/ 4 < n
 . rw [if_pos h]
   rcases h with h | h
   . simp [h]
   . have : ¬ n < 1 := by omega
     simp [this, h]
 . rw [if_neg h]
   rcases zgs h with rfl | rfl | rfl | rfl <;> rfl
def i64 (n : Int) : Prop := -9223372036854775808 <= n /\ n <= 9223372036854775807
open Go
open Go
open Go
theorem zAf {n : Int} (h : inK .u8 n) : 0 <= n /\ n < 256 := by
 have e1 : IntKind.u8.min = 0 := by decide
 have e2 : IntKind.u8.max = 255 := by decide
 unfold inK at h
 omega
open Go
theorem zoq (x : Int) (h0 : 0 <= x) (h1 : x < 256) : Tot (zk4 x) fun y => ∀ n : Nat, n <= 8 -> x.toNat < 2 ^ n -> decide (y < (n : Int)) = !decide (x.toNat = 2 ^ n - 1) := by
 unfold zk4
 rw [qm]
 refine ⟨h0, ?_⟩
 have key : ∀ l : List UInt8, (∀ x : Fin 256, ∀ n : Fin 9, (l[x.val]?.map fun y => decide (x.val < 2 ^ n.val -> decide (IntKind.wrap .i64 (y.toNat : Int) < (n.val : Int)) = !decide (x.val = 2 ^ n.val - 1))) = some true) ->
  ∃ y, l[x.toNat]? = some y /\ Tot (zg (IntKind.wrap .i64 (y.toNat : Int)) fun z => some z) fun y => ∀ n : Nat, n <= 8 -> x.toNat < 2 ^ n -> decide (y < (n : Int)) = !decide (x.toNat = 2 ^ n - 1) := by
  intro l hl
  cases e : l[x.toNat]? with
  | none =>
    have := hl ⟨x.toNat, by omega⟩ ⟨0, by omega⟩
    simp only [e] at this
    cases this
  | some y =>
    refine ⟨y, rfl, .mk fun n hn hx => ?_⟩
    have := hl ⟨x.toNat, by omega⟩ ⟨n, by omega⟩
    simp only [e, Option.map_some, Option.some.injEq, decide_eq_true_eq] at this
    exact this hx
 exact key _ (by decide +kernel)
theorem ztr {l : TL} (h : LatIn l) : zqe l = some (if (qO l).2 = 0 then ((wv l : Int), 0) else (0, (qO l).2)) := by
 unfold zqe
 rw [zou h [] (by simp)]
 simp only [Option.bind_some, zct, List.all_nil, if_true]
 by_cases hk : (qO l).2 = 0
 case neg => simp [hk]
 have ok := xj h hk
 simp only [hk, if_true, decide_true, Bool.not_true, cond_false]
 obtain ⟨o, e1, on, ol, _, ou, _⟩ := zlq l ok.u8 ok.le ok.len
 rw [e1]
 simp only [Option.bind_some]
 have hb := (zf3 h hk).1
 have hend : zsw o.up_ o.n_ = some (wv l : Int) := by
  unfold zsw
  rw [on]
  have hw : IntKind.wrap .i64 ((l.Names.length : Int) - 1) = ((l.Names.length - 1 : Nat) : Int) := by
   have := ok.pos; have := ok.le
   rw [w64 (by omega) (by omega)]; omega
  have hle := ok.le
  have hpos := ok.pos
  have hrun := zf9 (step := fun (s585 : Int) =>
   zg (IntKind.wrap IntKind.i64 ((l.Names.length : Int) - (1 : Int))) fun x591 =>
   cond (decide (s585 < x591))
   (zn ((0 : Int) <= s585 /\ s585 < (↑(8 : Nat) : Int)) (
   zh (o.up_) ((↑(Int.toNat s585) : Int)) fun x593 =>
   Option.bind (zk4 (x593)) fun x594 =>
   cond (decide (x594 < (l.Names.length : Int)))
   (zg (IntKind.wrap IntKind.i64 (s585 + (1 : Int))) fun x596 =>
   some (Sum.inl (x596)))
   (some (Sum.inr (Sum.inl (β := Int) s585)))))
   (some (Sum.inr (Sum.inl s585)))) (l.Names.length - 1) (fun k => (k : Int)) (fun k => if k = wv l then some (Sum.inl (k : Int)) else none) (Sum.inl ((l.Names.length - 1 : Nat) : Int)) (fun k hk2 => by
     have hlt : (k : Int) < ((l.Names.length - 1 : Nat) : Int) := by omega
     have n1 : (0 : Int) <= (k : Int) := by omega
     have n2 : (k : Int) < ((8 : Nat) : Int) := by omega
     have hw2 : IntKind.wrap .i64 ((k : Int) + 1) = ((k + 1 : Nat) : Int) := w64 (by omega) (by omega)
     obtain ⟨x, hx⟩ := zD (l := l.Up) (i := k) (by have := ok.len; omega)
     have hx' := ok.u8.get hx
     have hox : o.up_[k]? = some x := by rw [ou k (by omega)]; exact hx
     obtain ⟨y, ey, hy⟩ := zoq x hx'.1 hx'.2
     have hux : x.toNat = upN l k := by unfold upN; rw [List.getD_eq_getElem?_getD, hx]; rfl
     have hf := zxf h hk (b := k) (by omega)
     have hlt2 : x.toNat < 2 ^ l.Names.length := by
      have h1 := (zdf h hk).1 k (by omega)
      unfold xh at h1
      simp only [Bool.and_eq_true, decide_eq_true_eq] at h1
      rw [hux]; exact h1.1.1
     have hd := hy l.Names.length hle hlt2
     rw [hux] at hd
     simp only [zg, hw, hlt, decide_true, cond_true, zn, n1, n2, and_self, if_true, zh, Int.toNat_natCast, hox, Option.bind_some, ey, hw2, hd]
     by_cases hq : k = wv l
     . have := hf.2 hq
       simp only [this, if_pos hq, decide_true, Bool.not_true, cond_false]
     . have : ¬ upN l k = 2 ^ l.Names.length - 1 := fun e => hq (hf.1 e)
       simp only [this, if_neg hq, decide_false, Bool.not_false, cond_true]) (by
     simp only [zg, hw]
     simp)
  have hs0 : ((0 : Nat) : Int) = 0 := rfl
  simp only [hs0] at hrun
  rw [hrun]
  have hsc : (zw (fun k => if k = wv l then some (Sum.inl (α := Int) (β := Int) (k : Int)) else none) 0 (l.Names.length - 1)).getD (Sum.inl ((l.Names.length - 1 : Nat) : Int)) = Sum.inl (wv l : Int) := by
   cases e : zw (fun k => if k = wv l then some (Sum.inl (α := Int) (β := Int) (k : Int)) else none) 0 (l.Names.length - 1) with
   | some r =>
     have : r = Sum.inl (wv l : Int) := zap (v := Sum.inl (wv l : Int)) (fun i => by
      by_cases hi : i = wv l
      . exact .inl (by rw [if_pos hi, hi])
      . exact .inr (by rw [if_neg hi])) e
     rw [this]; rfl
   | none =>
     have hn := scan_none.1 e
     rcases Nat.lt_or_ge (wv l) (l.Names.length - 1) with g | g
     . have := hn (wv l) (by omega) (by omega)
       simp at this
     . have : wv l = l.Names.length - 1 := by omega
       rw [this]; rfl
  rw [hsc]
  rfl
 rw [hend]
 rfl
open Go
theorem zj9 {l : TL} (h : LatIn l) : zna l = some (if (qO l).2 = 0 then ((wv l : Int), 0) else (0, (qO l).2)) := by
 apply Tot.eq
 unfold zna
 rw [zhu h]
 simp only [Option.bind_some]
 by_cases hk : (qO l).2 = 0
 case neg =>
  have : zct l [0, 0] = (qO l).2 := by unfold zct; rw [if_neg hk]
  simp only [this, hk, decide_false, Bool.not_false, cond_true, if_false]
  exact .mk rfl
 have ok := xj h hk
 have hpos := ok.pos
 have hle := ok.le
 have h0n : (0 : Int) < (l.Names.length : Int) := by omega
 have hl0 : wu l 0 = true := by unfold wu; rw [decide_eq_true (Int.le_refl 0), decide_eq_true h0n]; rfl
 have ha : zct l [0, 0] = 0 := by unfold zct; rw [if_pos hk, List.all_cons, List.all_cons, hl0]; rfl
 simp only [ha, hk, decide_true, Bool.not_true, cond_false, if_true]
 obtain ⟨d, e1, dl, dd⟩ := zg4 ok.u8 ok.le ok.len
 rw [e1]
 simp only [Option.bind_some, zu, List.length_map]
 refine Tot.count l.Names.length (fun k s => s.1 = (k : Int) /\ ∃ v : Nat, s.2 = (v : Int) /\ v < l.Names.length /\ ∀ i, i < l.Names.length -> up l i v = true -> ∀ j, j < k -> up l i j = true) ?_ ⟨rfl, 0, rfl, by omega, fun i _ _ j hj => by omega⟩
 rintro k ⟨i, w⟩ hkn ⟨h0, v, h1, h2, h3⟩
 simp only at h0 h1
 subst h0 h1
 simp only [zA, decide_eq_true_eq, decide_eq_false_iff_not]
 refine ⟨fun hlt => ?_, fun hlt => ?_⟩
 . obtain ⟨c, hc, hcn, hg⟩ := zmu h hk (a := k) (b := v) (by omega) h2
   rw [uu d (dnN l) k v (by omega) (fun c hc => dd c (by omega)) (fun c hc2 => zhj l c hle) (by omega) (by omega)]
   unfold zc8
   rw [dl, hc]
   simp only [Option.bind_some, zg, zq, Sum.elim_inl]
   refine ⟨by omega, w64 (by omega) (by omega), c, rfl, hcn, fun i hi hu j hj => ?_⟩
   rw [zhs hi hg] at hu
   simp only [Bool.and_eq_true] at hu
   rcases Nat.lt_or_ge j k with g | g
   . exact h3 i hi hu.2 j g
   . have : j = k := by omega
     rw [this]; exact hu.1
 . have hke : k = l.Names.length := by omega
   simp only [zq, Sum.elim_inl, Sum.elim_inr]
   have := zs3 h hk h2 fun a ha => h3 v h2 (ok.self v h2) a (by omega)
   rw [<- this]
open Go
theorem zuv {l : TL} (hu : U8s l.Up) {a b : Nat} (ha : a < l.Up.length) (hb : b <= 8) : zn2 l a b = some (up l a b) := by
 unfold zn2
 obtain ⟨x, hx⟩ := zD ha
 have hx' := hu.get hx
 have key : ∀ u : Fin 256, ∀ b : Fin 9, decide (bits .and .u8 (Int.fdiv (u.val : Int) (2 ^ min b.val (IntKind.bits .u8))) 1 = 1) = Nat.testBit u b := by decide +kernel
 have := key ⟨x.toNat, by omega⟩ ⟨b, by omega⟩
 simp only [Int.toNat_of_nonneg hx'.1] at this
 simp only [Int.natCast_nonneg, zh, Int.toNat_natCast, if_true, hx, Option.bind_some, zn, this, xn hx]
theorem zgi {l : TL} (h : LatIn l) (hk : (qO l).2 = 0) (xs : List Int) (hx : xs.length <= 64) (hl : ∀ x ∈ xs, wu l x = true) : zqt l xs = some (0, 0) := by
 unfold zqt
 rw [zcp h]
 have h64 : ¬ (64 : Int) < (xs.length : Int) := by omega
 simp only [Option.bind_some, hk, decide_true, Bool.not_true, cond_false, List.length_map, h64, decide_false]
 refine (jc xs.length (fun k => (k : Int)) () (fun k hk => ?_) (by simp) rfl).trans rfl
 obtain ⟨x, hx⟩ := zD hk
 have hq := hl x (List.mem_of_getElem? hx)
 unfold wu at hq
 simp only [Bool.and_eq_true, decide_eq_true_eq] at hq
 have hlt : (k : Int) < (xs.length : Int) := by omega
 have hw : IntKind.wrap .i64 ((k : Int) + 1) = ((k + 1 : Nat) : Int) := w64 (by omega) (by omega)
 have n1 : (0 : Int) <= (k : Int) := by omega
 have n2 : ¬ x < 0 := by omega
 have n3 : ¬ (l.Names.length : Int) <= x := by omega
 simp only [hlt, decide_true, cond_true, zh, n1, if_true, Int.toNat_natCast, hx, Option.bind_some, zg, hw, n2, n3, decide_false, cond_false]
def flK (l : TL) (xs : List Int) (a : Int) (k : Nat) : Option Int := match xs[k]? with
 | some x => if up l x.toNat a.toNat = true then none else some (k : Int)
 | none => none
def flV (l : TL) (xs : List Int) (a : Int) : Int × Int := match zw (flK l xs a) 0 xs.length with | some r => (r, 25) | none => (0, 0)
theorem zwk {l : TL} (h : LatIn l) (hk : (qO l).2 = 0) (xs : List Int) (hx : xs.length <= 64) (hl : ∀ x ∈ xs, wu l x = true) (a : Int) (ha : wu l a = true) :
 zif l xs a = some (flV l xs a) := by
 have ok := xj h hk
 have hle := ok.le
 have hlen := ok.len
 unfold zif
 rw [zgi h hk xs hx hl]
 unfold wu at ha
 simp only [Bool.and_eq_true, decide_eq_true_eq] at ha
 have n2 : ¬ a < 0 := by omega
 have n3 : ¬ (l.Names.length : Int) <= a := by omega
 simp only [Option.bind_some, decide_true, Bool.not_true, cond_false, n2, n3, decide_false, List.length_map]
 have hi : zqr xs (l, a) = some (match zw (flK l xs a) 0 xs.length with | some r => r | none => -1) := by
  unfold zqr
  simp only [List.length_map]
  refine (qy xs.length (fun k => (k : Int)) (flK l xs a) () (fun k hk => ?_) (by simp) rfl).trans ?_
  . obtain ⟨x, hx⟩ := zD hk
    have hq := hl x (List.mem_of_getElem? hx)
    unfold wu at hq
    simp only [Bool.and_eq_true, decide_eq_true_eq] at hq
    have hlt : (k : Int) < (xs.length : Int) := by omega
    have hw : IntKind.wrap .i64 ((k : Int) + 1) = ((k + 1 : Nat) : Int) := w64 (by omega) (by omega)
    have n1 : (0 : Int) <= (k : Int) := by omega
    have hb : zn2 l x a = some (up l x.toNat a.toNat) := by
     have := zuv ok.u8 (a := x.toNat) (b := a.toNat) (by omega) (by omega)
     rwa [Int.toNat_of_nonneg hq.1, Int.toNat_of_nonneg ha.1] at this
    simp only [hlt, decide_true, cond_true, zh, n1, if_true, Int.toNat_natCast, hx, Option.bind_some, zg, hw, zxi, hb, flK]
    cases up l x.toNat a.toNat <;> simp
  . cases zw (flK l xs a) 0 xs.length <;> rfl
 rw [hi]
 unfold flV
 cases e : zw (flK l xs a) 0 xs.length with
 | none => simp
 | some r =>
   have : 0 <= r := by
    have key : ∀ {j k : Nat} {b : Int}, zw (flK l xs a) k j = some b -> 0 <= b := by
     intro j
     induction j with
     | zero => intro k b h; cases h
     | succ j ih =>
       intro k b h
       simp only [zw] at h
       cases hf : flK l xs a k with
       | none => rw [hf] at h; exact ih h
       | some z =>
         rw [hf] at h
         cases h
         unfold flK at hf
         split at hf
         . split at hf
           . cases hf
           . cases hf; omega
         . cases hf
    exact key e
   simp [this]
open Go
def qw (l : TL) (a : Int) : Bool := decide (0 <= a) && decide (a < (l.Names.length : Int))
theorem jL (l : TL) (a : Int) : jQ l a = some (qw l a) := by
 unfold jQ qw
 by_cases h : 0 <= a <;> simp [h]
theorem jk (l : TL) (a : Int) : xg l a = some (qw l a) := by
 unfold xg qw
 by_cases h : 0 <= a <;> simp [h]
def nmE (s : List UInt8) (before : List (List UInt8)) : Int := if exN s = true then (if s ∈ before then 8 else 0) else 24
theorem inL_iff {α : Type} [DecidableEq α] {a : α} {l : List α} : inL a l = true ↔ a ∈ l := by
 unfold inL; simp
theorem zbk (s : List UInt8) (b : List (List UInt8)) (h : s.length <= 1000000) (hb : b.length <= 1000000) : zmf s b = some (nmE s b) := by
 unfold zmf nmE
 rw [zhl s h]
 simp only [Option.bind_some, List.length_map]
 cases exN s with
 | false => simp
 | true =>
   simp only [Bool.not_true, cond_false, if_true]
   refine (qy b.length (fun k => (k : Int)) (fun k => match b[k]? with | some x => if x = s then some (8 : Int) else none | none => none) () (fun k hk => ?_) ?_ rfl).trans ?_
   . obtain ⟨x, hx⟩ := zD hk
     have hlt : (k : Int) < (b.length : Int) := by omega
     have hw : IntKind.wrap .i64 ((k : Int) + 1) = ((k + 1 : Nat) : Int) := w64 (by omega) (by omega)
     have n1 : (0 : Int) <= (k : Int) := by omega
     simp only [hlt, decide_true, cond_true, zh, n1, if_true, Int.toNat_natCast, hx, Option.bind_some, zg, hw]
     by_cases he : x = s <;> simp [he]
   . simp
   . cases hr : zw (fun k => match b[k]? with | some x => if x = s then some (8 : Int) else none | none => none) 0 b.length with
     | some r =>
       have h8 : r = 8 := zap (v := (8 : Int)) (fun i => by
        cases b[i]? with
        | none => exact .inr rfl
        | some x => by_cases hx : x = s <;> simp [hx]) hr
       have hm : s ∈ b := by
        by_cases hm : s ∈ b
        . exact hm
        have : zw (fun k => match b[k]? with | some x => if x = s then some (8 : Int) else none | none => none) 0 b.length = none := by
         rw [scan_none]
         intro i _ hi
         obtain ⟨x, hx⟩ := zD (l := b) (i := i) (by omega)
         rw [hx]
         have : x ≠ s := fun e => hm (e ▸ List.mem_of_getElem? hx)
         simp [this]
        rw [this] at hr; cases hr
       simp [hm, h8]
     | none =>
       have hm : ¬ s ∈ b := by
        intro hm
        obtain ⟨i, hi, e⟩ := List.getElem_of_mem hm
        have := scan_none.1 hr i (by omega) (by omega)
        rw [List.getElem?_eq_getElem hi, e] at this
        simp at this
       simp [hm]
def chK (p : TP) (k : Nat) : Option (Int × Int) := match p.Channels[k]? with
 | some c => if nmE c.s_ ((p.Channels.take k).map (·.s_)) ≠ 0 then some ((k : Int), nmE c.s_ ((p.Channels.take k).map (·.s_))) else if qw p.Lattice c.at_ = true then none else some ((k : Int), 7)
 | none => none
def chC (p : TP) : Int × Int := if (16 : Int) < (p.Channels.length : Int) then (-1, 3) else match zw (chK p) 0 p.Channels.length with | some r => r | none => (0, 0)
theorem zdl (p : TP) (hs : ∀ c ∈ p.Channels, c.s_.length <= 1000000) : zr5 p = some (chC p) := by
 unfold zr5 chC
 simp only [List.length_map]
 by_cases h : (16 : Int) < (p.Channels.length : Int)
 . simp [h]
 simp only [h, decide_false, cond_false, if_false]
 refine (qy p.Channels.length (fun k => ((k : Int), (p.Channels.take k).map (·.s_))) (chK p) () (fun k hk => ?_) ?_ rfl).trans ?_
 . obtain ⟨x, hx⟩ := zD hk
   have hlt : (k : Int) < (p.Channels.length : Int) := by omega
   have hw : IntKind.wrap .i64 ((k : Int) + 1) = ((k + 1 : Nat) : Int) := w64 (by omega) (by omega)
   have n1 : (0 : Int) <= (k : Int) := by omega
   have e : (p.Channels.take (k + 1)).map (·.s_) = (p.Channels.take k).map (·.s_) ++ [x.s_] := by rw [List.take_add_one, hx]; simp
   simp only [hlt, decide_true, cond_true, zh, n1, if_true, Int.toNat_natCast, hx, Option.bind_some, zg, hw, zbp x.s_ (hs x (List.mem_of_getElem? hx)), jL, chK, e]
   unfold nmE
   cases exN x.s_ with
   | false => simp
   | true =>
     cases hi : inL x.s_ ((p.Channels.take k).map (·.s_)) with
     | true =>
       have := inL_iff.1 hi
       simp only [Bool.not_true, cond_false, cond_true, if_true, if_pos this]
       simp
     | false =>
       have : ¬ x.s_ ∈ (p.Channels.take k).map (·.s_) := fun h => by rw [inL_iff.2 h] at hi; cases hi
       simp only [Bool.not_true, cond_false, if_true, if_neg this]
       cases qw p.Lattice x.at_ <;> simp
 . simp
 . cases zw (chK p) 0 p.Channels.length <;> rfl
theorem zev (p : TP) (hs : ∀ c ∈ p.Channels, c.s_.length <= 1000000) : zrf p = some (chC p) := by
 unfold zrf chC
 simp only [List.length_map]
 by_cases h : (16 : Int) < (p.Channels.length : Int)
 . simp [h]
 simp only [h, decide_false, cond_false, if_false]
 refine (qy p.Channels.length (fun k => ((k : Int), (p.Channels.take k).map (·.s_))) (chK p) () (fun k hk => ?_) ?_ rfl).trans ?_
 . obtain ⟨x, hx⟩ := zD hk
   have hlt : (k : Int) < (p.Channels.length : Int) := by omega
   have hw : IntKind.wrap .i64 ((k : Int) + 1) = ((k + 1 : Nat) : Int) := w64 (by omega) (by omega)
   have n1 : (0 : Int) <= (k : Int) := by omega
   have e : (p.Channels.take (k + 1)).map (·.s_) = (p.Channels.take k).map (·.s_) ++ [x.s_] := by rw [List.take_add_one, hx]; simp
   have hl : ((p.Channels.take k).map (·.s_)).length <= 16 := by rw [List.length_map, List.length_take]; omega
   simp only [hlt, decide_true, cond_true, zh, n1, if_true, Int.toNat_natCast, hx, Option.bind_some, zg, hw, zbk x.s_ _ (hs x (List.mem_of_getElem? hx)) (Nat.le_trans hl (by omega)), jk, chK, e, zn, List.length_map]
   rw [if_pos (by rw [List.length_map] at hl; omega)]
   by_cases h0 : nmE x.s_ ((p.Channels.take k).map (·.s_)) = 0
   . simp only [h0]
     cases qw p.Lattice x.at_ <;> simp
   . generalize nmE x.s_ ((p.Channels.take k).map (·.s_)) = z at h0 ⊢
     simp [h0]
 . simp
 . cases zw (chK p) 0 p.Channels.length <;> rfl
end Go.Sx.O
noncomputable section
namespace Go.Sx.O
open Go
def yJ (l : TL) (t : TY) : Int :=
 if t.Rank < 0 \/ 2 < t.Rank then 7
 else if qw l t.Axes.1 = true /\ qw l t.Axes.2 = true /\ qw l t.Data = true then
  if ([t.Axes.1, t.Axes.2].drop t.Rank.toNat).all (fun x => decide (x = (wv l : Int))) = true then
   if ([t.Axes.1, t.Axes.2].take t.Rank.toNat).all (fun x => up l x.toNat t.Data.toNat) = true then 0 else 25
  else 6
 else 7
def xT (l : TL) (t : TY) : Int := if (qO l).2 = 0 then (if t.Kind = 1 \/ t.Kind = 2 then yJ l t else 7) else (qO l).2
theorem ztk {β : Type} (v : β) (b : Int) (xs : List Int) (hx : xs.length <= 2) : zw (fun k => match xs[k]? with | some x => if x = b then none else some v | none => none) 0 xs.length = if xs.all (fun x => decide (x = b)) = true then none else some v := by
 match xs, hx with
 | [], _ => rfl
 | [x], _ => by_cases h : x = b <;> simp [zw, h]
 | [x, y], _ => by_cases h : x = b <;> by_cases g : y = b <;> simp [zw, h, g]
theorem zw7 (l : TL) (a : Int) (xs : List Int) (hx : xs.length <= 2) : (flV l xs a).2 = if xs.all (fun x => up l x.toNat a.toNat) = true then 0 else 25 := by
 match xs, hx with
 | [], _ => rfl
 | [x], _ => cases h : up l x.toNat a.toNat <;> simp [flV, zw, flK, h]
 | [x, y], _ => cases h : up l x.toNat a.toNat <;> cases g : up l y.toNat a.toNat <;> simp [flV, zw, flK, h, g]
theorem zt4 {l : TL} (h : LatIn l) (hk : (qO l).2 = 0) (t : TY) (hr : ¬ (t.Rank < 0 \/ 2 < t.Rank)) (l1 : qw l t.Axes.1 = true) (l2 : qw l t.Axes.2 = true) (l3 : qw l t.Data = true) :
 (Option.bind (lpO (fun (s612 : Int) =>
 cond (decide (s612 < (↑(List.length (List.drop (Int.toNat t.Rank) (List.take (Int.toNat (↑(2 : Nat) : Int)) [SV.int IntKind.i64 t.Axes.fst, SV.int IntKind.i64 t.Axes.snd]))) : Int)))
 (zh (List.drop (Int.toNat t.Rank) (List.take (Int.toNat (↑(2 : Nat) : Int)) [t.Axes.fst, t.Axes.snd])) (s612) fun x617 =>
 cond (!decide (x617 = (wv l : Int)))
 (some (Sum.inr (Sum.inr ((6 : Int)))))
 (zg (IntKind.wrap IntKind.i64 (s612 + (1 : Int))) fun x619 =>
 some (Sum.inl (x619))))
 (some (Sum.inr (Sum.inl (()))))) ((0 : Int)))
 (Sum.elim (fun (_ : Unit) =>
 zn ((0 : Int) <= t.Rank /\ t.Rank <= (↑(2 : Nat) : Int)) (
 Option.bind (zif l (List.drop (Int.toNat (0 : Int)) (List.take (Int.toNat t.Rank) [t.Axes.fst, t.Axes.snd])) (t.Data)) fun x653 =>
 cond (!decide (x653.snd = (0 : Int)))
 (some (x653.snd))
 (some ((0 : Int))))) some)) = some (yJ l t) := by
 have e0 : List.take (Int.toNat ((2 : Nat) : Int)) [t.Axes.fst, t.Axes.snd] = [t.Axes.fst, t.Axes.snd] := rfl
 have e1 : List.take (Int.toNat ((2 : Nat) : Int)) [SV.int IntKind.i64 t.Axes.fst, SV.int IntKind.i64 t.Axes.snd] = [SV.int IntKind.i64 t.Axes.fst, SV.int IntKind.i64 t.Axes.snd] := rfl
 have e2 : List.drop (Int.toNat 0) (List.take (Int.toNat t.Rank) [t.Axes.fst, t.Axes.snd]) = List.take (Int.toNat t.Rank) [t.Axes.fst, t.Axes.snd] := rfl
 rw [e0, e1, e2]
 have hlen : (List.drop (Int.toNat t.Rank) [SV.int IntKind.i64 t.Axes.fst, SV.int IntKind.i64 t.Axes.snd]).length = (List.drop (Int.toNat t.Rank) [t.Axes.fst, t.Axes.snd]).length := by simp
 rw [hlen]
 have hd2 : (List.drop (Int.toNat t.Rank) [t.Axes.fst, t.Axes.snd]).length <= 2 := by simp
 have ht2 : (List.take (Int.toNat t.Rank) [t.Axes.fst, t.Axes.snd]).length <= 2 := by simp; omega
 have htl : ∀ x ∈ List.take (Int.toNat t.Rank) [t.Axes.fst, t.Axes.snd], wu l x = true := fun x hx => by
  have := List.mem_of_mem_take hx
  simp only [List.mem_cons, List.not_mem_nil, or_false] at this
  rcases this with rfl | rfl
  . exact l1
  . exact l2
 unfold yJ
 rw [if_neg hr, if_pos ⟨l1, l2, l3⟩]
 generalize hD : List.drop (Int.toNat t.Rank) [t.Axes.fst, t.Axes.snd] = D at hd2 ⊢
 generalize hT : List.take (Int.toNat t.Rank) [t.Axes.fst, t.Axes.snd] = T at ht2 htl ⊢
 refine (qy D.length (fun k => (k : Int)) (fun k => match D[k]? with | some x => if x = (wv l : Int) then none else some (6 : Int) | none => none) () (fun k hk => ?_) (by simp) rfl).trans ?_
 . obtain ⟨x, hx⟩ := zD hk
   have hlt : (k : Int) < (D.length : Int) := by omega
   have hw : IntKind.wrap .i64 ((k : Int) + 1) = ((k + 1 : Nat) : Int) := w64 (by omega) (by omega)
   have n1 : (0 : Int) <= (k : Int) := by omega
   simp only [hlt, decide_true, cond_true, zh, n1, if_true, Int.toNat_natCast, hx, Option.bind_some, zg, hw]
   by_cases hb : x = (wv l : Int) <;> simp [hb]
 . rw [ztk (6 : Int) (wv l : Int) D hd2]
   by_cases hall : D.all (fun x => decide (x = (wv l : Int))) = true
   . simp only [hall, if_true]
     unfold zn
     rw [if_pos (by omega), zwk h hk T (by omega) htl t.Data l3]
     have := zw7 l t.Data T ht2
     simp only [Option.bind_some]
     rw [this]
     split <;> rfl
   . rw [if_neg hall, if_neg hall]
end Go.Sx.O
end
namespace Go.Sx.O
open Go
theorem zhw {l : TL} (h : LatIn l) (t : TY) : zjd l t = some (xT l t) := by
 unfold zjd xT
 rw [ztr h]
 by_cases hk : (qO l).2 = 0
 case neg => simp [hk]
 simp only [hk, if_true, Option.bind_some, decide_true, Bool.not_true, cond_false, jL]
 by_cases r1 : t.Rank < 0
 . by_cases k1 : t.Kind = 1 <;> by_cases k2 : t.Kind = 2 <;> simp [k1, k2, r1, yJ]
 by_cases r2 : 2 < t.Rank
 . by_cases k1 : t.Kind = 1 <;> by_cases k2 : t.Kind = 2 <;> simp [k1, k2, r1, r2, yJ]
 have hr : ¬ (t.Rank < 0 \/ 2 < t.Rank) := by omega
 have hside : (0 : Int) <= t.Rank /\ t.Rank <= ((2 : Nat) : Int) := by omega
 cases l1 : qw l t.Axes.fst with
 | false => by_cases k1 : t.Kind = 1 <;> by_cases k2 : t.Kind = 2 <;> simp [k1, k2, r1, r2, yJ, l1]
 | true =>
   cases l2 : qw l t.Axes.snd with
   | false => by_cases k1 : t.Kind = 1 <;> by_cases k2 : t.Kind = 2 <;> simp [k1, k2, r1, r2, yJ, l1, l2]
   | true =>
     cases l3 : qw l t.Data with
     | false => by_cases k1 : t.Kind = 1 <;> by_cases k2 : t.Kind = 2 <;> simp [k1, k2, r1, r2, yJ, l1, l2, l3]
     | true =>
       have key := zt4 h hk t hr l1 l2 l3
       simp only [Bool.not_true, cond_false, r1, r2, decide_false]
       by_cases k1 : t.Kind = 1
       . simp only [k1, decide_true, Bool.not_true, cond_false, true_or, if_true]
         rw [zn, if_pos hside]
         exact key
       . by_cases k2 : t.Kind = 2
         . simp only [k1, k2, decide_true, decide_false, Bool.not_true, Bool.not_false, cond_true, cond_false, or_true, if_true]
           rw [zn, if_pos hside]
           exact key
         . simp [k1, k2]
open Go
def bK {β : Type} (v : β) (b : Int) (xs : List Int) (k : Nat) : Option β := match xs[k]? with | some x => if x = b then none else some v | none => none
theorem zyi {β : Type} (v : β) (b : Int) (xs : List Int) (hx : xs.length <= 2) : zw (bK v b xs) 0 xs.length = if xs.all (fun x => decide (x = b)) = true then none else some v := by
 match xs, hx with
 | [], _ => rfl
 | [x], _ => by_cases h : x = b <;> simp [zw, bK, h]
 | [x, y], _ => by_cases h : x = b <;> by_cases g : y = b <;> simp [zw, bK, h, g]
def uK {β : Type} (v : β) (l : TL) (a : Int) (xs : List Int) (k : Nat) : Option β := match xs[k]? with | some x => if up l x.toNat a.toNat = true then none else some v | none => none
theorem zyt {β : Type} (v : β) (l : TL) (a : Int) (xs : List Int) (hx : xs.length <= 2) : zw (uK v l a xs) 0 xs.length = if xs.all (fun x => up l x.toNat a.toNat) = true then none else some v := by
 match xs, hx with
 | [], _ => rfl
 | [x], _ => cases h : up l x.toNat a.toNat <;> simp [zw, uK, h]
 | [x, y], _ => cases h : up l x.toNat a.toNat <;> cases g : up l y.toNat a.toNat <;> simp [zw, uK, h, g]
theorem zkf {l : TL} (h : LatIn l) (hk : (qO l).2 = 0) (t : TY) (hr : ¬ (t.Rank < 0 \/ 2 < t.Rank)) (l1 : qw l t.Axes.1 = true) (l2 : qw l t.Axes.2 = true) (l3 : qw l t.Data = true) :
 (Option.bind (lpO (fun (s598 : Int) =>
 cond (decide (s598 < (2 : Int)))
 (zn ((0 : Int) <= s598 /\ s598 < (↑(2 : Nat) : Int)) (
 zh ([t.Axes.fst, t.Axes.snd]) ((↑(Int.toNat s598) : Int)) fun x604 =>
 cond (!decide (x604 = (wv l : Int)))
 (some (Sum.inr (Sum.inr ((6 : Int)))))
 (zg (IntKind.wrap IntKind.i64 (s598 + (1 : Int))) fun x606 =>
 some (Sum.inl (x606)))))
 (some (Sum.inr (Sum.inl (()))))) (t.Rank))
 (Sum.elim (fun (_ : Unit) =>
 Option.bind (
 lpO (fun (s609 : Int) =>
 cond (decide (s609 < t.Rank))
 (zn ((0 : Int) <= s609 /\ s609 < (↑(2 : Nat) : Int)) (
 zh ([t.Axes.fst, t.Axes.snd]) ((↑(Int.toNat s609) : Int)) fun x614 =>
 Option.bind (ur l (x614) (t.Data)) fun x615 =>
 cond (!x615)
 (some (Sum.inr (Sum.inr ((25 : Int)))))
 (zg (IntKind.wrap IntKind.i64 (s609 + (1 : Int))) fun x617 =>
 some (Sum.inl (x617)))))
 (some (Sum.inr (Sum.inl (()))))) ((0 : Int)))
 (Sum.elim (fun (_ : Unit) =>
 some ((0 : Int))) some)) some)) = some (yJ l t) := by
 have ok := xj h hk
 have hle := ok.le
 have hlen := ok.len
 unfold yJ
 rw [if_neg hr, if_pos ⟨l1, l2, l3⟩]
 have l1' : wu l t.Axes.1 = true := l1
 have l2' : wu l t.Axes.2 = true := l2
 unfold qw at l1 l2 l3
 simp only [Bool.and_eq_true, decide_eq_true_eq] at l1 l2 l3
 have hB : ∀ x : Int, 0 <= x /\ x < (l.Names.length : Int) -> ur l x t.Data = some (up l x.toNat t.Data.toNat) := fun x hx => by
  have := xd ok.u8 (a := x.toNat) (b := t.Data.toNat) (by omega) (by omega)
  rwa [Int.toNat_of_nonneg hx.1, Int.toNat_of_nonneg l3.1] at this
 have hdl : (2 - t.Rank).toNat = ([t.Axes.1, t.Axes.2].drop t.Rank.toNat).length := by simp; omega
 have htl : t.Rank.toNat = ([t.Axes.1, t.Axes.2].take t.Rank.toNat).length := by simp; omega
 refine (qy (2 - t.Rank).toNat (fun k => t.Rank + (k : Int)) (bK (6 : Int) (wv l : Int) ([t.Axes.1, t.Axes.2].drop t.Rank.toNat)) () (fun k hk2 => ?_) ?_ (by simp)).trans ?_
 . have hkk : t.Rank.toNat + k < 2 := by omega
   have hw : IntKind.wrap .i64 (t.Rank + (k : Int) + 1) = t.Rank + ((k + 1 : Nat) : Int) := by rw [w64 (by omega) (by omega)]; omega
   have hlt : t.Rank + (k : Int) < 2 := by omega
   have n1 : (0 : Int) <= t.Rank + (k : Int) /\ t.Rank + (k : Int) < ((2 : Nat) : Int) := by omega
   have hn : (t.Rank + (k : Int)).toNat = t.Rank.toNat + k := by omega
   obtain ⟨x, hx⟩ := zD (l := [t.Axes.1, t.Axes.2]) (i := t.Rank.toNat + k) (by simpa using hkk)
   have n0 : (0 : Int) <= ((t.Rank.toNat + k : Nat) : Int) := by omega
   simp only [hlt, decide_true, cond_true, zn, n1, and_self, if_true, zh, hn, n0, Int.toNat_natCast, hx, Option.bind_some, zg, hw, bK, List.getElem?_drop]
   by_cases hb : x = (wv l : Int) <;> simp [hb]
 . have : ¬ t.Rank + ((2 - t.Rank).toNat : Int) < 2 := by omega
   simp only [this, decide_false, cond_false]
 . rw [hdl, zyi (6 : Int) (wv l : Int) _ (by simp)]
   by_cases hall : ([t.Axes.1, t.Axes.2].drop t.Rank.toNat).all (fun x => decide (x = (wv l : Int))) = true
   . simp only [hall, if_true]
     refine (qy t.Rank.toNat (fun k => (k : Int)) (uK (25 : Int) l t.Data ([t.Axes.1, t.Axes.2].take t.Rank.toNat)) () (fun k hk2 => ?_) ?_ rfl).trans ?_
     . have hkk : k < 2 := by omega
       have hw : IntKind.wrap .i64 ((k : Int) + 1) = ((k + 1 : Nat) : Int) := w64 (by omega) (by omega)
       have hlt : (k : Int) < t.Rank := by omega
       have n1 : (0 : Int) <= (k : Int) /\ (k : Int) < ((2 : Nat) : Int) := by omega
       obtain ⟨x, hx⟩ := zD (l := [t.Axes.1, t.Axes.2]) (i := k) (by simpa using hkk)
       have hxl : wu l x = true := by
        have := List.mem_of_getElem? hx
        simp only [List.mem_cons, List.not_mem_nil, or_false] at this
        rcases this with rfl | rfl
        . exact l1'
        . exact l2'
       have hxb : 0 <= x /\ x < (l.Names.length : Int) := by unfold wu at hxl; simpa using hxl
       simp only [hlt, decide_true, cond_true, zn, n1, and_self, if_true, zh, Int.toNat_natCast, hx, Option.bind_some, zg, hw, uK, hB x hxb, List.getElem?_take, hk2]
       cases up l x.toNat t.Data.toNat <;> simp
     . have : ¬ (t.Rank.toNat : Int) < t.Rank := by omega
       simp only [this, decide_false, cond_false]
     . rw (occs := .pos [2]) [htl]
       rw [zyt (25 : Int) l t.Data _ (by simp; omega)]
       cases (List.take t.Rank.toNat [t.Axes.fst, t.Axes.snd]).all fun x => up l x.toNat t.Data.toNat <;> rfl
   . rw [if_neg hall, if_neg hall]
open Go
def vrK (g : TY -> Int) (p : TP) (k : Nat) : Option (Int × Int) := match p.Vars[k]? with
 | some c => if nmE c.Name ((p.Vars.take k).map (·.Name)) ≠ 0 then some ((k : Int), nmE c.Name ((p.Vars.take k).map (·.Name))) else if g c.Type_ = 0 then none else some ((k : Int), g c.Type_)
 | none => none
def vrC (g : TY -> Int) (p : TP) : Int × Int := if (32 : Int) < (p.Vars.length : Int) then (-1, 3) else match zw (vrK g p) 0 p.Vars.length with | some r => r | none => (0, 0)
theorem zii (g : TY -> Int) (p : TP) (hs : ∀ c ∈ p.Vars, c.Name.length <= 1000000) (hg : ∀ c ∈ p.Vars, zjd p.Lattice c.Type_ = some (g c.Type_)) : zro p = some (vrC g p) := by
 unfold zro vrC
 simp only [List.length_map]
 by_cases h : (32 : Int) < (p.Vars.length : Int)
 . simp [h]
 simp only [h, decide_false, cond_false, if_false]
 refine (qy p.Vars.length (fun k => ((k : Int), (p.Vars.take k).map (·.Name))) (vrK g p) () (fun k hk => ?_) ?_ rfl).trans ?_
 . obtain ⟨x, hx⟩ := zD hk
   have hlt : (k : Int) < (p.Vars.length : Int) := by omega
   have hw : IntKind.wrap .i64 ((k : Int) + 1) = ((k + 1 : Nat) : Int) := w64 (by omega) (by omega)
   have n1 : (0 : Int) <= (k : Int) := by omega
   have e : (p.Vars.take (k + 1)).map (·.Name) = (p.Vars.take k).map (·.Name) ++ [x.Name] := by rw [List.take_add_one, hx]; simp
   simp only [hlt, decide_true, cond_true, zh, n1, if_true, Int.toNat_natCast, hx, Option.bind_some, zg, hw, zbp x.Name (hs x (List.mem_of_getElem? hx)), hg x (List.mem_of_getElem? hx), vrK, e]
   unfold nmE
   cases exN x.Name with
   | false => simp
   | true =>
     cases hi : inL x.Name ((p.Vars.take k).map (·.Name)) with
     | true =>
       have := inL_iff.1 hi
       simp only [Bool.not_true, cond_false, cond_true, if_true, if_pos this]
       simp
     | false =>
       have : ¬ x.Name ∈ (p.Vars.take k).map (·.Name) := fun h => by rw [inL_iff.2 h] at hi; cases hi
       simp only [Bool.not_true, cond_false, if_true, if_neg this]
       by_cases hz : g x.Type_ = 0 <;> simp [hz]
 . simp
 . cases zw (vrK g p) 0 p.Vars.length <;> rfl
theorem zkn (g : TY -> Int) (p : TP) (hs : ∀ c ∈ p.Vars, c.Name.length <= 1000000) (hg : ∀ c ∈ p.Vars, zni p.Lattice c.Type_ = some (g c.Type_)) : zrx p = some (vrC g p) := by
 unfold zrx vrC
 simp only [List.length_map]
 by_cases h : (32 : Int) < (p.Vars.length : Int)
 . simp [h]
 simp only [h, decide_false, cond_false, if_false]
 refine (qy p.Vars.length (fun k => ((k : Int), (p.Vars.take k).map (·.Name))) (vrK g p) () (fun k hk => ?_) ?_ rfl).trans ?_
 . obtain ⟨x, hx⟩ := zD hk
   have hlt : (k : Int) < (p.Vars.length : Int) := by omega
   have hw : IntKind.wrap .i64 ((k : Int) + 1) = ((k + 1 : Nat) : Int) := w64 (by omega) (by omega)
   have n1 : (0 : Int) <= (k : Int) := by omega
   have e : (p.Vars.take (k + 1)).map (·.Name) = (p.Vars.take k).map (·.Name) ++ [x.Name] := by rw [List.take_add_one, hx]; simp
   have hl : ((p.Vars.take k).map (·.Name)).length <= 32 := by rw [List.length_map, List.length_take]; omega
   simp only [hlt, decide_true, cond_true, zh, n1, if_true, Int.toNat_natCast, hx, Option.bind_some, zg, hw, zbk x.Name _ (hs x (List.mem_of_getElem? hx)) (Nat.le_trans hl (by omega)), hg x (List.mem_of_getElem? hx), vrK, e, zn, List.length_map]
   rw [if_pos (by rw [List.length_map] at hl; omega)]
   by_cases h0 : nmE x.Name ((p.Vars.take k).map (·.Name)) = 0
   . simp only [h0]
     by_cases hz : g x.Type_ = 0 <;> simp [hz]
   . generalize nmE x.Name ((p.Vars.take k).map (·.Name)) = z at h0 ⊢
     simp [h0]
 . simp
 . cases zw (vrK g p) 0 p.Vars.length <;> rfl
open Go
theorem zko {l : TL} (h : LatIn l) (t : TY) : zni l t = some (xT l t) := by
 unfold zni xT
 rw [zaa l h.u8 h.names h.name, <- zep h]
 by_cases hk : (qO l).2 = 0
 case neg => simp [hk]
 simp only [hk, if_true, Option.bind_some, decide_true, Bool.not_true, cond_false, jk]
 by_cases r1 : t.Rank < 0
 . by_cases k1 : t.Kind = 1 <;> by_cases k2 : t.Kind = 2 <;> simp [k1, k2, r1, yJ]
 by_cases r2 : 2 < t.Rank
 . by_cases k1 : t.Kind = 1 <;> by_cases k2 : t.Kind = 2 <;> simp [k1, k2, r1, r2, yJ]
 have hr : ¬ (t.Rank < 0 \/ 2 < t.Rank) := by omega
 cases l1 : qw l t.Axes.fst with
 | false => by_cases k1 : t.Kind = 1 <;> by_cases k2 : t.Kind = 2 <;> simp [k1, k2, r1, r2, yJ, l1]
 | true =>
   cases l2 : qw l t.Axes.snd with
   | false => by_cases k1 : t.Kind = 1 <;> by_cases k2 : t.Kind = 2 <;> simp [k1, k2, r1, r2, yJ, l1, l2]
   | true =>
     cases l3 : qw l t.Data with
     | false => by_cases k1 : t.Kind = 1 <;> by_cases k2 : t.Kind = 2 <;> simp [k1, k2, r1, r2, yJ, l1, l2, l3]
     | true =>
       have key := zkf h hk t hr l1 l2 l3
       simp only [Bool.not_true, cond_false, r1, r2, decide_false, zj9 h, hk, if_true, Option.bind_some]
       by_cases k1 : t.Kind = 1
       . simp only [k1, decide_true, Bool.not_true, cond_false, true_or, if_true]
         exact key
       . by_cases k2 : t.Kind = 2
         . simp only [k1, k2, decide_true, decide_false, Bool.not_true, Bool.not_false, cond_true, cond_false, or_true, if_true]
           exact key
         . simp [k1, k2]
def ckK {α τ : Type} (c : α -> Bool) (v : τ) (L : List α) (j : Nat) : Option τ := match L[j]? with | some y => if c y = true then some v else none | none => none
theorem zcd {α τ : Type} (c : α -> Bool) (v : τ) (L : List α) (n : Nat) (hn : n <= L.length) : zw (ckK c v L) 0 n = if (L.take n).any c = true then some v else none := by
 by_cases h : (L.take n).any c = true
 . rw [if_pos h]
   cases e : zw (ckK c v L) 0 n with
   | some r =>
     have : r = v := zap (v := v) (fun i => by
      unfold ckK
      cases L[i]? with
      | none => exact .inr rfl
      | some x => by_cases hx : c x = true <;> simp [hx]) e
     rw [this]
   | none =>
     exfalso
     rw [List.any_eq_true] at h
     obtain ⟨x, hx, hc⟩ := h
     obtain ⟨i, hi, hxi⟩ := List.getElem_of_mem hx
     rw [List.length_take] at hi
     have := scan_none.1 e i (by omega) (by omega)
     rw [List.getElem_take] at hxi
     unfold ckK at this
     rw [List.getElem?_eq_getElem (by omega), hxi] at this
     simp [hc] at this
 . rw [if_neg h, scan_none]
   intro i _ hi
   unfold ckK
   obtain ⟨x, hx⟩ := zD (l := L) (i := i) (by omega)
   rw [hx]
   have : ¬ c x = true := fun hc => h (by
    rw [List.any_eq_true]
    exact ⟨x, List.mem_take_iff_getElem.2 ⟨i, by omega, by rw [List.getElem?_eq_getElem (by omega)] at hx; exact Option.some.inj hx⟩, hc⟩)
   simp [this]
def zce (x y : TU) : Bool := decide (y.From = x.From) && decide (y.Goal = x.Goal)
def rlK (p : TP) (k : Nat) : Option (Int × Int) := match p.Rules[k]? with
 | some x => if qw p.Lattice x.From = true then (if qw p.Lattice x.Goal = true then (if x.From = x.Goal then some ((k : Int), 25) else if up p.Lattice x.Goal.toNat x.From.toNat = true then (if (p.Rules.take k).any (zce x) = true then some ((k : Int), 8) else if x.K < 2 then some ((k : Int), 3) else if 400 < x.K then some ((k : Int), 3) else none) else some ((k : Int), 25)) else some ((k : Int), 7)) else some ((k : Int), 7)
 | none => none
def rlC (p : TP) : Int × Int := if (64 : Int) < (p.Rules.length : Int) then (-1, 3) else match zw (rlK p) 0 p.Rules.length with | some r => r | none => (0, 0)
theorem zyy (x : TU) (L : List TU) : inL (x.From, x.Goal) (L.map fun y => (y.From, y.Goal)) = L.any (zce x) := by
 rw [Bool.eq_iff_iff, inL_iff, List.any_eq_true]
 simp only [List.mem_map, Prod.mk.injEq, zce, Bool.and_eq_true, decide_eq_true_eq]
theorem zy4 {x : Int} (h0 : 0 <= x) (h1 : x < 256) {b : Nat} (hb : b <= 8) : decide (bits .and .u8 (Int.fdiv x (2 ^ min b (IntKind.bits .u8))) 1 = 0) = !Nat.testBit x.toNat b := by
 have key : ∀ u : Fin 256, ∀ b : Fin 9, decide (bits .and .u8 (Int.fdiv (u.val : Int) (2 ^ min b.val (IntKind.bits .u8))) 1 = 0) = !Nat.testBit u b := by decide +kernel
 have := key ⟨x.toNat, by omega⟩ ⟨b, by omega⟩
 simpa only [Int.toNat_of_nonneg h0] using this
theorem zgj (p : TP) (h : LatIn p.Lattice) (hk : (qO p.Lattice).2 = 0) : zsg p = some (rlC p) := by
 have ok := xj h hk
 have hle := ok.le
 have hlen := ok.len
 unfold zsg rlC
 simp only [List.length_map]
 by_cases h6 : (64 : Int) < (p.Rules.length : Int)
 . simp [h6]
 simp only [h6, decide_false, cond_false, if_false]
 refine (qy p.Rules.length (fun k => ((k : Int), (p.Rules.take k).map fun y => (y.From, y.Goal))) (rlK p) () (fun k hk => ?_) ?_ rfl).trans ?_
 . obtain ⟨x, hx⟩ := zD hk
   have hlt : (k : Int) < (p.Rules.length : Int) := by omega
   have hw : IntKind.wrap .i64 ((k : Int) + 1) = ((k + 1 : Nat) : Int) := w64 (by omega) (by omega)
   have n1 : (0 : Int) <= (k : Int) := by omega
   have e : (p.Rules.take (k + 1)).map (fun y => (y.From, y.Goal)) = (p.Rules.take k).map (fun y => (y.From, y.Goal)) ++ [(x.From, x.Goal)] := by rw [List.take_add_one, hx]; simp
   simp only [hlt, decide_true, cond_true, zh, n1, if_true, Int.toNat_natCast, hx, Option.bind_some, zg, hw, jL, rlK, e, zyy]
   cases l1 : qw p.Lattice x.From with
   | false => simp
   | true =>
     cases l2 : qw p.Lattice x.Goal with
     | false => simp
     | true =>
       unfold qw at l1 l2
       simp only [Bool.and_eq_true, decide_eq_true_eq] at l1 l2
       obtain ⟨u, hu⟩ := zD (l := p.Lattice.Up) (i := x.Goal.toNat) (by omega)
       have hu' := ok.u8.get hu
       have hb := zy4 hu'.1 hu'.2 (b := x.From.toNat) (by omega)
       have n2 : (0 : Int) <= x.Goal := l2.1
       have n3 : (0 : Int) <= x.From := l1.1
       simp only [Bool.not_true, cond_false, n2, if_true, hu, Option.bind_some, zn, n3, hb, xn hu]
       by_cases hfg : x.From = x.Goal
       . simp [hfg]
       cases hbt : Nat.testBit u.toNat x.From.toNat with
       | false => simp [hfg]
       | true =>
         cases (p.Rules.take k).any (zce x) with
         | true => simp [hfg]
         | false =>
           by_cases k2 : x.K < 2
           . simp [hfg, k2]
           . by_cases k4 : 400 < x.K <;> simp [hfg, k2, k4]
 . simp
 . cases zw (rlK p) 0 p.Rules.length <;> rfl
theorem zh9 (p : TP) (h : LatIn p.Lattice) (hk : (qO p.Lattice).2 = 0) : zqy p = some (rlC p) := by
 have ok := xj h hk
 have hle := ok.le
 have hlen := ok.len
 unfold zqy rlC
 simp only [List.length_map]
 by_cases h6 : (64 : Int) < (p.Rules.length : Int)
 . simp [h6]
 simp only [h6, decide_false, cond_false, if_false]
 refine (qy p.Rules.length (fun k => (k : Int)) (rlK p) () (fun k hk => ?_) ?_ rfl).trans ?_
 . obtain ⟨x, hx⟩ := zD hk
   have hlt : (k : Int) < (p.Rules.length : Int) := by omega
   have hw : IntKind.wrap .i64 ((k : Int) + 1) = ((k + 1 : Nat) : Int) := w64 (by omega) (by omega)
   have n1 : (0 : Int) <= (k : Int) := by omega
   simp only [hlt, decide_true, cond_true, zh, n1, if_true, Int.toNat_natCast, hx, Option.bind_some, zg, hw, jk, rlK]
   cases l1 : qw p.Lattice x.From with
   | false => simp
   | true =>
     cases l2 : qw p.Lattice x.Goal with
     | false => simp
     | true =>
       unfold qw at l1 l2
       simp only [Bool.and_eq_true, decide_eq_true_eq] at l1 l2
       have hB := xd ok.u8 (a := x.Goal.toNat) (b := x.From.toNat) (by omega) (by omega)
       rw [Int.toNat_of_nonneg l2.1, Int.toNat_of_nonneg l1.1] at hB
       simp only [Bool.not_true, cond_false, if_true, hB, Option.bind_some]
       by_cases hfg : x.From = x.Goal
       . simp [hfg]
       cases hbt : up p.Lattice x.Goal.toNat x.From.toNat with
       | false => simp [hfg]
       | true =>
         simp only [hfg, decide_false, cond_false, Bool.not_true, if_true, if_false]
         refine (qy k (fun j => (j : Int)) (ckK (zce x) (Sum.inr (Sum.inr ((k : Int), (8 : Int)))) p.Rules) () (fun j hj => ?_) ?_ rfl).trans ?_
         . obtain ⟨y, hy⟩ := zD (l := p.Rules) (i := j) (by omega)
           have hlt2 : (j : Int) < (k : Int) := by omega
           have hw2 : IntKind.wrap .i64 ((j : Int) + 1) = ((j + 1 : Nat) : Int) := w64 (by omega) (by omega)
           have n2 : (0 : Int) <= (j : Int) := by omega
           simp only [hlt2, decide_true, cond_true, n2, if_true, Int.toNat_natCast, hy, Option.bind_some, hw2, ckK, zce]
           by_cases c1 : y.From = x.From <;> by_cases c2 : y.Goal = x.Goal <;> simp [c1, c2]
         . simp
         . rw [zcd _ _ _ k (by omega)]
           cases (p.Rules.take k).any (zce x) with
           | true => simp
           | false =>
             by_cases k2 : x.K < 2
             . simp [k2]
             . by_cases k4 : 400 < x.K <;> simp [k2, k4]
 . simp
 . cases zw (rlK p) 0 p.Rules.length <;> rfl
end Go.Sx.O
noncomputable section
namespace Go.Sx.O
open Go
structure PolIn (p : TP) : Prop where
 lat : LatIn p.Lattice
 chan : ∀ c ∈ p.Channels, c.s_.length <= 1000000
 var : ∀ c ∈ p.Vars, c.Name.length <= 1000000
def wD (p : TP) : Int × Int × Int :=
 if (qO p.Lattice).2 = 0 then (if (chC p).2 = 0 then (if (vrC (xT p.Lattice) p).2 = 0 then (if (rlC p).2 = 0 then (0, 0, 0) else (4, rlC p)) else (3, vrC (xT p.Lattice) p)) else (2, chC p)) else (1, qO p.Lattice)
theorem ziz {τ : Type} {P : τ -> Prop} {f : Nat -> Option τ} (hf : ∀ i r, f i = some r -> P r) : ∀ {n k r}, zw f k n = some r -> P r := by
 intro n
 induction n with
 | zero => intro k r h; cases h
 | succ n ih =>
   intro k r h
   simp only [zw] at h
   split at h
   . rename_i b hb; cases h; exact hf _ _ hb
   . exact ih h
theorem zl3 {p : TP} (h : (rlC p).2 = 0) : rlC p = (0, 0) := by
 unfold rlC at h ⊢
 split at h
 . simp at h
 . rename_i h6
   rw [if_neg h6]
   cases e : zw (rlK p) 0 p.Rules.length with
   | none => rfl
   | some r =>
     exfalso
     rw [e] at h
     have := ziz (P := fun r : Int × Int => r.2 ≠ 0) (fun i r hr => by
      unfold rlK at hr
      revert hr
      repeat' split
      all_goals (intro hr; cases hr <;> simp)) e
     exact this h
theorem xf {p : TP} (h : PolIn p) : zhz p = some (wD p) := by
 unfold zhz wD zu9
 rw [zcp h.lat, zdl p h.chan, zii (xT p.Lattice) p h.var (fun c _ => zhw h.lat _)]
 by_cases hk : (qO p.Lattice).2 = 0
 case neg => simp [hk]
 rw [zgj p h.lat hk]
 by_cases h2 : (chC p).2 = 0
 case neg => simp [hk, h2]
 by_cases h3 : (vrC (xT p.Lattice) p).2 = 0
 case neg => simp [hk, h2, h3]
 by_cases h4 : (rlC p).2 = 0
 case neg => simp [hk, h2, h3, h4]
 simp [hk, h2, h3, zl3 h4]
theorem xE {p : TP} (h : PolIn p) : zjc p = some (wD p) := by
 unfold zjc wD
 rw [zaa p.Lattice h.lat.u8 h.lat.names h.lat.name, <- zep h.lat, zev p h.chan, zkn (xT p.Lattice) p h.var (fun c _ => zko h.lat _)]
 by_cases hk : (qO p.Lattice).2 = 0
 case neg => simp [hk]
 rw [zh9 p h.lat hk]
 by_cases h2 : (chC p).2 = 0
 case neg => simp [hk, h2]
 by_cases h3 : (vrC (xT p.Lattice) p).2 = 0
 case neg => simp [hk, h2, h3]
 by_cases h4 : (rlC p).2 = 0
 case neg => simp [hk, h2, h3, h4]
 simp [hk, h2, h3, h4]
theorem zyh {p : TP} (h : (wD p).2.2 = 0) : (qO p.Lattice).2 = 0 := by
 unfold wD at h
 by_cases hk : (qO p.Lattice).2 = 0
 . exact hk
 . rw [if_neg hk] at h; exact absurd h hk
theorem zue {p : TP} (h : (wD p).2.2 = 0) : rlC p = (0, 0) := by
 unfold wD at h
 split at h
 . split at h
   . split at h
     . split at h
       . rename_i h4; exact zl3 h4
       . rename_i h4; exact absurd h h4
     . rename_i h4; exact absurd h h4
   . rename_i h4; exact absurd h h4
 . rename_i h4; exact absurd h h4
def rfK (p : TP) (a b : Int) (k : Nat) : Option (Int × Int) := match p.Rules[k]? with
 | some x => if x.From = a then (if x.Goal = b then some (x.K, 0) else none) else none
 | none => none
def jr (p : TP) (a b : Int) : Int × Int :=
 if (wD p).2.2 = 0 then (if qw p.Lattice a = true then (if qw p.Lattice b = true then (match zw (rfK p a b) 0 p.Rules.length with | some r => r | none => (0, 4)) else (0, 7)) else (0, 7)) else (0, (wD p).2.2)
theorem zjn {p : TP} (h : (wD p).2.2 = 0) : p.Rules.length <= 64 := by
 have := zue h
 unfold rlC at this
 split at this
 . cases this
 . omega
theorem zit {p : TP} (h : PolIn p) (a b : Int) : zrm p a b = some (jr p a b) := by
 unfold zrm jr
 rw [xf h]
 by_cases h0 : (wD p).2.2 = 0
 case neg => simp [h0]
 have hl := zjn h0
 simp only [Option.bind_some, h0, decide_true, Bool.not_true, cond_false, jL, if_true, List.length_map]
 cases qw p.Lattice a with
 | false => simp
 | true =>
   cases qw p.Lattice b with
   | false => simp
   | true =>
     simp only [Bool.not_true, cond_false, if_true]
     refine (qy p.Rules.length (fun k => (k : Int)) (rfK p a b) () (fun k hk => ?_) ?_ rfl).trans ?_
     . obtain ⟨x, hx⟩ := zD hk
       have hlt : (k : Int) < (p.Rules.length : Int) := by omega
       have hw : IntKind.wrap .i64 ((k : Int) + 1) = ((k + 1 : Nat) : Int) := w64 (by omega) (by omega)
       have n1 : (0 : Int) <= (k : Int) := by omega
       simp only [hlt, decide_true, cond_true, zh, n1, if_true, Int.toNat_natCast, hx, zg, hw, rfK]
       by_cases c1 : x.From = a <;> by_cases c2 : x.Goal = b <;> simp [c1, c2]
     . simp
     . cases zw (rfK p a b) 0 p.Rules.length <;> rfl
theorem zka {p : TP} (h : PolIn p) (a b : Int) : zi2 p a b = some (jr p a b) := by
 unfold zi2 jr
 rw [xE h]
 by_cases h0 : (wD p).2.2 = 0
 case neg => simp [h0]
 have hl := zjn h0
 simp only [Option.bind_some, h0, decide_true, Bool.not_true, cond_false, cond_true, jk, if_true, List.length_map]
 cases qw p.Lattice a with
 | false => simp
 | true =>
   cases qw p.Lattice b with
   | false => simp
   | true =>
     simp only [Bool.not_true, cond_false, if_true]
     refine (qy p.Rules.length (fun k => (k : Int)) (rfK p a b) () (fun k hk => ?_) ?_ rfl).trans ?_
     . obtain ⟨x, hx⟩ := zD hk
       have hlt : (k : Int) < (p.Rules.length : Int) := by omega
       have hw : IntKind.wrap .i64 ((k : Int) + 1) = ((k + 1 : Nat) : Int) := w64 (by omega) (by omega)
       have n1 : (0 : Int) <= (k : Int) := by omega
       simp only [hlt, decide_true, cond_true, zh, n1, if_true, Int.toNat_natCast, hx, zg, hw, rfK]
       by_cases c1 : x.From = a <;> by_cases c2 : x.Goal = b <;> simp [c1, c2]
     . simp
     . cases zw (rfK p a b) 0 p.Rules.length <;> rfl
theorem zi9 {α : Type} {L : List α} {N : Nat} {c : α -> Bool} (h : (L.take (min L.length N)).any c = false) (hn : L.length <= N) : ∀ x ∈ L, c x = false := by
 rw [Nat.min_eq_left hn, List.take_length] at h
 simpa using h
theorem zoa (L : List (List UInt8)) : ∃ b, Fz0 L = some b /\ (b = false -> L.length <= 12 /\ ∀ s ∈ L, s.length <= 100) := by
 unfold Fz0
 simp only [List.length_map]
 rw [qy (s0 := (0 : Int)) (min L.length 20) (fun k => (k : Int)) (ckK (fun s : List UInt8 => decide ((100 : Int) < (s.length : Int))) true L) () ?_ ?_ rfl, zcd _ _ _ _ (by omega)]
 . cases h : (L.take (min L.length 20)).any (fun s => decide ((100 : Int) < (s.length : Int))) with
   | true => exact ⟨true, rfl, fun h => by cases h⟩
   | false =>
     refine ⟨_, rfl, fun h12 => ?_⟩
     have h12 : L.length <= 12 := by simp at h12; omega
     exact ⟨h12, fun s hs => by have := zi9 h (by omega) s hs; simp at this; omega⟩
 . intro k hk
   obtain ⟨x, hx⟩ := zD (l := L) (i := k) (by omega)
   have hlt : (k : Int) < (L.length : Int) := by omega
   have hlt2 : (k : Int) < 20 := by omega
   have hw : IntKind.wrap .i64 ((k : Int) + 1) = ((k + 1 : Nat) : Int) := w64 (by omega) (by omega)
   have n1 : (0 : Int) <= (k : Int) := by omega
   simp only [hlt, hlt2, decide_true, cond_true, zh, n1, if_true, Int.toNat_natCast, hx, zg, hw, ckK]
   by_cases c1 : (100 : Int) < (x.length : Int) <;> simp [c1]
 . by_cases c1 : ((min L.length 20 : Nat) : Int) < (L.length : Int)
   . have c2 : ¬ ((min L.length 20 : Nat) : Int) < 20 := by omega
     simp only [c1, c2, decide_true, decide_false, cond_true, cond_false]
   . simp only [c1, decide_false, cond_false]
theorem zwo (p : TP) (hu : U8s p.Lattice.Up) : ∃ b, Fz2 p = some b /\ (b = false -> PolIn p) := by
 unfold Fz2
 simp only [List.length_map]
 rw [qy (s0 := (0 : Int)) (min p.Channels.length 25) (fun k => (k : Int)) (ckK (fun s : TR => decide ((100 : Int) < (s.s_.length : Int))) true p.Channels) () ?_ ?_ rfl, zcd _ _ _ _ (by omega)]
 rotate_left
 . intro k hk
   obtain ⟨x, hx⟩ := zD (l := p.Channels) (i := k) (by omega)
   have hlt : (k : Int) < (p.Channels.length : Int) := by omega
   have hlt2 : (k : Int) < 25 := by omega
   have hw : IntKind.wrap .i64 ((k : Int) + 1) = ((k + 1 : Nat) : Int) := w64 (by omega) (by omega)
   have n1 : (0 : Int) <= (k : Int) := by omega
   simp only [hlt, hlt2, decide_true, cond_true, zh, n1, if_true, Int.toNat_natCast, hx, zg, hw, ckK]
   by_cases c1 : (100 : Int) < (x.s_.length : Int) <;> simp [c1]
 . by_cases c1 : ((min p.Channels.length 25 : Nat) : Int) < (p.Channels.length : Int)
   . have c2 : ¬ ((min p.Channels.length 25 : Nat) : Int) < 25 := by omega
     simp only [c1, c2, decide_true, decide_false, cond_true, cond_false]
   . simp only [c1, decide_false, cond_false]
 cases hc : (p.Channels.take (min p.Channels.length 25)).any (fun s => decide ((100 : Int) < (s.s_.length : Int))) with
 | true => exact ⟨true, rfl, fun h => by cases h⟩
 | false =>
   simp only [Bool.false_eq_true, if_false]
   rw [qy (s0 := (0 : Int)) (min p.Vars.length 45) (fun k => (k : Int)) (ckK (fun s : TV => decide ((100 : Int) < (s.Name.length : Int))) true p.Vars) () ?_ ?_ rfl, zcd _ _ _ _ (by omega)]
   rotate_left
   . intro k hk
     obtain ⟨x, hx⟩ := zD (l := p.Vars) (i := k) (by omega)
     have hlt : (k : Int) < (p.Vars.length : Int) := by omega
     have hlt2 : (k : Int) < 45 := by omega
     have hw : IntKind.wrap .i64 ((k : Int) + 1) = ((k + 1 : Nat) : Int) := w64 (by omega) (by omega)
     have n1 : (0 : Int) <= (k : Int) := by omega
     simp only [hlt, hlt2, decide_true, cond_true, zh, n1, if_true, Int.toNat_natCast, hx, zg, hw, ckK]
     by_cases c1 : (100 : Int) < (x.Name.length : Int) <;> simp [c1]
   . by_cases c1 : ((min p.Vars.length 45 : Nat) : Int) < (p.Vars.length : Int)
     . have c2 : ¬ ((min p.Vars.length 45 : Nat) : Int) < 45 := by omega
       simp only [c1, c2, decide_true, decide_false, cond_true, cond_false]
     . simp only [c1, decide_false, cond_false]
   cases hv : (p.Vars.take (min p.Vars.length 45)).any (fun s => decide ((100 : Int) < (s.Name.length : Int))) with
   | true => exact ⟨true, rfl, fun h => by cases h⟩
   | false =>
     simp only [Bool.false_eq_true, if_false]
     unfold Fz1
     obtain ⟨b, e, hb⟩ := zoa p.Lattice.Names
     rw [e]
     simp only [Option.bind_some, List.length_map]
     cases b with
     | true => exact ⟨true, rfl, fun h => by cases h⟩
     | false =>
       obtain ⟨hb1, hb2⟩ := hb rfl
       simp only [cond_false, Option.bind_some]
       by_cases h12 : (12 : Int) < (p.Lattice.Up.length : Int)
       . exact ⟨true, by simp [h12], fun h => by cases h⟩
       by_cases h20 : (20 : Int) < (p.Channels.length : Int)
       . exact ⟨true, by simp [h12, h20], fun h => by cases h⟩
       by_cases h40 : (40 : Int) < (p.Vars.length : Int)
       . exact ⟨true, by simp [h12, h20, h40], fun h => by cases h⟩
       simp only [h12, h20, h40, decide_false, cond_false]
       refine ⟨_, rfl, fun _ => ⟨⟨hu, by omega, fun s hs => by have := hb2 s hs; omega⟩, fun c h => ?_, fun c h => ?_⟩⟩
       . have := zi9 hc (by omega) c h; simp at this; omega
       . have := zi9 hv (by omega) c h; simp at this; omega
end Go.Sx.O
end
noncomputable section
namespace Go.Sx.O
open Go
def zdv (x : TE) (k : Int) : Bool := if x.Cells < k then decide (x.Value.1 = 0) && decide (x.Value.2 = 0) else decide (x.Value.1 = 1) && (!decide (x.Fold = 2) || (decide (0 <= x.Value.2) && decide (x.Value.2 <= x.Cells)))
def jU (p : TP) (x : TE) : Int :=
 if (wD p).2.2 = 0 then (if (jG x.Fold).2 = 0 then (if x.Site < 0 \/ 1000000000 < x.Site \/ x.Cells < 0 \/ 400 < x.Cells then 7 else if (jr p x.From x.Goal).2 = 0 then (if zdv x (jr p x.From x.Goal).1 = true then 0 else 6) else (jr p x.From x.Goal).2) else (jG x.Fold).2) else (wD p).2.2
theorem zl1 (x : TE) (k : Int) : zrv x k = some (zdv x k) := by
 unfold zrv zdv
 by_cases h : x.Cells < k
 . simp [h]
 by_cases h1 : x.Value.1 = 1
 case neg => simp [h, h1]
 by_cases h2 : x.Fold = 2
 case neg => simp [h, h1, h2]
 by_cases h3 : 0 <= x.Value.2 <;> simp [h, h1, h2, h3]
theorem zmt {p : TP} (h : PolIn p) (x : TE) : zp9 p x = some (jU p x) := by
 unfold zp9 jU
 rw [xf h, zov, zit h]
 simp only [Option.bind_some, zl1]
 by_cases h0 : (wD p).2.2 = 0
 case neg => simp [h0]
 by_cases h1 : (jG x.Fold).2 = 0
 case neg => simp [h0, h1]
 by_cases h2 : x.Site < 0
 . simp [h0, h1, h2]
 by_cases h3 : 1000000000 < x.Site
 . simp [h0, h1, h2, h3]
 by_cases h4 : x.Cells < 0
 . simp [h0, h1, h2, h3, h4]
 by_cases h5 : 400 < x.Cells
 . simp [h0, h1, h2, h3, h4, h5]
 by_cases h6 : (jr p x.From x.Goal).2 = 0
 case neg => simp [h0, h1, h2, h3, h4, h5, h6]
 cases h7 : zdv x (jr p x.From x.Goal).1 <;> simp [h0, h1, h2, h3, h4, h5, h6, h7]
theorem zi5 {p : TP} (h : PolIn p) (x : TE) : zmv p x = some (jU p x) := by
 unfold zmv jU
 rw [xE h, zok, zka h]
 simp only [Option.bind_some]
 by_cases h0 : (wD p).2.2 = 0
 case neg => simp [h0]
 by_cases h1 : (jG x.Fold).2 = 0
 case neg => simp [h0, h1]
 by_cases h2 : x.Site < 0
 . simp [h0, h1, h2]
 by_cases h3 : 1000000000 < x.Site
 . simp [h0, h1, h2, h3]
 by_cases h8 : (jr p x.From x.Goal).2 = 7
 . by_cases h4 : x.Cells < 0
   . simp [h0, h1, h2, h3, h4, h8]
   by_cases h5 : 400 < x.Cells
   . simp [h0, h1, h2, h3, h4, h5, h8]
   simp [h0, h1, h2, h3, h4, h5, h8]
 by_cases h4 : x.Cells < 0
 . simp [h0, h1, h2, h3, h4, h8]
 by_cases h5 : 400 < x.Cells
 . simp [h0, h1, h2, h3, h4, h5, h8]
 by_cases h6 : (jr p x.From x.Goal).2 = 0
 case neg => simp [h0, h1, h2, h3, h4, h5, h6, h8]
 simp only [h0, h1, h2, h3, h4, h5, h6, decide_true, decide_false, cond_true, cond_false, Bool.not_true, or_self, if_true, if_false, h8]
 unfold zdv
 by_cases c1 : x.Cells < (jr p x.From x.Goal).1
 . by_cases c2 : x.Value.1 = 0 <;> by_cases c3 : x.Value.2 = 0 <;> simp [c1, c2, c3]
 by_cases c2 : x.Value.1 = 1
 case neg => simp [c1, c2]
 by_cases c3 : x.Fold = 2
 case neg => simp [c1, c2, c3]
 by_cases c4 : x.Value.2 < 0
 . have : ¬ 0 <= x.Value.2 := by omega
   simp [c1, c2, c3, c4, this]
 have c5 : 0 <= x.Value.2 := by omega
 by_cases c6 : x.Cells < x.Value.2
 . have : ¬ x.Value.2 <= x.Cells := by omega
   simp [c1, c2, c3, c4, c5, c6, this]
 have c7 : x.Value.2 <= x.Cells := by omega
 simp [c1, c2, c3, c4, c5, c6, c7]
theorem zAc {l : List Int} (h : yY (inK .u8) l) : U8s l := fun x hx => zAf (h x hx)
end Go.Sx.O
end
noncomputable section
namespace Go.Sx.O
open Go
def auK (p : TP) (l : List TE) (k : Nat) : Option (Int × Int) := match l[k]? with
 | some x => if jU p x = 0 then (if x.Site = 0 then some ((k : Int), 6) else none) else some ((k : Int), jU p x)
 | none => none
def xJ (p : TP) (l : List TE) : Int × Int := if (wD p).2.2 = 0 then (if (2000 : Int) < (l.length : Int) then (-1, 3) else match zw (auK p l) 0 l.length with | some r => r | none => (0, 0)) else (-1, (wD p).2.2)
theorem zhv {p : TP} (h : PolIn p) (l : List TE) (hl : l.length <= 1000000) : zsl p l = some (xJ p l) := by
 unfold zsl xJ
 rw [xf h]
 simp only [Option.bind_some, List.length_map]
 by_cases hk : (wD p).2.2 = 0
 case neg => simp [hk]
 simp only [hk, decide_true, Bool.not_true, cond_false, if_true]
 by_cases h2 : (2000 : Int) < (l.length : Int)
 . simp [h2]
 simp only [h2, decide_false, cond_false, if_false]
 refine (qy l.length (fun k => (k : Int)) (auK p l) () (fun k hk => ?_) (by simp) rfl).trans ?_
 . obtain ⟨x, hx⟩ := zD hk
   have hlt : (k : Int) < (l.length : Int) := by omega
   have hw : IntKind.wrap .i64 ((k : Int) + 1) = ((k + 1 : Nat) : Int) := w64 (by omega) (by omega)
   have n1 : (0 : Int) <= (k : Int) := by omega
   simp only [hlt, decide_true, cond_true, zh, n1, if_true, Int.toNat_natCast, hx, Option.bind_some, zg, hw, zmt h, auK]
   by_cases c1 : jU p x = 0 <;> by_cases c2 : x.Site = 0 <;> simp [c1, c2]
 . cases zw (auK p l) 0 l.length <;> rfl
theorem zig {p : TP} (h : PolIn p) (l : List TE) (hl : l.length <= 1000000) : zrs p l = some (xJ p l) := by
 unfold zrs xJ
 rw [xE h]
 simp only [Option.bind_some, List.length_map]
 by_cases hk : (wD p).2.2 = 0
 case neg => simp [hk]
 simp only [hk, decide_true, Bool.not_true, cond_true, cond_false, if_true]
 by_cases h2 : (2000 : Int) < (l.length : Int)
 . simp [h2]
 simp only [h2, decide_false, cond_false, if_false]
 refine (qy l.length (fun k => (k : Int)) (auK p l) () (fun k hk => ?_) (by simp) rfl).trans ?_
 . obtain ⟨x, hx⟩ := zD hk
   have hlt : (k : Int) < (l.length : Int) := by omega
   have hw : IntKind.wrap .i64 ((k : Int) + 1) = ((k + 1 : Nat) : Int) := w64 (by omega) (by omega)
   have n1 : (0 : Int) <= (k : Int) := by omega
   simp only [hlt, decide_true, cond_true, zh, n1, if_true, Int.toNat_natCast, hx, Option.bind_some, zg, hw, zi5 h, auK]
   by_cases c1 : jU p x = 0 <;> by_cases c2 : x.Site = 0 <;> simp [c1, c2]
 . cases zw (auK p l) 0 l.length <;> rfl
theorem zml {p : TP} {x : TE} (h : jU p x = 0) : qw p.Lattice x.Goal = true := by
 unfold jU at h
 by_cases h1 : (wD p).2.2 = 0
 case neg => rw [if_neg h1] at h; exact absurd h h1
 rw [if_pos h1] at h
 by_cases h2 : (jG x.Fold).2 = 0
 case neg => rw [if_neg h2] at h; exact absurd h h2
 rw [if_pos h2] at h
 split at h
 . cases h
 by_cases h3 : (jr p x.From x.Goal).2 = 0
 case neg => rw [if_neg h3] at h; exact absurd h h3
 unfold jr at h3
 rw [if_pos h1] at h3
 by_cases h4 : qw p.Lattice x.From = true
 case neg => rw [if_neg h4] at h3; exact absurd h3 (by decide)
 rw [if_pos h4] at h3
 by_cases h5 : qw p.Lattice x.Goal = true
 . exact h5
 . rw [if_neg h5] at h3; exact absurd h3 (by decide)
theorem zBm {p : TP} {l : List TE} (h : (xJ p l).2 = 0) : (wD p).2.2 = 0 /\ l.length <= 2000 /\ ∀ x ∈ l, qw p.Lattice x.Goal = true := by
 unfold xJ at h
 by_cases hk : (wD p).2.2 = 0
 case neg => rw [if_neg hk] at h; exact absurd h hk
 rw [if_pos hk] at h
 by_cases h2 : (2000 : Int) < (l.length : Int)
 . rw [if_pos h2] at h; exact absurd h (by decide)
 rw [if_neg h2] at h
 refine ⟨hk, by omega, fun x hx => ?_⟩
 cases hs : zw (auK p l) 0 l.length with
 | some r =>
   rw [hs] at h
   have : r.2 ≠ 0 := ziz (P := fun r => r.2 ≠ 0) (fun i r hr => by
    unfold auK at hr
    split at hr
    . split at hr
      . split at hr
        . cases hr; exact (by decide : (6 : Int) ≠ 0)
        . cases hr
      . cases hr; assumption
    . cases hr) hs
   exact absurd h this
 | none =>
   obtain ⟨i, hi, e⟩ := List.getElem_of_mem hx
   have := scan_none.1 hs i (by omega) (by omega)
   unfold auK at this
   rw [List.getElem?_eq_getElem hi, e] at this
   simp only at this
   split at this
   . rename_i hc; exact zml hc
   . cases this
end Go.Sx.O
end
namespace Go.Sx.O
open Go
open Go
theorem zqx (l : List TE) : ∃ b, Fz3 l = some b /\ (b = false -> l.length <= 2005) := by
 unfold Fz3
 simp only [List.length_map]
 by_cases c1 : (40 : Int) < (l.length : Int)
 . by_cases c2 : (l.length : Int) <= 2000
   . exact ⟨true, by simp [c1, c2], fun h => by cases h⟩
   . refine ⟨decide ((2005 : Int) < (l.length : Int)), by simp [c1, c2], fun h => ?_⟩
     simp at h; omega
 . refine ⟨decide ((2005 : Int) < (l.length : Int)), by simp [c1], fun h => ?_⟩
   simp at h; omega
open Go
theorem aud_iff {p : TP} {l : List TE} : (xJ p l).2 = 0 ↔ (wD p).2.2 = 0 /\ l.length <= 2000 /\ ∀ x ∈ l, jU p x = 0 /\ x.Site ≠ 0 := by
 constructor
 . intro h
   obtain ⟨h1, h2, _⟩ := zBm h
   refine ⟨h1, h2, fun x hx => ?_⟩
   unfold xJ at h
   rw [if_pos h1, if_neg (by omega)] at h
   cases hs : zw (auK p l) 0 l.length with
   | some r =>
     rw [hs] at h
     have : r.2 ≠ 0 := ziz (P := fun r => r.2 ≠ 0) (fun i r hr => by
      unfold auK at hr
      split at hr
      . split at hr
        . split at hr
          . cases hr; exact (by decide : (6 : Int) ≠ 0)
          . cases hr
        . cases hr; assumption
      . cases hr) hs
     exact absurd h this
   | none =>
     obtain ⟨i, hi, e⟩ := List.getElem_of_mem hx
     have := scan_none.1 hs i (by omega) (by omega)
     unfold auK at this
     rw [List.getElem?_eq_getElem hi, e] at this
     simp only at this
     split at this
     . rename_i hc
       refine ⟨hc, fun hs => ?_⟩
       rw [if_pos hs] at this
       cases this
     . cases this
 . rintro ⟨h1, h2, h3⟩
   unfold xJ
   rw [if_pos h1, if_neg (by omega)]
   have : zw (auK p l) 0 l.length = none := by
    rw [scan_none]
    intro i _ hi
    obtain ⟨x, hx⟩ := zD (l := l) (i := i) (by omega)
    obtain ⟨c1, c2⟩ := h3 x (List.mem_of_getElem? hx)
    unfold auK
    rw [hx]
    simp [c1, c2]
   rw [this]
abbrev Key := Int × Int × Int
theorem leK_iff {x y : Key} : leK x y = true ↔ x.1 < y.1 \/ x.1 = y.1 /\ (x.2.1 < y.2.1 \/ x.2.1 = y.2.1 /\ x.2.2 <= y.2.2) := by
 unfold leK
 simp only [Bool.or_eq_true, Bool.and_eq_true, decide_eq_true_eq]
theorem zs4 (x y : Key) : leK x y = true \/ leK y x = true := by
 rw [leK_iff, leK_iff]; omega
theorem ztp {x y z : Key} (h : leK x y = true) (k : leK y z = true) : leK x z = true := by
 rw [leK_iff] at *; omega
theorem zw3 {x y : Key} (h : leK x y = true) (k : leK y x = true) : x = y := by
 rw [leK_iff] at *
 obtain ⟨a, b, c⟩ := x
 obtain ⟨d, e, f⟩ := y
 simp only at *
 have h1 : a = d := by omega
 have h2 : b = e := by omega
 have h3 : c = f := by omega
 rw [h1, h2, h3]
theorem insK_perm {x : Key} : ∀ {l : List Key}, (zja x l).Perm (x :: l)
 | [] => .refl _
 | y :: r => by
   unfold zja
   split
   . exact List.Perm.refl _
   . exact (List.Perm.cons y insK_perm).trans (.swap x y r)
theorem sortK_perm : ∀ {l : List Key}, (sortK l).Perm l
 | [] => .refl _
 | x :: r => insK_perm.trans (List.Perm.cons x sortK_perm)
theorem ze0 {x : Key} : ∀ {l : List Key}, l.Pairwise (fun a b => leK a b = true) -> (zja x l).Pairwise (fun a b => leK a b = true)
 | [], _ => List.pairwise_singleton _ _
 | y :: r, h => by
   obtain ⟨h1, h2⟩ := List.pairwise_cons.1 h
   unfold zja
   split
   . rename_i e
     refine List.pairwise_cons.2 ⟨fun z hz => ?_, h⟩
     rcases List.mem_cons.1 hz with rfl | hz
     . exact e
     . exact ztp e (h1 z hz)
   . rename_i e
     refine List.pairwise_cons.2 ⟨fun z hz => ?_, ze0 h2⟩
     rcases List.mem_cons.1 (insK_perm.mem_iff.1 hz) with rfl | hz
     . exact (zs4 z y).resolve_left e
     . exact h1 z hz
theorem sortK_sorted : ∀ {l : List Key}, (sortK l).Pairwise (fun a b => leK a b = true)
 | [] => List.Pairwise.nil
 | _ :: _ => ze0 sortK_sorted
theorem sorted_uniq : ∀ {l m : List Key}, l.Perm m -> l.Pairwise (fun a b => leK a b = true) -> m.Pairwise (fun a b => leK a b = true) -> l = m
 | [], m, h, _, _ => (List.Perm.nil_eq h)
 | x :: r, m, h, h1, h2 => by
   match m with
   | [] => exact absurd h.length_eq (by simp)
   | y :: s =>
     obtain ⟨a1, a2⟩ := List.pairwise_cons.1 h1
     obtain ⟨b1, b2⟩ := List.pairwise_cons.1 h2
     have e : x = y := by
      have hx : x ∈ y :: s := h.mem_iff.1 (by simp)
      have hy : y ∈ x :: r := h.mem_iff.2 (by simp)
      rcases List.mem_cons.1 hx with e | hx
      . exact e
      rcases List.mem_cons.1 hy with e | hy
      . exact e.symm
      exact zw3 (a1 y hy) (b1 x hx)
     subst e
     rw [sorted_uniq (List.Perm.cons_inv h) a2 b2]
theorem zxg {l m : List Key} (hl : l.Nodup) (hm : m.Nodup) (hs : m.Pairwise (fun a b => leK a b = true)) (h : ∀ x, x ∈ l ↔ x ∈ m) : sortK l = m :=
 sorted_uniq (sortK_perm.trans ((List.perm_ext_iff_of_nodup hl hm).2 h)) sortK_sorted hs
open Go
theorem zyo {κ ν ρ : Type} [DecidableEq κ] {ks : List κ} {f : κ -> ν} {k : κ} {no : Option ρ} {yes : Nat -> ν -> Option ρ} (h : k ∉ ks) : uv (ks.map fun q => (q, f q)) k no yes = no := by
 unfold uv
 have : (ks.map fun q => (q, f q)).findIdx? (fun p => decide (k = p.1)) = none := by
  rw [List.findIdx?_eq_none_iff]
  intro x hx
  obtain ⟨q, hq, rfl⟩ := List.mem_map.1 hx
  exact decide_eq_false fun e => h (e ▸ hq)
 rw [this]
theorem zl2 {κ ν : Type} [DecidableEq κ] {ks : List κ} {f : κ -> ν} {k : κ} (h : k ∈ ks) : ∃ j, ks[j]? = some k /\ ∀ (ρ : Type) (no : Option ρ) (yes : Nat -> ν -> Option ρ), uv (ks.map fun q => (q, f q)) k no yes = yes j (f k) := by
 cases e : (ks.map fun q => (q, f q)).findIdx? (fun p => decide (k = p.1)) with
 | none =>
   rw [List.findIdx?_eq_none_iff] at e
   have := e (k, f k) (List.mem_map.2 ⟨k, h, rfl⟩)
   simp at this
 | some j =>
   obtain ⟨hj, hk, _⟩ := List.findIdx?_eq_some_iff_getElem.1 e
   simp only [List.getElem_map, decide_eq_true_eq] at hk
   simp only [List.length_map] at hj
   refine ⟨j, ?_, fun ρ no yes => ?_⟩
   . rw [List.getElem?_eq_getElem hj, <- hk]
   . unfold uv
     rw [e]
     simp only [List.getElem?_map, List.getElem?_eq_getElem hj, Option.map_some, Option.bind_some, <- hk]
theorem map_set {κ ν : Type} [DecidableEq κ] {ks : List κ} {f g : κ -> ν} {j : Nat} {k : κ} (hn : ks.Nodup) (hj : ks[j]? = some k) (hg : ∀ q, q ≠ k -> g q = f q) : (ks.map fun q => (q, f q)).set j (k, g k) = ks.map fun q => (q, g q) := by
 refine List.ext_getElem? fun i => ?_
 rw [List.getElem?_set, List.getElem?_map, List.getElem?_map, List.length_map]
 have hlt := (List.getElem?_eq_some_iff.1 hj).1
 by_cases e : j = i
 . subst e
   rw [if_pos rfl, if_pos hlt, hj]; rfl
 . rw [if_neg e]
   cases hi : ks[i]? with
   | none => rfl
   | some q =>
     have : q ≠ k := fun eq => by
      subst eq
      obtain ⟨h1, h2⟩ := List.getElem?_eq_some_iff.1 hi
      obtain ⟨h3, h4⟩ := List.getElem?_eq_some_iff.1 hj
      exact e ((List.getElem_inj hn).1 (h4.trans h2.symm))
     simp only [Option.map_some, hg q this]
def qq (x : TE) : Key := (x.From, x.Goal, x.Fold)
def wx (k : Key) (l : List TE) : Int := ((l.filter fun x => decide (k = qq x)).length : Nat)
def wZ (k : Key) (l : List TE) : Int := ((l.filter fun x => decide (k = qq x) && decide (x.Value.1 = 0)).length : Nat)
def wK (l : List TE) (k : Key) : Int × Int × Int × Int × Int := (k.1, k.2.1, k.2.2, wx k l, wZ k l)
def qC : List TE -> List Key -> List Key
 | [], ks => ks
 | x :: r, ks => qC r (if qq x ∈ ks then ks else ks ++ [qq x])
theorem zgx : ∀ {l : List TE} {ks : List Key} {x : TE}, qC (l ++ [x]) ks = if qq x ∈ qC l ks then qC l ks else qC l ks ++ [qq x]
 | [], _, _ => rfl
 | _ :: r, _, _ => zgx (l := r)
theorem zbe : ∀ {l : List TE} {ks : List Key}, ks.Nodup -> (qC l ks).Nodup
 | [], _, h => h
 | x :: r, ks, h => by
   unfold qC
   refine zbe ?_
   split
   . exact h
   . rename_i e
     refine List.nodup_append.2 ⟨h, by simp, fun a ha b hb => ?_⟩
     rw [List.mem_singleton.1 hb]
     exact fun eq => e (eq ▸ ha)
theorem keysT_mem : ∀ {l : List TE} {ks : List Key} {k : Key}, k ∈ qC l ks ↔ k ∈ ks \/ ∃ x ∈ l, qq x = k
 | [], ks, k => by simp [qC]
 | x :: r, ks, k => by
   unfold qC
   rw [keysT_mem]
   split
   . rename_i e
     constructor
     . rintro (h | ⟨y, hy, rfl⟩)
       . exact .inl h
       . exact .inr ⟨y, List.mem_cons_of_mem _ hy, rfl⟩
     . rintro (h | ⟨y, hy, rfl⟩)
       . exact .inl h
       . rcases List.mem_cons.1 hy with rfl | hy
         . exact .inl e
         . exact .inr ⟨y, hy, rfl⟩
   . constructor
     . rintro (h | ⟨y, hy, rfl⟩)
       . rcases List.mem_append.1 h with h | h
         . exact .inl h
         . rw [List.mem_singleton.1 h]; exact .inr ⟨x, List.mem_cons_self, rfl⟩
       . exact .inr ⟨y, List.mem_cons_of_mem _ hy, rfl⟩
     . rintro (h | ⟨y, hy, rfl⟩)
       . exact .inl (List.mem_append.2 (.inl h))
       . rcases List.mem_cons.1 hy with rfl | hy
         . exact .inl (List.mem_append.2 (.inr (List.mem_singleton.2 rfl)))
         . exact .inr ⟨y, hy, rfl⟩
theorem zax : ∀ {l : List TE} {ks : List Key}, (qC l ks).length <= ks.length + l.length
 | [], _ => Nat.le_refl _
 | x :: r, ks => by
   unfold qC
   refine Nat.le_trans zax ?_
   split
   . simp only [List.length_cons]; omega
   . simp only [List.length_append, List.length_cons, List.length_nil]; omega
theorem zju {l : List TE} {x : TE} {q : Key} (h : q ≠ qq x) : wK (l ++ [x]) q = wK l q := by
 unfold wK wx wZ
 simp [List.filter_append, h]
theorem zu5 {l : List TE} {q : Key} (h : ∀ x ∈ l, qq x ≠ q) : wx q l = 0 /\ wZ q l = 0 := by
 unfold wx wZ
 constructor
 . rw [List.filter_eq_nil_iff.2]
   . rfl
   . intro x hx; simpa using fun e => h x hx e.symm
 . rw [List.filter_eq_nil_iff.2]
   . rfl
   . intro x hx
     have := fun e => h x hx e
     simp only [Bool.and_eq_true, decide_eq_true_eq]
     exact fun e => this e.1.symm
theorem zmz {l : List TE} {x : TE} : wx (qq x) (l ++ [x]) = wx (qq x) l + 1 := by
 unfold wx; simp [List.filter_append]
theorem znd {l : List TE} {x : TE} : wZ (qq x) (l ++ [x]) = wZ (qq x) l + if x.Value.1 = 0 then 1 else 0 := by
 unfold wZ
 rw [List.filter_append]
 by_cases h : x.Value.1 = 0 <;> simp [h]
theorem zth {l : List TE} {k : Key} : 0 <= wx k l /\ wx k l <= l.length := by
 unfold wx
 have := List.length_filter_le (fun x => decide (k = qq x)) l
 omega
theorem zt3 {l : List TE} {k : Key} : 0 <= wZ k l /\ wZ k l <= l.length := by
 unfold wZ
 have := List.length_filter_le (fun x => decide (k = qq x) && decide (x.Value.1 = 0)) l
 omega
end Go.Sx.O
noncomputable section
namespace Go.Sx.O
open Go
def zdk (p : TP) (l : List TE) : List (Int × Int × Int × Int × Int) × Int := if (xJ p l).2 = 0 then ((sortK (qC l [])).map (wK l), 0) else ([], (xJ p l).2)
theorem zza {l : List TE} {x : TE} (h : qq x ∉ qC l []) : wK (l ++ [x]) (qq x) = (x.From, x.Goal, x.Fold, 1, if x.Value.1 = 0 then 1 else 0) := by
 have hn : ∀ y ∈ l, qq y ≠ qq x := fun y hy e => h (keysT_mem.2 (.inr ⟨y, hy, e⟩))
 obtain ⟨h1, h2⟩ := zu5 hn
 unfold wK
 rw [zmz, znd, h1, h2, Int.zero_add, Int.zero_add]
 rfl
theorem zzf {l : List TE} {x : TE} : wK (l ++ [x]) (qq x) = (x.From, x.Goal, x.Fold, wx (qq x) l + 1, wZ (qq x) l + if x.Value.1 = 0 then 1 else 0) := by
 unfold wK
 rw [zmz, znd]
 rfl
theorem zhi {p : TP} (h : PolIn p) (l : List TE) (hl : l.length <= 1000000) : zq8 p l = some (zdk p l) := by
 unfold zq8 zdk
 rw [zhv h l hl]
 simp only [Option.bind_some]
 by_cases e : (xJ p l).2 = 0
 case neg => simp [e]
 simp only [e, decide_true, Bool.not_true, cond_false, if_true]
 refine (jc l.length (fun k => ((k : Int), qC (l.take k) [], (qC (l.take k) []).map fun q => (q, wK (l.take k) q))) (qC l [], (qC l []).map fun q => (q, wK l q)) (fun k hk => ?_) (by simp) rfl).trans ?_
 . obtain ⟨x, hx⟩ := zD hk
   have hlt : (k : Int) < (l.length : Int) := by omega
   have hwr : IntKind.wrap .i64 ((k : Int) + 1) = ((k + 1 : Nat) : Int) := w64 (by omega) (by omega)
   have n1 : (0 : Int) <= (k : Int) := by omega
   have ht : l.take (k + 1) = l.take k ++ [x] := by rw [List.take_add_one, hx]; rfl
   have hlen := zax (l := l.take k) (ks := [])
   have htl : (l.take k).length = k := by rw [List.length_take]; omega
   rw [htl, List.length_nil] at hlen
   have c0 := zth (l := l.take k) (k := qq x)
   have m0 := zt3 (l := l.take k) (k := qq x)
   rw [htl] at c0 m0
   have hc : IntKind.wrap .i64 (wx (qq x) (l.take k) + 1) = wx (qq x) (l.take k) + 1 := w64 (by omega) (by omega)
   have hmk : IntKind.wrap .i64 (wZ (qq x) (l.take k) + 1) = wZ (qq x) (l.take k) + 1 := w64 (by omega) (by omega)
   have hnd := zbe (l := l.take k) (ks := []) List.nodup_nil
   rw [ht, zgx]
   have hs : ((qC (l.take k) []).length + 1) * 24 <= 70368744177664 := by omega
   simp only [List.length_map, hlt, decide_true, cond_true, zh, n1, if_true, Int.toNat_natCast, hx, Option.bind_some, zn, hs]
   have hkey : ((x.From, x.Goal, x.Fold) : Key) = qq x := rfl
   rw [hkey]
   by_cases hm : qq x ∈ qC (l.take k) []
   . obtain ⟨j, hj, hy⟩ := zl2 (f := wK (l.take k)) hm
     rw [if_pos hm]
     have hset := map_set (f := wK (l.take k)) (g := wK (l.take k ++ [x])) hnd hj (fun q hq => zju hq)
     rw [zzf] at hset
     simp only [hy, zg, hwr]
     by_cases hv : x.Value.1 = 0
     . rw [if_pos hv] at hset
       have e1 : (wK (l.take k) (qq x)).2.2.2.1 = wx (qq x) (l.take k) := rfl
       have e2 : (wK (l.take k) (qq x)).2.2.2.2 = wZ (qq x) (l.take k) := rfl
       simp only [hv, decide_true, cond_true, e1, e2, hc, hmk]
       rw [<- hset]; rfl
     . rw [if_neg hv, Int.add_zero] at hset
       have e1 : (wK (l.take k) (qq x)).2.2.2.1 = wx (qq x) (l.take k) := rfl
       simp only [hv, decide_false, cond_false, e1, hc]
       rw [<- hset]; rfl
   . rw [if_neg hm]
     have hmap : (qC (l.take k) [] ++ [qq x]).map (fun q => (q, wK (l.take k ++ [x]) q)) = (qC (l.take k) []).map (fun q => (q, wK (l.take k) q)) ++ [(qq x, x.From, x.Goal, x.Fold, 1, if x.Value.1 = 0 then 1 else 0)] := by
      rw [List.map_append]
      congr 1
      . refine List.map_congr_left fun q hq => ?_
        rw [zju fun e => hm (e ▸ hq)]
      . show [(qq x, wK (l.take k ++ [x]) (qq x))] = _
        rw [zza hm]
     rw [hmap]
     simp only [zyo (f := wK (l.take k)) hm, zg, hwr]
     by_cases hv : x.Value.1 = 0
     . simp only [hv, decide_true, cond_true, if_true]
     . simp only [hv, decide_false, cond_false, if_false]
 . have hks := zax (l := l) (ks := [])
   rw [List.length_nil] at hks
   have hsl : (sortK (qC l [])).length = (qC l []).length := sortK_perm.length_eq
   have hs1 : (qC l []).length <= 1000000 := by omega
   simp only [zn, hs1, if_true]
   refine (jc (sortK (qC l [])).length (fun k => ((k : Int), ((sortK (qC l [])).take k).map (wK l))) ((sortK (qC l [])).map (wK l)) (fun k hk => ?_) (by simp) rfl).trans rfl
   obtain ⟨q, hq⟩ := zD hk
   have hlt : (k : Int) < ((sortK (qC l [])).length : Int) := by omega
   have hwr : IntKind.wrap .i64 ((k : Int) + 1) = ((k + 1 : Nat) : Int) := w64 (by omega) (by omega)
   have n1 : (0 : Int) <= (k : Int) := by omega
   have hm : q ∈ qC l [] := sortK_perm.mem_iff.1 (List.mem_of_getElem? hq)
   obtain ⟨j, hj, hy⟩ := zl2 (f := wK l) hm
   have ht : (sortK (qC l [])).take (k + 1) = (sortK (qC l [])).take k ++ [q] := by rw [List.take_add_one, hq]; rfl
   have htl : ((sortK (qC l [])).take k).length = k := by rw [List.length_take]; omega
   have hs : (k + 1) * 40 <= 70368744177664 := by omega
   simp only [List.length_map, hlt, n1, and_self, decide_true, cond_true, zn, zh, if_true, Int.toNat_natCast, hq, Option.bind_some, hy, zg, hwr, ht, htl, hs, List.map_append, List.map_cons, List.map_nil]
end Go.Sx.O
end
namespace Go.Sx.O
open Go
def sel (l : List TE) (ks : List Key) : List (Int × Int × Int × Int × Int) := (ks.filter fun q => decide (0 < wx q l)).map (wK l)
theorem zcn {l : List TE} {a b : List Key} : sel l (a ++ b) = sel l a ++ sel l b := by
 unfold sel; rw [List.filter_append, List.map_append]
theorem zh8 {l : List TE} {a : List Key} : (sel l a).length <= a.length := by
 unfold sel; rw [List.length_map]; exact List.length_filter_le _ _
def k3 (f g : Int) (m : Nat) : List Key := (List.range m).map fun (i : Nat) => (f, g, (i : Int) + 1)
def k2 (f : Int) (m : Nat) : List Key := (List.range m).flatMap fun (g : Nat) => k3 f (g : Int) 4
def k1 (n m : Nat) : List Key := (List.range m).flatMap fun (f : Nat) => k2 (f : Int) n
theorem zpp {f g : Int} {m : Nat} : k3 f g (m + 1) = k3 f g m ++ [(f, g, (m : Int) + 1)] := by
 unfold k3; rw [List.range_succ, List.map_append]; rfl
theorem zh6 {f : Int} {m : Nat} : k2 f (m + 1) = k2 f m ++ k3 f (m : Int) 4 := by
 unfold k2; rw [List.range_succ, List.flatMap_append]; simp
theorem zh2 {n m : Nat} : k1 n (m + 1) = k1 n m ++ k2 (m : Int) n := by
 unfold k1; rw [List.range_succ, List.flatMap_append]; simp
theorem zuo {f g : Int} {m : Nat} : (k3 f g m).length = m := by simp [k3]
theorem zld {f : Int} : ∀ {m : Nat}, (k2 f m).length = 4 * m
 | 0 => rfl
 | m + 1 => by rw [zh6, List.length_append, zld, zuo]; omega
theorem zu1 {n : Nat} : ∀ {m : Nat}, (k1 n m).length = 4 * n * m
 | 0 => rfl
 | m + 1 => by rw [zh2, List.length_append, zu1, zld, Nat.mul_succ]
theorem k3_mem {f g : Int} {m : Nat} {q : Key} : q ∈ k3 f g m ↔ q.1 = f /\ q.2.1 = g /\ 1 <= q.2.2 /\ q.2.2 <= m := by
 unfold k3
 simp only [List.mem_map, List.mem_range]
 obtain ⟨a, b, c⟩ := q
 constructor
 . rintro ⟨i, hi, e⟩
   cases e
   exact ⟨rfl, rfl, by show 1 <= (i : Int) + 1; omega, by show (i : Int) + 1 <= (m : Int); omega⟩
 . rintro ⟨h1, h2, h3, h4⟩
   simp only at h1 h2 h3 h4
   subst h1; subst h2
   exact ⟨(c - 1).toNat, by omega, by congr 2; omega⟩
theorem k2_mem {f : Int} {m : Nat} {q : Key} : q ∈ k2 f m ↔ q.1 = f /\ 0 <= q.2.1 /\ q.2.1 < m /\ 1 <= q.2.2 /\ q.2.2 <= 4 := by
 unfold k2
 simp only [List.mem_flatMap, List.mem_range, k3_mem]
 constructor
 . rintro ⟨i, hi, h1, h2, h3, h4⟩
   exact ⟨h1, by omega, by omega, h3, h4⟩
 . rintro ⟨h1, h2, h3, h4, h5⟩
   exact ⟨q.2.1.toNat, by omega, h1, by omega, h4, h5⟩
theorem k1_mem {n m : Nat} {q : Key} : q ∈ k1 n m ↔ 0 <= q.1 /\ q.1 < m /\ 0 <= q.2.1 /\ q.2.1 < n /\ 1 <= q.2.2 /\ q.2.2 <= 4 := by
 unfold k1
 simp only [List.mem_flatMap, List.mem_range, k2_mem]
 constructor
 . rintro ⟨i, hi, h1, h2, h3, h4, h5⟩
   exact ⟨by omega, by omega, h2, h3, h4, h5⟩
 . rintro ⟨h1, h2, h3, h4, h5, h6⟩
   exact ⟨q.1.toNat, by omega, by omega, h3, h4, h5, h6⟩
def zbc (x y : Key) : Prop := x.1 < y.1 \/ x.1 = y.1 /\ (x.2.1 < y.2.1 \/ x.2.1 = y.2.1 /\ x.2.2 < y.2.2)
theorem zyc {f g : Int} : ∀ {m : Nat}, (k3 f g m).Pairwise zbc
 | 0 => List.Pairwise.nil
 | m + 1 => by
   rw [zpp]
   refine List.pairwise_append.2 ⟨zyc, List.pairwise_singleton _ _, fun a ha b hb => ?_⟩
   obtain ⟨h1, h2, h3, h4⟩ := k3_mem.1 ha
   rw [List.mem_singleton.1 hb]
   unfold zbc
   simp only
   omega
theorem zxy {f : Int} : ∀ {m : Nat}, (k2 f m).Pairwise zbc
 | 0 => List.Pairwise.nil
 | m + 1 => by
   rw [zh6]
   refine List.pairwise_append.2 ⟨zxy, zyc, fun a ha b hb => ?_⟩
   obtain ⟨h1, h2, h3, h4, h5⟩ := k2_mem.1 ha
   obtain ⟨g1, g2, g3, g4⟩ := k3_mem.1 hb
   unfold zbc
   omega
theorem k1_pw {n : Nat} : ∀ {m : Nat}, (k1 n m).Pairwise zbc
 | 0 => List.Pairwise.nil
 | m + 1 => by
   rw [zh2]
   refine List.pairwise_append.2 ⟨k1_pw, zxy, fun a ha b hb => ?_⟩
   obtain ⟨h1, h2, _⟩ := k1_mem.1 ha
   obtain ⟨g1, _⟩ := k2_mem.1 hb
   unfold zbc
   omega
theorem zzo {x y : Key} (h : zbc x y) : leK x y = true := by
 rw [leK_iff]; unfold zbc at h; omega
theorem zzj {x y : Key} (h : zbc x y) : x ≠ y := fun e => by
 subst e; unfold zbc at h; omega
theorem zy8 {l : List TE} {q : Key} : 0 < wx q l ↔ ∃ x ∈ l, qq x = q := by
 unfold wx
 constructor
 . intro h
   obtain ⟨x, hx⟩ := List.exists_mem_of_length_pos (l := l.filter fun x => decide (q = qq x)) (by omega)
   obtain ⟨h1, h2⟩ := List.mem_filter.1 hx
   exact ⟨x, h1, (of_decide_eq_true h2).symm⟩
 . rintro ⟨x, hx, rfl⟩
   have : x ∈ l.filter fun y => decide (qq x = qq y) := List.mem_filter.2 ⟨hx, by simp⟩
   have := List.length_pos_of_mem this
   omega
theorem zur {l : List TE} {n : Nat} (h : ∀ x ∈ l, 0 <= x.From /\ x.From < n /\ 0 <= x.Goal /\ x.Goal < n /\ 1 <= x.Fold /\ x.Fold <= 4) : (sortK (qC l [])).map (wK l) = sel l (k1 n n) := by
 unfold sel
 congr 1
 refine zxg (zbe List.nodup_nil) ?_ ?_ fun q => ?_
 . exact List.Pairwise.filter _ (k1_pw.imp zzj)
 . exact (k1_pw.imp zzo).filter _
 . rw [List.mem_filter, keysT_mem, k1_mem, decide_eq_true_iff, zy8]
   constructor
   . rintro (h1 | ⟨x, hx, rfl⟩)
     . simp at h1
     . exact ⟨h x hx, x, hx, rfl⟩
   . rintro ⟨_, x, hx, rfl⟩
     exact .inr ⟨x, hx, rfl⟩
theorem labB_iff' {l : TL} {a : Int} : qw l a = true ↔ 0 <= a /\ a < (l.Names.length : Int) := by simp [qw]
theorem zw1 {p : TP} {x : TE} (h : jU p x = 0) : 1 <= x.Fold /\ x.Fold <= 4 := by
 unfold jU at h
 by_cases h1 : (wD p).2.2 = 0
 case neg => rw [if_neg h1] at h; exact absurd h h1
 rw [if_pos h1] at h
 by_cases h2 : (jG x.Fold).2 = 0
 case neg => rw [if_neg h2] at h; exact absurd h h2
 unfold jG at h2
 split at h2
 . exact absurd h2 (by decide)
 . omega
theorem zw4 {p : TP} {x : TE} (h : jU p x = 0) : qw p.Lattice x.From = true := by
 unfold jU at h
 by_cases h1 : (wD p).2.2 = 0
 case neg => rw [if_neg h1] at h; exact absurd h h1
 rw [if_pos h1] at h
 by_cases h2 : (jG x.Fold).2 = 0
 case neg => rw [if_neg h2] at h; exact absurd h h2
 rw [if_pos h2] at h
 split at h
 . cases h
 by_cases h3 : (jr p x.From x.Goal).2 = 0
 case neg => rw [if_neg h3] at h; exact absurd h h3
 unfold jr at h3
 rw [if_pos h1] at h3
 by_cases h4 : qw p.Lattice x.From = true
 . exact h4
 . rw [if_neg h4] at h3; exact absurd h3 (by decide)
theorem zv7 {l : List TE} {x : TE} {q : Key} : wx q (l ++ [x]) = (if q = qq x then wx q l + 1 else wx q l) /\ wZ q (l ++ [x]) = (if q = qq x /\ x.Value.1 = 0 then wZ q l + 1 else wZ q l) := by
 unfold wx wZ
 rw [List.filter_append, List.filter_append]
 by_cases e : q = qq x
 . by_cases v : x.Value.1 = 0 <;> simp [e, v]
 . simp [e]
theorem zgv {p : TP} (h : PolIn p) (l : List TE) (hl : l.length <= 1000000) : zso p l = some (zdk p l) := by
 unfold zso zdk
 rw [zig h l hl]
 simp only [Option.bind_some]
 by_cases e : (xJ p l).2 = 0
 case neg => simp [e]
 obtain ⟨hk, hl2, hx⟩ := aud_iff.1 e
 have ok := xj h.lat (zyh hk)
 have hle := ok.le
 have hr : ∀ x ∈ l, 0 <= x.From /\ x.From < p.Lattice.Names.length /\ 0 <= x.Goal /\ x.Goal < p.Lattice.Names.length /\ 1 <= x.Fold /\ x.Fold <= 4 := fun x hm => by
  have hc := (hx x hm).1
  obtain ⟨a1, a2⟩ := labB_iff'.1 (zw4 hc)
  obtain ⟨b1, b2⟩ := labB_iff'.1 (zml hc)
  obtain ⟨d1, d2⟩ := zw1 hc
  exact ⟨a1, a2, b1, b2, d1, d2⟩
 simp only [e, decide_true, Bool.not_true, cond_false, if_true, List.length_map]
 rw [zur hr]
 have hbig : ∀ (m : Nat), m <= 2000 -> (m + 1) * 40 <= 70368744177664 := fun m hm => by omega
 generalize hn : p.Lattice.Names.length = n at *
 have hnn : 4 * n * n <= 256 := by
  have : n = 0 \/ n = 1 \/ n = 2 \/ n = 3 \/ n = 4 \/ n = 5 \/ n = 6 \/ n = 7 \/ n = 8 := by omega
  rcases this with rfl | rfl | rfl | rfl | rfl | rfl | rfl | rfl | rfl <;> decide
 refine (jc n (fun k => ((k : Int), sel l (k1 n k))) (sel l (k1 n n)) (fun a ha => ?_) (by simp) rfl).trans rfl
 have a1 : (a : Int) < (n : Int) := by omega
 have aw : IntKind.wrap .i64 ((a : Int) + 1) = ((a + 1 : Nat) : Int) := w64 (by omega) (by omega)
 simp only [a1, decide_true, cond_true]
 refine (jc n (fun k => ((k : Int), sel l (k1 n a) ++ sel l (k2 (a : Int) k))) (sel l (k1 n a) ++ sel l (k2 (a : Int) n)) (fun b hb => ?_) (by simp) (by simp [k2, sel])).trans ?_
 case refine_2 => simp only [zg, aw, zh2, zcn]
 have b1 : (b : Int) < (n : Int) := by omega
 have bw : IntKind.wrap .i64 ((b : Int) + 1) = ((b + 1 : Nat) : Int) := w64 (by omega) (by omega)
 simp only [b1, decide_true, cond_true]
 refine (jc 4 (fun k => ((k : Int) + 1, sel l (k1 n a) ++ sel l (k2 (a : Int) b) ++ sel l (k3 (a : Int) (b : Int) k))) (sel l (k1 n a) ++ sel l (k2 (a : Int) b) ++ sel l (k3 (a : Int) (b : Int) 4)) (fun c hc => ?_) (by simp) (by simp [k3, sel])).trans ?_
 case refine_2 => simp only [zg, bw, zh6, zcn, List.append_assoc]
 have c1 : (c : Int) + 1 <= 4 := by omega
 have cw : IntKind.wrap .i64 ((c : Int) + 1 + 1) = ((c + 1 : Nat) : Int) + 1 := by rw [w64 (by omega) (by omega)]; omega
 simp only [c1, decide_true, cond_true]
 refine (jc l.length (fun k => ((k : Int), wx ((a : Int), (b : Int), (c : Int) + 1) (l.take k), wZ ((a : Int), (b : Int), (c : Int) + 1) (l.take k))) (wx ((a : Int), (b : Int), (c : Int) + 1) l, wZ ((a : Int), (b : Int), (c : Int) + 1) l) (fun k hk => ?_) (by simp) rfl).trans ?_
 . obtain ⟨x, hx⟩ := zD hk
   have hlt : (k : Int) < (l.length : Int) := by omega
   have hwr : IntKind.wrap .i64 ((k : Int) + 1) = ((k + 1 : Nat) : Int) := w64 (by omega) (by omega)
   have n1 : (0 : Int) <= (k : Int) := by omega
   have ht : l.take (k + 1) = l.take k ++ [x] := by rw [List.take_add_one, hx]; rfl
   have htl : (l.take k).length = k := by rw [List.length_take]; omega
   have c0 := zth (l := l.take k) (k := ((a : Int), (b : Int), (c : Int) + 1))
   have m0 := zt3 (l := l.take k) (k := ((a : Int), (b : Int), (c : Int) + 1))
   rw [htl] at c0 m0
   obtain ⟨t1, t2⟩ := zv7 (l := l.take k) (x := x) (q := ((a : Int), (b : Int), (c : Int) + 1))
   have w1 : IntKind.wrap .i64 (wx ((a : Int), (b : Int), (c : Int) + 1) (l.take k) + 1) = wx ((a : Int), (b : Int), (c : Int) + 1) (l.take k) + 1 := w64 (by omega) (by omega)
   have w2 : IntKind.wrap .i64 (wZ ((a : Int), (b : Int), (c : Int) + 1) (l.take k) + 1) = wZ ((a : Int), (b : Int), (c : Int) + 1) (l.take k) + 1 := w64 (by omega) (by omega)
   rw [ht, t1, t2]
   simp only [hlt, decide_true, cond_true, zh, n1, if_true, Int.toNat_natCast, hx, Option.bind_some, zg, hwr, w1, w2]
   generalize wx ((a : Int), (b : Int), (c : Int) + 1) (l.take k) = C at *
   generalize wZ ((a : Int), (b : Int), (c : Int) + 1) (l.take k) = M at *
   unfold qq
   by_cases e1 : x.From = (a : Int)
   case neg => simp [e1, Ne.symm e1]
   by_cases e2 : x.Goal = (b : Int)
   case neg => simp [e1, e2, Ne.symm e2]
   by_cases e3 : x.Fold = (c : Int) + 1
   case neg => simp [e1, e2, e3, Ne.symm e3]
   by_cases e4 : x.Value.1 = 0 <;> simp [e1, e2, e3, e4]
 . have hlen1 := zh8 (l := l) (a := k1 n a)
   have hlen2 := zh8 (l := l) (a := k2 (a : Int) b)
   have hlen3 := zh8 (l := l) (a := k3 (a : Int) (b : Int) c)
   rw [zu1] at hlen1
   rw [zld] at hlen2
   rw [zuo] at hlen3
   have hna : 4 * n * a <= 4 * n * n := Nat.mul_le_mul_left _ (by omega)
   have hs : ((sel l (k1 n a) ++ sel l (k2 (a : Int) b) ++ sel l (k3 (a : Int) (b : Int) c)).length + 1) * 40 <= 70368744177664 := hbig _ (by rw [List.length_append, List.length_append]; omega)
   rw [zpp, zcn]
   by_cases pos : 0 < wx ((a : Int), (b : Int), (c : Int) + 1) l
   . have : sel l [((a : Int), (b : Int), (c : Int) + 1)] = [((a : Int), (b : Int), (c : Int) + 1, wx ((a : Int), (b : Int), (c : Int) + 1) l, wZ ((a : Int), (b : Int), (c : Int) + 1) l)] := by
      unfold sel; simp [pos, wK]
     simp only [this, pos, decide_true, cond_true, zn, hs, if_true, zg, cw]
     simp only [List.append_assoc]
   . have : sel l [((a : Int), (b : Int), (c : Int) + 1)] = [] := by unfold sel; simp [pos]
     simp only [this, pos, decide_false, cond_false, zg, cw, List.append_nil]
theorem zv4 {p : TP} {l : List TE} : (zdk p l).1.length <= l.length := by
 unfold zdk
 split
 . have := zax (l := l) (ks := [])
   rw [List.length_map, sortK_perm.length_eq]
   simpa using this
 . simp
theorem zkc (p : TP) (l : List TE) (w1 : W_TP p) (_ : yY W_TE l) : zvv p l = some true := by
 unfold zvv
 obtain ⟨f, hf, hq⟩ := zwo p (zAc w1.Lattice.Up)
 rw [hf]
 cases f with
 | true => rfl
 | false =>
 have h := hq rfl
 obtain ⟨fa, hfa, hqa⟩ := zqx l
 simp only [Option.bind_some, cond_false]
 rw [hfa]
 cases fa with
 | true => rfl
 | false =>
 have la := hqa rfl
 have tl := zv4 (p := p) (l := l)
 simp only [Option.bind_some, cond_false, zhi h l (by omega), zgv h l (by omega), decide_true, Bool.not_true, List.length_map]
 refine (jc (zdk p l).1.length (fun k => (k : Int)) () (fun k hk => ?_) (by simp) rfl).trans rfl
 obtain ⟨x, hx⟩ := zD hk
 have hlt : (k : Int) < ((zdk p l).1.length : Int) := by omega
 have hwr : IntKind.wrap .i64 ((k : Int) + 1) = ((k + 1 : Nat) : Int) := w64 (by omega) (by omega)
 have n1 : (0 : Int) <= (k : Int) := by omega
 simp only [hlt, decide_true, cond_true, zh, n1, if_true, Int.toNat_natCast, hx, Option.bind_some, Bool.and_self, Bool.not_true, cond_false, zg, hwr]
end Go.Sx.O
