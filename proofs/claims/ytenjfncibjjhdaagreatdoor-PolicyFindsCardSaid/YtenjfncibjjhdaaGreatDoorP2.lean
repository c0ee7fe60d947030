/-
  An own text of this claim.
-/
import Derived.Test.YtenjfncibjjhdaaGreatDoorP1
namespace Go.Sx.O
open Go
def uT (ns : List (List UInt8)) (i : Nat) : Option (Int × Int) :=
 if zca (ns.getD i []) = true then (if ns.getD i [] ∈ ns.take i then some ((i : Int), 8) else none) else some ((i : Int), 6)
def jB (ns : List (List UInt8)) : Int × Int := if ns.length < 1 \/ 8 < ns.length then (-1, 3) else (zt (uT ns) 0 ns.length).getD (0, 0)
theorem jm {α : Type} {l : List α} {i : Nat} {d x : α} (h : l[i]? = some x) : l.getD i d = x := by rw [List.getD_eq_getElem?_getD, h]; rfl
theorem zw9 (ns : List (List UInt8)) (h : ns.length <= 20) (hn : ∀ s ∈ ns, s.length <= 1000) : zfp ns = some (jB ns) := by
 unfold zfp jB
 simp only [List.length_map]
 by_cases h1 : ns.length < 1
 . have : (ns.length : Int) < 1 := by omega
   simp [h1, this]
 by_cases h2 : 8 < ns.length
 . have : (8 : Int) < ns.length := by omega
   have g1 : ¬ (ns.length : Int) < 1 := by omega
   simp [h2, this, g1]
 have g1 : ¬ (ns.length : Int) < 1 := by omega
 have g2 : ¬ (8 : Int) < ns.length := by omega
 simp only [g1, g2, h1, h2, decide_false, cond_false, or_self, if_false]
 rw [wC ns.length (uT ns) () (fun k hk => ?_) (by simp)]
 . cases zt (uT ns) 0 ns.length <;> rfl
 . obtain ⟨x, hx⟩ := zB (l := ns) (i := k) hk
   have hxl := hn x (List.mem_of_getElem? hx)
   simp only [Int.ofNat_lt, hk, decide_true, cond_true, zh, Int.toNat_natCast, hx, Option.bind_some, zg, Int.natCast_nonneg, if_true]
   rw [zj7 x (by omega), xe _ _ (by simp; omega)]
   unfold uT
   rw [jm hx, w64 (by omega) (by omega)]
   cases e : zca x with
   | false => simp
   | true =>
     have hk' : k <= ns.length := by omega
     simp only [Option.bind_some, Bool.not_true, cond_false, Int.toNat_zero, List.drop_zero, if_true]
     by_cases hm : x ∈ ns.take k
     . simp [hm, zl, hk']
     . simp [hm, zl, hk']
theorem zht (c : UInt8) : zim (c.toNat : Int) = some (decide (97 <= c.toNat) && decide (c.toNat <= 122)) := by
 unfold zim
 by_cases h : (97 : Int) <= c.toNat
 . have : 97 <= c.toNat := by omega
   simp only [h, this, decide_true, cond_true, Bool.true_and]
   congr 1
   rw [Bool.eq_iff_iff]; simp; omega
 . have : ¬ 97 <= c.toNat := by omega
   simp only [h, this, decide_false, cond_false, Bool.false_and]
theorem zro (c : UInt8) : zn4 (c.toNat : Int) = some (decide (48 <= c.toNat) && decide (c.toNat <= 57)) := by
 unfold zn4
 by_cases h : (48 : Int) <= c.toNat
 . have : 48 <= c.toNat := by omega
   simp only [h, this, decide_true, cond_true, Bool.true_and]
   congr 1
   rw [Bool.eq_iff_iff]; simp; omega
 . have : ¬ 48 <= c.toNat := by omega
   simp only [h, this, decide_false, cond_false, Bool.false_and]
theorem ztu (c : UInt8) : decide (c ∈ jo) = (decide (97 <= c.toNat) && decide (c.toNat <= 122) || (decide (48 <= c.toNat) && decide (c.toNat <= 57)) || decide (c.toNat = 45)) := by
 have key : ∀ n : Fin 256, decide (UInt8.ofNat n ∈ jo) = (decide (97 <= n.val) && decide (n.val <= 122) || (decide (48 <= n.val) && decide (n.val <= 57)) || decide (n.val = 45)) := by decide +kernel
 have := key ⟨c.toNat, c.toNat_lt⟩
 simpa using this
theorem zkl (s : List UInt8) (h : s.length <= 1000000000) : zmq s = some (zca s) := by
 unfold zmq
 cases s with
 | nil => rfl
 | cons a r =>
   have g1 : ¬ ((a :: r).length : Int) < 1 := by simp; omega
   simp only [g1, decide_false, cond_false]
   unfold zca
   by_cases h1 : (16 : Int) < ((a :: r).length : Int)
   . have : ¬ (a :: r).length <= 16 := by omega
     simp only [h1, decide_true, cond_true, this, decide_false, Bool.false_and]
   have h1' : (a :: r).length <= 16 := by omega
   have e5 : zh (a :: r) 0 = fun f => (f a : Option Bool) := rfl
   simp only [h1, decide_false, cond_false, h1', decide_true, Bool.true_and, e5, zht, Option.bind_some]
   cases e : (decide (97 <= a.toNat) && decide (a.toNat <= 122)) with
   | false => rfl
   | true =>
     simp only [Bool.not_true, cond_false, Bool.true_and]
     generalize a :: r = s at *
     rw [wC s.length (fun k => if decide (s.getD k 0 ∈ jo) = true then none else some false) () (fun k hk => ?_) (by simp)]
     . cases hs : zt (fun k => if decide (s.getD k 0 ∈ jo) = true then none else some false) 0 s.length with
       | none =>
         have := scan_none.1 hs
         simp only
         congr 1
         symm
         rw [List.all_eq_true]
         intro c hc
         obtain ⟨i, hi, rfl⟩ := List.getElem_of_mem hc
         have := this i (by omega) (by omega)
         rw [jm (List.getElem?_eq_getElem hi)] at this
         split at this
         . assumption
         . cases this
       | some b =>
         simp only
         congr 1
         have hall : ¬ s.all (fun c => decide (c ∈ jo)) = true := by
          intro hall
          rw [List.all_eq_true] at hall
          have : zt (fun k => if decide (s.getD k 0 ∈ jo) = true then none else some false) 0 s.length = none := scan_none.2 fun i _ hi => by
           have hi' : i < s.length := by omega
           rw [jm (List.getElem?_eq_getElem hi'), if_pos (hall _ (List.getElem_mem hi'))]
          rw [this] at hs; cases hs
         have hb : b = false := by
          have key : ∀ {j k : Nat}, zt (fun k => if decide (s.getD k 0 ∈ jo) = true then none else some false) k j = some b -> b = false := by
           intro j
           induction j with
           | zero => intro k h; cases h
           | succ j ih =>
             intro k h
             simp only [zt] at h
             split at h
             . rename_i r hr
               cases h
               split at hr
               . cases hr
               . cases hr; rfl
             . exact ih h
          exact key hs
         rw [hb]
         cases e : s.all (fun c => decide (c ∈ jo)) with
         | false => rfl
         | true => exact absurd e hall
     . obtain ⟨x, hx⟩ := zB (l := s) (i := k) hk
       simp only [Int.ofNat_lt, hk, decide_true, cond_true, zh, Int.toNat_natCast, hx, Option.bind_some, zg, Int.natCast_nonneg, if_true, zht, zro]
       rw [jm hx, w64 (by omega) (by omega), ztu]
       cases (decide (97 <= x.toNat) && decide (x.toNat <= 122)) with
       | true => simp
       | false =>
         cases (decide (48 <= x.toNat) && decide (x.toNat <= 57)) with
         | true => simp
         | false =>
           by_cases h45 : x.toNat = 45
           . simp [h45]
           . have : ¬ (x.toNat : Int) = 45 := by omega
             simp [h45, this]
theorem znf (ns : List (List UInt8)) (h : ns.length <= 20) (hn : ∀ s ∈ ns, s.length <= 1000) : zoq ns = some (jB ns) := by
 unfold zoq jB
 simp only [List.length_map]
 by_cases h1 : ns.length < 1
 . have : (ns.length : Int) < 1 := by omega
   simp [h1, this]
 by_cases h2 : 8 < ns.length
 . have : (8 : Int) < ns.length := by omega
   have g1 : ¬ (ns.length : Int) < 1 := by omega
   simp [h2, this, g1]
 have g1 : ¬ (ns.length : Int) < 1 := by omega
 have g2 : ¬ (8 : Int) < ns.length := by omega
 simp only [g1, g2, h1, h2, decide_false, cond_false, or_self, if_false]
 rw [wC ns.length (uT ns) () (fun k hk => ?_) (by simp)]
 . cases zt (uT ns) 0 ns.length <;> rfl
 . obtain ⟨x, hx⟩ := zB (l := ns) (i := k) hk
   have hxl := hn x (List.mem_of_getElem? hx)
   simp only [Int.ofNat_lt, hk, decide_true, cond_true, zh, Int.toNat_natCast, hx, Option.bind_some, Int.natCast_nonneg, if_true]
   rw [zkl x (by omega)]
   unfold uT
   rw [jm hx]
   cases e : zca x with
   | false => simp
   | true =>
     simp only [Option.bind_some, Bool.not_true, cond_false, if_true]
     rw [wC k (fun j => if ns.getD j [] = x then some (.inr (.inr ((k : Int), (8 : Int)))) else none) () (fun j hj => ?_) (by simp)]
     . by_cases hm : x ∈ ns.take k
       . obtain ⟨j, hj, rfl⟩ := List.getElem_of_mem hm
         have hj' : j < k /\ j < ns.length := by simp at hj; omega
         cases hs : zt (fun i => if ns.getD i [] = (ns.take k)[j] then some ((.inr (.inr ((k : Int), (8 : Int)))) : Int ⊕ (Unit ⊕ (Int × Int))) else none) 0 k with
         | none =>
           have := scan_none.1 hs j (by omega) (by omega)
           rw [jm (List.getElem?_eq_getElem hj'.2)] at this
           simp at this
         | some b =>
           have : b = .inr (.inr ((k : Int), (8 : Int))) := zaa (fun i => by split <;> simp) hs
           rw [this, if_pos hm]
       . have : zt (fun j => if ns.getD j [] = x then some ((.inr (.inr ((k : Int), (8 : Int)))) : Int ⊕ (Unit ⊕ (Int × Int))) else none) 0 k = none := scan_none.2 fun i _ hi => by
          have hi' : i < ns.length := by omega
          rw [jm (List.getElem?_eq_getElem hi'), if_neg]
          rintro rfl
          exact hm (List.mem_iff_getElem.2 ⟨i, by simp; omega, by simp⟩)
         rw [this]
         simp only [hm, if_false, zg]
         rw [w64 (by omega) (by omega)]
     . obtain ⟨y, hy⟩ := zB (l := ns) (i := j) (by omega)
       simp only [Int.ofNat_lt, hj, decide_true, cond_true, zh, Int.toNat_natCast, hy, Option.bind_some, zg, Int.natCast_nonneg, if_true, hx]
       rw [jm hy, w64 (by omega) (by omega)]
       by_cases hxy : y = x
       . simp [hxy]
       . simp [hxy]
end Go.Sx.O
namespace Go.Sx.O
open Go
def dn (l : TL) (b : Nat) : Nat -> Nat
 | 0 => 0
 | k + 1 => dn l b k ||| (if up l k b = true then 2 ^ k else 0)
theorem zox (l : TL) (b : Nat) : ∀ (k i : Nat), (dn l b k).testBit i = (decide (i < k) && up l i b)
 | 0, i => by simp [dn]
 | k + 1, i => by
   simp only [dn, Nat.testBit_or, zox l b k i]
   by_cases h : up l k b = true
   . simp only [h, if_true, Nat.testBit_two_pow]
     by_cases hik : i = k
     . subst hik; simp [h]
     . have h1 : ¬ k = i := fun e => hik e.symm
       have h2 : (i < k + 1) = (i < k) := by simp; omega
       simp [h1, h2]
   . simp only [h, if_false, Nat.zero_testBit, Bool.or_false]
     by_cases hik : i = k
     . subst hik; simp [h]
     . have h2 : (i < k + 1) = (i < k) := by simp; omega
       simp [h2]
theorem zxu (l : TL) (b : Nat) : ∀ k : Nat, dn l b k < 2 ^ k
 | 0 => by simp [dn]
 | k + 1 => by
   simp only [dn]
   refine Nat.or_lt_two_pow (Nat.lt_of_lt_of_le (zxu l b k) (Nat.pow_le_pow_right (by omega) (by omega))) ?_
   split
   . exact Nat.pow_lt_pow_right (by omega) (by omega)
   . exact Nat.two_pow_pos _
theorem zhm (l : TL) (b : Nat) {k : Nat} (h : k <= 8) : dn l b k < 256 := Nat.lt_of_lt_of_le (zxu l b k) (Nat.pow_le_pow_right (n := 2) (by omega) h)
theorem zqs {c : Bool} {k : Nat} (h : k < 8) : IntKind.wrap .u8 ((if c = true then (1 : Int) else 0) * 2 ^ min k (IntKind.bits .u8)) = ((if c = true then 2 ^ k else 0 : Nat) : Int) := by
 have key : ∀ (c : Bool) (k : Fin 8), IntKind.wrap .u8 ((if c = true then (1 : Int) else 0) * 2 ^ min k.val (IntKind.bits .u8)) = ((if c = true then 2 ^ k.val else 0 : Nat) : Int) := by decide +kernel
 exact key c ⟨k, h⟩
theorem zu4 {a b : Nat} (ha : a < 256) (hb : b < 256) : bits .or .u8 (a : Int) (b : Int) = ((a ||| b : Nat) : Int) := by
 rw [zp0 (by omega) (by omega) (by omega) (by omega)]; rfl
theorem zq0 {a b : Nat} (ha : a < 256) (hb : b < 256) : bits .and .u8 (a : Int) (b : Int) = ((a &&& b : Nat) : Int) := by
 rw [zbr (by omega) (by omega) (by omega) (by omega)]; rfl
theorem zBw {c : Bool} {k : Nat} (h : k < 8) : (if c = true then 2 ^ k else 0) < 256 := by
 split
 . exact Nat.lt_of_lt_of_le (Nat.pow_lt_pow_right (a := 2) (by omega) h) (by omega)
 . omega
theorem zi3 {α : Type} {l : List α} {i j : Nat} {x : α} (h : i < l.length) : (l.set i x)[j]? = if i = j then some x else l[j]? := by
 rw [List.getElem?_set]
 split
 . simp [h]
 . rfl
theorem zml (l : TL) (hu : U8s l.Up) (hn : l.Names.length <= 8) (hl : l.Up.length = l.Names.length) :
 Tot (zdf l) fun o => o.n_ = l.Names.length /\ o.up_.length = 8 /\ o.down_.length = 8 /\ (∀ j, j < l.Names.length -> o.up_[j]? = l.Up[j]?) /\ ∀ b, b < l.Names.length -> o.down_[b]? = some (dn l b l.Names.length : Int) := by
 unfold zdf
 simp only [zu, List.length_map]
 refine Tot.count l.Up.length (fun k s => s.1 = (k : Int) /\ s.2.1.length = 8 /\ s.2.2.length = 8 /\ (∀ j, j < k -> s.2.1[j]? = l.Up[j]?) /\ ∀ b, b < l.Names.length -> s.2.2[b]? = some (dn l b k : Int)) ?_ ⟨rfl, rfl, rfl, fun j hj => absurd hj (by omega), fun b hb => ?_⟩
 . rintro k ⟨i, up', down⟩ hk ⟨h0, h1, h2, h3, h4⟩
   simp only at h0 h1 h2 h3 h4
   subst h0
   simp only [tot_some, zE, zQ, qt, qz, zu, Sum.elim_inl, Sum.elim_inr, decide_eq_true_eq, decide_eq_false_iff_not, Int.toNat_natCast]
   refine ⟨fun hlt => ?_, fun hlt => ?_⟩
   . obtain ⟨x, hx⟩ := zB (l := l.Up) (i := k) (by omega)
     obtain ⟨y, hy⟩ := zB (l := up') (i := k) (by omega)
     refine ⟨by omega, x, hx, ⟨by omega, by omega⟩, by omega, y, hy, ?_⟩
     have hx' := hu.get hx
     refine Tot.count l.Names.length (fun j s => s.1 = (j : Int) /\ s.2.length = 8 /\ ∀ b, b < l.Names.length -> s.2[b]? = some (dn l b (if b < j then k + 1 else k) : Int)) ?_ ⟨rfl, h2, fun b hb => by simpa using h4 b hb⟩
     rintro j ⟨i', d⟩ hj ⟨g0, g1, g2⟩
     simp only at g0 g1 g2
     subst g0
     simp only [tot_some, zE, zQ, qt, qz, zu, Sum.elim_inl, Sum.elim_inr, decide_eq_true_eq, decide_eq_false_iff_not, Int.toNat_natCast]
     refine ⟨fun hlt' => ?_, fun hlt' => ?_⟩
     . have hz := g2 j (by omega)
       rw [if_neg (by omega)] at hz
       rw [w64 (by omega) (by omega)]
       refine ⟨⟨by omega, by omega⟩, by omega, _, hz, by omega, by omega, ⟨by omega, by omega⟩, by omega, _, hz, by omega, by omega, by simpa using g1, fun b hb => ?_⟩
       rw [zi3 (by omega)]
       by_cases hjb : j = b
       . subst hjb
         rw [if_pos rfl, if_pos (by omega), zb9 hx'.1 hx'.2 (by omega), <- jL hx, zqs (by omega), zu4 (zhm l j (by omega)) (zBw (by omega))]
         rfl
       . rw [if_neg hjb, g2 b hb]
         have : (b < j + 1) = (b < j) := by simp; omega
         simp only [this]
     . rw [w64 (by omega) (by omega)]
       refine ⟨by omega, by omega, by simpa using h1, g1, fun q hq => ?_, fun b hb => ?_⟩
       . rw [zi3 (by omega)]
         by_cases hkq : k = q
         . subst hkq; rw [if_pos rfl, hx]
         . rw [if_neg hkq]; exact h3 q (by omega)
       . rw [g2 b hb, if_pos (by omega)]
   . have hkn : k = l.Names.length := by omega
     subst hkn
     exact ⟨trivial, h1, h2, h3, h4⟩
 . have h8 : ∀ b : Fin 8, ([0, 0, 0, 0, 0, 0, 0, 0] : List Int)[b.val]? = some 0 := by decide
   exact h8 ⟨b, by omega⟩
theorem ji {ρ : Type} {p : Prop} [Decidable p] {x : Option ρ} (h : p) : zl p x = x := by unfold zl; rw [if_pos h]
def bnd (g : Nat -> Nat) (n a b : Nat) : Option Nat := zt (fun c => if g c = g a &&& g b then some c else none) 0 n
def zdb (g : Nat -> Nat) (n a b : Nat) : Int := match bnd g n a b with | some c => c | none => -1
theorem ze5 (m : List Int) (g : Nat -> Nat) (n a b : Nat) (hn : n <= 8) (hg : ∀ c, c < n -> m[c]? = some (g c : Int)) (hg8 : ∀ c, c < n -> g c < 256) (hs : ∀ c, c < n -> (g c).testBit c = true) (ha : a < n) (hb : b < n) :
 zf2 m n a b = some (zdb g n a b) := by
 unfold zf2 zdb bnd
 have s1 : ((0 : Int) <= (a : Int) /\ (a : Int) < ((8 : Nat) : Int)) := by omega
 have s2 : ((0 : Int) <= (b : Int) /\ (b : Int) < ((8 : Nat) : Int)) := by omega
 simp only [ji s1, ji s2]
 simp only [zh, Int.toNat_natCast, Int.natCast_nonneg, if_true, hg a ha, hg b hb, Option.bind_some, zq0 (hg8 a ha) (hg8 b hb)]
 have h8 : g a &&& g b < 256 := zc8 (hg8 a ha)
 generalize g a &&& g b = both at *
 rw [wC n (fun c => if g c = both then some (c : Int) else none) () (fun c hc => ?_) (by simp)]
 . have e : (fun c => if g c = both then some (c : Int) else none) = fun c => (if g c = both then some c else none).map (fun c : Nat => (c : Int)) := by
    funext c; split <;> rfl
   rw [e, jV]
   cases zt (fun c => if g c = both then some c else none) 0 n <;> rfl
 . have s3 : ((0 : Int) <= (c : Int) /\ (c : Int) < ((8 : Nat) : Int)) := by omega
   simp only [ji s3]
   simp only [Int.ofNat_lt, hc, decide_true, cond_true, zl, Int.natCast_nonneg, if_true, hg c hc, Option.bind_some, zg]
   rw [w64 (by omega) (by omega), zb9 (by omega) (by omega) (by omega)]
   simp only [Int.toNat_natCast]
   by_cases hbc : both.testBit c = true
   . simp only [hbc, if_true, decide_true, cond_true]
     rw [hg c hc]
     by_cases hgc : g c = both
     . simp [hgc]
     . have : ¬ (g c : Int) = (both : Int) := by omega
       simp [hgc, this]
   . have : g c ≠ both := fun e => hbc (e ▸ hs c hc)
     simp [hbc, this]
theorem uu (m : List Int) (g : Nat -> Nat) (a b : Nat) (hn : m.length <= 8) (hg : ∀ c, c < m.length -> m[c]? = some (g c : Int)) (hg8 : ∀ c, c < m.length -> g c < 256) (ha : a < m.length) (hb : b < m.length) :
 zga m a b = some (zdb g m.length a b) := by
 unfold zga zdb bnd
 simp only [zh, Int.toNat_natCast, Int.natCast_nonneg, if_true, hg a ha, hg b hb, Option.bind_some, zq0 (hg8 a ha) (hg8 b hb), List.length_map]
 have h8 : g a &&& g b < 256 := zc8 (hg8 a ha)
 generalize g a &&& g b = both at *
 rw [wC m.length (fun c => if g c = both then some (c : Int) else none) () (fun c hc => ?_) (by simp)]
 . have e : (fun c => if g c = both then some (c : Int) else none) = fun c => (if g c = both then some c else none).map (fun c : Nat => (c : Int)) := by
    funext c; split <;> rfl
   rw [e, jV]
   cases zt (fun c => if g c = both then some c else none) 0 m.length <;> rfl
 . simp only [Int.ofNat_lt, hc, decide_true, cond_true, hg c hc, Option.bind_some, zg]
   rw [w64 (by omega) (by omega), Int.toNat_natCast, if_pos (by omega), hg c hc]
   by_cases hgc : g c = both
   . simp [hgc]
   . have : ¬ (g c : Int) = (both : Int) := by omega
     simp [hgc, this]
end Go.Sx.O
namespace Go.Sx.O
open Go
def upN (l : TL) (a : Nat) : Nat := (l.Up.getD a 0).toNat
def zfz (l : TL) (a b : Nat) : Bool := !up l a b || ((decide (b = a) || !up l b a) && (List.range l.Names.length).all fun i => !up l b i || up l a i)
def xy (l : TL) (a : Nat) : Bool := decide (upN l a < 2 ^ l.Names.length) && up l a a && (List.range l.Names.length).all fun b => zfz l a b
def dnN (l : TL) (b : Nat) : Nat := dn l b l.Names.length
def wO (l : TL) (a b : Nat) : Bool := (bnd (upN l) l.Names.length a b).isNone || (bnd (dnN l) l.Names.length a b).isNone
def zf6 (l : TL) : Int × Int :=
 if (jB l.Names).2 = 0 then
  if l.Up.length = l.Names.length then
   match zt (fun a => if xy l a = true then none else some ((a : Int), (6 : Int))) 0 l.Names.length with
   | some r => r
   | none => (zt (fun a => zt (fun b => if wO l a b = true then some ((a : Int), (4 : Int)) else none) 0 l.Names.length) 0 l.Names.length).getD (0, 0)
  else (-1, 6)
 else jB l.Names
theorem zqq {α : Type} {p : Nat -> Bool} {v : α} : ∀ {j k : Nat}, zt (fun i => if p i = true then none else some v) k j = if (List.range j).all (fun i => p (k + i)) = true then none else some v
 | 0, _ => by simp [zt]
 | j + 1, k => by
   simp only [zt, zqq (j := j) (k := k + 1)]
   have e : (List.range (j + 1)).all (fun i => p (k + i)) = (p k && (List.range j).all fun i => p (k + 1 + i)) := by
    rw [List.range_succ_eq_map, List.all_cons, List.all_map]
    congr 1
    congr 1
    funext i
    simp only [Function.comp]
    congr 1; omega
   rw [e]
   cases p k <;> simp
theorem zj9 {α : Type} {p : Nat -> Bool} {u v : α} {n : Nat} : ∀ {j k : Nat}, k + j = n -> 0 < j -> zt (fun i => if p i = true then (if i + 1 = n then some u else none) else some v) k j = some (if (List.range j).all (fun i => p (k + i)) = true then u else v)
 | 0, _, _, h => by omega
 | j + 1, k, hk, _ => by
   have e : (List.range (j + 1)).all (fun i => p (k + i)) = (p k && (List.range j).all fun i => p (k + 1 + i)) := by
    rw [List.range_succ_eq_map, List.all_cons, List.all_map]
    congr 1
    congr 1
    funext i
    simp only [Function.comp]
    congr 1; omega
   rw [e]
   simp only [zt]
   cases hp : p k with
   | false => simp
   | true =>
     simp only [if_true, Bool.true_and]
     by_cases hj : j = 0
     . subst hj
       have : k + 1 = n := by omega
       simp [this]
     . have : ¬ k + 1 = n := by omega
       simp only [this, if_false]
       exact zj9 (by omega) (by omega)
theorem zs5 (x : Int) (h0 : 0 <= x) (h1 : x < 256) : Tot (zgl x) fun y => ∀ n : Nat, n <= 8 -> decide ((n : Int) < y) = !decide (x.toNat < 2 ^ n) := by
 unfold zgl
 rw [qt]
 refine ⟨h0, ?_⟩
 have key : ∀ l : List UInt8, (∀ x : Fin 256, ∀ n : Fin 9, (l[x.val]?.map fun y => decide ((n.val : Int) < IntKind.wrap .i64 (y.toNat : Int))) = some (!decide (x.val < 2 ^ n.val))) ->
  ∃ y, l[x.toNat]? = some y /\ Tot (zg (IntKind.wrap .i64 (y.toNat : Int)) fun z => some z) fun y => ∀ n : Nat, n <= 8 -> decide ((n : Int) < y) = !decide (x.toNat < 2 ^ n) := by
  intro l hl
  cases e : l[x.toNat]? with
  | none =>
    have := hl ⟨x.toNat, by omega⟩ ⟨0, by omega⟩
    simp only [e] at this
    cases this
  | some y =>
    refine ⟨y, rfl, .mk fun n hn => ?_⟩
    have := hl ⟨x.toNat, by omega⟩ ⟨n, by omega⟩
    simp only [e] at this
    exact Option.some.inj this
 exact key _ (by decide +kernel)
theorem jn {l : TL} (hu : U8s l.Up) {a b : Nat} (ha : a < l.Up.length) (hb : b <= 8) : xj l a b = some (up l a b) := by
 unfold xj
 obtain ⟨x, hx⟩ := zB ha
 have hx' := hu.get hx
 have key : ∀ u : Fin 256, ∀ b : Fin 9, decide (Int.tmod (Int.fdiv (u.val : Int) (2 ^ min b.val (IntKind.bits .u8))) 2 = 1) = Nat.testBit u b := by decide +kernel
 have := key ⟨x.toNat, by omega⟩ ⟨b, by omega⟩
 simp only [Int.toNat_of_nonneg hx'.1] at this
 simp only [List.length_map, Int.natCast_nonneg, decide_true, cond_true, Int.ofNat_lt, ha, zh, Int.toNat_natCast, if_true, hx, Option.bind_some, zl, this, jL hx]
theorem zec {n : Nat} (h : n < 1000000) : IntKind.wrap .i64 (n : Int) = n := w64 (by omega) (by omega)
theorem zqu (n : Nat) : BitVec.ofInt 64 (n : Int) = BitVec.ofNat 64 n := BitVec.ofInt_natCast 64 n
theorem zqm {a b : Nat} (ha : a < 1000000) (hb : b < 1000000) : bits .and .i64 (a : Int) (b : Int) = ((a &&& b : Nat) : Int) := by
 have e : bits .and .i64 (a : Int) (b : Int) = IntKind.wrap .i64 ((BitVec.ofInt 64 (a : Int) &&& BitVec.ofInt 64 (b : Int)).toNat : Int) := rfl
 rw [e, zqu, zqu, BitVec.toNat_and, BitVec.toNat_ofNat, BitVec.toNat_ofNat, Nat.mod_eq_of_lt (by omega), Nat.mod_eq_of_lt (by omega)]
 exact zec (Nat.lt_of_le_of_lt Nat.and_le_left ha)
theorem zv6 {x y n : Nat} : ((y &&& (2 ^ n - 1)) &&& x = y &&& (2 ^ n - 1)) ↔ ((List.range n).all fun i => !y.testBit i || x.testBit i) = true := by
 rw [List.all_eq_true]
 constructor
 . intro h i hi
   have hi' : i < n := by simpa using hi
   have := congrArg (fun z => z.testBit i) h
   simp only [Nat.testBit_and, Nat.testBit_two_pow_sub_one, hi', decide_true, Bool.and_true] at this
   cases e : y.testBit i with
   | false => rfl
   | true => rw [e] at this; simpa using this
 . intro h
   apply Nat.eq_of_testBit_eq
   intro i
   simp only [Nat.testBit_and, Nat.testBit_two_pow_sub_one]
   by_cases hi : i < n
   . have := h i (by simpa using hi)
     simp only [hi, decide_true, Bool.and_true]
     cases e : y.testBit i with
     | false => rfl
     | true => rw [e] at this; simpa using this
   . simp [hi]
end Go.Sx.O
namespace Go.Sx.O
open Go
theorem zt7 {l : TL} {a : Nat} {x : Int} (h : l.Up[a]? = some x) : upN l a = x.toNat := by unfold upN; rw [jm h]
theorem zeo {l : TL} {a b : Nat} : (upN l a).testBit b = up l a b := rfl
theorem zbj {l : TL} (hu : U8s l.Up) {a : Nat} (ha : a < l.Up.length) : upN l a < 256 := by
 obtain ⟨x, hx⟩ := zB ha
 have := hu.get hx
 rw [zt7 hx]; omega
theorem uR {l : TL} (hu : U8s l.Up) {a : Nat} (ha : a < l.Up.length) : l.Up[a]? = some (upN l a : Int) := by
 obtain ⟨x, hx⟩ := zB ha
 have := hu.get hx
 rw [hx, zt7 hx, Int.toNat_of_nonneg this.1]
theorem zm7 {l : TL} (hu : U8s l.Up) (h8 : l.Names.length <= 8) (hl : l.Up.length = l.Names.length) {a : Nat} (ha : a < l.Names.length) : zl1 l a = some (xy l a) := by
 unfold zl1 xy
 have g0 : ((0 : Int) <= (l.Names.length : Int)) := by omega
 have hb := fun b (hb : b < l.Names.length) => jn hu (a := a) (b := b) (by omega) (by omega)
 have hxa := uR hu (a := a) (by omega)
 have hlt := zbj hu (a := a) (by omega)
 have sh : decide ((0 : Int) < Int.fdiv (upN l a : Int) (2 ^ min l.Names.length (IntKind.bits .i64))) = !decide (upN l a < 2 ^ l.Names.length) := by
  have key : ∀ u : Fin 256, ∀ n : Fin 9, decide ((0 : Int) < Int.fdiv (u.val : Int) (2 ^ min n.val (IntKind.bits .i64))) = !decide (u.val < 2 ^ n.val) := by decide +kernel
  exact key ⟨upN l a, hlt⟩ ⟨l.Names.length, by omega⟩
 have mk : IntKind.wrap .i64 (IntKind.wrap .i64 (1 * 2 ^ min l.Names.length (IntKind.bits .i64)) - 1) = ((2 ^ l.Names.length - 1 : Nat) : Int) := by
  have key : ∀ n : Fin 9, IntKind.wrap .i64 (IntKind.wrap .i64 (1 * 2 ^ min n.val (IntKind.bits .i64)) - 1) = ((2 ^ n.val - 1 : Nat) : Int) := by decide +kernel
  exact key ⟨l.Names.length, by omega⟩
 have mk' : 2 ^ l.Names.length - 1 < 1000000 := by
  have : 2 ^ l.Names.length <= 2 ^ 8 := Nat.pow_le_pow_right (by omega) h8
  omega
 simp only [List.length_map, ji g0, Int.toNat_natCast]
 simp only [zh, Int.toNat_natCast, Int.natCast_nonneg, if_true, hxa, Option.bind_some, zg]
 rw [zec (by omega), sh, hb a ha, mk]
 cases e1 : decide (upN l a < 2 ^ l.Names.length) with
 | false => simp
 | true =>
   simp only [Bool.not_true, cond_false, Bool.true_and, Option.bind_some]
   cases e2 : up l a a with
   | false => simp
   | true =>
     simp only [Bool.not_true, cond_false, Bool.true_and]
     rw [wC l.Names.length (fun b => if zfz l a b = true then none else some false) () (fun b hbn => ?_) (by simp)]
     . rw [zqq]
       simp only [Nat.zero_add]
       cases (List.range l.Names.length).all fun b => zfz l a b <;> rfl
     . have hxb := uR hu (a := b) (by omega)
       have hltb := zbj hu (a := b) (by omega)
       simp only [Int.ofNat_lt, hbn, decide_true, cond_true, Option.bind_some, Int.toNat_natCast, hxb]
       rw [hb b hbn, zec (n := upN l b) (by omega), zqm (by omega) mk', w64 (by omega) (by omega), jn hu (by omega) (by omega)]
       have hand : upN l b &&& (2 ^ l.Names.length - 1) < 1000000 := Nat.lt_of_le_of_lt Nat.and_le_left (by omega)
       rw [zqm hand (by omega)]
       have hsub := zv6 (x := upN l a) (y := upN l b) (n := l.Names.length)
       simp only [zeo] at hsub
       have hsub' : decide ((((upN l b &&& (2 ^ l.Names.length - 1)) &&& upN l a : Nat) : Int) = ((upN l b &&& (2 ^ l.Names.length - 1) : Nat) : Int)) = (List.range l.Names.length).all fun i => !up l b i || up l a i := by
        rw [Bool.eq_iff_iff, <- hsub, decide_eq_true_eq]; omega
       rw [hsub']
       unfold zfz
       cases e3 : up l a b with
       | false => simp
       | true =>
         simp only [Option.bind_some, Bool.not_true, cond_false, Bool.false_or]
         by_cases hba : b = a
         . subst hba
           simp only [decide_true, Bool.not_true, cond_false, Bool.true_or, Bool.true_and]
           cases (List.range l.Names.length).all fun i => !up l b i || up l b i <;> simp
         . have : ¬ (b : Int) = (a : Int) := by omega
           simp only [this, hba, decide_false, Bool.not_false, cond_true, Bool.false_or]
           cases up l b a with
           | true => simp
           | false =>
             cases (List.range l.Names.length).all fun i => !up l b i || up l a i <;> simp
theorem zhs {l : TL} (hu : U8s l.Up) (h8 : l.Names.length <= 8) (hl : l.Up.length = l.Names.length) : Tot (zie l) fun d => d.length = l.Names.length /\ ∀ b, b < l.Names.length -> d[b]? = some (dnN l b : Int) := by
 unfold zie
 simp only [zu, qz, List.length_map, Int.toNat_natCast]
 refine ⟨⟨by omega, trivial, by omega, by omega⟩, ?_⟩
 refine Tot.count l.Names.length (fun k s => s.1 = (k : Int) /\ s.2.length = l.Names.length /\ ∀ b, b < l.Names.length -> s.2[b]? = some (dn l b k : Int)) ?_ ⟨rfl, by simp, fun b hb => ?_⟩
 . rintro k ⟨i, down⟩ hk ⟨h0, h2, h4⟩
   simp only at h0 h2 h4
   subst h0
   simp only [tot_some, zE, zQ, qt, qz, zu, Sum.elim_inl, Sum.elim_inr, decide_eq_true_eq, decide_eq_false_iff_not, Int.toNat_natCast]
   refine ⟨fun hlt => ?_, fun hlt => ?_⟩
   . refine Tot.count l.Names.length (fun j s => s.1 = (j : Int) /\ s.2.length = l.Names.length /\ ∀ b, b < l.Names.length -> s.2[b]? = some (dn l b (if b < j then k + 1 else k) : Int)) ?_ ⟨rfl, h2, fun b hb => by simpa using h4 b hb⟩
     rintro j ⟨i', d⟩ hj ⟨g0, g1, g2⟩
     simp only at g0 g1 g2
     subst g0
     simp only [tot_some, zE, zQ, qt, qz, zu, Sum.elim_inl, Sum.elim_inr, decide_eq_true_eq, decide_eq_false_iff_not, Int.toNat_natCast]
     refine ⟨fun hlt' => ?_, fun hlt' => ?_⟩
     . rw [jn hu (by omega) (by omega), tot_some]
       have hz := g2 j (by omega)
       rw [if_neg (by omega)] at hz
       rw [w64 (by omega) (by omega)]
       refine ⟨fun hup => ⟨⟨by omega, by simp; omega⟩, by omega, _, hz, by omega, ⟨by omega, by simp; omega⟩, by omega, _, hz, by omega, by omega, by simpa using g1, fun b hb => ?_⟩, fun hup => ⟨by omega, by omega, g1, fun b hb => ?_⟩⟩
       . have hsh := zqs (c := true) (k := k) (by omega)
         simp only [if_true] at hsh
         rw [zi3 (by omega), hsh]
         by_cases hjb : j = b
         . subst hjb
           have hp : 2 ^ k < 256 := Nat.lt_of_lt_of_le (Nat.pow_lt_pow_right (a := 2) (by omega) (show k < 8 by omega)) (by omega)
           rw [if_pos rfl, if_pos (by omega), zu4 (zhm l j (by omega)) hp]
           simp [dn, hup]
         . rw [if_neg hjb, g2 b hb]
           have : (b < j + 1) = (b < j) := by simp; omega
           simp only [this]
       . rw [g2 b hb]
         by_cases hjb : j = b
         . subst hjb
           rw [if_neg (by omega), if_pos (by omega)]
           simp [dn, hup]
         . have : (b < j + 1) = (b < j) := by simp; omega
           simp only [this]
     . rw [w64 (by omega) (by omega)]
       refine ⟨by omega, by omega, g1, fun b hb => ?_⟩
       rw [g2 b hb, if_pos (by omega)]
   . have hkn : k = l.Names.length := by omega
     subst hkn
     exact ⟨h2, h4⟩
 . rw [List.getElem?_replicate, if_pos hb]; rfl
end Go.Sx.O
namespace Go.Sx.O
open Go
theorem znc (g : Nat -> Nat) (n a b : Nat) : decide (zdb g n a b < 0) = (bnd g n a b).isNone := by
 unfold zdb
 cases bnd g n a b with
 | none => rfl
 | some c => simp
theorem zt1 {l : TL} (h8 : l.Names.length <= 8) (b : Nat) : dnN l b < 256 := zhm l b h8
theorem xB (l : TL) (hu : U8s l.Up) (hn : l.Names.length <= 20) (hs : ∀ s ∈ l.Names, s.length <= 1000) : zdu l = some (zf6 l) := by
 unfold zdu zf6
 rw [znf _ hn hs]
 simp only [Option.bind_some, List.length_map]
 by_cases h0 : (jB l.Names).2 = 0
 case neg => simp [h0]
 simp only [h0, decide_true, Bool.not_true, cond_false, if_true]
 by_cases hlen : l.Up.length = l.Names.length
 case neg =>
  have : ¬ (l.Up.length : Int) = l.Names.length := by omega
  simp [hlen, this]
 have h8 : l.Names.length <= 8 := by
  unfold jB at h0
  split at h0
  . cases h0
  . omega
 simp only [hlen, decide_true, Bool.not_true, cond_false, if_true]
 rw [wC l.Names.length (fun a => if xy l a = true then none else some ((a : Int), (6 : Int))) () (fun a ha => ?_) (by simp)]
 . cases h1 : zt (fun a => if xy l a = true then none else some ((a : Int), (6 : Int))) 0 l.Names.length with
   | some r => rfl
   | none =>
     simp only
     obtain ⟨d, ed, hdl, hd⟩ := zhs hu h8 hlen
     rw [ed, Option.bind_some]
     rw [wC l.Names.length (fun a => zt (fun b => if wO l a b = true then some ((a : Int), (4 : Int)) else none) 0 l.Names.length) () (fun a ha => ?_) (by simp)]
     . cases zt (fun a => zt (fun b => if wO l a b = true then some ((a : Int), (4 : Int)) else none) 0 l.Names.length) 0 l.Names.length <;> rfl
     . simp only [Int.ofNat_lt, ha, decide_true, cond_true]
       rw [wC l.Names.length (fun b => if wO l a b = true then some (.inr (.inr ((a : Int), (4 : Int)))) else none) () (fun b hb => ?_) (by simp)]
       . have e : (fun b => if wO l a b = true then some (Sum.inr (Sum.inr ((a : Int), (4 : Int))) : Int ⊕ (Unit ⊕ (Int × Int))) else none) = fun b => (if wO l a b = true then some ((a : Int), (4 : Int)) else none).map fun v => .inr (.inr v) := by
          funext b; split <;> rfl
         rw [e, jV]
         cases zt (fun b => if wO l a b = true then some ((a : Int), (4 : Int)) else none) 0 l.Names.length with
         | some r => rfl
         | none =>
           simp only [Option.map_none, zg]
           rw [w64 (by omega) (by omega)]
       . simp only [Int.ofNat_lt, hb, decide_true, cond_true]
         have n1 := uu l.Up (upN l) a b (by omega) (fun c hc => uR hu hc) (fun c hc => zbj hu hc) (by omega) (by omega)
         have n2 := uu d (dnN l) a b (by omega) (fun c hc => hd c (by omega)) (fun c hc => zt1 h8 c) (by omega) (by omega)
         rw [hlen] at n1
         rw [hdl] at n2
         rw [n1, n2]
         simp only [Option.bind_some, znc, zg]
         rw [w64 (by omega) (by omega)]
         unfold wO
         cases (bnd (upN l) l.Names.length a b).isNone with
         | true => simp
         | false => cases (bnd (dnN l) l.Names.length a b).isNone <;> simp
 . simp only [Int.ofNat_lt, ha, decide_true, cond_true]
   rw [zm7 hu h8 hlen ha]
   simp only [Option.bind_some, zg]
   rw [w64 (by omega) (by omega)]
   cases xy l a <;> simp
end Go.Sx.O
namespace Go.Sx.O
open Go
theorem zps (l : TL) (hu : U8s l.Up) (hn : l.Names.length <= 20) (hs : ∀ s ∈ l.Names, s.length <= 1000) : uW l = some (zf6 l) := by
 unfold uW zf6
 rw [zw9 _ hn hs]
 simp only [Option.bind_some, List.length_map]
 by_cases h0 : (jB l.Names).2 = 0
 case neg => simp [h0]
 simp only [h0, decide_true, Bool.not_true, cond_false, if_true]
 by_cases hlen : l.Up.length = l.Names.length
 case neg =>
  have : ¬ (l.Up.length : Int) = l.Names.length := by omega
  simp [hlen, this]
 have h8 : 1 <= l.Names.length /\ l.Names.length <= 8 := by
  unfold jB at h0
  split at h0
  . cases h0
  . omega
 obtain ⟨h1, h8⟩ := h8
 have g0 : ((0 : Int) <= (l.Names.length : Int)) := by omega
 simp only [hlen, decide_true, Bool.not_true, cond_false, if_true, ji g0, zg, Int.toNat_natCast]
 have hmask := zow l.Names.length h8
 have hm0 := znz (e := IntKind.wrap .u8 (1 * 2 ^ min l.Names.length (IntKind.bits .u8)) - 1)
 rw [wC l.Names.length (fun a => if xy l a = true then none else some ((a : Int), (6 : Int))) () (fun a ha => ?_) (by simp)]
 . cases h1 : zt (fun a => if xy l a = true then none else some ((a : Int), (6 : Int))) 0 l.Names.length with
   | some r => rfl
   | none =>
     simp only
     have hself : ∀ a, a < l.Names.length -> up l a a = true := by
      intro a ha
      have := scan_none.1 h1 a (by omega) (by omega)
      split at this
      . rename_i h
        unfold xy at h
        simp only [Bool.and_eq_true] at h
        exact h.1.2
      . cases this
     obtain ⟨o, eo, _, o1, o2, o3, o4⟩ := zml l hu h8 hlen
     rw [eo, Option.bind_some]
     rw [wC l.Names.length (fun a => zt (fun b => if wO l a b = true then some ((a : Int), (4 : Int)) else none) 0 l.Names.length) () (fun a ha => ?_) (by simp)]
     . cases zt (fun a => zt (fun b => if wO l a b = true then some ((a : Int), (4 : Int)) else none) 0 l.Names.length) 0 l.Names.length <;> rfl
     . simp only [Int.ofNat_lt, ha, decide_true, cond_true]
       rw [wC l.Names.length (fun b => if wO l a b = true then some (.inr (.inr ((a : Int), (4 : Int)))) else none) () (fun b hb => ?_) (by simp)]
       . have e : (fun b => if wO l a b = true then some (Sum.inr (Sum.inr ((a : Int), (4 : Int))) : Int ⊕ (Unit ⊕ (Int × Int))) else none) = fun b => (if wO l a b = true then some ((a : Int), (4 : Int)) else none).map fun v => .inr (.inr v) := by
          funext b; split <;> rfl
         rw [e, jV]
         cases zt (fun b => if wO l a b = true then some ((a : Int), (4 : Int)) else none) 0 l.Names.length with
         | some r => rfl
         | none =>
           simp only [Option.map_none]
           rw [w64 (by omega) (by omega)]
       . simp only [Int.ofNat_lt, hb, decide_true, cond_true]
         have n1 := ze5 o.up_ (upN l) l.Names.length a b h8 (fun c hc => by rw [o3 c hc]; exact uR hu (by omega)) (fun c hc => zbj hu (by omega)) (fun c hc => hself c hc) ha hb
         have n2 : zl0 o.down_ l.Names.length a b = some (zdb (dnN l) l.Names.length a b) := ze5 o.down_ (dnN l) l.Names.length a b h8 (fun c hc => o4 c hc) (fun c hc => zt1 h8 c) (fun c hc => by unfold dnN; rw [zox, hself c hc]; simp [hc]) ha hb
         rw [n1, n2]
         simp only [Option.bind_some, znc]
         rw [w64 (by omega) (by omega)]
         unfold wO
         cases (bnd (upN l) l.Names.length a b).isNone with
         | true => simp
         | false => cases (bnd (dnN l) l.Names.length a b).isNone <;> simp
 . -- one label's row
   have hxa := uR hu (a := a) (by omega)
   have hlt := zbj hu (a := a) (by omega)
   obtain ⟨y, ey, hy⟩ := zs5 (upN l a : Int) (by omega) (by omega)
   have hy := hy l.Names.length h8
   rw [Int.toNat_natCast] at hy
   have ga : ((0 : Int) <= (a : Int)) := by omega
   have hbit : ∀ b, b < l.Names.length -> bits .and .u8 (Int.fdiv (upN l a : Int) (2 ^ min b (IntKind.bits .u8))) 1 = if up l a b = true then 1 else 0 := fun b hb => by
    rw [zb9 (by omega) (by omega) (by omega), Int.toNat_natCast]; rfl
   simp only [Int.ofNat_lt, ha, decide_true, cond_true, zh, Int.toNat_natCast, if_pos ga, hxa, Option.bind_some, ey, hy, ji ga]
   simp only [hbit a ha]
   unfold xy
   cases e1 : decide (upN l a < 2 ^ l.Names.length) with
   | false => simp
   | true =>
     simp only [Bool.not_true, cond_false, Bool.true_and]
     cases e2 : up l a a with
     | false => simp
     | true =>
       simp only [if_true, Int.reduceEq, decide_false, cond_false, Bool.true_and]
       rw [wC l.Names.length (fun b => if zfz l a b = true then (if b + 1 = l.Names.length then some (.inl ((a : Int) + 1)) else none) else some (.inr (.inr ((a : Int), (6 : Int))))) () (fun b hb => ?_) (by simp)]
       . rw [zj9 (by omega) (by omega)]
         simp only [Nat.zero_add]
         cases (List.range l.Names.length).all fun b => zfz l a b <;> rfl
       . have hxb := uR hu (a := b) (by omega)
         have hltb := zbj hu (a := b) (by omega)
         have gb : ((0 : Int) <= (b : Int)) := by omega
         have hbit' : bits .and .u8 (Int.fdiv (upN l b : Int) (2 ^ min a (IntKind.bits .u8))) 1 = if up l b a = true then 1 else 0 := by
          rw [zb9 (by omega) (by omega) (by omega), Int.toNat_natCast]; rfl
         simp only [Int.ofNat_lt, hb, decide_true, cond_true, Option.bind_some, Int.toNat_natCast, hxb, if_pos gb, ji gb]
         simp only [hbit b hb, hbit', w64 (e := (l.Names.length : Int) - 1) (by omega) (by omega), w64 (e := (a : Int) + 1) (by omega) (by omega), w64 (e := (b : Int) + 1) (by omega) (by omega)]
         have hnot : decide (bits .andNot .u8 (bits .and .u8 (upN l b : Int) (IntKind.wrap .u8 (IntKind.wrap .u8 (1 * 2 ^ min l.Names.length (IntKind.bits .u8)) - 1))) (upN l a : Int) = 0) = (List.range l.Names.length).all fun i => !up l b i || up l a i := by
          revert hmask hm0
          generalize IntKind.wrap .u8 (IntKind.wrap .u8 (1 * 2 ^ min l.Names.length (IntKind.bits .u8)) - 1) = mask
          intro hmask hm0
          have hand : bits .and .u8 (upN l b : Int) mask = ((upN l b &&& mask.toNat : Nat) : Int) := by
           rw [zbr (by omega) (by omega) hm0.1 hm0.2, Int.toNat_natCast]
          have hlt2 : upN l b &&& mask.toNat < 256 := zc8 hltb
          rw [hand, Bool.eq_iff_iff, decide_eq_true_eq, zbd (by omega) (by omega) (by omega) (by omega), List.all_eq_true]
          simp only [Int.toNat_natCast, Nat.testBit_and, hmask, zeo]
          constructor
          . intro h i hi
            have := h i
            have hi' : i < l.Names.length := by simpa using hi
            cases e : up l b i with
            | false => rfl
            | true => rw [e] at this; simpa [hi'] using this
          . intro h i hi
            simp only [Bool.and_eq_true, decide_eq_true_eq] at hi
            have := h i (by simpa using hi.2)
            rw [hi.1] at this; simpa using this
         simp only [hnot]
         have hlast : decide ((b : Int) = (l.Names.length : Int) - 1) = decide (b + 1 = l.Names.length) := by
          rw [Bool.eq_iff_iff, decide_eq_true_eq, decide_eq_true_eq]; omega
         simp only [hlast]
         unfold zfz
         cases e3 : up l a b with
         | false => by_cases hl : b + 1 = l.Names.length <;> simp [hl]
         | true =>
           by_cases hba : b = a
           . subst hba
             have d2 : decide ((b : Int) = (b : Int)) = true := by simp
             cases (List.range l.Names.length).all fun i => !up l b i || up l b i with
             | false => by_cases hl : b + 1 = l.Names.length <;> simp [hl]
             | true => by_cases hl : b + 1 = l.Names.length <;> simp [hl]
           . have d2 : decide ((b : Int) = (a : Int)) = false := by simp; omega
             have d3 : decide (b = a) = false := by simp [hba]
             simp only [d2, d3]
             cases up l b a with
             | true => by_cases hl : b + 1 = l.Names.length <;> simp [hl]
             | false =>
               cases (List.range l.Names.length).all fun i => !up l b i || up l a i with
               | false => by_cases hl : b + 1 = l.Names.length <;> simp [hl]
               | true => by_cases hl : b + 1 = l.Names.length <;> simp [hl]
theorem zbi {l : TL} (h : LatIn l) : qy l = zf6 l := by
 unfold qy; rw [zps l h.u8 h.names h.name]; rfl
end Go.Sx.O
namespace Go.Sx.O
open Go
theorem zil {l : TL} (h : LatIn l) (a b : Int) : zob l a b = some (zb3 l [a, b]) := by
 unfold zob zb3
 rw [xB l h.u8 h.names h.name, zbi h]
 simp only [Option.bind_some, List.length_map, List.all_cons, List.all_nil, Bool.and_true]
 by_cases h0 : (zf6 l).2 = 0
 . simp only [h0, decide_true, cond_true, if_true]
   unfold wz
   by_cases a1 : a < 0
   . have : ¬ 0 <= a := by omega
     simp [a1, this]
   by_cases a2 : (l.Names.length : Int) <= a
   . have : ¬ a < (l.Names.length : Int) := by omega
     simp [a1, a2, this]
   by_cases b1 : b < 0
   . have : ¬ 0 <= b := by omega
     simp [a1, a2, b1, this]
   by_cases b2 : (l.Names.length : Int) <= b
   . have : ¬ b < (l.Names.length : Int) := by omega
     simp [a1, a2, b1, b2, this]
   have a1' : 0 <= a := by omega
   have a2' : a < (l.Names.length : Int) := by omega
   have b1' : 0 <= b := by omega
   have b2' : b < (l.Names.length : Int) := by omega
   simp [a1, a2, b1, b2, a1', a2', b1', b2']
 . simp [h0]
end Go.Sx.O
namespace Go.Sx.O
open Go
theorem zwv {g : Nat -> Nat} {n a b c : Nat} (h : bnd g n a b = some c) : c < n /\ g c = g a &&& g b := by
 have key : ∀ {j k : Nat}, zt (fun c => if g c = g a &&& g b then some c else none) k j = some c -> c < k + j /\ g c = g a &&& g b := by
  intro j
  induction j with
  | zero => intro k h; cases h
  | succ j ih =>
    intro k h
    simp only [zt] at h
    split at h
    . rename_i r hr
      cases h
      split at hr
      . rename_i hh; cases hr; exact ⟨by omega, hh⟩
      . cases hr
    . have := ih h
      exact ⟨by omega, this.2⟩
 have := key h
 simpa using this
theorem zdo {l : TL} (h : LatIn l) (k : (qy l).2 = 0) : (∀ a, a < l.Names.length -> xy l a = true) /\ ∀ a b, a < l.Names.length -> b < l.Names.length -> wO l a b = false := by
 rw [zbi h] at k
 unfold zf6 at k
 split at k
 case isFalse h0 => exact absurd k h0
 split at k
 case isFalse => cases k
 split at k
 case h_1 r hr =>
  exfalso
  have key : ∀ {j k : Nat}, zt (fun a => if xy l a = true then none else some ((a : Int), (6 : Int))) k j = some r -> r.2 = 6 := by
   intro j
   induction j with
   | zero => intro k h; cases h
   | succ j ih =>
     intro k h
     simp only [zt] at h
     split at h
     . rename_i r' hr'
       cases h
       split at hr'
       . cases hr'
       . cases hr'; rfl
     . exact ih h
  rw [key hr] at k; cases k
 case h_2 hord =>
  have key2 : ∀ {a j k : Nat} {r : Int × Int}, zt (fun b => if wO l a b = true then some ((a : Int), (4 : Int)) else none) k j = some r -> r.2 = 4 := by
   intro a j
   induction j with
   | zero => intro k r h; cases h
   | succ j ih =>
     intro k r h
     simp only [zt] at h
     split at h
     . rename_i r' hr'
       cases h
       split at hr'
       . cases hr'; rfl
       . cases hr'
     . exact ih h
  have key : ∀ {j k : Nat} {r : Int × Int}, zt (fun a => zt (fun b => if wO l a b = true then some ((a : Int), (4 : Int)) else none) 0 l.Names.length) k j = some r -> r.2 = 4 := by
   intro j
   induction j with
   | zero => intro k r h; cases h
   | succ j ih =>
     intro k r h
     simp only [zt] at h
     split at h
     . rename_i r' hr'
       cases h
       exact key2 hr'
     . exact ih h
  cases hs : zt (fun a => zt (fun b => if wO l a b = true then some ((a : Int), (4 : Int)) else none) 0 l.Names.length) 0 l.Names.length with
  | some r =>
    rw [hs] at k
    have := key hs
    simp only [Option.getD_some] at k
    rw [this] at k; cases k
  | none =>
    refine ⟨fun a ha => ?_, fun a b ha hb => ?_⟩
    . have h1 := scan_none.1 hord a (by omega) (by omega)
      split at h1
      . assumption
      . cases h1
    . have h1 := scan_none.1 (scan_none.1 hs a (by omega) (by omega)) b (by omega) (by omega)
      split at h1
      . cases h1
      . rename_i h2; simpa using h2
theorem zo7 {l : TL} (h : LatIn l) (k : (qy l).2 = 0) {a b : Nat} (ha : a < l.Names.length) (hb : b < l.Names.length) : ∃ c, bnd (dnN l) l.Names.length a b = some c /\ c < l.Names.length /\ dnN l c = dnN l a &&& dnN l b := by
 have h2 := (zdo h k).2 a b ha hb
 unfold wO at h2
 cases e : bnd (dnN l) l.Names.length a b with
 | none => rw [e] at h2; simp at h2
 | some c => exact ⟨c, rfl, zwv e⟩
theorem zxe {l : TL} (ok : LatOK l) {a b c : Nat} (ha : a < l.Names.length) (hb : b < l.Names.length) (hc : c < l.Names.length) (h1 : up l a b = true) (h2 : up l b c = true) : up l a c = true := (ok.row a ha b hb h1).2 c hc h2
theorem zx7 {l : TL} {b i : Nat} : (dnN l b).testBit i = (decide (i < l.Names.length) && up l i b) := zox l b l.Names.length i
theorem zhz {l : TL} {a b c i : Nat} (hi : i < l.Names.length) (hg : dnN l c = dnN l a &&& dnN l b) : up l i c = (up l i a && up l i b) := by
 have h1 := congrArg (fun x => x.testBit i) hg
 simp only [Nat.testBit_and, zx7, hi, decide_true, Bool.true_and] at h1
 exact h1
theorem zyt {l : TL} (ok : LatOK l) {a b : Nat} (ha : a < l.Names.length) (hb : b < l.Names.length) (h1 : up l a b = true) (h2 : up l b a = true) : a = b := by
 by_cases e : b = a
 . exact e.symm
 . have := (ok.row a ha b hb h1).1 e
   rw [h2] at this; cases this
theorem zx9 {l : TL} (h : LatIn l) (k : (qy l).2 = 0) : ∃ t, t < l.Names.length /\ ∀ a, a < l.Names.length -> up l t a = true := by
 have ok := yv h k
 have key : ∀ j, j <= l.Names.length -> ∃ t, t < l.Names.length /\ ∀ a, a < j -> up l t a = true := by
  intro j
  induction j with
  | zero => intro _; exact ⟨0, ok.pos, fun a ha => absurd ha (by omega)⟩
  | succ j ih =>
    intro hj
    obtain ⟨t, ht, hall⟩ := ih (by omega)
    obtain ⟨c, _, hc, hg⟩ := zo7 h k ht (show j < l.Names.length by omega)
    have hcc := ok.self c hc
    rw [zhz hc hg, Bool.and_eq_true] at hcc
    refine ⟨c, hc, fun a ha => ?_⟩
    rcases Nat.lt_or_ge a j with g | g
    . exact zxe ok hc ht (by omega) hcc.1 (hall a g)
    . have : a = j := by omega
      subst this; exact hcc.2
 exact key _ (Nat.le_refl _)
def wA (l : TL) : Nat := ((List.range l.Names.length).find? fun b => (List.range l.Names.length).all fun a => up l b a).getD 0
theorem zgn {l : TL} (h : LatIn l) (k : (qy l).2 = 0) : wA l < l.Names.length /\ ∀ a, a < l.Names.length -> up l (wA l) a = true := by
 obtain ⟨t, ht, hall⟩ := zx9 h k
 unfold wA
 cases e : (List.range l.Names.length).find? fun b => (List.range l.Names.length).all fun a => up l b a with
 | none =>
   have := List.find?_eq_none.1 e t (by simpa using ht)
   exact absurd (by simp only [List.all_eq_true, List.mem_range]; exact hall) this
 | some b =>
   have h1 := List.find?_some e
   have h2 := List.mem_of_find?_eq_some e
   simp only [List.all_eq_true, List.mem_range] at h1 h2
   exact ⟨h2, h1⟩
theorem ztf {l : TL} (h : LatIn l) (k : (qy l).2 = 0) {b : Nat} (hb : b < l.Names.length) (hall : ∀ a, a < l.Names.length -> up l b a = true) : b = wA l := by
 obtain ⟨h1, h2⟩ := zgn h k
 exact zyt (yv h k) hb h1 (hall _ h1) (h2 _ hb)
theorem zw1 {l : TL} (h : LatIn l) (k : (qy l).2 = 0) {b : Nat} (hb : b < l.Names.length) : upN l b = 2 ^ l.Names.length - 1 ↔ b = wA l := by
 have h1 := (zdo h k).1 b hb
 unfold xy at h1
 simp only [Bool.and_eq_true, decide_eq_true_eq] at h1
 constructor
 . intro e
   refine ztf h k hb fun a ha => ?_
   rw [<- zeo, e, Nat.testBit_two_pow_sub_one]
   simpa using ha
 . rintro rfl
   have h2 := (zgn h k).2
   refine Nat.eq_of_testBit_eq fun i => ?_
   rw [Nat.testBit_two_pow_sub_one]
   rcases Nat.lt_or_ge i l.Names.length with g | g
   . rw [zeo, h2 i g]; simp [g]
   . rw [Nat.testBit_lt_two_pow (Nat.lt_of_lt_of_le h1.1.1 (Nat.pow_le_pow_right (by omega) g))]
     simp; omega
end Go.Sx.O
namespace Go.Sx.O
open Go
theorem zod (s : List UInt8) (c : Int) : zci s c = some (Go.Lib.indexByte s c.toNat.toUInt8) := by
 unfold zci qi
 rfl
theorem zab (r : Int) (h0 : 0 <= r) (h1 : r < 256) : xm [] r = some false := by
 unfold xm
 have key : Tot (zgg [] r) fun x => x < 0 := by
  unfold zgg
  have e0 : decide (0 <= r) = true := by simp [h0]
  simp only [e0, cond_true]
  rw [zE]
  refine ⟨fun _ => ?_, fun h2 => ?_⟩
  . rw [zQ, zu, zod]
    simp only [tot_some]
    simp [Go.Lib.indexByte]
  . simp only [decide_eq_false_iff_not] at h2
    obtain ⟨x, y, exy, hy⟩ := zu2 (r := r) (by omega) h1
    have e1 : decide (r = 65533) = false := by simp; omega
    simp only [e1, cond_false, exy]
    rw [zu]
    refine (zay r).mono fun v _ => ?_
    rw [zE]
    refine ⟨fun _ => .mk (by decide), fun _ => ?_⟩
    rw [zQ]
    have e2 : IntKind.wrap .i64 (((List.length [x, y] : Nat) : Int) - 1) = 1 := rfl
    rw [e2, zu]
    refine Tot.loop (fun _ => 0) (fun _ => True) (fun _ _ => ?_) trivial
    rw [zE]
    refine ⟨fun h3 => ?_, fun _ => ?_⟩
    . simp only [decide_eq_true_eq, List.length_nil] at h3
      exact absurd h3 (by decide)
    . simp only [tot_some, Sum.elim_inr, Sum.elim_inl]
      decide
 obtain ⟨x, e, hx⟩ := key
 rw [e]
 have : decide (0 <= x) = false := by simp; omega
 simp [this]
theorem zl7 (r : Int) (h0 : 0 <= r) (h1 : r < 256) : zcw r = some true := by
 unfold zcw
 have e0 : decide (0 <= r) = true := by simp [h0]
 have e1 : decide (r < 55296) = true := by simp; omega
 simp only [e0, e1, cond_true]
theorem zpt (r : Int) (h0 : 0 <= r) (h1 : r < 256) : zm8 r = some true := by
 unfold zm8
 simp only [zg, zm9 h0 h1]
 rw [w64 (by omega) (by omega)]
 simp [zl7 r h0 h1]
def yB (c : UInt8) : Bool := decide (97 <= c.toNat) && decide (c.toNat <= 122)
def xi (c : UInt8) : Bool := decide (48 <= c.toNat) && decide (c.toNat <= 57)
theorem zpr {cs : List (List UInt8)} (hcs : cs.length = 10) (h : ∀ s ∈ cs, s.length <= 1000 /\ ∀ c ∈ s, c.toNat < 128) (h6 : cs[6]? = some []) (h8 : cs[8]? = some []) (r : Int) (h0 : 0 <= r) (h1 : r < 256) {Q : Unit ⊕ (Int × Int) -> Prop} (hQ : Q (.inl ())) (hQ' : ∀ x, x ≠ 6 -> x ≠ 8 -> Q (.inr (x, 0))) :
 Tot (lpO (fun (s : Int) => cond (decide (s < 10)) (zh cs s fun x => zg (IntKind.wrap IntKind.i32 r) fun y => Option.bind (xm x y) fun z => cond z (some (Sum.inr (Sum.inr (s, (0 : Int))))) (zg (IntKind.wrap IntKind.i64 (s + 1)) fun u => some (Sum.inl u))) (some (Sum.inr (Sum.inl ())))) 0) Q := by
 refine Tot.count 10 (fun k s => s = (k : Int)) ?_ rfl
 rintro k _ hk rfl
 simp only [zE, tot_some, zQ, qt, zu, Sum.elim_inl, Sum.elim_inr, decide_eq_true_eq, decide_eq_false_iff_not, Int.toNat_natCast]
 refine ⟨fun hlt => ?_, fun _ => hQ⟩
 obtain ⟨x, hx⟩ := zB (l := cs) (i := k) (by omega)
 have hx' := h x (List.mem_of_getElem? hx)
 refine ⟨by omega, x, hx, ?_⟩
 rw [zm9 h0 h1]
 have nx : k < 10 /\ IntKind.wrap .i64 ((k : Int) + 1) = ((k + 1 : Nat) : Int) := by
  rw [w64 (by omega) (by omega)]; exact ⟨by omega, by omega⟩
 by_cases g6 : k = 6
 . subst g6
   rw [h6] at hx; cases hx
   rw [zab r h0 h1, tot_some]
   exact ⟨fun e => (by cases e), fun _ => nx⟩
 by_cases g8 : k = 8
 . subst g8
   rw [h8] at hx; cases hx
   rw [zab r h0 h1, tot_some]
   exact ⟨fun e => (by cases e), fun _ => nx⟩
 refine (zd6 x r hx'.2 hx'.1 h0 h1).mono fun _ _ => ⟨fun _ => hQ' _ (by omega) (by omega), fun _ => nx⟩
theorem zbw (c : UInt8) : Tot (zcg (IntKind.wrap .i64 (c.toNat : Int))) fun x => (decide (x.1 = 8) = yB c) /\ (decide (x.1 = 6) = xi c) := by
 have hc := c.toNat_lt
 rw [w64 (by omega) (by omega)]
 have h0 : (0 : Int) <= c.toNat := by omega
 have h1 : (c.toNat : Int) < 256 := by omega
 unfold zcg zfv yB xi
 rw [zpt _ h0 h1]
 simp only [Option.bind_some, Bool.not_true, cond_false]
 have L : ¬ (48 <= c.toNat /\ c.toNat <= 57) -> ¬ (97 <= c.toNat /\ c.toNat <= 122) -> _ := fun d1 d2 => zpr (cs := [[], [32], [10], [40, 91], [41, 93], [34], [], [45], [], [60, 61]]) rfl (by decide) rfl rfl c.toNat h0 h1 (Q := fun a => Tot (Sum.elim (fun _ => some ((10 : Int), (0 : Int))) some a) fun (x : Int × Int) => (decide (x.1 = 8) = (decide (97 <= c.toNat) && decide (c.toNat <= 122))) /\ (decide (x.1 = 6) = (decide (48 <= c.toNat) && decide (c.toNat <= 57))))
  (.mk (by
    have a1 : (decide (97 <= c.toNat) && decide (c.toNat <= 122)) = false := by simp; omega
    have a2 : (decide (48 <= c.toNat) && decide (c.toNat <= 57)) = false := by simp; omega
    rw [a1, a2]; exact ⟨rfl, rfl⟩)) (fun x e6 e8 => .mk (by
    have a1 : (decide (97 <= c.toNat) && decide (c.toNat <= 122)) = false := by simp; omega
    have a2 : (decide (48 <= c.toNat) && decide (c.toNat <= 57)) = false := by simp; omega
    rw [a1, a2]; simp [e6, e8]))
 simp only [zE, tot_some, zu, decide_eq_true_eq, decide_eq_false_iff_not]
 have six : 48 <= c.toNat -> c.toNat <= 57 -> decide ((6 : Int) = 8) = (decide (97 <= c.toNat) && decide (c.toNat <= 122)) /\ decide ((6 : Int) = 6) = (decide (48 <= c.toNat) && decide (c.toNat <= 57)) := by
  intro d1 d2
  have a1 : (decide (97 <= c.toNat) && decide (c.toNat <= 122)) = false := by simp; omega
  have a2 : (decide (48 <= c.toNat) && decide (c.toNat <= 57)) = true := by simp; omega
  rw [a1, a2]; exact ⟨rfl, rfl⟩
 have eight : 97 <= c.toNat -> c.toNat <= 122 -> decide ((8 : Int) = 8) = (decide (97 <= c.toNat) && decide (c.toNat <= 122)) /\ decide ((8 : Int) = 6) = (decide (48 <= c.toNat) && decide (c.toNat <= 57)) := by
  intro d1 d2
  have a1 : (decide (97 <= c.toNat) && decide (c.toNat <= 122)) = true := by simp; omega
  have a2 : (decide (48 <= c.toNat) && decide (c.toNat <= 57)) = false := by simp; omega
  rw [a1, a2]; exact ⟨rfl, rfl⟩
 refine ⟨fun d1 => ⟨fun d2 => six (by omega) (by omega), fun d2 => ⟨fun d3 => ⟨fun d4 => eight (by omega) (by omega), fun d4 => L (by omega) (by omega)⟩, fun d3 => L (by omega) (by omega)⟩⟩, fun d1 => ⟨fun d3 => ⟨fun d4 => eight (by omega) (by omega), fun d4 => L (by omega) (by omega)⟩, fun d3 => L (by omega) (by omega)⟩⟩
def wU (s : List UInt8) : Bool := (match s with | [] => false | c :: _ => yB c) && s.all fun c => yB c || xi c
theorem zgm {s : List UInt8} {p : UInt8 -> Bool} {k : Nat} {c : UInt8} (h : (s.take k).all p = true) (hc : s[k]? = some c) (hp : p c = true) : (s.take (k + 1)).all p = true := by
 rw [List.take_add_one, hc, List.all_append, h]
 simp [hp]
theorem zg7 (s : List UInt8) (h : s.length <= 1000000) : Tot (zli (TK.mk 1 0 0 0 s)) fun x => decide (x = 0) = (wU s && decide (s.length <= 16)) := by
 unfold zli
 dsimp only
 have e2 : decide ((1 : Int) < 1) = false := rfl
 have e3 : decide ((9 : Int) < 1) = false := rfl
 simp only [e2, e3, decide_true, cond_true, cond_false, Option.bind_some, Sum.elim_inl, Bool.and_self, Bool.not_true]
 rw [zu]
 have Qn : ∀ x : Int, wU s = false -> Tot (Sum.elim (fun (n : Int) => cond (decide (n < (s.length : Int))) (some (3 : Int)) (some (0 : Int))) some (Sum.inr 6 : Int ⊕ Int)) fun x => decide (x = 0) = (wU s && decide (s.length <= 16)) := by
  intro _ e
  rw [e]; exact .mk rfl
 have Qy : wU s = true -> Tot (Sum.elim (fun (n : Int) => cond (decide (n < (s.length : Int))) (some (3 : Int)) (some (0 : Int))) some (Sum.inl 16 : Int ⊕ Int)) fun x => decide (x = 0) = (wU s && decide (s.length <= 16)) := by
  intro e
  rw [e]
  simp only [Sum.elim_inl, zE, tot_some, decide_eq_true_eq, decide_eq_false_iff_not]
  refine ⟨fun g => ?_, fun g => ?_⟩
  . have : decide (s.length <= 16) = false := by simp; omega
    rw [this]; rfl
  . have : decide (s.length <= 16) = true := by simp; omega
    rw [this]; rfl
 rw [zE]
 refine ⟨fun h1 => ?_, fun h1 => ?_⟩
 . simp only [tot_some]
   refine Qn 0 ?_
   have : s = [] := List.length_eq_zero_iff.1 (by simpa using h1)
   rw [this]; rfl
 simp only [decide_eq_false_iff_not] at h1
 obtain ⟨c, hc⟩ := zB (l := s) (i := 0) (by omega)
 have hs0 : ∃ r, s = c :: r := by
  cases s with
  | nil => simp at hc
  | cons a r => simp at hc; exact ⟨r, by rw [hc]⟩
 have e0 : (0 : Int).toNat = 0 := rfl
 simp only [qt, zQ, zu, e0]
 refine ⟨by omega, c, hc, (zbw c).mono fun x hx => ?_⟩
 rw [zE]
 refine ⟨fun g => ?_, fun g => ?_⟩
 . simp only [tot_some]
   refine Qn 0 ?_
   obtain ⟨r, rfl⟩ := hs0
   have : yB c = false := by rw [<- hx.1]; simpa using g
   unfold wU; simp [this]
 have hlow : yB c = true := by rw [<- hx.1]; simpa using g
 simp only [qt, zQ, zu, e0]
 refine ⟨by omega, c, hc, (zbw c).mono fun y hy => ?_⟩
 refine Tot.loop (fun (p : Int × Int) => s.length - p.2.toNat) (fun (p : Int × Int) => 0 <= p.2 /\ p.2 <= (s.length : Int) /\ (s.take p.2.toNat).all (fun c => yB c || xi c) = true /\ ((p.2 = (s.length : Int) /\ p.1 = 10) \/ ∃ d, s[p.2.toNat]? = some d /\ decide (p.1 = 8) = yB d /\ decide (p.1 = 6) = xi d)) ?_ ⟨by simp, by simp, by simp, .inr ⟨c, by simpa using hc, hy⟩⟩
 rintro ⟨k, a⟩ ⟨h2, h3, hall, h4⟩
 simp only at h2 h3 hall h4
 have round : (k = 8 \/ k = 6) -> ∀ {Q : (Bool × Int × Int) ⊕ (Int ⊕ Int) -> Prop}, Tot (zg (IntKind.wrap .i64 (a + 1)) fun (u : Int) => cond (decide ((s.length : Int) <= u)) (some (Sum.inl ((10 : Int), u))) (zh s u fun (v : UInt8) => zg (IntKind.wrap .i64 (v.toNat : Int)) fun (z : Int) => Option.bind (zcg z) fun r => some (Sum.inl (r.1, u)))) (Sum.elim (fun (s' : Int × Int) => (0 <= s'.2 /\ s'.2 <= (s.length : Int) /\ (s.take s'.2.toNat).all (fun c => yB c || xi c) = true /\ ((s'.2 = (s.length : Int) /\ s'.1 = 10) \/ ∃ d, s[s'.2.toNat]? = some d /\ decide (s'.1 = 8) = yB d /\ decide (s'.1 = 6) = xi d)) /\ s.length - s'.2.toNat < s.length - a.toNat) Q) := by
  intro hk Q
  rcases h4 with ⟨g1, g2⟩ | ⟨d, hd, d1, d2⟩
  . omega
  have hlt : a.toNat < s.length := by
   rcases Nat.lt_or_ge a.toNat s.length with g | g
   . exact g
   . rw [List.getElem?_eq_none g] at hd; cases hd
  have hp : (yB d || xi d) = true := by
   rw [<- d1, <- d2]
   rcases hk with rfl | rfl <;> rfl
  have e1 : (a + 1).toNat = a.toNat + 1 := by omega
  have hall' : (s.take (a + 1).toNat).all (fun c => yB c || xi c) = true := by rw [e1]; exact zgm hall hd hp
  rw [zQ, w64 (by omega) (by omega), zE]
  refine ⟨fun g => ?_, fun g => ?_⟩
  . simp only [decide_eq_true_eq] at g
    simp only [tot_some, Sum.elim_inl]
    exact ⟨⟨by omega, by omega, hall', .inl ⟨by omega, trivial⟩⟩, by omega⟩
  . simp only [decide_eq_false_iff_not] at g
    obtain ⟨d', hd'⟩ := zB (l := s) (i := (a + 1).toNat) (by omega)
    simp only [qt, zQ, zu]
    refine ⟨by omega, d', hd', (zbw d').mono fun z hz => ?_⟩
    simp only [tot_some, Sum.elim_inl]
    exact ⟨⟨by omega, by omega, hall', .inr ⟨d', hd', hz⟩⟩, by omega⟩
 rw [zE]
 refine ⟨fun g => round (.inl (by simpa using g)), fun g => ?_⟩
 rw [zE]
 refine ⟨fun g' => round (.inr (by simpa using g')), fun g' => ?_⟩
 simp only [tot_some, Sum.elim_inr, Sum.elim_inl, qz, zE, e0, List.drop_zero]
 refine ⟨by omega, fun hne => ?_, fun heq => ?_⟩
 . refine (tot_some (Q := fun x => decide (x = 0) = (wU s && decide (s.length <= 16)))).1 (Qn 0 ?_)
   rcases h4 with ⟨g1, _⟩ | ⟨d, hd, d1, d2⟩
   . exfalso
     have : a.toNat = s.length := by omega
     rw [this, List.take_length] at hne
     simp at hne
   . unfold wU
     have : (s.all fun c => yB c || xi c) = false := by
      rw [List.all_eq_false]
      refine ⟨d, List.mem_of_getElem? hd, ?_⟩
      rw [<- d1, <- d2, g, g']
      simp
     rw [this, Bool.and_false]
 . have ht : s.take a.toNat = s := by simpa using heq
   rw [ht] at hall
   have hw : wU s = true := by
    unfold wU
    obtain ⟨r, rfl⟩ := hs0
    simp only [hall, hlow, Bool.and_self]
   rw [hw]
   refine ⟨fun g => ?_, fun g => ?_⟩
   . have : decide (s.length <= 16) = false := by simp at g ⊢; omega
     rw [this]; rfl
   . have : decide (s.length <= 16) = true := by simp at g ⊢; omega
     rw [this]; rfl
end Go.Sx.O
namespace Go.Sx.O
open Go
theorem zo3 (c : UInt8) : zif (c.toNat : Int) = some (yB c) := by
 unfold zif yB
 by_cases h : 97 <= c.toNat
 . have : decide ((97 : Int) <= (c.toNat : Int)) = true := by simp; omega
   rw [this]
   simp only [cond_true, h, decide_true, Bool.true_and, Option.some.injEq]
   rw [Bool.eq_iff_iff]; simp; omega
 . have : decide ((97 : Int) <= (c.toNat : Int)) = false := by simp; omega
   rw [this]
   simp [h]
theorem zyi (c : UInt8) : znm (c.toNat : Int) = some (xi c) := by
 unfold znm xi
 by_cases h : 48 <= c.toNat
 . have : decide ((48 : Int) <= (c.toNat : Int)) = true := by simp; omega
   rw [this]
   simp only [cond_true, h, decide_true, Bool.true_and, Option.some.injEq]
   rw [Bool.eq_iff_iff]; simp; omega
 . have : decide ((48 : Int) <= (c.toNat : Int)) = false := by simp; omega
   rw [this]
   simp [h]
theorem zyg (s : List UInt8) (h : s.length <= 1000000) : za9 s = some (wU s) := by
 unfold za9
 cases s with
 | nil => rfl
 | cons c r =>
   have e1 : decide (c :: r = (ByteArray.mk #[]).data.toList) = false := by
    exact decide_eq_false (fun e => by cases (show c :: r = [] from e))
   rw [e1]
   apply Tot.eq
   have e0 : (0 : Int).toNat = 0 := rfl
   simp only [cond_false, qt, e0, zu]
   refine ⟨by omega, c, rfl, ?_⟩
   rw [zo3, tot_some, zE]
   refine ⟨fun g => ?_, fun g => ?_⟩
   . have : yB c = false := by simpa using g
     simp [tot_some, wU, this]
   have hl : yB c = true := by simpa using g
   rw [zu]
   refine Tot.count (c :: r).length (fun k s => s = (k : Int) /\ ((c :: r).take k).all (fun c => yB c || xi c) = true) ?_ ⟨rfl, by simp⟩
   rintro k _ hk ⟨rfl, hall⟩
   simp only [zE, tot_some, zQ, qt, zu, Sum.elim_inl, Sum.elim_inr, decide_eq_true_eq, decide_eq_false_iff_not, Int.toNat_natCast]
   refine ⟨fun hlt => ?_, fun hge => ?_⟩
   . obtain ⟨d, hd⟩ := zB (l := c :: r) (i := k) (by omega)
     refine ⟨by omega, d, hd, ?_⟩
     rw [zo3, tot_some]
     have nx : k < (c :: r).length /\ IntKind.wrap .i64 ((k : Int) + 1) = ((k + 1 : Nat) : Int) := by
      rw [w64 (by omega) (by omega)]; exact ⟨by omega, by omega⟩
     refine ⟨fun g1 => ⟨by omega, d, hd, ?_⟩, fun g1 => ⟨nx.1, nx.2, zgm hall hd (by simp at g1; simp [g1])⟩⟩
     rw [zyi, tot_some]
     refine ⟨fun g2 => ?_, fun g2 => ⟨nx.1, nx.2, zgm hall hd (by simp at g2; simp [g2])⟩⟩
     have : ((c :: r).all fun c => yB c || xi c) = false := by
      rw [List.all_eq_false]
      refine ⟨d, List.mem_of_getElem? hd, ?_⟩
      simp at g1 g2
      simp [g1, g2]
     unfold wU
     rw [this, Bool.and_false]
   . rw [List.take_of_length_le (by omega)] at hall
     unfold wU
     rw [hall]
     show true = (yB c && true)
     rw [hl]; rfl
theorem zBc (s : List UInt8) (h : s.length <= 1000000) : Tot (znp (TK.mk 1 0 0 0 s)) fun x => decide (x = 0) = (wU s && decide (s.length <= 16)) := by
 unfold znp
 dsimp only
 have e2 : decide ((1 : Int) < 1) = false := rfl
 have e3 : decide ((9 : Int) < 1) = false := rfl
 have e4 : decide ((1 : Int) = 2) = false := rfl
 simp only [e2, e3, e4, decide_true, cond_true, cond_false, Bool.not_true, Bool.not_false, zyg s h, Option.bind_some, zE, tot_some]
 refine ⟨fun g => ?_, fun g => ?_⟩
 . have : wU s = false := by simpa using g
   rw [this]; rfl
 . have : wU s = true := by simpa using g
   rw [this]
   refine ⟨fun g => ?_, fun g => ?_⟩
   . have : decide (s.length <= 16) = false := by simp at g ⊢; omega
     rw [this]; rfl
   . have : decide (s.length <= 16) = true := by simp at g ⊢; omega
     rw [this]; rfl
def primN : List (List UInt8) := [[110, 101, 103], [97, 98, 115], [110, 111, 116], [115, 104, 97, 112, 101], [114, 97, 118, 101, 108], [114, 101, 118, 101, 114, 115, 101], [102, 108, 105, 112], [105, 111, 116, 97], [115, 117, 109], [108, 101, 97, 115, 116], [109, 111, 115, 116], [99, 111, 117, 110, 116], [115, 99, 97, 110], [103, 114, 97, 100, 101], [97, 100, 100], [115, 117, 98], [109, 117, 108], [100, 105, 118], [109, 111, 100], [112, 108, 117, 115], [109, 105, 110, 117, 115], [116, 105, 109, 101, 115], [101, 113], [110, 101], [108, 116], [108, 101], [103, 116], [103, 101], [97, 110, 100], [111, 114], [109, 105, 110], [109, 97, 120], [116, 97, 107, 101], [100, 114, 111, 112], [102, 105, 108, 108], [103, 114, 105, 100], [99, 97, 116], [97, 116], [105, 110], [112, 105, 99, 107]]
theorem zhv (s : List UInt8) : Tot (zh9 s) fun x => decide (x.2 = 0) = decide (s ∈ primN) := by
 by_cases hm : s ∈ primN
 . have h2 : ∀ t ∈ primN, ∃ x, zh9 t = some x /\ decide (x.2 = 0) = true := by
    unfold primN
    simp only [List.forall_mem_cons]
    repeat' constructor
    intro t ht; cases ht
   obtain ⟨x, e, hx⟩ := h2 s hm
   exact ⟨x, e, by show decide (x.2 = 0) = _; rw [hx]; simp [hm]⟩
 . have hd : decide (s ∈ primN) = false := by simp [hm]
   rw [hd]
   unfold zh9
   unfold primN at hm
   simp only [List.mem_cons, List.not_mem_nil, or_false, not_or] at hm
   have sw : ∀ n : List UInt8, (n = s) = (s = n) := fun n => propext eq_comm
   simp only [sw, hm, decide_false, cond_false, Option.bind_some, Sum.elim_inl, tot_some]
   rfl
theorem zkh (s : List UInt8) : Tot (zm2 s) fun x => decide (x.2 = 0) = decide (s ∈ primN) := by
 unfold zm2 zr1
 simp only [Option.bind_some]
 change Tot (Option.bind (lpO (fun (k : Int) => cond (decide (k < ((List.length (List.map SV.str primN) : Nat) : Int))) (zh primN k _) _) 0) _) _
 rw [zu]
 have hn : (List.map SV.str primN).length = 40 := rfl
 have hn' : primN.length = 40 := rfl
 rw [hn]
 refine Tot.count 40 (fun k x => x = (k : Int) /\ s ∉ primN.take k) ?_ ⟨rfl, by simp⟩
 rintro k _ hk ⟨rfl, hmem⟩
 simp only [zE, tot_some, zQ, qt, zu, Sum.elim_inl, Sum.elim_inr, decide_eq_true_eq, decide_eq_false_iff_not, Int.toNat_natCast]
 refine ⟨fun hlt => ?_, fun hge => ?_⟩
 . obtain ⟨x, hx⟩ := zB (l := primN) (i := k) (by omega)
   refine ⟨by omega, x, hx, fun g => ?_, fun g => ?_⟩
   . subst g
     have := List.mem_of_getElem? hx
     simp [this]
   . rw [w64 (by omega) (by omega), List.take_add_one, hx]
     refine ⟨by omega, by omega, fun hm => ?_⟩
     rcases List.mem_append.1 hm with hm | hm
     . exact hmem hm
     . simp at hm; exact g hm.symm
 . rw [List.take_of_length_le (by omega)] at hmem
   simp [hmem]
def resN : List (List UInt8) := [[118, 97, 114], [100, 101, 102], [111, 117, 116], [105, 102], [101, 108, 115, 101], [119, 104, 105, 108, 101], [101, 110, 100], [114, 101, 108, 101, 97, 115, 101], [105, 110, 116], [99, 104, 97, 114]]
def exN (s : List UInt8) : Bool := !decide (s ∈ resN) && !decide (s ∈ primN) && (wU s && decide (s.length <= 16))
theorem zbl (s : List UInt8) (h : s.length <= 1000000) : zfw s = some (exN s) := by
 apply Tot.eq
 unfold exN
 by_cases hm : s ∈ resN
 . have h2 : ∀ t ∈ resN, zfw t = some false := by
    unfold resN
    simp only [List.forall_mem_cons]
    repeat' constructor
    intro t ht; cases ht
   rw [h2 s hm, tot_some]
   simp [hm]
 . have hd : decide (s ∈ resN) = false := by simp [hm]
   rw [hd]
   unfold zfw
   unfold resN at hm
   simp only [List.mem_cons, List.not_mem_nil, or_false, not_or] at hm
   change Tot (cond (decide (s = [118, 97, 114])) _ (cond (decide (s = [100, 101, 102])) _ (cond (decide (s = [111, 117, 116])) _ (cond (decide (s = [105, 102])) _ (cond (decide (s = [101, 108, 115, 101])) _ (cond (decide (s = [119, 104, 105, 108, 101])) _ (cond (decide (s = [101, 110, 100])) _ (cond (decide (s = [114, 101, 108, 101, 97, 115, 101])) _ (cond (decide (s = [105, 110, 116])) _ (cond (decide (s = [99, 104, 97, 114])) _ _)))))))))) _
   simp only [hm, decide_false, cond_false, zu]
   refine (zhv s).mono fun x hx => ?_
   rw [hx, zE]
   refine ⟨fun g => ?_, fun g => ?_⟩
   . rw [g]; exact .mk rfl
   . rw [g, zu]
     refine (zg7 s h).mono fun y hy => .mk ?_
     rw [hy]; rfl
theorem zky (s : List UInt8) : zlh s = some (decide (s ∈ resN)) := by
 unfold zlh
 apply Tot.eq
 change Tot (Option.bind (lpO (fun (k : Int) => cond (decide (k < ((10 : Nat) : Int))) (zl (0 <= k /\ k < ((10 : Nat) : Int)) (zh resN ((k.toNat : Nat) : Int) _)) _) 0) _) _
 rw [zu]
 have hn' : resN.length = 10 := rfl
 refine Tot.count 10 (fun k x => x = (k : Int) /\ s ∉ resN.take k) ?_ ⟨rfl, by simp⟩
 rintro k _ hk ⟨rfl, hmem⟩
 simp only [zE, tot_some, zQ, qt, qz, zu, Sum.elim_inl, Sum.elim_inr, decide_eq_true_eq, decide_eq_false_iff_not, Int.toNat_natCast]
 refine ⟨fun hlt => ?_, fun hge => ?_⟩
 . obtain ⟨x, hx⟩ := zB (l := resN) (i := k) (by omega)
   refine ⟨⟨by omega, by omega⟩, by omega, x, hx, fun g => ?_, fun g => ?_⟩
   . subst g
     have := List.mem_of_getElem? hx
     simp [this]
   . rw [w64 (by omega) (by omega), List.take_add_one, hx]
     refine ⟨by omega, by omega, fun hm => ?_⟩
     rcases List.mem_append.1 hm with hm | hm
     . exact hmem hm
     . simp at hm; exact g hm.symm
 . rw [List.take_of_length_le (by omega)] at hmem
   simp [hmem]
theorem zhb (s : List UInt8) (h : s.length <= 1000000) : znk s = some (exN s) := by
 unfold znk exN
 apply Tot.eq
 rw [zu]
 refine (zkh s).mono fun x hx => ?_
 rw [zu]
 refine (zBc s h).mono fun y hy => ?_
 rw [hx, hy, zky]
 cases wU s && decide (s.length <= 16) <;> cases decide (s ∈ primN) <;> cases decide (s ∈ resN) <;> exact .mk rfl
end Go.Sx.O
namespace Go.Sx.O
open Go
end Go.Sx.O
namespace Go.Sx.O
open Go
end Go.Sx.O
namespace Go.Sx.O
open Go
theorem qq {σ τ ε : Type} {step : σ -> Option (σ ⊕ (ε ⊕ τ))} {k1 : ε -> Option τ} (n : Nat) (S : Nat -> σ) (f : Nat -> Option τ) (e : ε)
 (h1 : ∀ k : Nat, k < n -> step (S k) = some (match f k with | some r => .inr (.inr r) | none => .inl (S (k + 1))))
 (h2 : step (S n) = some (.inr (.inl e))) {s0 : σ} (h0 : S 0 = s0) : (lpO step s0).bind (Sum.elim k1 some) = match zt f 0 n with | some r => some r | none => k1 e := by
 subst h0
 rw [zcp n S (fun k => (f k).map Sum.inr) (.inl e) (fun k hk => by rw [h1 k hk]; cases f k <;> rfl) h2, jV]
 cases zt f 0 n <;> rfl
theorem yd {σ τ ε : Type} {step : σ -> Option (σ ⊕ (ε ⊕ τ))} {k1 : ε -> Option τ} (n : Nat) (S : Nat -> σ) (e : ε)
 (h1 : ∀ k : Nat, k < n -> step (S k) = some (.inl (S (k + 1)))) (h2 : step (S n) = some (.inr (.inl e))) {s0 : σ} (h0 : S 0 = s0) : (lpO step s0).bind (Sum.elim k1 some) = k1 e := by
 subst h0
 rw [zyv n S (.inl e) h1 h2]; rfl
def i64 (n : Int) : Prop := -9223372036854775808 <= n /\ n <= 9223372036854775807
end Go.Sx.O
namespace Go.Sx.O
open Go
end Go.Sx.O
namespace Go.Sx.O
open Go
end Go.Sx.O
namespace Go.Sx.O
open Go
theorem zzt {n : Int} (h : inK .u8 n) : 0 <= n /\ n < 256 := by
 have e1 : IntKind.u8.min = 0 := by decide
 have e2 : IntKind.u8.max = 255 := by decide
 unfold inK at h
 omega
end Go.Sx.O
namespace Go.Sx.O
open Go
def qf (l : TL) (a : Int) : Bool := decide (0 <= a) && decide (a < (l.Names.length : Int))
theorem yP (l : TL) (a : Int) : jg l a = some (qf l a) := by
 unfold jg qf
 by_cases h : 0 <= a <;> simp [h]
theorem yx (l : TL) (a : Int) : ju l a = some (qf l a) := by
 unfold ju qf
 by_cases h : 0 <= a <;> simp [h]
def nmE (s : List UInt8) (before : List (List UInt8)) : Int := if exN s = true then (if s ∈ before then 8 else 0) else 24
theorem inL_iff {α : Type} [DecidableEq α] {a : α} {l : List α} : inL a l = true ↔ a ∈ l := by
 unfold inL; simp
theorem zbg (s : List UInt8) (b : List (List UInt8)) (h : s.length <= 1000000) (hb : b.length <= 1000000) : zis s b = some (nmE s b) := by
 unfold zis nmE
 rw [zhb s h]
 simp only [Option.bind_some, List.length_map]
 cases exN s with
 | false => simp
 | true =>
   simp only [Bool.not_true, cond_false, if_true]
   refine (qq b.length (fun k => (k : Int)) (fun k => match b[k]? with | some x => if x = s then some (8 : Int) else none | none => none) () (fun k hk => ?_) ?_ rfl).trans ?_
   . obtain ⟨x, hx⟩ := zB hk
     have hlt : (k : Int) < (b.length : Int) := by omega
     have hw : IntKind.wrap .i64 ((k : Int) + 1) = ((k + 1 : Nat) : Int) := w64 (by omega) (by omega)
     have n1 : (0 : Int) <= (k : Int) := by omega
     simp only [hlt, decide_true, cond_true, zh, n1, if_true, Int.toNat_natCast, hx, Option.bind_some, zg, hw]
     by_cases he : x = s <;> simp [he]
   . simp
   . cases hr : zt (fun k => match b[k]? with | some x => if x = s then some (8 : Int) else none | none => none) 0 b.length with
     | some r =>
       have h8 : r = 8 := zaa (v := (8 : Int)) (fun i => by
        cases b[i]? with
        | none => exact .inr rfl
        | some x => by_cases hx : x = s <;> simp [hx]) hr
       have hm : s ∈ b := by
        by_cases hm : s ∈ b
        . exact hm
        have : zt (fun k => match b[k]? with | some x => if x = s then some (8 : Int) else none | none => none) 0 b.length = none := by
         rw [scan_none]
         intro i _ hi
         obtain ⟨x, hx⟩ := zB (l := b) (i := i) (by omega)
         rw [hx]
         have : x ≠ s := fun e => hm (e ▸ List.mem_of_getElem? hx)
         simp [this]
        rw [this] at hr; cases hr
       simp [hm, h8]
     | none =>
       have hm : ¬ s ∈ b := by
        intro hm
        obtain ⟨i, hi, e⟩ := List.getElem_of_mem hm
        have := scan_none.1 hr i (by omega) (by omega)
        rw [List.getElem?_eq_getElem hi, e] at this
        simp at this
       simp [hm]
def chK (p : TP) (k : Nat) : Option (Int × Int) := match p.Channels[k]? with
 | some c => if nmE c.s_ ((p.Channels.take k).map (·.s_)) ≠ 0 then some ((k : Int), nmE c.s_ ((p.Channels.take k).map (·.s_))) else if qf p.Lattice c.at_ = true then none else some ((k : Int), 7)
 | none => none
def chC (p : TP) : Int × Int := if (16 : Int) < (p.Channels.length : Int) then (-1, 3) else match zt (chK p) 0 p.Channels.length with | some r => r | none => (0, 0)
theorem zd7 (p : TP) (hs : ∀ c ∈ p.Channels, c.s_.length <= 1000000) : zmo p = some (chC p) := by
 unfold zmo chC
 simp only [List.length_map]
 by_cases h : (16 : Int) < (p.Channels.length : Int)
 . simp [h]
 simp only [h, decide_false, cond_false, if_false]
 refine (qq p.Channels.length (fun k => ((k : Int), (p.Channels.take k).map (·.s_))) (chK p) () (fun k hk => ?_) ?_ rfl).trans ?_
 . obtain ⟨x, hx⟩ := zB hk
   have hlt : (k : Int) < (p.Channels.length : Int) := by omega
   have hw : IntKind.wrap .i64 ((k : Int) + 1) = ((k + 1 : Nat) : Int) := w64 (by omega) (by omega)
   have n1 : (0 : Int) <= (k : Int) := by omega
   have e : (p.Channels.take (k + 1)).map (·.s_) = (p.Channels.take k).map (·.s_) ++ [x.s_] := by rw [List.take_add_one, hx]; simp
   simp only [hlt, decide_true, cond_true, zh, n1, if_true, Int.toNat_natCast, hx, Option.bind_some, zg, hw, zbl x.s_ (hs x (List.mem_of_getElem? hx)), yP, chK, e]
   unfold nmE
   cases exN x.s_ with
   | false => simp
   | true =>
     cases hi : inL x.s_ ((p.Channels.take k).map (·.s_)) with
     | true =>
       have := inL_iff.1 hi
       simp only [Bool.not_true, cond_false, cond_true, if_true, if_pos this]
       simp
     | false =>
       have : ¬ x.s_ ∈ (p.Channels.take k).map (·.s_) := fun h => by rw [inL_iff.2 h] at hi; cases hi
       simp only [Bool.not_true, cond_false, if_true, if_neg this]
       cases qf p.Lattice x.at_ <;> simp
 . simp
 . cases zt (chK p) 0 p.Channels.length <;> rfl
theorem ze3 (p : TP) (hs : ∀ c ∈ p.Channels, c.s_.length <= 1000000) : zmt p = some (chC p) := by
 unfold zmt chC
 simp only [List.length_map]
 by_cases h : (16 : Int) < (p.Channels.length : Int)
 . simp [h]
 simp only [h, decide_false, cond_false, if_false]
 refine (qq p.Channels.length (fun k => ((k : Int), (p.Channels.take k).map (·.s_))) (chK p) () (fun k hk => ?_) ?_ rfl).trans ?_
 . obtain ⟨x, hx⟩ := zB hk
   have hlt : (k : Int) < (p.Channels.length : Int) := by omega
   have hw : IntKind.wrap .i64 ((k : Int) + 1) = ((k + 1 : Nat) : Int) := w64 (by omega) (by omega)
   have n1 : (0 : Int) <= (k : Int) := by omega
   have e : (p.Channels.take (k + 1)).map (·.s_) = (p.Channels.take k).map (·.s_) ++ [x.s_] := by rw [List.take_add_one, hx]; simp
   have hl : ((p.Channels.take k).map (·.s_)).length <= 16 := by rw [List.length_map, List.length_take]; omega
   simp only [hlt, decide_true, cond_true, zh, n1, if_true, Int.toNat_natCast, hx, Option.bind_some, zg, hw, zbg x.s_ _ (hs x (List.mem_of_getElem? hx)) (Nat.le_trans hl (by omega)), yx, chK, e, zl, List.length_map]
   rw [if_pos (by rw [List.length_map] at hl; omega)]
   by_cases h0 : nmE x.s_ ((p.Channels.take k).map (·.s_)) = 0
   . simp only [h0]
     cases qf p.Lattice x.at_ <;> simp
   . generalize nmE x.s_ ((p.Channels.take k).map (·.s_)) = z at h0 ⊢
     simp [h0]
 . simp
 . cases zt (chK p) 0 p.Channels.length <;> rfl
end Go.Sx.O
namespace Go.Sx.O
open Go
def vrK (g : TY -> Int) (p : TP) (k : Nat) : Option (Int × Int) := match p.Vars[k]? with
 | some c => if nmE c.Name ((p.Vars.take k).map (·.Name)) ≠ 0 then some ((k : Int), nmE c.Name ((p.Vars.take k).map (·.Name))) else if g c.Type_ = 0 then none else some ((k : Int), g c.Type_)
 | none => none
def vrC (g : TY -> Int) (p : TP) : Int × Int := if (32 : Int) < (p.Vars.length : Int) then (-1, 3) else match zt (vrK g p) 0 p.Vars.length with | some r => r | none => (0, 0)
theorem zin (g : TY -> Int) (p : TP) (hs : ∀ c ∈ p.Vars, c.Name.length <= 1000000) (hg : ∀ c ∈ p.Vars, zf3 p.Lattice c.Type_ = some (g c.Type_)) : zmg p = some (vrC g p) := by
 unfold zmg vrC
 simp only [List.length_map]
 by_cases h : (32 : Int) < (p.Vars.length : Int)
 . simp [h]
 simp only [h, decide_false, cond_false, if_false]
 refine (qq p.Vars.length (fun k => ((k : Int), (p.Vars.take k).map (·.Name))) (vrK g p) () (fun k hk => ?_) ?_ rfl).trans ?_
 . obtain ⟨x, hx⟩ := zB hk
   have hlt : (k : Int) < (p.Vars.length : Int) := by omega
   have hw : IntKind.wrap .i64 ((k : Int) + 1) = ((k + 1 : Nat) : Int) := w64 (by omega) (by omega)
   have n1 : (0 : Int) <= (k : Int) := by omega
   have e : (p.Vars.take (k + 1)).map (·.Name) = (p.Vars.take k).map (·.Name) ++ [x.Name] := by rw [List.take_add_one, hx]; simp
   simp only [hlt, decide_true, cond_true, zh, n1, if_true, Int.toNat_natCast, hx, Option.bind_some, zg, hw, zbl x.Name (hs x (List.mem_of_getElem? hx)), hg x (List.mem_of_getElem? hx), vrK, e]
   unfold nmE
   cases exN x.Name with
   | false => simp
   | true =>
     cases hi : inL x.Name ((p.Vars.take k).map (·.Name)) with
     | true =>
       have := inL_iff.1 hi
       simp only [Bool.not_true, cond_false, cond_true, if_true, if_pos this]
       simp
     | false =>
       have : ¬ x.Name ∈ (p.Vars.take k).map (·.Name) := fun h => by rw [inL_iff.2 h] at hi; cases hi
       simp only [Bool.not_true, cond_false, if_true, if_neg this]
       by_cases hz : g x.Type_ = 0 <;> simp [hz]
 . simp
 . cases zt (vrK g p) 0 p.Vars.length <;> rfl
theorem zkm (g : TY -> Int) (p : TP) (hs : ∀ c ∈ p.Vars, c.Name.length <= 1000000) (hg : ∀ c ∈ p.Vars, ziq p.Lattice c.Type_ = some (g c.Type_)) : zns p = some (vrC g p) := by
 unfold zns vrC
 simp only [List.length_map]
 by_cases h : (32 : Int) < (p.Vars.length : Int)
 . simp [h]
 simp only [h, decide_false, cond_false, if_false]
 refine (qq p.Vars.length (fun k => ((k : Int), (p.Vars.take k).map (·.Name))) (vrK g p) () (fun k hk => ?_) ?_ rfl).trans ?_
 . obtain ⟨x, hx⟩ := zB hk
   have hlt : (k : Int) < (p.Vars.length : Int) := by omega
   have hw : IntKind.wrap .i64 ((k : Int) + 1) = ((k + 1 : Nat) : Int) := w64 (by omega) (by omega)
   have n1 : (0 : Int) <= (k : Int) := by omega
   have e : (p.Vars.take (k + 1)).map (·.Name) = (p.Vars.take k).map (·.Name) ++ [x.Name] := by rw [List.take_add_one, hx]; simp
   have hl : ((p.Vars.take k).map (·.Name)).length <= 32 := by rw [List.length_map, List.length_take]; omega
   simp only [hlt, decide_true, cond_true, zh, n1, if_true, Int.toNat_natCast, hx, Option.bind_some, zg, hw, zbg x.Name _ (hs x (List.mem_of_getElem? hx)) (Nat.le_trans hl (by omega)), hg x (List.mem_of_getElem? hx), vrK, e, zl, List.length_map]
   rw [if_pos (by rw [List.length_map] at hl; omega)]
   by_cases h0 : nmE x.Name ((p.Vars.take k).map (·.Name)) = 0
   . simp only [h0]
     by_cases hz : g x.Type_ = 0 <;> simp [hz]
   . generalize nmE x.Name ((p.Vars.take k).map (·.Name)) = z at h0 ⊢
     simp [h0]
 . simp
 . cases zt (vrK g p) 0 p.Vars.length <;> rfl
end Go.Sx.O
namespace Go.Sx.O
open Go
theorem zpp (x : Int) (h0 : 0 <= x) (h1 : x < 256) : Tot (zjf x) fun y => ∀ n : Nat, n <= 8 -> x.toNat < 2 ^ n -> decide (y < (n : Int)) = !decide (x.toNat = 2 ^ n - 1) := by
 unfold zjf
 rw [qt]
 refine ⟨h0, ?_⟩
 have key : ∀ l : List UInt8, (∀ x : Fin 256, ∀ n : Fin 9, (l[x.val]?.map fun y => decide (x.val < 2 ^ n.val -> decide (IntKind.wrap .i64 (y.toNat : Int) < (n.val : Int)) = !decide (x.val = 2 ^ n.val - 1))) = some true) ->
  ∃ y, l[x.toNat]? = some y /\ Tot (zg (IntKind.wrap .i64 (y.toNat : Int)) fun z => some z) fun y => ∀ n : Nat, n <= 8 -> x.toNat < 2 ^ n -> decide (y < (n : Int)) = !decide (x.toNat = 2 ^ n - 1) := by
  intro l hl
  cases e : l[x.toNat]? with
  | none =>
    have := hl ⟨x.toNat, by omega⟩ ⟨0, by omega⟩
    simp only [e] at this
    cases this
  | some y =>
    refine ⟨y, rfl, .mk fun n hn hx => ?_⟩
    have := hl ⟨x.toNat, by omega⟩ ⟨n, by omega⟩
    simp only [e, Option.map_some, Option.some.injEq, decide_eq_true_eq] at this
    exact this hx
 exact key _ (by decide +kernel)
theorem zur {l : TL} (h : LatIn l) : zld l = some (if (qy l).2 = 0 then ((wA l : Int), 0) else (0, (qy l).2)) := by
 unfold zld
 rw [zpq h [] (by simp)]
 simp only [Option.bind_some, zb3, List.all_nil, if_true]
 by_cases hk : (qy l).2 = 0
 case neg => simp [hk]
 have ok := yv h hk
 simp only [hk, if_true, decide_true, Bool.not_true, cond_false]
 obtain ⟨o, e1, on, ol, _, ou, _⟩ := zml l ok.u8 ok.le ok.len
 rw [e1]
 simp only [Option.bind_some]
 have hb := (zgn h hk).1
 have hend : zon o.up_ o.n_ = some (wA l : Int) := by
  unfold zon
  rw [on]
  have hw : IntKind.wrap .i64 ((l.Names.length : Int) - 1) = ((l.Names.length - 1 : Nat) : Int) := by
   have := ok.pos; have := ok.le
   rw [w64 (by omega) (by omega)]; omega
  have hle := ok.le
  have hpos := ok.pos
  have hrun := zcp (step := fun (s585 : Int) =>
   zg (IntKind.wrap IntKind.i64 ((l.Names.length : Int) - (1 : Int))) fun x591 =>
   cond (decide (s585 < x591))
   (zl ((0 : Int) <= s585 /\ s585 < (↑(8 : Nat) : Int)) (
   zh (o.up_) ((↑(Int.toNat s585) : Int)) fun x593 =>
   Option.bind (zjf (x593)) fun x594 =>
   cond (decide (x594 < (l.Names.length : Int)))
   (zg (IntKind.wrap IntKind.i64 (s585 + (1 : Int))) fun x596 =>
   some (Sum.inl (x596)))
   (some (Sum.inr (Sum.inl (β := Int) s585)))))
   (some (Sum.inr (Sum.inl s585)))) (l.Names.length - 1) (fun k => (k : Int)) (fun k => if k = wA l then some (Sum.inl (k : Int)) else none) (Sum.inl ((l.Names.length - 1 : Nat) : Int)) (fun k hk2 => by
     have hlt : (k : Int) < ((l.Names.length - 1 : Nat) : Int) := by omega
     have n1 : (0 : Int) <= (k : Int) := by omega
     have n2 : (k : Int) < ((8 : Nat) : Int) := by omega
     have hw2 : IntKind.wrap .i64 ((k : Int) + 1) = ((k + 1 : Nat) : Int) := w64 (by omega) (by omega)
     obtain ⟨x, hx⟩ := zB (l := l.Up) (i := k) (by have := ok.len; omega)
     have hx' := ok.u8.get hx
     have hox : o.up_[k]? = some x := by rw [ou k (by omega)]; exact hx
     obtain ⟨y, ey, hy⟩ := zpp x hx'.1 hx'.2
     have hux : x.toNat = upN l k := by unfold upN; rw [List.getD_eq_getElem?_getD, hx]; rfl
     have hf := zw1 h hk (b := k) (by omega)
     have hlt2 : x.toNat < 2 ^ l.Names.length := by
      have h1 := (zdo h hk).1 k (by omega)
      unfold xy at h1
      simp only [Bool.and_eq_true, decide_eq_true_eq] at h1
      rw [hux]; exact h1.1.1
     have hd := hy l.Names.length hle hlt2
     rw [hux] at hd
     simp only [zg, hw, hlt, decide_true, cond_true, zl, n1, n2, and_self, if_true, zh, Int.toNat_natCast, hox, Option.bind_some, ey, hw2, hd]
     by_cases hq : k = wA l
     . have := hf.2 hq
       simp only [this, if_pos hq, decide_true, Bool.not_true, cond_false]
     . have : ¬ upN l k = 2 ^ l.Names.length - 1 := fun e => hq (hf.1 e)
       simp only [this, if_neg hq, decide_false, Bool.not_false, cond_true]) (by
     simp only [zg, hw]
     simp)
  have hs0 : ((0 : Nat) : Int) = 0 := rfl
  simp only [hs0] at hrun
  rw [hrun]
  have hsc : (zt (fun k => if k = wA l then some (Sum.inl (α := Int) (β := Int) (k : Int)) else none) 0 (l.Names.length - 1)).getD (Sum.inl ((l.Names.length - 1 : Nat) : Int)) = Sum.inl (wA l : Int) := by
   cases e : zt (fun k => if k = wA l then some (Sum.inl (α := Int) (β := Int) (k : Int)) else none) 0 (l.Names.length - 1) with
   | some r =>
     have : r = Sum.inl (wA l : Int) := zaa (v := Sum.inl (wA l : Int)) (fun i => by
      by_cases hi : i = wA l
      . exact .inl (by rw [if_pos hi, hi])
      . exact .inr (by rw [if_neg hi])) e
     rw [this]; rfl
   | none =>
     have hn := scan_none.1 e
     rcases Nat.lt_or_ge (wA l) (l.Names.length - 1) with g | g
     . have := hn (wA l) (by omega) (by omega)
       simp at this
     . have : wA l = l.Names.length - 1 := by omega
       rw [this]; rfl
  rw [hsc]
  rfl
 rw [hend]
 rfl
end Go.Sx.O
namespace Go.Sx.O
open Go
theorem zkp {l : TL} (h : LatIn l) : zja l = some (if (qy l).2 = 0 then ((wA l : Int), 0) else (0, (qy l).2)) := by
 apply Tot.eq
 unfold zja
 rw [zil h]
 simp only [Option.bind_some]
 by_cases hk : (qy l).2 = 0
 case neg =>
  have : zb3 l [0, 0] = (qy l).2 := by unfold zb3; rw [if_neg hk]
  simp only [this, hk, decide_false, Bool.not_false, cond_true, if_false]
  exact .mk rfl
 have ok := yv h hk
 have hpos := ok.pos
 have hle := ok.le
 have h0n : (0 : Int) < (l.Names.length : Int) := by omega
 have hl0 : wz l 0 = true := by unfold wz; rw [decide_eq_true (Int.le_refl 0), decide_eq_true h0n]; rfl
 have ha : zb3 l [0, 0] = 0 := by unfold zb3; rw [if_pos hk, List.all_cons, List.all_cons, hl0]; rfl
 simp only [ha, hk, decide_true, Bool.not_true, cond_false, if_true]
 obtain ⟨d, e1, dl, dd⟩ := zhs ok.u8 ok.le ok.len
 rw [e1]
 simp only [Option.bind_some, zu, List.length_map]
 refine Tot.count l.Names.length (fun k s => s.1 = (k : Int) /\ ∃ v : Nat, s.2 = (v : Int) /\ v < l.Names.length /\ ∀ i, i < l.Names.length -> up l i v = true -> ∀ j, j < k -> up l i j = true) ?_ ⟨rfl, 0, rfl, by omega, fun i _ _ j hj => by omega⟩
 rintro k ⟨i, w⟩ hkn ⟨h0, v, h1, h2, h3⟩
 simp only at h0 h1
 subst h0 h1
 simp only [zE, decide_eq_true_eq, decide_eq_false_iff_not]
 refine ⟨fun hlt => ?_, fun hlt => ?_⟩
 . obtain ⟨c, hc, hcn, hg⟩ := zo7 h hk (a := k) (b := v) (by omega) h2
   rw [uu d (dnN l) k v (by omega) (fun c hc => dd c (by omega)) (fun c hc2 => zhm l c hle) (by omega) (by omega)]
   unfold zdb
   rw [dl, hc]
   simp only [Option.bind_some, zg, tot_some, Sum.elim_inl]
   refine ⟨by omega, w64 (by omega) (by omega), c, rfl, hcn, fun i hi hu j hj => ?_⟩
   rw [zhz hi hg] at hu
   simp only [Bool.and_eq_true] at hu
   rcases Nat.lt_or_ge j k with g | g
   . exact h3 i hi hu.2 j g
   . have : j = k := by omega
     rw [this]; exact hu.1
 . have hke : k = l.Names.length := by omega
   simp only [tot_some, Sum.elim_inl, Sum.elim_inr]
   have := ztf h hk h2 fun a ha => h3 v h2 (ok.self v h2) a (by omega)
   rw [<- this]
end Go.Sx.O
namespace Go.Sx.O
open Go
theorem zt5 {l : TL} (hu : U8s l.Up) {a b : Nat} (ha : a < l.Up.length) (hb : b <= 8) : zcu l a b = some (up l a b) := by
 unfold zcu
 obtain ⟨x, hx⟩ := zB ha
 have hx' := hu.get hx
 have key : ∀ u : Fin 256, ∀ b : Fin 9, decide (bits .and .u8 (Int.fdiv (u.val : Int) (2 ^ min b.val (IntKind.bits .u8))) 1 = 1) = Nat.testBit u b := by decide +kernel
 have := key ⟨x.toNat, by omega⟩ ⟨b, by omega⟩
 simp only [Int.toNat_of_nonneg hx'.1] at this
 simp only [Int.natCast_nonneg, zh, Int.toNat_natCast, if_true, hx, Option.bind_some, zl, this, jL hx]
theorem zat {l : TL} (h : LatIn l) (hk : (qy l).2 = 0) (xs : List Int) (hx : xs.length <= 64) (hl : ∀ x ∈ xs, wz l x = true) : zib l xs = some (0, 0) := by
 unfold zib
 rw [zb2 h]
 have h64 : ¬ (64 : Int) < (xs.length : Int) := by omega
 simp only [Option.bind_some, hk, decide_true, Bool.not_true, cond_false, List.length_map, h64, decide_false]
 refine (yd xs.length (fun k => (k : Int)) () (fun k hk => ?_) (by simp) rfl).trans rfl
 obtain ⟨x, hx⟩ := zB hk
 have hq := hl x (List.mem_of_getElem? hx)
 unfold wz at hq
 simp only [Bool.and_eq_true, decide_eq_true_eq] at hq
 have hlt : (k : Int) < (xs.length : Int) := by omega
 have hw : IntKind.wrap .i64 ((k : Int) + 1) = ((k + 1 : Nat) : Int) := w64 (by omega) (by omega)
 have n1 : (0 : Int) <= (k : Int) := by omega
 have n2 : ¬ x < 0 := by omega
 have n3 : ¬ (l.Names.length : Int) <= x := by omega
 simp only [hlt, decide_true, cond_true, zh, n1, if_true, Int.toNat_natCast, hx, Option.bind_some, zg, hw, n2, n3, decide_false, cond_false]
def flK (l : TL) (xs : List Int) (a : Int) (k : Nat) : Option Int := match xs[k]? with
 | some x => if up l x.toNat a.toNat = true then none else some (k : Int)
 | none => none
def flV (l : TL) (xs : List Int) (a : Int) : Int × Int := match zt (flK l xs a) 0 xs.length with | some r => (r, 25) | none => (0, 0)
theorem zwl {l : TL} (h : LatIn l) (hk : (qy l).2 = 0) (xs : List Int) (hx : xs.length <= 64) (hl : ∀ x ∈ xs, wz l x = true) (a : Int) (ha : wz l a = true) :
 zgq l xs a = some (flV l xs a) := by
 have ok := yv h hk
 have hle := ok.le
 have hlen := ok.len
 unfold zgq
 rw [zat h hk xs hx hl]
 unfold wz at ha
 simp only [Bool.and_eq_true, decide_eq_true_eq] at ha
 have n2 : ¬ a < 0 := by omega
 have n3 : ¬ (l.Names.length : Int) <= a := by omega
 simp only [Option.bind_some, decide_true, Bool.not_true, cond_false, n2, n3, decide_false, List.length_map]
 have hi : zoa xs (l, a) = some (match zt (flK l xs a) 0 xs.length with | some r => r | none => -1) := by
  unfold zoa
  simp only [List.length_map]
  refine (qq xs.length (fun k => (k : Int)) (flK l xs a) () (fun k hk => ?_) (by simp) rfl).trans ?_
  . obtain ⟨x, hx⟩ := zB hk
    have hq := hl x (List.mem_of_getElem? hx)
    unfold wz at hq
    simp only [Bool.and_eq_true, decide_eq_true_eq] at hq
    have hlt : (k : Int) < (xs.length : Int) := by omega
    have hw : IntKind.wrap .i64 ((k : Int) + 1) = ((k + 1 : Nat) : Int) := w64 (by omega) (by omega)
    have n1 : (0 : Int) <= (k : Int) := by omega
    have hb : zcu l x a = some (up l x.toNat a.toNat) := by
     have := zt5 ok.u8 (a := x.toNat) (b := a.toNat) (by omega) (by omega)
     rwa [Int.toNat_of_nonneg hq.1, Int.toNat_of_nonneg ha.1] at this
    simp only [hlt, decide_true, cond_true, zh, n1, if_true, Int.toNat_natCast, hx, Option.bind_some, zg, hw, zsb, hb, flK]
    cases up l x.toNat a.toNat <;> simp
  . cases zt (flK l xs a) 0 xs.length <;> rfl
 rw [hi]
 unfold flV
 cases e : zt (flK l xs a) 0 xs.length with
 | none => simp
 | some r =>
   have : 0 <= r := by
    have key : ∀ {j k : Nat} {b : Int}, zt (flK l xs a) k j = some b -> 0 <= b := by
     intro j
     induction j with
     | zero => intro k b h; cases h
     | succ j ih =>
       intro k b h
       simp only [zt] at h
       cases hf : flK l xs a k with
       | none => rw [hf] at h; exact ih h
       | some z =>
         rw [hf] at h
         cases h
         unfold flK at hf
         split at hf
         . split at hf
           . cases hf
           . cases hf; omega
         . cases hf
    exact key e
   simp [this]
end Go.Sx.O
noncomputable section
namespace Go.Sx.O
open Go
def yI (l : TL) (t : TY) : Int :=
 if t.Rank < 0 \/ 2 < t.Rank then 7
 else if qf l t.Axes.1 = true /\ qf l t.Axes.2 = true /\ qf l t.Data = true then
  if ([t.Axes.1, t.Axes.2].drop t.Rank.toNat).all (fun x => decide (x = (wA l : Int))) = true then
   if ([t.Axes.1, t.Axes.2].take t.Rank.toNat).all (fun x => up l x.toNat t.Data.toNat) = true then 0 else 25
  else 6
 else 7
def jq (l : TL) (t : TY) : Int := if (qy l).2 = 0 then (if t.Kind = 1 \/ t.Kind = 2 then yI l t else 7) else (qy l).2
theorem zuc {β : Type} (v : β) (b : Int) (xs : List Int) (hx : xs.length <= 2) : zt (fun k => match xs[k]? with | some x => if x = b then none else some v | none => none) 0 xs.length = if xs.all (fun x => decide (x = b)) = true then none else some v := by
 match xs, hx with
 | [], _ => rfl
 | [x], _ => by_cases h : x = b <;> simp [zt, h]
 | [x, y], _ => by_cases h : x = b <;> by_cases g : y = b <;> simp [zt, h, g]
theorem zwn (l : TL) (a : Int) (xs : List Int) (hx : xs.length <= 2) : (flV l xs a).2 = if xs.all (fun x => up l x.toNat a.toNat) = true then 0 else 25 := by
 match xs, hx with
 | [], _ => rfl
 | [x], _ => cases h : up l x.toNat a.toNat <;> simp [flV, zt, flK, h]
 | [x, y], _ => cases h : up l x.toNat a.toNat <;> cases g : up l y.toNat a.toNat <;> simp [flV, zt, flK, h, g]
theorem zup {l : TL} (h : LatIn l) (hk : (qy l).2 = 0) (t : TY) (hr : ¬ (t.Rank < 0 \/ 2 < t.Rank)) (l1 : qf l t.Axes.1 = true) (l2 : qf l t.Axes.2 = true) (l3 : qf l t.Data = true) :
 (Option.bind (lpO (fun (s612 : Int) =>
 cond (decide (s612 < (↑(List.length (List.drop (Int.toNat t.Rank) (List.take (Int.toNat (↑(2 : Nat) : Int)) [SV.int IntKind.i64 t.Axes.fst, SV.int IntKind.i64 t.Axes.snd]))) : Int)))
 (zh (List.drop (Int.toNat t.Rank) (List.take (Int.toNat (↑(2 : Nat) : Int)) [t.Axes.fst, t.Axes.snd])) (s612) fun x617 =>
 cond (!decide (x617 = (wA l : Int)))
 (some (Sum.inr (Sum.inr ((6 : Int)))))
 (zg (IntKind.wrap IntKind.i64 (s612 + (1 : Int))) fun x619 =>
 some (Sum.inl (x619))))
 (some (Sum.inr (Sum.inl (()))))) ((0 : Int)))
 (Sum.elim (fun (_ : Unit) =>
 zl ((0 : Int) <= t.Rank /\ t.Rank <= (↑(2 : Nat) : Int)) (
 Option.bind (zgq l (List.drop (Int.toNat (0 : Int)) (List.take (Int.toNat t.Rank) [t.Axes.fst, t.Axes.snd])) (t.Data)) fun x653 =>
 cond (!decide (x653.snd = (0 : Int)))
 (some (x653.snd))
 (some ((0 : Int))))) some)) = some (yI l t) := by
 have e0 : List.take (Int.toNat ((2 : Nat) : Int)) [t.Axes.fst, t.Axes.snd] = [t.Axes.fst, t.Axes.snd] := rfl
 have e1 : List.take (Int.toNat ((2 : Nat) : Int)) [SV.int IntKind.i64 t.Axes.fst, SV.int IntKind.i64 t.Axes.snd] = [SV.int IntKind.i64 t.Axes.fst, SV.int IntKind.i64 t.Axes.snd] := rfl
 have e2 : List.drop (Int.toNat 0) (List.take (Int.toNat t.Rank) [t.Axes.fst, t.Axes.snd]) = List.take (Int.toNat t.Rank) [t.Axes.fst, t.Axes.snd] := rfl
 rw [e0, e1, e2]
 have hlen : (List.drop (Int.toNat t.Rank) [SV.int IntKind.i64 t.Axes.fst, SV.int IntKind.i64 t.Axes.snd]).length = (List.drop (Int.toNat t.Rank) [t.Axes.fst, t.Axes.snd]).length := by simp
 rw [hlen]
 have hd2 : (List.drop (Int.toNat t.Rank) [t.Axes.fst, t.Axes.snd]).length <= 2 := by simp
 have ht2 : (List.take (Int.toNat t.Rank) [t.Axes.fst, t.Axes.snd]).length <= 2 := by simp; omega
 have htl : ∀ x ∈ List.take (Int.toNat t.Rank) [t.Axes.fst, t.Axes.snd], wz l x = true := fun x hx => by
  have := List.mem_of_mem_take hx
  simp only [List.mem_cons, List.not_mem_nil, or_false] at this
  rcases this with rfl | rfl
  . exact l1
  . exact l2
 unfold yI
 rw [if_neg hr, if_pos ⟨l1, l2, l3⟩]
 generalize hD : List.drop (Int.toNat t.Rank) [t.Axes.fst, t.Axes.snd] = D at hd2 ⊢
 generalize hT : List.take (Int.toNat t.Rank) [t.Axes.fst, t.Axes.snd] = T at ht2 htl ⊢
 refine (qq D.length (fun k => (k : Int)) (fun k => match D[k]? with | some x => if x = (wA l : Int) then none else some (6 : Int) | none => none) () (fun k hk => ?_) (by simp) rfl).trans ?_
 . obtain ⟨x, hx⟩ := zB hk
   have hlt : (k : Int) < (D.length : Int) := by omega
   have hw : IntKind.wrap .i64 ((k : Int) + 1) = ((k + 1 : Nat) : Int) := w64 (by omega) (by omega)
   have n1 : (0 : Int) <= (k : Int) := by omega
   simp only [hlt, decide_true, cond_true, zh, n1, if_true, Int.toNat_natCast, hx, Option.bind_some, zg, hw]
   by_cases hb : x = (wA l : Int) <;> simp [hb]
 . rw [zuc (6 : Int) (wA l : Int) D hd2]
   by_cases hall : D.all (fun x => decide (x = (wA l : Int))) = true
   . simp only [hall, if_true]
     unfold zl
     rw [if_pos (by omega), zwl h hk T (by omega) htl t.Data l3]
     have := zwn l t.Data T ht2
     simp only [Option.bind_some]
     rw [this]
     split <;> rfl
   . rw [if_neg hall, if_neg hall]
end Go.Sx.O
end
namespace Go.Sx.O
open Go
theorem zit {l : TL} (h : LatIn l) (t : TY) : zf3 l t = some (jq l t) := by
 unfold zf3 jq
 rw [zur h]
 by_cases hk : (qy l).2 = 0
 case neg => simp [hk]
 simp only [hk, if_true, Option.bind_some, decide_true, Bool.not_true, cond_false, yP]
 by_cases r1 : t.Rank < 0
 . by_cases k1 : t.Kind = 1 <;> by_cases k2 : t.Kind = 2 <;> simp [k1, k2, r1, yI]
 by_cases r2 : 2 < t.Rank
 . by_cases k1 : t.Kind = 1 <;> by_cases k2 : t.Kind = 2 <;> simp [k1, k2, r1, r2, yI]
 have hr : ¬ (t.Rank < 0 \/ 2 < t.Rank) := by omega
 have hside : (0 : Int) <= t.Rank /\ t.Rank <= ((2 : Nat) : Int) := by omega
 cases l1 : qf l t.Axes.fst with
 | false => by_cases k1 : t.Kind = 1 <;> by_cases k2 : t.Kind = 2 <;> simp [k1, k2, r1, r2, yI, l1]
 | true =>
   cases l2 : qf l t.Axes.snd with
   | false => by_cases k1 : t.Kind = 1 <;> by_cases k2 : t.Kind = 2 <;> simp [k1, k2, r1, r2, yI, l1, l2]
   | true =>
     cases l3 : qf l t.Data with
     | false => by_cases k1 : t.Kind = 1 <;> by_cases k2 : t.Kind = 2 <;> simp [k1, k2, r1, r2, yI, l1, l2, l3]
     | true =>
       have key := zup h hk t hr l1 l2 l3
       simp only [Bool.not_true, cond_false, r1, r2, decide_false]
       by_cases k1 : t.Kind = 1
       . simp only [k1, decide_true, Bool.not_true, cond_false, true_or, if_true]
         rw [zl, if_pos hside]
         exact key
       . by_cases k2 : t.Kind = 2
         . simp only [k1, k2, decide_true, decide_false, Bool.not_true, Bool.not_false, cond_true, cond_false, or_true, if_true]
           rw [zl, if_pos hside]
           exact key
         . simp [k1, k2]
end Go.Sx.O
namespace Go.Sx.O
open Go
def bK {β : Type} (v : β) (b : Int) (xs : List Int) (k : Nat) : Option β := match xs[k]? with | some x => if x = b then none else some v | none => none
theorem zzb {β : Type} (v : β) (b : Int) (xs : List Int) (hx : xs.length <= 2) : zt (bK v b xs) 0 xs.length = if xs.all (fun x => decide (x = b)) = true then none else some v := by
 match xs, hx with
 | [], _ => rfl
 | [x], _ => by_cases h : x = b <;> simp [zt, bK, h]
 | [x, y], _ => by_cases h : x = b <;> by_cases g : y = b <;> simp [zt, bK, h, g]
def uK {β : Type} (v : β) (l : TL) (a : Int) (xs : List Int) (k : Nat) : Option β := match xs[k]? with | some x => if up l x.toNat a.toNat = true then none else some v | none => none
theorem zx4 {β : Type} (v : β) (l : TL) (a : Int) (xs : List Int) (hx : xs.length <= 2) : zt (uK v l a xs) 0 xs.length = if xs.all (fun x => up l x.toNat a.toNat) = true then none else some v := by
 match xs, hx with
 | [], _ => rfl
 | [x], _ => cases h : up l x.toNat a.toNat <;> simp [zt, uK, h]
 | [x, y], _ => cases h : up l x.toNat a.toNat <;> cases g : up l y.toNat a.toNat <;> simp [zt, uK, h, g]
theorem zks {l : TL} (h : LatIn l) (hk : (qy l).2 = 0) (t : TY) (hr : ¬ (t.Rank < 0 \/ 2 < t.Rank)) (l1 : qf l t.Axes.1 = true) (l2 : qf l t.Axes.2 = true) (l3 : qf l t.Data = true) :
 (Option.bind (lpO (fun (s598 : Int) =>
 cond (decide (s598 < (2 : Int)))
 (zl ((0 : Int) <= s598 /\ s598 < (↑(2 : Nat) : Int)) (
 zh ([t.Axes.fst, t.Axes.snd]) ((↑(Int.toNat s598) : Int)) fun x604 =>
 cond (!decide (x604 = (wA l : Int)))
 (some (Sum.inr (Sum.inr ((6 : Int)))))
 (zg (IntKind.wrap IntKind.i64 (s598 + (1 : Int))) fun x606 =>
 some (Sum.inl (x606)))))
 (some (Sum.inr (Sum.inl (()))))) (t.Rank))
 (Sum.elim (fun (_ : Unit) =>
 Option.bind (
 lpO (fun (s609 : Int) =>
 cond (decide (s609 < t.Rank))
 (zl ((0 : Int) <= s609 /\ s609 < (↑(2 : Nat) : Int)) (
 zh ([t.Axes.fst, t.Axes.snd]) ((↑(Int.toNat s609) : Int)) fun x614 =>
 Option.bind (xj l (x614) (t.Data)) fun x615 =>
 cond (!x615)
 (some (Sum.inr (Sum.inr ((25 : Int)))))
 (zg (IntKind.wrap IntKind.i64 (s609 + (1 : Int))) fun x617 =>
 some (Sum.inl (x617)))))
 (some (Sum.inr (Sum.inl (()))))) ((0 : Int)))
 (Sum.elim (fun (_ : Unit) =>
 some ((0 : Int))) some)) some)) = some (yI l t) := by
 have ok := yv h hk
 have hle := ok.le
 have hlen := ok.len
 unfold yI
 rw [if_neg hr, if_pos ⟨l1, l2, l3⟩]
 have l1' : wz l t.Axes.1 = true := l1
 have l2' : wz l t.Axes.2 = true := l2
 unfold qf at l1 l2 l3
 simp only [Bool.and_eq_true, decide_eq_true_eq] at l1 l2 l3
 have hB : ∀ x : Int, 0 <= x /\ x < (l.Names.length : Int) -> xj l x t.Data = some (up l x.toNat t.Data.toNat) := fun x hx => by
  have := jn ok.u8 (a := x.toNat) (b := t.Data.toNat) (by omega) (by omega)
  rwa [Int.toNat_of_nonneg hx.1, Int.toNat_of_nonneg l3.1] at this
 have hdl : (2 - t.Rank).toNat = ([t.Axes.1, t.Axes.2].drop t.Rank.toNat).length := by simp; omega
 have htl : t.Rank.toNat = ([t.Axes.1, t.Axes.2].take t.Rank.toNat).length := by simp; omega
 refine (qq (2 - t.Rank).toNat (fun k => t.Rank + (k : Int)) (bK (6 : Int) (wA l : Int) ([t.Axes.1, t.Axes.2].drop t.Rank.toNat)) () (fun k hk2 => ?_) ?_ (by simp)).trans ?_
 . have hkk : t.Rank.toNat + k < 2 := by omega
   have hw : IntKind.wrap .i64 (t.Rank + (k : Int) + 1) = t.Rank + ((k + 1 : Nat) : Int) := by rw [w64 (by omega) (by omega)]; omega
   have hlt : t.Rank + (k : Int) < 2 := by omega
   have n1 : (0 : Int) <= t.Rank + (k : Int) /\ t.Rank + (k : Int) < ((2 : Nat) : Int) := by omega
   have hn : (t.Rank + (k : Int)).toNat = t.Rank.toNat + k := by omega
   obtain ⟨x, hx⟩ := zB (l := [t.Axes.1, t.Axes.2]) (i := t.Rank.toNat + k) (by simpa using hkk)
   have n0 : (0 : Int) <= ((t.Rank.toNat + k : Nat) : Int) := by omega
   simp only [hlt, decide_true, cond_true, zl, n1, and_self, if_true, zh, hn, n0, Int.toNat_natCast, hx, Option.bind_some, zg, hw, bK, List.getElem?_drop]
   by_cases hb : x = (wA l : Int) <;> simp [hb]
 . have : ¬ t.Rank + ((2 - t.Rank).toNat : Int) < 2 := by omega
   simp only [this, decide_false, cond_false]
 . rw [hdl, zzb (6 : Int) (wA l : Int) _ (by simp)]
   by_cases hall : ([t.Axes.1, t.Axes.2].drop t.Rank.toNat).all (fun x => decide (x = (wA l : Int))) = true
   . simp only [hall, if_true]
     refine (qq t.Rank.toNat (fun k => (k : Int)) (uK (25 : Int) l t.Data ([t.Axes.1, t.Axes.2].take t.Rank.toNat)) () (fun k hk2 => ?_) ?_ rfl).trans ?_
     . have hkk : k < 2 := by omega
       have hw : IntKind.wrap .i64 ((k : Int) + 1) = ((k + 1 : Nat) : Int) := w64 (by omega) (by omega)
       have hlt : (k : Int) < t.Rank := by omega
       have n1 : (0 : Int) <= (k : Int) /\ (k : Int) < ((2 : Nat) : Int) := by omega
       obtain ⟨x, hx⟩ := zB (l := [t.Axes.1, t.Axes.2]) (i := k) (by simpa using hkk)
       have hxl : wz l x = true := by
        have := List.mem_of_getElem? hx
        simp only [List.mem_cons, List.not_mem_nil, or_false] at this
        rcases this with rfl | rfl
        . exact l1'
        . exact l2'
       have hxb : 0 <= x /\ x < (l.Names.length : Int) := by unfold wz at hxl; simpa using hxl
       simp only [hlt, decide_true, cond_true, zl, n1, and_self, if_true, zh, Int.toNat_natCast, hx, Option.bind_some, zg, hw, uK, hB x hxb, List.getElem?_take, hk2]
       cases up l x.toNat t.Data.toNat <;> simp
     . have : ¬ (t.Rank.toNat : Int) < t.Rank := by omega
       simp only [this, decide_false, cond_false]
     . rw (occs := .pos [2]) [htl]
       rw [zx4 (25 : Int) l t.Data _ (by simp; omega)]
       cases (List.take t.Rank.toNat [t.Axes.fst, t.Axes.snd]).all fun x => up l x.toNat t.Data.toNat <;> rfl
   . rw [if_neg hall, if_neg hall]
end Go.Sx.O
namespace Go.Sx.O
open Go
theorem zku {l : TL} (h : LatIn l) (t : TY) : ziq l t = some (jq l t) := by
 unfold ziq jq
 rw [xB l h.u8 h.names h.name, <- zbi h]
 by_cases hk : (qy l).2 = 0
 case neg => simp [hk]
 simp only [hk, if_true, Option.bind_some, decide_true, Bool.not_true, cond_false, yx]
 by_cases r1 : t.Rank < 0
 . by_cases k1 : t.Kind = 1 <;> by_cases k2 : t.Kind = 2 <;> simp [k1, k2, r1, yI]
 by_cases r2 : 2 < t.Rank
 . by_cases k1 : t.Kind = 1 <;> by_cases k2 : t.Kind = 2 <;> simp [k1, k2, r1, r2, yI]
 have hr : ¬ (t.Rank < 0 \/ 2 < t.Rank) := by omega
 cases l1 : qf l t.Axes.fst with
 | false => by_cases k1 : t.Kind = 1 <;> by_cases k2 : t.Kind = 2 <;> simp [k1, k2, r1, r2, yI, l1]
 | true =>
   cases l2 : qf l t.Axes.snd with
   | false => by_cases k1 : t.Kind = 1 <;> by_cases k2 : t.Kind = 2 <;> simp [k1, k2, r1, r2, yI, l1, l2]
   | true =>
     cases l3 : qf l t.Data with
     | false => by_cases k1 : t.Kind = 1 <;> by_cases k2 : t.Kind = 2 <;> simp [k1, k2, r1, r2, yI, l1, l2, l3]
     | true =>
       have key := zks h hk t hr l1 l2 l3
       simp only [Bool.not_true, cond_false, r1, r2, decide_false, zkp h, hk, if_true, Option.bind_some]
       by_cases k1 : t.Kind = 1
       . simp only [k1, decide_true, Bool.not_true, cond_false, true_or, if_true]
         exact key
       . by_cases k2 : t.Kind = 2
         . simp only [k1, k2, decide_true, decide_false, Bool.not_true, Bool.not_false, cond_true, cond_false, or_true, if_true]
           exact key
         . simp [k1, k2]
def ckK {α τ : Type} (c : α -> Bool) (v : τ) (L : List α) (j : Nat) : Option τ := match L[j]? with | some y => if c y = true then some v else none | none => none
theorem zbq {α τ : Type} (c : α -> Bool) (v : τ) (L : List α) (n : Nat) (hn : n <= L.length) : zt (ckK c v L) 0 n = if (L.take n).any c = true then some v else none := by
 by_cases h : (L.take n).any c = true
 . rw [if_pos h]
   cases e : zt (ckK c v L) 0 n with
   | some r =>
     have : r = v := zaa (v := v) (fun i => by
      unfold ckK
      cases L[i]? with
      | none => exact .inr rfl
      | some x => by_cases hx : c x = true <;> simp [hx]) e
     rw [this]
   | none =>
     exfalso
     rw [List.any_eq_true] at h
     obtain ⟨x, hx, hc⟩ := h
     obtain ⟨i, hi, hxi⟩ := List.getElem_of_mem hx
     rw [List.length_take] at hi
     have := scan_none.1 e i (by omega) (by omega)
     rw [List.getElem_take] at hxi
     unfold ckK at this
     rw [List.getElem?_eq_getElem (by omega), hxi] at this
     simp [hc] at this
 . rw [if_neg h, scan_none]
   intro i _ hi
   unfold ckK
   obtain ⟨x, hx⟩ := zB (l := L) (i := i) (by omega)
   rw [hx]
   have : ¬ c x = true := fun hc => h (by
    rw [List.any_eq_true]
    exact ⟨x, List.mem_take_iff_getElem.2 ⟨i, by omega, by rw [List.getElem?_eq_getElem (by omega)] at hx; exact Option.some.inj hx⟩, hc⟩)
   simp [this]
def zav (x y : TU) : Bool := decide (y.From = x.From) && decide (y.Goal = x.Goal)
def rlK (p : TP) (k : Nat) : Option (Int × Int) := match p.Rules[k]? with
 | some x => if qf p.Lattice x.From = true then (if qf p.Lattice x.Goal = true then (if x.From = x.Goal then some ((k : Int), 25) else if up p.Lattice x.Goal.toNat x.From.toNat = true then (if (p.Rules.take k).any (zav x) = true then some ((k : Int), 8) else if x.K < 2 then some ((k : Int), 3) else if 400 < x.K then some ((k : Int), 3) else none) else some ((k : Int), 25)) else some ((k : Int), 7)) else some ((k : Int), 7)
 | none => none
def rlC (p : TP) : Int × Int := if (64 : Int) < (p.Rules.length : Int) then (-1, 3) else match zt (rlK p) 0 p.Rules.length with | some r => r | none => (0, 0)
theorem zyu (x : TU) (L : List TU) : inL (x.From, x.Goal) (L.map fun y => (y.From, y.Goal)) = L.any (zav x) := by
 rw [Bool.eq_iff_iff, inL_iff, List.any_eq_true]
 simp only [List.mem_map, Prod.mk.injEq, zav, Bool.and_eq_true, decide_eq_true_eq]
theorem zzh {x : Int} (h0 : 0 <= x) (h1 : x < 256) {b : Nat} (hb : b <= 8) : decide (bits .and .u8 (Int.fdiv x (2 ^ min b (IntKind.bits .u8))) 1 = 0) = !Nat.testBit x.toNat b := by
 have key : ∀ u : Fin 256, ∀ b : Fin 9, decide (bits .and .u8 (Int.fdiv (u.val : Int) (2 ^ min b.val (IntKind.bits .u8))) 1 = 0) = !Nat.testBit u b := by decide +kernel
 have := key ⟨x.toNat, by omega⟩ ⟨b, by omega⟩
 simpa only [Int.toNat_of_nonneg h0] using this
theorem zhe (p : TP) (h : LatIn p.Lattice) (hk : (qy p.Lattice).2 = 0) : zom p = some (rlC p) := by
 have ok := yv h hk
 have hle := ok.le
 have hlen := ok.len
 unfold zom rlC
 simp only [List.length_map]
 by_cases h6 : (64 : Int) < (p.Rules.length : Int)
 . simp [h6]
 simp only [h6, decide_false, cond_false, if_false]
 refine (qq p.Rules.length (fun k => ((k : Int), (p.Rules.take k).map fun y => (y.From, y.Goal))) (rlK p) () (fun k hk => ?_) ?_ rfl).trans ?_
 . obtain ⟨x, hx⟩ := zB hk
   have hlt : (k : Int) < (p.Rules.length : Int) := by omega
   have hw : IntKind.wrap .i64 ((k : Int) + 1) = ((k + 1 : Nat) : Int) := w64 (by omega) (by omega)
   have n1 : (0 : Int) <= (k : Int) := by omega
   have e : (p.Rules.take (k + 1)).map (fun y => (y.From, y.Goal)) = (p.Rules.take k).map (fun y => (y.From, y.Goal)) ++ [(x.From, x.Goal)] := by rw [List.take_add_one, hx]; simp
   simp only [hlt, decide_true, cond_true, zh, n1, if_true, Int.toNat_natCast, hx, Option.bind_some, zg, hw, yP, rlK, e, zyu]
   cases l1 : qf p.Lattice x.From with
   | false => simp
   | true =>
     cases l2 : qf p.Lattice x.Goal with
     | false => simp
     | true =>
       unfold qf at l1 l2
       simp only [Bool.and_eq_true, decide_eq_true_eq] at l1 l2
       obtain ⟨u, hu⟩ := zB (l := p.Lattice.Up) (i := x.Goal.toNat) (by omega)
       have hu' := ok.u8.get hu
       have hb := zzh hu'.1 hu'.2 (b := x.From.toNat) (by omega)
       have n2 : (0 : Int) <= x.Goal := l2.1
       have n3 : (0 : Int) <= x.From := l1.1
       simp only [Bool.not_true, cond_false, n2, if_true, hu, Option.bind_some, zl, n3, hb, jL hu]
       by_cases hfg : x.From = x.Goal
       . simp [hfg]
       cases hbt : Nat.testBit u.toNat x.From.toNat with
       | false => simp [hfg]
       | true =>
         cases (p.Rules.take k).any (zav x) with
         | true => simp [hfg]
         | false =>
           by_cases k2 : x.K < 2
           . simp [hfg, k2]
           . by_cases k4 : 400 < x.K <;> simp [hfg, k2, k4]
 . simp
 . cases zt (rlK p) 0 p.Rules.length <;> rfl
theorem zi4 (p : TP) (h : LatIn p.Lattice) (hk : (qy p.Lattice).2 = 0) : zo5 p = some (rlC p) := by
 have ok := yv h hk
 have hle := ok.le
 have hlen := ok.len
 unfold zo5 rlC
 simp only [List.length_map]
 by_cases h6 : (64 : Int) < (p.Rules.length : Int)
 . simp [h6]
 simp only [h6, decide_false, cond_false, if_false]
 refine (qq p.Rules.length (fun k => (k : Int)) (rlK p) () (fun k hk => ?_) ?_ rfl).trans ?_
 . obtain ⟨x, hx⟩ := zB hk
   have hlt : (k : Int) < (p.Rules.length : Int) := by omega
   have hw : IntKind.wrap .i64 ((k : Int) + 1) = ((k + 1 : Nat) : Int) := w64 (by omega) (by omega)
   have n1 : (0 : Int) <= (k : Int) := by omega
   simp only [hlt, decide_true, cond_true, zh, n1, if_true, Int.toNat_natCast, hx, Option.bind_some, zg, hw, yx, rlK]
   cases l1 : qf p.Lattice x.From with
   | false => simp
   | true =>
     cases l2 : qf p.Lattice x.Goal with
     | false => simp
     | true =>
       unfold qf at l1 l2
       simp only [Bool.and_eq_true, decide_eq_true_eq] at l1 l2
       have hB := jn ok.u8 (a := x.Goal.toNat) (b := x.From.toNat) (by omega) (by omega)
       rw [Int.toNat_of_nonneg l2.1, Int.toNat_of_nonneg l1.1] at hB
       simp only [Bool.not_true, cond_false, if_true, hB, Option.bind_some]
       by_cases hfg : x.From = x.Goal
       . simp [hfg]
       cases hbt : up p.Lattice x.Goal.toNat x.From.toNat with
       | false => simp [hfg]
       | true =>
         simp only [hfg, decide_false, cond_false, Bool.not_true, if_true, if_false]
         refine (qq k (fun j => (j : Int)) (ckK (zav x) (Sum.inr (Sum.inr ((k : Int), (8 : Int)))) p.Rules) () (fun j hj => ?_) ?_ rfl).trans ?_
         . obtain ⟨y, hy⟩ := zB (l := p.Rules) (i := j) (by omega)
           have hlt2 : (j : Int) < (k : Int) := by omega
           have hw2 : IntKind.wrap .i64 ((j : Int) + 1) = ((j + 1 : Nat) : Int) := w64 (by omega) (by omega)
           have n2 : (0 : Int) <= (j : Int) := by omega
           simp only [hlt2, decide_true, cond_true, n2, if_true, Int.toNat_natCast, hy, Option.bind_some, hw2, ckK, zav]
           by_cases c1 : y.From = x.From <;> by_cases c2 : y.Goal = x.Goal <;> simp [c1, c2]
         . simp
         . rw [zbq _ _ _ k (by omega)]
           cases (p.Rules.take k).any (zav x) with
           | true => simp
           | false =>
             by_cases k2 : x.K < 2
             . simp [k2]
             . by_cases k4 : 400 < x.K <;> simp [k2, k4]
 . simp
 . cases zt (rlK p) 0 p.Rules.length <;> rfl
end Go.Sx.O
noncomputable section
namespace Go.Sx.O
open Go
structure PolIn (p : TP) : Prop where
 lat : LatIn p.Lattice
 chan : ∀ c ∈ p.Channels, c.s_.length <= 1000000
 var : ∀ c ∈ p.Vars, c.Name.length <= 1000000
def wa (p : TP) : Int × Int × Int :=
 if (qy p.Lattice).2 = 0 then (if (chC p).2 = 0 then (if (vrC (jq p.Lattice) p).2 = 0 then (if (rlC p).2 = 0 then (0, 0, 0) else (4, rlC p)) else (3, vrC (jq p.Lattice) p)) else (2, chC p)) else (1, qy p.Lattice)
theorem zqj {τ : Type} {P : τ -> Prop} {f : Nat -> Option τ} (hf : ∀ i r, f i = some r -> P r) : ∀ {n k r}, zt f k n = some r -> P r := by
 intro n
 induction n with
 | zero => intro k r h; cases h
 | succ n ih =>
   intro k r h
   simp only [zt] at h
   split at h
   . rename_i b hb; cases h; exact hf _ _ hb
   . exact ih h
theorem zmi {p : TP} (h : (rlC p).2 = 0) : rlC p = (0, 0) := by
 unfold rlC at h ⊢
 split at h
 . simp at h
 . rename_i h6
   rw [if_neg h6]
   cases e : zt (rlK p) 0 p.Rules.length with
   | none => rfl
   | some r =>
     exfalso
     rw [e] at h
     have := zqj (P := fun r : Int × Int => r.2 ≠ 0) (fun i r hr => by
      unfold rlK at hr
      revert hr
      repeat' split
      all_goals (intro hr; cases hr <;> simp)) e
     exact this h
theorem ja {p : TP} (h : PolIn p) : zds p = some (wa p) := by
 unfold zds wa zs0
 rw [zb2 h.lat, zd7 p h.chan, zin (jq p.Lattice) p h.var (fun c _ => zit h.lat _)]
 by_cases hk : (qy p.Lattice).2 = 0
 case neg => simp [hk]
 rw [zhe p h.lat hk]
 by_cases h2 : (chC p).2 = 0
 case neg => simp [hk, h2]
 by_cases h3 : (vrC (jq p.Lattice) p).2 = 0
 case neg => simp [hk, h2, h3]
 by_cases h4 : (rlC p).2 = 0
 case neg => simp [hk, h2, h3, h4]
 simp [hk, h2, h3, zmi h4]
theorem jp {p : TP} (h : PolIn p) : zdi p = some (wa p) := by
 unfold zdi wa
 rw [xB p.Lattice h.lat.u8 h.lat.names h.lat.name, <- zbi h.lat, ze3 p h.chan, zkm (jq p.Lattice) p h.var (fun c _ => zku h.lat _)]
 by_cases hk : (qy p.Lattice).2 = 0
 case neg => simp [hk]
 rw [zi4 p h.lat hk]
 by_cases h2 : (chC p).2 = 0
 case neg => simp [hk, h2]
 by_cases h3 : (vrC (jq p.Lattice) p).2 = 0
 case neg => simp [hk, h2, h3]
 by_cases h4 : (rlC p).2 = 0
 case neg => simp [hk, h2, h3, h4]
 simp [hk, h2, h3, h4]
theorem zef {p : TP} (h : (wa p).2.2 = 0) : (qy p.Lattice).2 = 0 := by
 unfold wa at h
 by_cases hk : (qy p.Lattice).2 = 0
 . exact hk
 . rw [if_neg hk] at h; exact absurd h hk
theorem zj1 {p : TP} (h : (wa p).2.2 = 0) : rlC p = (0, 0) := by
 unfold wa at h
 split at h
 . split at h
   . split at h
     . split at h
       . rename_i h4; exact zmi h4
       . rename_i h4; exact absurd h h4
     . rename_i h4; exact absurd h h4
   . rename_i h4; exact absurd h h4
 . rename_i h4; exact absurd h h4
def rfK (p : TP) (a b : Int) (k : Nat) : Option (Int × Int) := match p.Rules[k]? with
 | some x => if x.From = a then (if x.Goal = b then some (x.K, 0) else none) else none
 | none => none
def zs9 (p : TP) (a b : Int) : Int × Int :=
 if (wa p).2.2 = 0 then (if qf p.Lattice a = true then (if qf p.Lattice b = true then (match zt (rfK p a b) 0 p.Rules.length with | some r => r | none => (0, 4)) else (0, 7)) else (0, 7)) else (0, (wa p).2.2)
theorem ud {p : TP} (h : (wa p).2.2 = 0) : p.Rules.length <= 64 := by
 have := zj1 h
 unfold rlC at this
 split at this
 . cases this
 . omega
theorem zi6 {p : TP} (h : PolIn p) (a b : Int) : zlk p a b = some (zs9 p a b) := by
 unfold zlk zs9
 rw [ja h]
 by_cases h0 : (wa p).2.2 = 0
 case neg => simp [h0]
 have hl := ud h0
 simp only [Option.bind_some, h0, decide_true, Bool.not_true, cond_false, yP, if_true, List.length_map]
 cases qf p.Lattice a with
 | false => simp
 | true =>
   cases qf p.Lattice b with
   | false => simp
   | true =>
     simp only [Bool.not_true, cond_false, if_true]
     refine (qq p.Rules.length (fun k => (k : Int)) (rfK p a b) () (fun k hk => ?_) ?_ rfl).trans ?_
     . obtain ⟨x, hx⟩ := zB hk
       have hlt : (k : Int) < (p.Rules.length : Int) := by omega
       have hw : IntKind.wrap .i64 ((k : Int) + 1) = ((k + 1 : Nat) : Int) := w64 (by omega) (by omega)
       have n1 : (0 : Int) <= (k : Int) := by omega
       simp only [hlt, decide_true, cond_true, zh, n1, if_true, Int.toNat_natCast, hx, zg, hw, rfK]
       by_cases c1 : x.From = a <;> by_cases c2 : x.Goal = b <;> simp [c1, c2]
     . simp
     . cases zt (rfK p a b) 0 p.Rules.length <;> rfl
theorem zkn {p : TP} (h : PolIn p) (a b : Int) : zn0 p a b = some (zs9 p a b) := by
 unfold zn0 zs9
 rw [jp h]
 by_cases h0 : (wa p).2.2 = 0
 case neg => simp [h0]
 have hl := ud h0
 simp only [Option.bind_some, h0, decide_true, Bool.not_true, cond_false, cond_true, yx, if_true, List.length_map]
 cases qf p.Lattice a with
 | false => simp
 | true =>
   cases qf p.Lattice b with
   | false => simp
   | true =>
     simp only [Bool.not_true, cond_false, if_true]
     refine (qq p.Rules.length (fun k => (k : Int)) (rfK p a b) () (fun k hk => ?_) ?_ rfl).trans ?_
     . obtain ⟨x, hx⟩ := zB hk
       have hlt : (k : Int) < (p.Rules.length : Int) := by omega
       have hw : IntKind.wrap .i64 ((k : Int) + 1) = ((k + 1 : Nat) : Int) := w64 (by omega) (by omega)
       have n1 : (0 : Int) <= (k : Int) := by omega
       simp only [hlt, decide_true, cond_true, zh, n1, if_true, Int.toNat_natCast, hx, zg, hw, rfK]
       by_cases c1 : x.From = a <;> by_cases c2 : x.Goal = b <;> simp [c1, c2]
     . simp
     . cases zt (rfK p a b) 0 p.Rules.length <;> rfl
theorem ziy {α : Type} {L : List α} {N : Nat} {c : α -> Bool} (h : (L.take (min L.length N)).any c = false) (hn : L.length <= N) : ∀ x ∈ L, c x = false := by
 rw [Nat.min_eq_left hn, List.take_length] at h
 simpa using h
theorem zpu (L : List (List UInt8)) : ∃ b, Fz0 L = some b /\ (b = false -> L.length <= 12 /\ ∀ s ∈ L, s.length <= 100) := by
 unfold Fz0
 simp only [List.length_map]
 rw [qq (s0 := (0 : Int)) (min L.length 20) (fun k => (k : Int)) (ckK (fun s : List UInt8 => decide ((100 : Int) < (s.length : Int))) true L) () ?_ ?_ rfl, zbq _ _ _ _ (by omega)]
 . cases h : (L.take (min L.length 20)).any (fun s => decide ((100 : Int) < (s.length : Int))) with
   | true => exact ⟨true, rfl, fun h => by cases h⟩
   | false =>
     refine ⟨_, rfl, fun h12 => ?_⟩
     have h12 : L.length <= 12 := by simp at h12; omega
     exact ⟨h12, fun s hs => by have := ziy h (by omega) s hs; simp at this; omega⟩
 . intro k hk
   obtain ⟨x, hx⟩ := zB (l := L) (i := k) (by omega)
   have hlt : (k : Int) < (L.length : Int) := by omega
   have hlt2 : (k : Int) < 20 := by omega
   have hw : IntKind.wrap .i64 ((k : Int) + 1) = ((k + 1 : Nat) : Int) := w64 (by omega) (by omega)
   have n1 : (0 : Int) <= (k : Int) := by omega
   simp only [hlt, hlt2, decide_true, cond_true, zh, n1, if_true, Int.toNat_natCast, hx, zg, hw, ckK]
   by_cases c1 : (100 : Int) < (x.length : Int) <;> simp [c1]
 . by_cases c1 : ((min L.length 20 : Nat) : Int) < (L.length : Int)
   . have c2 : ¬ ((min L.length 20 : Nat) : Int) < 20 := by omega
     simp only [c1, c2, decide_true, decide_false, cond_true, cond_false]
   . simp only [c1, decide_false, cond_false]
theorem zwk (p : TP) (hu : U8s p.Lattice.Up) : ∃ b, Fz2 p = some b /\ (b = false -> PolIn p) := by
 unfold Fz2
 simp only [List.length_map]
 rw [qq (s0 := (0 : Int)) (min p.Channels.length 25) (fun k => (k : Int)) (ckK (fun s : TR => decide ((100 : Int) < (s.s_.length : Int))) true p.Channels) () ?_ ?_ rfl, zbq _ _ _ _ (by omega)]
 rotate_left
 . intro k hk
   obtain ⟨x, hx⟩ := zB (l := p.Channels) (i := k) (by omega)
   have hlt : (k : Int) < (p.Channels.length : Int) := by omega
   have hlt2 : (k : Int) < 25 := by omega
   have hw : IntKind.wrap .i64 ((k : Int) + 1) = ((k + 1 : Nat) : Int) := w64 (by omega) (by omega)
   have n1 : (0 : Int) <= (k : Int) := by omega
   simp only [hlt, hlt2, decide_true, cond_true, zh, n1, if_true, Int.toNat_natCast, hx, zg, hw, ckK]
   by_cases c1 : (100 : Int) < (x.s_.length : Int) <;> simp [c1]
 . by_cases c1 : ((min p.Channels.length 25 : Nat) : Int) < (p.Channels.length : Int)
   . have c2 : ¬ ((min p.Channels.length 25 : Nat) : Int) < 25 := by omega
     simp only [c1, c2, decide_true, decide_false, cond_true, cond_false]
   . simp only [c1, decide_false, cond_false]
 cases hc : (p.Channels.take (min p.Channels.length 25)).any (fun s => decide ((100 : Int) < (s.s_.length : Int))) with
 | true => exact ⟨true, rfl, fun h => by cases h⟩
 | false =>
   simp only [Bool.false_eq_true, if_false]
   rw [qq (s0 := (0 : Int)) (min p.Vars.length 45) (fun k => (k : Int)) (ckK (fun s : TV => decide ((100 : Int) < (s.Name.length : Int))) true p.Vars) () ?_ ?_ rfl, zbq _ _ _ _ (by omega)]
   rotate_left
   . intro k hk
     obtain ⟨x, hx⟩ := zB (l := p.Vars) (i := k) (by omega)
     have hlt : (k : Int) < (p.Vars.length : Int) := by omega
     have hlt2 : (k : Int) < 45 := by omega
     have hw : IntKind.wrap .i64 ((k : Int) + 1) = ((k + 1 : Nat) : Int) := w64 (by omega) (by omega)
     have n1 : (0 : Int) <= (k : Int) := by omega
     simp only [hlt, hlt2, decide_true, cond_true, zh, n1, if_true, Int.toNat_natCast, hx, zg, hw, ckK]
     by_cases c1 : (100 : Int) < (x.Name.length : Int) <;> simp [c1]
   . by_cases c1 : ((min p.Vars.length 45 : Nat) : Int) < (p.Vars.length : Int)
     . have c2 : ¬ ((min p.Vars.length 45 : Nat) : Int) < 45 := by omega
       simp only [c1, c2, decide_true, decide_false, cond_true, cond_false]
     . simp only [c1, decide_false, cond_false]
   cases hv : (p.Vars.take (min p.Vars.length 45)).any (fun s => decide ((100 : Int) < (s.Name.length : Int))) with
   | true => exact ⟨true, rfl, fun h => by cases h⟩
   | false =>
     simp only [Bool.false_eq_true, if_false]
     unfold Fz1
     obtain ⟨b, e, hb⟩ := zpu p.Lattice.Names
     rw [e]
     simp only [Option.bind_some, List.length_map]
     cases b with
     | true => exact ⟨true, rfl, fun h => by cases h⟩
     | false =>
       obtain ⟨hb1, hb2⟩ := hb rfl
       simp only [cond_false, Option.bind_some]
       by_cases h12 : (12 : Int) < (p.Lattice.Up.length : Int)
       . exact ⟨true, by simp [h12], fun h => by cases h⟩
       by_cases h20 : (20 : Int) < (p.Channels.length : Int)
       . exact ⟨true, by simp [h12, h20], fun h => by cases h⟩
       by_cases h40 : (40 : Int) < (p.Vars.length : Int)
       . exact ⟨true, by simp [h12, h20, h40], fun h => by cases h⟩
       simp only [h12, h20, h40, decide_false, cond_false]
       refine ⟨_, rfl, fun _ => ⟨⟨hu, by omega, fun s hs => by have := hb2 s hs; omega⟩, fun c h => ?_, fun c h => ?_⟩⟩
       . have := ziy hc (by omega) c h; simp at this; omega
       . have := ziy hv (by omega) c h; simp at this; omega
end Go.Sx.O
end
namespace Go.Sx.O
open Go
theorem zmp {p : TP} (h : (wa p).2.2 = 0) : p.Vars.length <= 32 /\ ∀ v ∈ p.Vars, jq p.Lattice v.Type_ = 0 := by
 unfold wa at h
 by_cases h1 : (qy p.Lattice).2 = 0
 case neg => rw [if_neg h1] at h; exact absurd h h1
 rw [if_pos h1] at h
 by_cases h2 : (chC p).2 = 0
 case neg => rw [if_neg h2] at h; exact absurd h h2
 rw [if_pos h2] at h
 by_cases h3 : (vrC (jq p.Lattice) p).2 = 0
 case neg => rw [if_neg h3] at h; exact absurd h h3
 unfold vrC at h3
 by_cases h6 : (32 : Int) < (p.Vars.length : Int)
 . rw [if_pos h6] at h3; exact absurd h3 (by decide)
 rw [if_neg h6] at h3
 refine ⟨by omega, fun v hv => ?_⟩
 cases hs : zt (vrK (jq p.Lattice) p) 0 p.Vars.length with
 | some r =>
   rw [hs] at h3
   have : r.2 ≠ 0 := zqj (P := fun r => r.2 ≠ 0) (fun i r hr => by
    unfold vrK at hr
    split at hr
    . split at hr
      . cases hr; assumption
      . split at hr
        . cases hr
        . cases hr; assumption
    . cases hr) hs
   exact absurd h3 this
 | none =>
   obtain ⟨i, hi, e⟩ := List.getElem_of_mem hv
   have := scan_none.1 hs i (by omega) (by omega)
   unfold vrK at this
   rw [List.getElem?_eq_getElem hi, e] at this
   simp only at this
   split at this
   . cases this
   . split at this
     . assumption
     . cases this
end Go.Sx.O
namespace Go.Sx.O
open Go
theorem zzm {l : List Int} (h : jP (inK .u8) l) : U8s l := fun x hx => zzt (h x hx)
end Go.Sx.O
namespace Go.Sx.O
open Go
end Go.Sx.O
namespace Go.Sx.O
open Go
theorem zx6 {x : Int} (h0 : 0 <= x) (h1 : x < 256) {b : Nat} (hb : b <= 8) : decide (bits .and .u8 (Int.fdiv x (2 ^ min b (IntKind.bits .u8))) 1 = 1) = Nat.testBit x.toNat b := by
 have key : ∀ u : Fin 256, ∀ b : Fin 9, decide (bits .and .u8 (Int.fdiv (u.val : Int) (2 ^ min b.val (IntKind.bits .u8))) 1 = 1) = Nat.testBit u b := by decide +kernel
 have := key ⟨x.toNat, by omega⟩ ⟨b, by omega⟩
 simpa only [Int.toNat_of_nonneg h0] using this
theorem labB_iff {l : TL} {a : Int} : qf l a = true ↔ 0 <= a /\ a < (l.Names.length : Int) := by simp [qf]
end Go.Sx.O
namespace Go.Sx.O
open Go
end Go.Sx.O
namespace Go.Sx.O
open Go
theorem zb4 {τ : Type} {f : Nat -> Option τ} {r : τ} : ∀ {n m : Nat}, zt f m n = some r -> ∃ k, m <= k /\ k < m + n /\ f k = some r /\ ∀ j, m <= j -> j < k -> f j = none
 | 0, m, h => by cases h
 | n + 1, m, h => by
   simp only [zt] at h
   cases hf : f m with
   | some q =>
     rw [hf] at h
     cases h
     exact ⟨m, Nat.le_refl _, by omega, hf, fun j a b => by omega⟩
   | none =>
     rw [hf] at h
     obtain ⟨k, k1, k2, k3, k4⟩ := zb4 h
     refine ⟨k, by omega, by omega, k3, fun j a b => ?_⟩
     by_cases e : j = m
     . subst e; exact hf
     . exact k4 j (by omega) b
end Go.Sx.O
namespace Go.Sx.O
open Go
end Go.Sx.O
namespace Go.Sx.O
open Go
theorem zg6 (l : List Int) (hl : l.length <= 1000000) : zne l l = some true := by
 unfold zne
 simp only [List.length_map, decide_true, Bool.not_true, cond_false]
 refine (yd l.length (fun k => (k : Int)) () (fun k hk => ?_) (by simp) rfl).trans rfl
 obtain ⟨x, hx⟩ := zB hk
 have hlt : (k : Int) < (l.length : Int) := by omega
 have hw : IntKind.wrap .i64 ((k : Int) + 1) = ((k + 1 : Nat) : Int) := w64 (by omega) (by omega)
 have n1 : (0 : Int) <= (k : Int) := by omega
 simp [hlt, zh, n1, hx, zg, hw]
end Go.Sx.O
namespace Go.Sx.O
open Go
def jb (l : TL) (b k : Nat) : Nat := ((List.range k).filter fun a => up l a b).length
theorem za2 {l : TL} {b k : Nat} : jb l b (k + 1) = jb l b k + if up l k b = true then 1 else 0 := by
 unfold jb
 rw [List.range_succ, List.filter_append, List.length_append]
 cases h : up l k b <;> simp [h]
theorem zi9 {l : TL} {b k : Nat} : jb l b k <= k := by
 have := List.length_filter_le (fun a => up l a b) (List.range k)
 simpa [jb] using this
def lvl (l : TL) (b : Nat) : Nat := jb l b l.Names.length
theorem zx8 {l : TL} (ok : LatOK l) {b : Nat} (hb : b < l.Names.length) : 1 <= lvl l b := by
 unfold lvl jb
 have : b ∈ (List.range l.Names.length).filter fun a => up l a b := by
  rw [List.mem_filter]; exact ⟨List.mem_range.2 hb, ok.self b hb⟩
 exact List.length_pos_of_mem this
def yr (n : Nat) (f : Nat -> Nat) : List Int := (List.range n).map fun i => (f i : Int)
theorem xb {n : Nat} {f : Nat -> Nat} : (yr n f).length = n := by simp [yr]
theorem jX {n : Nat} {f : Nat -> Nat} {i : Nat} (h : i < n) : (yr n f)[i]? = some (f i : Int) := by
 unfold yr
 rw [List.getElem?_map, List.getElem?_range h]; rfl
theorem zxc {n : Nat} {f : Nat -> Nat} {i v : Nat} : (yr n f).set i (v : Int) = yr n fun j => if j = i then v else f j := by
 refine List.ext_getElem? fun j => ?_
 rw [List.getElem?_set]
 by_cases e : i = j
 . subst e
   rw [if_pos rfl]
   by_cases hi : i < n
   . rw [if_pos (by rw [xb]; exact hi), jX hi, if_pos rfl]
   . rw [if_neg (by rw [xb]; exact hi), List.getElem?_eq_none (by rw [xb]; omega)]
 . rw [if_neg e]
   by_cases hj : j < n
   . rw [jX hj, jX hj, if_neg (fun h => e h.symm)]
   . rw [List.getElem?_eq_none (by rw [xb]; omega), List.getElem?_eq_none (by rw [xb]; omega)]
theorem uF {n : Nat} {f g : Nat -> Nat} (h : ∀ i, i < n -> f i = g i) : yr n f = yr n g := by
 unfold yr
 exact List.map_congr_left fun i hi => by rw [h i (List.mem_range.1 hi)]
def lvS (l : TL) (b k : Nat) (i : Nat) : Nat := if i < b then lvl l i else if i = b then jb l b k else 0
theorem zwx {l : TL} (ok : LatOK l) {a b : Nat} (ha : a < l.Names.length) (hb : b < l.Names.length) : zcu l (a : Int) (b : Int) = some (up l a b) := by
 have hle := ok.le
 have hlen := ok.len
 unfold zcu zh
 obtain ⟨x, hx⟩ := zB (l := l.Up) (i := a) (by omega)
 have hu := ok.u8 x (List.mem_of_getElem? hx)
 have n1 : (0 : Int) <= (a : Int) := by omega
 have n2 : (0 : Int) <= (b : Int) := by omega
 simp only [n1, if_true, Int.toNat_natCast, hx, Option.bind_some]
 unfold zl
 rw [if_pos n2, zx6 hu.1 hu.2 (by omega), jL hx]
def ltL (l : TL) (x y : Int) : Prop := lvl l x.toNat < lvl l y.toNat \/ (lvl l x.toNat = lvl l y.toNat /\ x < y)
theorem zqw {l : TL} {x : Int} : ¬ ltL l x x := by unfold ltL; omega
theorem zjn {l : TL} {x y z : Int} (h : ltL l x y) (k : ltL l y z) : ltL l x z := by unfold ltL at *; omega
theorem zys {l : TL} {x y : Int} (h : x ≠ y) : ltL l x y \/ ltL l y x := by unfold ltL; omega
def lvT (l : TL) : List Int := yr l.Names.length (lvl l)
theorem zql {l : TL} {x y : Int} (hx : qf l x = true) (hy : qf l y = true) : Tot (ziu (lvT l) x y) fun r => (r = true ↔ ltL l x y) := by
 obtain ⟨x0, x1⟩ := labB_iff.1 hx
 obtain ⟨y0, y1⟩ := labB_iff.1 hy
 unfold ziu zh
 have e1 : (lvT l)[x.toNat]? = some (lvl l x.toNat : Int) := jX (by omega)
 have e2 : (lvT l)[y.toNat]? = some (lvl l y.toNat : Int) := jX (by omega)
 simp only [x0, y0, if_true, e1, e2, Option.bind_some]
 by_cases e : (lvl l x.toNat : Int) = (lvl l y.toNat : Int)
 . simp only [e, decide_true, Bool.not_true, cond_false, tot_some, decide_eq_true_eq]
   unfold ltL; omega
 . simp only [e, decide_false, Bool.not_false, cond_true, tot_some, decide_eq_true_eq]
   unfold ltL; omega
theorem zzw {l : TL} {x y : Int} (hx : qf l x = true) (hy : qf l y = true) : Tot (zln x y (lvT l)) fun c => (c < 0 ↔ ltL l x y) := by
 unfold zln
 obtain ⟨r, e, q⟩ := zql hx hy
 obtain ⟨r2, e2, q2⟩ := zql hy hx
 rw [e, e2]
 cases r
 . cases r2
   . simp only [Option.bind_some, cond_false, tot_some]
     simpa using q
   . simp only [Option.bind_some, cond_false, cond_true, tot_some]
     simpa using q
 . simp only [Option.bind_some, cond_true, tot_some]
   simpa using q
end Go.Sx.O
namespace Go.Sx.O
open Go
theorem zea {α : Type} {x y : Option α} {Q : α -> Prop} (h : x = y) (k : Tot y Q) : Tot x Q := h ▸ k
theorem zxj {σ τ ε : Type} {step : σ -> Option (σ ⊕ (ε ⊕ τ))} {k1 : ε -> Option τ} {s0 : σ} {Q : τ -> Prop} (h : Tot (step s0) fun z => ∃ r, z = .inr (.inr r) /\ Q r) : Tot ((lpO step s0).bind (Sum.elim k1 some)) Q := by
 obtain ⟨z, e, r, rfl, q⟩ := h
 refine zea ?_ (tot_some.2 q)
 have := zcp (step := step) 1 (fun k => s0) (fun _ => some (.inr r : ε ⊕ τ)) (.inr r) (fun k hk => by rw [e]) 
 rw [this (by rw [e])]
 rfl
theorem zwq {l : TL} {A1 A2 : List Int} {x : Int} (hs : (A1 ++ A2).Pairwise (ltL l)) (h2 : ∀ a ∈ A2, ltL l x a) (h1 : A1 = [] \/ ∃ A0 y, A1 = A0 ++ [y] /\ ltL l y x) : (A1 ++ x :: A2).Pairwise (ltL l) := by
 rw [List.pairwise_append] at hs ⊢
 obtain ⟨p1, p2, p3⟩ := hs
 refine ⟨p1, List.pairwise_cons.2 ⟨h2, p2⟩, fun a ha b hb => ?_⟩
 rcases List.mem_cons.1 hb with rfl | hb
 . rcases h1 with rfl | ⟨A0, y, rfl, hy⟩
   . cases ha
   . rcases List.mem_append.1 ha with ha | ha
     . rw [List.pairwise_append] at p1
       exact zjn (p1.2.2 a ha y (by simp)) hy
     . simp only [List.mem_cons, List.not_mem_nil, or_false] at ha
       subst ha; exact hy
 . exact p3 a ha b hb
theorem zji {A B : List Int} {x : Int} : (A ++ x :: B)[A.length]? = some x := by simp
theorem zh6 {A B : List Int} {x y : Int} : (A ++ x :: B).set A.length y = A ++ y :: B := by simp
theorem zte {n : Nat} (h : n <= 12) : ∃ v, yn (n : Int) = some v := by
 unfold yn
 rw [if_pos (by omega), Int.toNat_natCast]
 exact ⟨zwj[n]'(by simp [zwj]; omega), List.getElem?_eq_getElem _⟩
set_option maxHeartbeats 1000000 in
theorem zpk {l : TL} (h : LatIn l) (hk : (qy l).2 = 0) {X : List Int} (hX : ∀ x ∈ X, qf l x = true) (hn : X.Nodup) (hl : X.length <= 12) : Tot (zi2 l X) fun Y => Y.Perm X /\ Y.Pairwise (ltL l) := by
 have ok := yv h hk
 have hle := ok.le
 have hlen := ok.len
 unfold zi2
 simp only [List.length_map]
 rw [qz]
 refine ⟨⟨by omega, trivial, by omega, by omega⟩, ?_⟩
 refine zea (yd l.Names.length (fun b => ((b : Int), yr l.Names.length (lvS l b 0))) (lvT l) (fun b hb => ?_) ?_ ?_) ?_
 . have hbt : (b : Int) < (l.Names.length : Int) := by omega
   have hwb : IntKind.wrap .i64 ((b : Int) + 1) = ((b + 1 : Nat) : Int) := w64 (by omega) (by omega)
   have n1 : (0 : Int) <= (b : Int) := by omega
   simp only [hbt, decide_true, cond_true]
   refine (yd l.Names.length (fun a => ((a : Int), yr l.Names.length (lvS l b a))) (yr l.Names.length (lvS l b l.Names.length)) (fun a ha => ?_) (by simp) rfl).trans ?_
   . have hat : (a : Int) < (l.Names.length : Int) := by omega
     have hwa : IntKind.wrap .i64 ((a : Int) + 1) = ((a + 1 : Nat) : Int) := w64 (by omega) (by omega)
     have hg := jX (f := lvS l b a) hb
     have hv : lvS l b a b = jb l b a := by simp [lvS]
     have hc := zi9 (l := l) (b := b) (k := a)
     have hwc : IntKind.wrap .i64 ((jb l b a : Int) + 1) = ((jb l b a + 1 : Nat) : Int) := w64 (by omega) (by omega)
     rw [hv] at hg
     simp only [hat, decide_true, cond_true, zwx ok ha hb, Option.bind_some]
     cases u : up l a b
     . simp only [cond_false, zg, hwa]
       have : yr l.Names.length (lvS l b a) = yr l.Names.length (lvS l b (a + 1)) := uF fun i _ => by
        unfold lvS
        rw [za2, u]; simp
       rw [this]
     . simp only [cond_true, xb, zl, n1, hbt, and_self, if_true, zh, Int.toNat_natCast, hg, Option.bind_some, zg, hwc, hwa, zxc]
       have : (yr l.Names.length fun j => if j = b then jb l b a + 1 else lvS l b a j) = yr l.Names.length (lvS l b (a + 1)) := uF fun i _ => by
        unfold lvS
        rw [za2, u]
        by_cases e : i = b
        . subst e; simp
        . simp [e]
       rw [this]
   . simp only [zg, hwb]
     have : yr l.Names.length (lvS l b l.Names.length) = yr l.Names.length (lvS l (b + 1) 0) := uF fun i _ => by
      unfold lvS
      by_cases e : i = b
      . subst e; simp [lvl]
      . have : (i < b + 1) = (i < b) := by simp; omega
        by_cases e2 : i = b + 1
        . subst e2; simp [jb]; omega
        . simp [e, e2, this]
     rw [this]
 . simp only [Int.lt_irrefl, decide_false, cond_false]
   have : yr l.Names.length (lvS l l.Names.length 0) = lvT l := uF fun i hi => by simp [lvS, hi]
   rw [this]
 . have : yr l.Names.length (lvS l 0 0) = List.replicate l.Names.length (0 : Int) := by
    refine List.ext_getElem? fun i => ?_
    by_cases hi : i < l.Names.length
    . rw [jX hi, List.getElem?_replicate, if_pos hi]
      have : lvS l 0 0 i = 0 := by unfold lvS; split <;> (try split) <;> simp_all [jb]
      rw [this]; rfl
    . rw [List.getElem?_eq_none (by rw [xb]; omega), List.getElem?_eq_none (by simp; omega)]
   simp [this]
 . rw [qz]
   refine ⟨by omega, ?_⟩
   have hw : IntKind.wrap .u64 (X.length : Int) = (X.length : Int) := by
    have : ∀ k : Fin 13, IntKind.wrap .u64 ((k.val : Nat) : Int) = (k.val : Int) := by decide +kernel
    exact this ⟨X.length, by omega⟩
   obtain ⟨v, hv⟩ := zte hl
   rw [zQ, hw, hv]
   simp only [Option.bind_some]
   refine zxj ?_
   have hw2 : IntKind.wrap .i64 ((X.length : Int) - 0) = (X.length : Int) := by rw [Int.sub_zero]; exact w64 (by omega) (by omega)
   have hl2 : (X.length : Int) <= 12 := by omega
   rw [zQ, hw2]
   simp only [hl2, decide_true, cond_true, zu]
   refine Tot.count (X.length - 1) (fun k s => s.1 = ((k + 1 : Nat) : Int) /\ ∃ A, s.2 = A ++ X.drop (k + 1) /\ A.Perm (X.take (k + 1)) /\ A.Pairwise (ltL l)) (fun k s hkk hP => ?_) ⟨rfl, X.take 1, (List.take_append_drop 1 X).symm, List.Perm.refl _, ?_⟩
   . obtain ⟨s1, s2⟩ := s
     obtain ⟨rfl, A, rfl, hperm, hpw⟩ := hP
     by_cases hlt : k + 1 < X.length
     . have hlt' : ((k + 1 : Nat) : Int) < (X.length : Int) := by omega
       obtain ⟨x, hx⟩ := zB hlt
       have hwk : IntKind.wrap .i64 (((k + 1 : Nat) : Int) + 1) = ((k + 1 + 1 : Nat) : Int) := w64 (by omega) (by omega)
       have hAl : A.length = k + 1 := by rw [hperm.length_eq]; simp; omega
       have hdrop : X.drop (k + 1) = x :: X.drop (k + 1 + 1) := by
        have := List.getElem?_eq_some_iff.1 hx
        obtain ⟨q, rfl⟩ := this
        exact List.drop_eq_getElem_cons q
       have htake : X.take (k + 1 + 1) = X.take (k + 1) ++ [x] := by rw [List.take_add_one, hx]; rfl
       have hxl := hX x (List.mem_of_getElem? hx)
       have hAm : ∀ a ∈ A, qf l a = true /\ a ≠ x := fun a ha => by
        have hm := hperm.mem_iff.1 ha
        refine ⟨hX a (List.mem_of_mem_take hm), fun e => ?_⟩
        have hnd : (X.take (k + 1 + 1)).Nodup := hn.sublist (List.take_sublist _ _)
        rw [htake, List.nodup_append] at hnd
        exact hnd.2.2 a hm x (by simp) e
       simp only [hlt', decide_true, cond_true]
       rw [zu]
       rw [hdrop]
       refine Tot.count (k + 1) (fun m s => s.1 = ((k + 1 : Nat) : Int) - (m : Int) /\ ∃ A1 A2, s.2 = A1 ++ x :: (A2 ++ X.drop (k + 1 + 1)) /\ A1.length + m = k + 1 /\ A1 ++ A2 = A /\ ∀ a ∈ A2, ltL l x a) (fun m s hmm hQ => ?_) ⟨by simp, A, [], by simp, by omega, by simp, by simp⟩
       obtain ⟨s1, s2⟩ := s
       obtain ⟨rfl, A1, A2, rfl, hA1, hA, hA2⟩ := hQ
       have fin : (A1 = [] \/ ∃ A0 y, A1 = A0 ++ [y] /\ ltL l y x) -> ∀ {τ2 : Type} (Q2 : τ2 -> Prop), Tot (zg (IntKind.wrap .i64 (((k + 1 : Nat) : Int) + 1)) fun x962 => (some (Sum.inl (x962, A1 ++ x :: (A2 ++ X.drop (k + 1 + 1)))) : Option ((Int × List Int) ⊕ τ2))) (Sum.elim (fun s' => k < X.length - 1 /\ s'.fst = ((k + 1 + 1 : Nat) : Int) /\ ∃ A, s'.snd = A ++ X.drop (k + 1 + 1) /\ A.Perm (X.take (k + 1 + 1)) /\ A.Pairwise (ltL l)) Q2) := by
        intro h1 τ2 Q2
        rw [zQ, hwk, tot_some]
        refine ⟨by omega, rfl, A1 ++ x :: A2, by simp, ?_, zwq (by rw [hA]; exact hpw) hA2 h1⟩
        rw [htake]
        have p1 : (A1 ++ x :: A2).Perm (x :: (A1 ++ A2)) := List.perm_middle
        have p2 : (x :: (A1 ++ A2)).Perm ((A1 ++ A2) ++ [x]) := (List.perm_append_singleton _ _).symm
        exact p1.trans (p2.trans (by rw [hA]; exact hperm.append_right _))
       have hj : ((k + 1 : Nat) : Int) - (m : Int) = (A1.length : Int) := by omega
       have hA1m : ∀ a ∈ A1, qf l a = true /\ a ≠ x := fun a ha => hAm a (by rw [<- hA]; exact List.mem_append_left _ ha)
       rw [hj]
       rcases List.eq_nil_or_concat A1 with rfl | ⟨A0, y, rfl⟩
       . simp only [List.length_nil, Int.ofNat_eq_natCast, Int.natCast_zero, Int.lt_irrefl, decide_false, cond_false, tot_some, Sum.elim_inr, Sum.elim_inl]
         exact fin (.inl rfl) _
       . rw [List.concat_eq_append] at *
         have hyl := hA1m y (by simp)
         have hlen1 : (A0 ++ [y]).length = A0.length + 1 := by simp
         have q0 : (0 : Int) < (((A0 ++ [y]).length : Nat) : Int) := by omega
         have hL : (A0 ++ [y] ++ x :: (A2 ++ X.drop (k + 1 + 1))).length = A0.length + 1 + 1 + (A2.length + (X.drop (k + 1 + 1)).length) := by simp; omega
         have hXb : A0.length + 1 + 1 + (A2.length + (X.drop (k + 1 + 1)).length) <= 100 := by
          have h1 : A0.length + 1 + A2.length = k + 1 := by
           have := congrArg List.length hA
           simp at this; omega
          have h2 : (X.drop (k + 1 + 1)).length <= 12 := by simp; omega
          omega
         have s1 : (0 : Int) <= (((A0 ++ [y]).length : Nat) : Int) /\ (((A0 ++ [y]).length : Nat) : Int) < (((A0 ++ [y] ++ x :: (A2 ++ X.drop (k + 1 + 1))).length : Nat) : Int) := by rw [hL, hlen1]; omega
         have hwj : IntKind.wrap .i64 ((((A0 ++ [y]).length : Nat) : Int) - 1) = (A0.length : Int) := by
          have : (((A0 ++ [y]).length : Nat) : Int) - 1 = (A0.length : Int) := by omega
          rw [this]; exact w64 (by omega) (by omega)
         have s2 : (0 : Int) <= (A0.length : Int) /\ (A0.length : Int) < (((A0 ++ [y] ++ x :: (A2 ++ X.drop (k + 1 + 1))).length : Nat) : Int) := by rw [hL]; omega
         have g1 : (A0 ++ [y] ++ x :: (A2 ++ X.drop (k + 1 + 1)))[(A0 ++ [y]).length]? = some x := zji
         have g2 : (A0 ++ [y] ++ x :: (A2 ++ X.drop (k + 1 + 1)))[A0.length]? = some y := by
          rw [List.append_assoc]; exact zji
         have p1 : (0 : Int) <= (((A0 ++ [y]).length : Nat) : Int) := s1.1
         have p2 : (0 : Int) <= (A0.length : Int) := s2.1
         obtain ⟨c, hc, qc⟩ := zzw hxl hyl.1
         simp only [q0, decide_true, cond_true, zl, s1, s2, if_true, and_self, zh, p1, p2, Int.toNat_natCast, g1, g2, Option.bind_some, zg, hwj, hc]
         by_cases hneg : c < 0
         . have hlt2 := qc.1 hneg
           have l3 : (((A0 ++ [y] ++ x :: (A2 ++ X.drop (k + 1 + 1))).map (SV.int IntKind.i64)).set (A0 ++ [y]).length (SV.int IntKind.i64 y)).length = A0.length + 1 + 1 + (A2.length + (X.drop (k + 1 + 1)).length) := by rw [List.length_set, List.length_map, hL]
           have s3 : (0 : Int) <= (A0.length : Int) /\ (A0.length : Int) < (((((A0 ++ [y] ++ x :: (A2 ++ X.drop (k + 1 + 1))).map (SV.int IntKind.i64)).set (A0 ++ [y]).length (SV.int IntKind.i64 y)).length : Nat) : Int) := by rw [l3]; omega
           have g3 : ((A0 ++ [y] ++ x :: (A2 ++ X.drop (k + 1 + 1))).set (A0 ++ [y]).length y)[A0.length]? = some y := by
            rw [zh6, List.append_assoc]; exact zji
           have sw : ((A0 ++ [y] ++ x :: (A2 ++ X.drop (k + 1 + 1))).set (A0 ++ [y]).length y).set A0.length x = A0 ++ x :: ((y :: A2) ++ X.drop (k + 1 + 1)) := by
            rw [zh6, List.append_assoc]; exact zh6
           simp only [hneg, decide_true, cond_true, s3, if_true, and_self, g3, Option.bind_some, sw, tot_some, Sum.elim_inl]
           refine ⟨by omega, by omega, A0, y :: A2, rfl, by omega, by rw [<- hA]; simp, fun a ha => ?_⟩
           rcases List.mem_cons.1 ha with rfl | ha
           . exact hlt2
           . exact hA2 a ha
         . simp only [hneg, decide_false, cond_false, tot_some, Sum.elim_inr, Sum.elim_inl]
           have gy : ltL l y x := by
            rcases zys (l := l) hyl.2 with g | g
            . exact g
            . exact absurd (qc.2 g) hneg
           have fx := fin (τ2 := Unit) (.inr ⟨A0, y, rfl, gy⟩) (fun _ => True)
           rw [zQ, tot_some] at fx
           exact fx
     . have hlt' : ¬ ((k + 1 : Nat) : Int) < (X.length : Int) := by omega
       have hd : X.drop (k + 1) = [] := List.drop_eq_nil_of_le (by omega)
       have ht : X.take (k + 1) = X := List.take_of_length_le (by omega)
       rw [hd, List.append_nil]
       rw [ht] at hperm
       have hAl := hperm.length_eq
       simp only [hlt', decide_false, cond_false, tot_some, Sum.elim_inr, Sum.elim_inl]
       by_cases h2 : (A.length : Int) < 2
       . simp only [h2, decide_true, cond_true, tot_some]
         exact ⟨A, rfl, hperm, hpw⟩
       . simp only [h2, decide_false, cond_false]
         refine zea (yd (A.length - 1) (fun i => ((i + 1 : Nat) : Int)) (false, (A.length : Int)) (fun i hi => ?_) ?_ rfl) ?_
         . have hit : ((i + 1 : Nat) : Int) < (A.length : Int) := by omega
           obtain ⟨u, hu⟩ := zB (l := A) (i := i + 1) (by omega)
           obtain ⟨w, hw'⟩ := zB (l := A) (i := i) (by omega)
           have n1 : (0 : Int) <= ((i + 1 : Nat) : Int) := by omega
           have n2 : (0 : Int) <= (i : Int) := by omega
           have n3 : (i : Int) < (A.length : Int) := by omega
           have w1 : IntKind.wrap .i64 (((i + 1 : Nat) : Int) - 1) = (i : Int) := by
            have : ((i + 1 : Nat) : Int) - 1 = (i : Int) := by omega
            rw [this]; exact w64 (by omega) (by omega)
           have w2 : IntKind.wrap .i64 (((i + 1 : Nat) : Int) + 1) = ((i + 1 + 1 : Nat) : Int) := w64 (by omega) (by omega)
           have hne : ¬ u = w := fun e => by
            have h3 := List.pairwise_iff_getElem.1 hpw i (i + 1) (by omega) (by omega) (by omega)
            rw [(List.getElem?_eq_some_iff.1 hu).2, (List.getElem?_eq_some_iff.1 hw').2, e] at h3
            exact zqw h3
           simp only [hit, decide_true, cond_true, zl, n1, n2, n3, and_self, if_true, zh, Int.toNat_natCast, hu, hw', Option.bind_some, zg, w1, w2, hne, decide_false, cond_false]
         . have e : ((A.length - 1 + 1 : Nat) : Int) = (A.length : Int) := by omega
           simp only [e, Int.lt_irrefl, decide_false, cond_false]
         . exact tot_some.2 ⟨A, rfl, hperm, hpw⟩
   . rcases X with _ | ⟨x, X'⟩
     . simp
     . simp
end Go.Sx.O
namespace Go.Sx.O
open Go
theorem zvt {l : TL} (ok : LatOK l) {a : Nat} (ha : a < l.Names.length) : zm5 l (a : Int) = some (lvl l a : Int) := by
 have hle := ok.le
 have hlen := ok.len
 unfold zm5
 simp only [List.length_map]
 refine (yd l.Names.length (fun k => ((k : Int), (jb l a k : Int))) (lvl l a : Int) (fun k hk => ?_) (by simp [lvl]) rfl).trans rfl
 have hlt : (k : Int) < (l.Names.length : Int) := by omega
 have hw : IntKind.wrap .i64 ((k : Int) + 1) = ((k + 1 : Nat) : Int) := w64 (by omega) (by omega)
 have hc := zi9 (l := l) (b := a) (k := k)
 have hwc : IntKind.wrap .i64 ((jb l a k : Int) + 1) = ((jb l a k + 1 : Nat) : Int) := w64 (by omega) (by omega)
 have hb := jn ok.u8 (a := k) (b := a) (by omega) (by omega)
 simp only [hlt, decide_true, cond_true, hb, Option.bind_some]
 cases u : up l k a
 . simp only [cond_false, zg, hw, za2, u]; simp
 . simp only [cond_true, zg, hw, hwc, za2, u]; simp
theorem zzp (X : List Int) (hX : X.length <= 1000) (a : Int) : zoj X a = some (decide (a ∈ X)) := by
 unfold zoj
 simp only [List.length_map]
 refine (qq X.length (fun k => (k : Int)) (fun k => match X[k]? with | some x => if x = a then some true else none | none => none) () (fun k hk => ?_) (by simp) rfl).trans ?_
 . obtain ⟨x, hx⟩ := zB hk
   have hlt : (k : Int) < (X.length : Int) := by omega
   have hw : IntKind.wrap .i64 ((k : Int) + 1) = ((k + 1 : Nat) : Int) := w64 (by omega) (by omega)
   have n1 : (0 : Int) <= (k : Int) := by omega
   simp only [hlt, decide_true, cond_true, zh, n1, if_true, Int.toNat_natCast, hx, Option.bind_some, zg, hw]
   by_cases e : x = a <;> simp [e]
 . cases hs : zt (fun k => match X[k]? with | some x => if x = a then some true else none | none => none) 0 X.length with
   | some r =>
     obtain ⟨k, _, h2, h3, _⟩ := zb4 hs
     obtain ⟨x, hx⟩ := zB (l := X) (i := k) (by omega)
     rw [hx] at h3
     simp only at h3
     by_cases e : x = a
     . rw [if_pos e] at h3
       cases h3
       have : a ∈ X := e ▸ List.mem_of_getElem? hx
       simp [this]
     . rw [if_neg e] at h3; cases h3
   | none =>
     have : ¬ a ∈ X := fun hm => by
      obtain ⟨k, hk⟩ := List.mem_iff_getElem?.1 hm
      have hlt : k < X.length := (List.getElem?_eq_some_iff.1 hk).1
      have := scan_none.1 hs k (by omega) (by omega)
      rw [hk] at this
      simp at this
     simp [this]
def xL (l : TL) (X : List Int) (m a : Nat) : List Int := ((List.range a).filter fun i => decide (lvl l i = m) && decide ((i : Int) ∈ X)).map fun (i : Nat) => (i : Int)
def yw (l : TL) (X : List Int) : Nat -> List Int
 | 0 => []
 | m + 1 => yw l X m ++ xL l X (m + 1) l.Names.length
theorem zjx {l : TL} {X : List Int} {m a : Nat} : xL l X m (a + 1) = xL l X m a ++ if lvl l a = m /\ (a : Int) ∈ X then [(a : Int)] else [] := by
 unfold xL
 rw [List.range_succ, List.filter_append, List.map_append]
 by_cases h : lvl l a = m /\ (a : Int) ∈ X
 . simp [h]
 . rw [if_neg h]
   have : (decide (lvl l a = m) && decide ((a : Int) ∈ X)) = false := by
    simp only [Bool.and_eq_false_iff, decide_eq_false_iff_not]
    by_cases h1 : lvl l a = m
    . exact .inr fun h2 => h ⟨h1, h2⟩
    . exact .inl h1
   simp [this]
theorem zl8 {l : TL} {X : List Int} {m a : Nat} : (xL l X m a).length <= a := by
 have := List.length_filter_le (fun i => decide (lvl l i = m) && decide ((i : Int) ∈ X)) (List.range a)
 simpa [xL] using this
theorem zfm {l : TL} {X : List Int} : ∀ m, (yw l X m).length <= m * l.Names.length
 | 0 => by simp [yw]
 | m + 1 => by
   have h1 := zfm (l := l) (X := X) m
   have h2 := zl8 (l := l) (X := X) (m := m + 1) (a := l.Names.length)
   simp only [yw, List.length_append, Nat.add_mul, Nat.one_mul]
   omega
theorem mem_layL {l : TL} {X : List Int} {m a : Nat} {x : Int} : x ∈ xL l X m a ↔ ∃ i : Nat, x = (i : Int) /\ i < a /\ lvl l i = m /\ x ∈ X := by
 unfold xL
 rw [List.mem_map]
 constructor
 . rintro ⟨i, hi, rfl⟩
   rw [List.mem_filter, List.mem_range, Bool.and_eq_true, decide_eq_true_iff, decide_eq_true_iff] at hi
   exact ⟨i, rfl, hi.1, hi.2.1, hi.2.2⟩
 . rintro ⟨i, rfl, h1, h2, h3⟩
   exact ⟨i, by rw [List.mem_filter, List.mem_range, Bool.and_eq_true, decide_eq_true_iff, decide_eq_true_iff]; exact ⟨h1, h2, h3⟩, rfl⟩
theorem mem_accL {l : TL} {X : List Int} {x : Int} : ∀ {m : Nat}, x ∈ yw l X m ↔ ∃ i : Nat, x = (i : Int) /\ i < l.Names.length /\ 1 <= lvl l i /\ lvl l i <= m /\ x ∈ X
 | 0 => by
   constructor
   . intro h; cases h
   . rintro ⟨i, _, _, h1, h2, _⟩; omega
 | m + 1 => by
   rw [yw, List.mem_append, mem_accL (m := m), mem_layL]
   constructor
   . rintro (⟨i, h1, h2, h3, h4, h5⟩ | ⟨i, h1, h2, h3, h4⟩)
     . exact ⟨i, h1, h2, h3, by omega, h5⟩
     . exact ⟨i, h1, h2, by omega, by omega, h4⟩
   . rintro ⟨i, h1, h2, h3, h4, h5⟩
     by_cases e : lvl l i = m + 1
     . exact .inr ⟨i, h1, h2, e, h5⟩
     . exact .inl ⟨i, h1, h2, h3, by omega, h5⟩
theorem zyk {l : TL} {X : List Int} {m a : Nat} : (xL l X m a).Pairwise (ltL l) := by
 induction a with
 | zero => simp [xL]
 | succ a ih =>
   rw [zjx, List.pairwise_append]
   refine ⟨ih, by split <;> simp, fun x hx y hy => ?_⟩
   obtain ⟨i, rfl, h1, h2, _⟩ := mem_layL.1 hx
   split at hy
   . rename_i h
     simp only [List.mem_cons, List.not_mem_nil, or_false] at hy
     subst hy
     unfold ltL
     simp only [Int.toNat_natCast]
     omega
   . cases hy
theorem zqx {l : TL} {X : List Int} : ∀ m, (yw l X m).Pairwise (ltL l)
 | 0 => by simp [yw]
 | m + 1 => by
   rw [yw, List.pairwise_append]
   refine ⟨zqx m, zyk, fun x hx y hy => ?_⟩
   obtain ⟨i, rfl, _, _, h1, _⟩ := mem_accL.1 hx
   obtain ⟨j, rfl, _, h2, _⟩ := mem_layL.1 hy
   unfold ltL
   simp only [Int.toNat_natCast]
   omega
theorem zkt {l : TL} (ok : LatOK l) (X : List Int) (hX : X.length <= 1000) : zo1 l X = some (yw l X l.Names.length) := by
 have hle := ok.le
 unfold zo1
 simp only [List.length_map]
 refine (yd l.Names.length (fun k => (((k + 1 : Nat) : Int), yw l X k)) (yw l X l.Names.length) (fun k hk => ?_) ?_ rfl).trans rfl
 . have hlt : ((k + 1 : Nat) : Int) <= (l.Names.length : Int) := by omega
   have hw : IntKind.wrap .i64 (((k + 1 : Nat) : Int) + 1) = ((k + 1 + 1 : Nat) : Int) := w64 (by omega) (by omega)
   simp only [hlt, decide_true, cond_true]
   refine (yd l.Names.length (fun a => ((a : Int), yw l X k ++ xL l X (k + 1) a)) (yw l X (k + 1)) (fun a ha => ?_) (by simp [yw]) (by simp [xL])).trans ?_
   . have hat : (a : Int) < (l.Names.length : Int) := by omega
     have hwa : IntKind.wrap .i64 ((a : Int) + 1) = ((a + 1 : Nat) : Int) := w64 (by omega) (by omega)
     have h1 := zfm (l := l) (X := X) k
     have h2 := zl8 (l := l) (X := X) (m := k + 1) (a := a)
     have h3 : k * l.Names.length <= 8 * 8 := Nat.mul_le_mul (by omega) (by omega)
     have hside : ((yw l X k ++ xL l X (k + 1) a).length + 1) * 8 <= 70368744177664 := by rw [List.length_append]; omega
     simp only [hat, decide_true, cond_true, zvt ok ha, zzp X hX, Option.bind_some, zjx]
     by_cases e1 : lvl l a = k + 1
     . have e1' : (lvl l a : Int) = ((k + 1 : Nat) : Int) := by omega
       by_cases e2 : (a : Int) ∈ X
       . simp only [e1', e1, e2, decide_true, cond_true, zl, hside, if_true, zg, hwa, and_self, List.append_assoc]
       . simp only [e1', e1, e2, decide_true, decide_false, cond_true, cond_false, zg, hwa, and_false, if_false, List.append_nil]
     . have e1' : ¬ (lvl l a : Int) = ((k + 1 : Nat) : Int) := by omega
       simp only [e1', e1, decide_false, cond_false, zg, hwa, false_and, if_false, List.append_nil]
   . simp only [zg, hw]
 . have : ¬ ((l.Names.length + 1 : Nat) : Int) <= (l.Names.length : Int) := by omega
   simp only [this, decide_false, cond_false]
theorem zm4 {α : Type} {R : α -> α -> Prop} (irr : ∀ a, ¬ R a a) (tr : ∀ a b c, R a b -> R b c -> R a c) : ∀ {l m : List α}, l.Pairwise R -> m.Pairwise R -> (∀ x, x ∈ l ↔ x ∈ m) -> l = m
 | [], [], _, _, _ => rfl
 | [], y :: m, _, _, h => by have := (h y).2 (by simp); cases this
 | x :: l, [], _, _, h => by have := (h x).1 (by simp); cases this
 | x :: l, y :: m, hl, hm, h => by
   obtain ⟨hx, hl'⟩ := List.pairwise_cons.1 hl
   obtain ⟨hy, hm'⟩ := List.pairwise_cons.1 hm
   have exy : x = y := by
    have h1 := (h x).1 (by simp)
    have h2 := (h y).2 (by simp)
    rcases List.mem_cons.1 h1 with e | e
    . exact e
    . rcases List.mem_cons.1 h2 with e2 | e2
      . exact e2.symm
      . exact absurd (tr _ _ _ (hx y e2) (hy x e)) (irr x)
   subst exy
   have : l = m := zm4 irr tr hl' hm' fun z => by
    constructor
    . intro hz
      have := (h z).1 (by simp [hz])
      rcases List.mem_cons.1 this with e | e
      . subst e; exact absurd (hx z hz) (irr z)
      . exact e
    . intro hz
      have := (h z).2 (by simp [hz])
      rcases List.mem_cons.1 this with e | e
      . subst e; exact absurd (hy z hz) (irr z)
      . exact e
   rw [this]
theorem zt0 {l : TL} (h : LatIn l) (hk : (qy l).2 = 0) {X : List Int} (hX : ∀ x ∈ X, qf l x = true) (hn : X.Nodup) (hl : X.length <= 12) : zi2 l X = some (yw l X l.Names.length) := by
 obtain ⟨Y, e, hp, hw⟩ := zpk h hk hX hn hl
 rw [e]
 congr 1
 refine zm4 (R := ltL l) (fun _ => zqw) (fun _ _ _ => zjn) hw (zqx _) fun x => ?_
 rw [mem_accL]
 constructor
 . intro hx
   have hx := hp.mem_iff.1 hx
   obtain ⟨x0, x1⟩ := labB_iff.1 (hX x hx)
   refine ⟨x.toNat, (Int.toNat_of_nonneg x0).symm, by omega, zx8 (yv h hk) (by omega), zi9, hx⟩
 . rintro ⟨i, rfl, _, _, _, hx⟩
   exact hp.mem_iff.2 hx
end Go.Sx.O
namespace Go.Sx.O
open Go
theorem zig {l : TL} (h : LatIn l) (hk : (qy l).2 = 0) {X : List Int} (hX : ∀ x ∈ X, qf l x = true) (hn : X.Nodup) (hl : X.length <= 12) : zlg l X = some (yw l X l.Names.length, 0) := by
 unfold zlg
 rw [zat h hk X (by omega) (fun x hx => hX x hx)]
 simp only [Option.bind_some, decide_true, Bool.not_true, cond_false, zt0 h hk hX hn hl]
theorem zid {l : TL} (h : LatIn l) (hk : (qy l).2 = 0) {X : List Int} (hX : ∀ x ∈ X, qf l x = true) (hl : X.length <= 12) : znd l X = some (0, 0) := by
 unfold znd
 rw [xB l h.u8 h.names h.name, <- zbi h]
 have h64 : ¬ (64 : Int) < (X.length : Int) := by omega
 simp only [Option.bind_some, hk, decide_true, Bool.not_true, cond_false, List.length_map, h64, decide_false]
 refine (yd X.length (fun k => (k : Int)) () (fun k hk' => ?_) (by simp) rfl).trans rfl
 obtain ⟨x, hx⟩ := zB hk'
 obtain ⟨x0, x1⟩ := labB_iff.1 (hX x (List.mem_of_getElem? hx))
 have hlt : (k : Int) < (X.length : Int) := by omega
 have hw : IntKind.wrap .i64 ((k : Int) + 1) = ((k + 1 : Nat) : Int) := w64 (by omega) (by omega)
 have n1 : (0 : Int) <= (k : Int) := by omega
 have c1 : ¬ x < 0 := by omega
 have c2 : ¬ (l.Names.length : Int) <= x := by omega
 simp only [hlt, decide_true, cond_true, zh, n1, if_true, Int.toNat_natCast, hx, Option.bind_some, c1, c2, decide_false, cond_false, zg, hw]
theorem zkz {l : TL} (h : LatIn l) (hk : (qy l).2 = 0) {X : List Int} (hX : ∀ x ∈ X, qf l x = true) (hl : X.length <= 12) : zjk l X = some (yw l X l.Names.length, 0) := by
 unfold zjk
 rw [zid h hk hX hl]
 simp only [Option.bind_some, decide_true, Bool.not_true, cond_false, zkt (yv h hk) X (by omega)]
end Go.Sx.O
namespace Go.Sx.O
open Go
structure RuleOK (p : TP) (k : Nat) (x : TU) : Prop where
 lf : qf p.Lattice x.From = true
 lg : qf p.Lattice x.Goal = true
 ne : x.From ≠ x.Goal
 up : up p.Lattice x.Goal.toNat x.From.toNat = true
 new : ∀ (j : Nat) y, j < k -> p.Rules[j]? = some y -> ¬ (y.From = x.From /\ y.Goal = x.Goal)
 k2 : 2 <= x.K
 k400 : x.K <= 400
theorem zqi {p : TP} (h : (wa p).2.2 = 0) {k : Nat} {x : TU} (hx : p.Rules[k]? = some x) : RuleOK p k x := by
 have hr := zj1 h
 have hl := ud h
 unfold rlC at hr
 rw [if_neg (by omega)] at hr
 have hlt : k < p.Rules.length := (List.getElem?_eq_some_iff.1 hx).1
 have key : ∀ (i : Nat) (r : Int × Int), rlK p i = some r -> r ≠ (0, 0) := by
  intro i r hi
  unfold rlK at hi
  split at hi
  . split at hi
    . split at hi
      . split at hi
        . cases hi; simp
        . split at hi
          . split at hi
            . cases hi; simp
            . split at hi
              . cases hi; simp
              . split at hi
                . cases hi; simp
                . cases hi
          . cases hi; simp
      . cases hi; simp
    . cases hi; simp
  . cases hi
 have hs : zt (rlK p) 0 p.Rules.length = none := by
  cases hs : zt (rlK p) 0 p.Rules.length with
  | none => rfl
  | some r =>
    rw [hs] at hr
    obtain ⟨i, _, _, hi, _⟩ := zb4 hs
    exact absurd hr (key i r hi)
 have := scan_none.1 hs k (by omega) (by omega)
 unfold rlK at this
 rw [hx] at this
 simp only at this
 split at this
 case isFalse => cases this
 rename_i h1
 split at this
 case isFalse => cases this
 rename_i h2
 split at this
 . cases this
 rename_i h3
 split at this
 case isFalse => cases this
 rename_i h4
 split at this
 . cases this
 rename_i h5
 split at this
 . cases this
 rename_i h6
 split at this
 . cases this
 rename_i h7
 refine ⟨h1, h2, h3, h4, fun j y hj hy e => h5 ?_, by omega, by omega⟩
 rw [List.any_eq_true]
 refine ⟨y, ?_, by simp [zav, e.1, e.2]⟩
 refine List.mem_of_getElem? (i := j) ?_
 rw [List.getElem?_take, if_pos hj]; exact hy
def wn (p : TP) (a : Int) (n : Nat) : List Int := ((p.Rules.take n).filter fun x => decide (x.From = a)).map (·.Goal)
theorem za8 {p : TP} {a : Int} {n : Nat} {x : TU} (hx : p.Rules[n]? = some x) : wn p a (n + 1) = wn p a n ++ if x.From = a then [x.Goal] else [] := by
 unfold wn
 rw [List.take_add_one, hx, List.filter_append, List.map_append]
 by_cases e : x.From = a <;> simp [e]
theorem mem_goalsL {p : TP} {a g : Int} {n : Nat} : g ∈ wn p a n ↔ ∃ (k : Nat) (x : TU), k < n /\ p.Rules[k]? = some x /\ x.From = a /\ x.Goal = g := by
 unfold wn
 rw [List.mem_map]
 constructor
 . rintro ⟨x, hx, rfl⟩
   rw [List.mem_filter, decide_eq_true_iff] at hx
   obtain ⟨k, hk⟩ := List.mem_iff_getElem?.1 hx.1
   rw [List.getElem?_take] at hk
   split at hk
   . rename_i h; exact ⟨k, x, h, hk, hx.2, rfl⟩
   . cases hk
 . rintro ⟨k, x, h1, h2, h3, rfl⟩
   refine ⟨x, ?_, rfl⟩
   rw [List.mem_filter, decide_eq_true_iff]
   refine ⟨List.mem_of_getElem? (i := k) ?_, h3⟩
   rw [List.getElem?_take, if_pos h1]; exact h2
theorem zbv {p : TP} (h : (wa p).2.2 = 0) {a : Int} {n : Nat} : ∀ g ∈ wn p a n, qf p.Lattice g = true := fun g hg => by
 obtain ⟨k, x, _, hx, _, rfl⟩ := mem_goalsL.1 hg
 exact (zqi h hx).lg
theorem xw {p : TP} (h : (wa p).2.2 = 0) {a : Int} : ∀ n, n <= p.Rules.length -> (wn p a n).Nodup
 | 0, _ => by simp [wn]
 | n + 1, hn => by
   obtain ⟨x, hx⟩ := zB (l := p.Rules) (i := n) (by omega)
   rw [za8 hx]
   by_cases e : x.From = a
   . rw [if_pos e, List.nodup_append]
     refine ⟨xw h n (by omega), by simp, fun g hg b hb => ?_⟩
     simp only [List.mem_cons, List.not_mem_nil, or_false] at hb
     subst hb
     obtain ⟨k, y, h1, h2, h3, h4⟩ := mem_goalsL.1 hg
     exact fun e2 => (zqi h hx).new k y h1 h2 ⟨h3.trans e.symm, h4.trans e2⟩
   . rw [if_neg e, List.append_nil]
     exact xw h n (by omega)
theorem zdr : ∀ (n : Nat) (X : List Int), X.Nodup -> (∀ x ∈ X, 0 <= x /\ x < (n : Int)) -> X.length <= n
 | 0, X, _, h => by
   cases X with
   | nil => simp
   | cons x X => have := h x (by simp); omega
 | n + 1, X, hn, h => by
   by_cases hm : (n : Int) ∈ X
   . have h1 := zdr n (X.erase (n : Int)) (hn.erase _) (fun x hx => by
      have h2 := h x (List.mem_of_mem_erase hx)
      have h3 : x ≠ (n : Int) := (hn.mem_erase_iff.1 hx).1
      omega)
     rw [List.length_erase_of_mem hm] at h1
     omega
   . have := zdr n X hn (fun x hx => by
      have h2 := h x hx
      have h3 : x ≠ (n : Int) := fun e => hm (e ▸ hx)
      omega)
     omega
theorem zg0 {p : TP} (hp : PolIn p) (h : (wa p).2.2 = 0) {a : Int} : (wn p a p.Rules.length).length <= 8 := by
 have ok := yv hp.lat (zef h)
 refine Nat.le_trans (zdr p.Lattice.Names.length _ (xw h _ (Nat.le_refl _)) fun x hx => ?_) ok.le
 obtain ⟨x0, x1⟩ := labB_iff.1 (zbv h x hx)
 omega
end Go.Sx.O
noncomputable section
namespace Go.Sx.O
open Go
def zso (p : TP) (s : List UInt8) : Int × Int := if (wa p).2.2 = 0 then (match zt (fun k => match p.Channels[k]? with | some x => if x.s_ = s then some (x.at_, (0 : Int)) else none | none => none) 0 p.Channels.length with | some r => r | none => (0, 4)) else (0, (wa p).2.2)
theorem zlt {p : TP} (h : (wa p).2.2 = 0) : p.Channels.length <= 1000 := by
 unfold wa at h
 by_cases h1 : (qy p.Lattice).2 = 0
 case neg => rw [if_neg h1] at h; exact absurd h h1
 rw [if_pos h1] at h
 by_cases h2 : (chC p).2 = 0
 case neg => rw [if_neg h2] at h; exact absurd h h2
 unfold chC at h2
 split at h2
 . cases h2
 . omega
theorem zex {p : TP} (h : PolIn p) (s : List UInt8) : zly p s = some (zso p s) := by
 unfold zly zso
 rw [ja h]
 by_cases hk : (wa p).2.2 = 0
 case neg => simp [hk]
 have hl := zlt hk
 simp only [Option.bind_some, hk, decide_true, Bool.not_true, cond_false, if_true, List.length_map]
 refine (qq p.Channels.length (fun k => (k : Int)) (fun k => match p.Channels[k]? with | some x => if x.s_ = s then some (x.at_, (0 : Int)) else none | none => none) () (fun k hk' => ?_) (by simp) rfl).trans ?_
 . obtain ⟨x, hx⟩ := zB hk'
   have hlt : (k : Int) < (p.Channels.length : Int) := by omega
   have hw : IntKind.wrap .i64 ((k : Int) + 1) = ((k + 1 : Nat) : Int) := w64 (by omega) (by omega)
   have n1 : (0 : Int) <= (k : Int) := by omega
   simp only [hlt, decide_true, cond_true, zh, n1, if_true, Int.toNat_natCast, hx, Option.bind_some, zg, hw]
   by_cases e : x.s_ = s <;> simp [e]
 . cases zt (fun k => match p.Channels[k]? with | some x => if x.s_ = s then some (x.at_, (0 : Int)) else none | none => none) 0 p.Channels.length <;> rfl
theorem zgb {p : TP} (h : PolIn p) (s : List UInt8) : zo9 p s = some (zso p s) := by
 unfold zo9 zso
 rw [jp h]
 by_cases hk : (wa p).2.2 = 0
 case neg => simp [hk]
 have hl := zlt hk
 simp only [Option.bind_some, hk, decide_true, Bool.not_true, cond_false, if_true, List.length_map]
 refine (qq p.Channels.length (fun k => (k : Int)) (fun k => match p.Channels[k]? with | some x => if x.s_ = s then some (x.at_, (0 : Int)) else none | none => none) () (fun k hk' => ?_) (by simp) rfl).trans ?_
 . obtain ⟨x, hx⟩ := zB hk'
   have hlt : (k : Int) < (p.Channels.length : Int) := by omega
   have hw : IntKind.wrap .i64 ((k : Int) + 1) = ((k + 1 : Nat) : Int) := w64 (by omega) (by omega)
   have n1 : (0 : Int) <= (k : Int) := by omega
   simp only [hlt, decide_true, cond_true, zh, n1, if_true, Int.toNat_natCast, hx, Option.bind_some, zg, hw]
   by_cases e : x.s_ = s <;> simp [e]
 . cases zt (fun k => match p.Channels[k]? with | some x => if x.s_ = s then some (x.at_, (0 : Int)) else none | none => none) 0 p.Channels.length <;> rfl
def zla : TY := TY.mk 0 0 (0, 0) 0
def zri (p : TP) (s : List UInt8) : TY × Int := if (wa p).2.2 = 0 then (match zt (fun k => match p.Vars[k]? with | some x => if x.Name = s then some (x.Type_, (0 : Int)) else none | none => none) 0 p.Vars.length with | some r => r | none => (zla, 4)) else (zla, (wa p).2.2)
theorem zkw {p : TP} (h : PolIn p) (s : List UInt8) : zm6 p s = some (zri p s) := by
 unfold zm6 zri
 rw [ja h]
 by_cases hk : (wa p).2.2 = 0
 case neg => simp [hk, zla]
 have hl := (zmp hk).1
 simp only [Option.bind_some, hk, decide_true, Bool.not_true, cond_false, if_true, List.length_map]
 refine (qq p.Vars.length (fun k => (k : Int)) (fun k => match p.Vars[k]? with | some x => if x.Name = s then some (x.Type_, (0 : Int)) else none | none => none) () (fun k hk' => ?_) (by simp) rfl).trans ?_
 . obtain ⟨x, hx⟩ := zB hk'
   have hlt : (k : Int) < (p.Vars.length : Int) := by omega
   have hw : IntKind.wrap .i64 ((k : Int) + 1) = ((k + 1 : Nat) : Int) := w64 (by omega) (by omega)
   have n1 : (0 : Int) <= (k : Int) := by omega
   simp only [hlt, decide_true, cond_true, zh, n1, if_true, Int.toNat_natCast, hx, Option.bind_some, zg, hw]
   by_cases e : x.Name = s <;> simp [e]
 . cases zt (fun k => match p.Vars[k]? with | some x => if x.Name = s then some (x.Type_, (0 : Int)) else none | none => none) 0 p.Vars.length <;> rfl
theorem zls {p : TP} (h : PolIn p) (s : List UInt8) : zni p s = some (zri p s) := by
 unfold zni zri
 rw [jp h]
 by_cases hk : (wa p).2.2 = 0
 case neg => simp [hk, zla]
 have hl := (zmp hk).1
 simp only [Option.bind_some, hk, decide_true, Bool.not_true, cond_false, if_true, List.length_map]
 refine (qq p.Vars.length (fun k => (k : Int)) (fun k => match p.Vars[k]? with | some x => if x.Name = s then some (x.Type_, (0 : Int)) else none | none => none) () (fun k hk' => ?_) (by simp) rfl).trans ?_
 . obtain ⟨x, hx⟩ := zB hk'
   have hlt : (k : Int) < (p.Vars.length : Int) := by omega
   have hw : IntKind.wrap .i64 ((k : Int) + 1) = ((k + 1 : Nat) : Int) := w64 (by omega) (by omega)
   have n1 : (0 : Int) <= (k : Int) := by omega
   simp only [hlt, decide_true, cond_true, zh, n1, if_true, Int.toNat_natCast, hx, Option.bind_some, zg, hw]
   by_cases e : x.Name = s <;> simp [e]
 . cases zt (fun k => match p.Vars[k]? with | some x => if x.Name = s then some (x.Type_, (0 : Int)) else none | none => none) 0 p.Vars.length <;> rfl
def zjb (p : TP) (a : Int) : List Int × Int := if (wa p).2.2 = 0 then (if qf p.Lattice a = true then (yw p.Lattice (wn p a p.Rules.length) p.Lattice.Names.length, 0) else ([], 7)) else ([], (wa p).2.2)
theorem zhy {p : TP} (h : PolIn p) (a : Int) : zlx p a = some (zjb p a) := by
 unfold zlx zjb
 rw [ja h]
 by_cases hk : (wa p).2.2 = 0
 case neg => simp [hk]
 have hl := ud hk
 have hlen := zg0 h hk (a := a)
 simp only [Option.bind_some, hk, decide_true, Bool.not_true, cond_false, if_true, yP, List.length_map]
 cases hb : qf p.Lattice a
 . simp
 simp only [Bool.not_true, cond_false, if_true]
 refine (yd p.Rules.length (fun k => ((k : Int), wn p a k)) (wn p a p.Rules.length) (fun k hk' => ?_) (by simp) rfl).trans ?_
 . obtain ⟨x, hx⟩ := zB hk'
   have hlt : (k : Int) < (p.Rules.length : Int) := by omega
   have hw : IntKind.wrap .i64 ((k : Int) + 1) = ((k + 1 : Nat) : Int) := w64 (by omega) (by omega)
   have n1 : (0 : Int) <= (k : Int) := by omega
   have hgl : (wn p a k).length <= k := by
    have := List.length_filter_le (fun x : TU => decide (x.From = a)) (p.Rules.take k)
    simp only [wn, List.length_map]
    have h2 : (p.Rules.take k).length <= k := by simp; omega
    omega
   have hside : ((wn p a k).length + 1) * 8 <= 70368744177664 := by omega
   simp only [hlt, decide_true, cond_true, zh, n1, if_true, Int.toNat_natCast, hx, Option.bind_some, zg, hw, za8 hx]
   by_cases e : x.From = a <;> simp [e, zl, hside]
 . rw [zig h.lat (zef hk) (zbv hk) (xw hk _ (Nat.le_refl _)) (by omega)]
   rfl
theorem zjm {p : TP} (h : PolIn p) (a : Int) : zof p a = some (zjb p a) := by
 unfold zof zjb
 rw [jp h]
 by_cases hk : (wa p).2.2 = 0
 case neg => simp [hk]
 have hl := ud hk
 have hlen := zg0 h hk (a := a)
 simp only [Option.bind_some, hk, decide_true, Bool.not_true, cond_false, cond_true, if_true, yx, List.length_map]
 cases hb : qf p.Lattice a
 . simp
 simp only [Bool.not_true, cond_false, if_true]
 refine (yd p.Rules.length (fun k => ((k : Int), wn p a k)) (wn p a p.Rules.length) (fun k hk' => ?_) (by simp) rfl).trans ?_
 . obtain ⟨x, hx⟩ := zB hk'
   have hlt : (k : Int) < (p.Rules.length : Int) := by omega
   have hw : IntKind.wrap .i64 ((k : Int) + 1) = ((k + 1 : Nat) : Int) := w64 (by omega) (by omega)
   have n1 : (0 : Int) <= (k : Int) := by omega
   have hgl : (wn p a k).length <= k := by
    have := List.length_filter_le (fun x : TU => decide (x.From = a)) (p.Rules.take k)
    simp only [wn, List.length_map]
    have h2 : (p.Rules.take k).length <= k := by simp; omega
    omega
   have hside : ((wn p a k).length + 1) * 8 <= 70368744177664 := by omega
   simp only [hlt, decide_true, cond_true, zh, n1, if_true, Int.toNat_natCast, hx, Option.bind_some, zg, hw, za8 hx]
   by_cases e : x.From = a <;> simp [e, zl, hside]
 . rw [zkz h.lat (zef hk) (zbv hk) (by omega)]
   rfl
theorem zwz {p : TP} (h : PolIn p) (a : Int) : (zjb p a).1.length <= 64 := by
 unfold zjb
 by_cases hk : (wa p).2.2 = 0
 . rw [if_pos hk]
   have ok := yv h.lat (zef hk)
   by_cases hb : qf p.Lattice a = true
   . rw [if_pos hb]
     have h1 := zfm (l := p.Lattice) (X := wn p a p.Rules.length) p.Lattice.Names.length
     have h2 : p.Lattice.Names.length * p.Lattice.Names.length <= 8 * 8 := Nat.mul_le_mul ok.le ok.le
     exact Nat.le_trans h1 h2
   . rw [if_neg hb]; exact Nat.zero_le _
 . rw [if_neg hk]; exact Nat.zero_le _
theorem zko (p : TP) (s : List UInt8) (x : Int × Int) (w1 : W_TP p) (_ : True) (_ : w2 (inK .i64) x) : zrn p s x = some true := by
 unfold zrn
 obtain ⟨b, hb, hf⟩ := zwk p (zzm w1.Lattice.Up)
 rw [hb]
 cases b
 case true => rfl
 have h := hf rfl
 simp only [Option.bind_some, cond_false]
 by_cases hs : (100 : Int) < (s.length : Int)
 . simp [hs]
 simp only [hs, decide_false, cond_false]
 rw [zex h, zgb h, zkw h, zls h, zi6 h, zkn h, zhy h, zjm h]
 simp only [Option.bind_some, decide_true, Bool.and_self, Bool.not_true, cond_false, cond_true, Bool.and_true]
 rw [zg6 _ (Nat.le_trans (zwz h _) (by omega))]
 rfl
end Go.Sx.O
end
