/-
  An own text of this claim.
-/
import Derived.Test.YtfonolbnhhidmaaGreatDoorP1
import Derived.Lib.ItoaLen
namespace Go.Sx.O
open Go
def jI (ns : List (List UInt8)) (i : Nat) : Option (Int × Int) :=
 if uo (ns.getD i []) = true then (if ns.getD i [] ∈ ns.take i then some ((i : Int), 8) else none) else some ((i : Int), 6)
def jb (ns : List (List UInt8)) : Int × Int := if ns.length < 1 \/ 8 < ns.length then (-1, 3) else (zt (jI ns) 0 ns.length).getD (0, 0)
theorem jv {α : Type} {l : List α} {i : Nat} {d x : α} (h : l[i]? = some x) : l.getD i d = x := by rw [List.getD_eq_getElem?_getD, h]; rfl
theorem zxc (ns : List (List UInt8)) (h : ns.length <= 20) (hn : ∀ s ∈ ns, s.length <= 1000) : zkt ns = some (jb ns) := by
 unfold zkt jb
 simp only [List.length_map]
 by_cases h1 : ns.length < 1
 . have : (ns.length : Int) < 1 := by omega
   simp [h1, this]
 by_cases h2 : 8 < ns.length
 . have : (8 : Int) < ns.length := by omega
   have g1 : ¬ (ns.length : Int) < 1 := by omega
   simp [h2, this, g1]
 have g1 : ¬ (ns.length : Int) < 1 := by omega
 have g2 : ¬ (8 : Int) < ns.length := by omega
 simp only [g1, g2, h1, h2, decide_false, cond_false, or_self, if_false]
 rw [wB ns.length (jI ns) () (fun k hk => ?_) (by simp)]
 . cases zt (jI ns) 0 ns.length <;> rfl
 . obtain ⟨x, hx⟩ := zG (l := ns) (i := k) hk
   have hxl := hn x (List.mem_of_getElem? hx)
   simp only [Int.ofNat_lt, hk, decide_true, cond_true, zh, Int.toNat_natCast, hx, Option.bind_some, zf, Int.natCast_nonneg, if_true]
   rw [zlh x (by omega), xp _ _ (by simp; omega)]
   unfold jI
   rw [jv hx, w64 (by omega) (by omega)]
   cases e : uo x with
   | false => simp
   | true =>
     have hk' : k <= ns.length := by omega
     simp only [Option.bind_some, Bool.not_true, cond_false, Int.toNat_zero, List.drop_zero, if_true]
     by_cases hm : x ∈ ns.take k
     . simp [hm, zi, hk']
     . simp [hm, zi, hk']
theorem zi5 (c : UInt8) : zpq (c.toNat : Int) = some (decide (97 <= c.toNat) && decide (c.toNat <= 122)) := by
 unfold zpq
 by_cases h : (97 : Int) <= c.toNat
 . have : 97 <= c.toNat := by omega
   simp only [h, this, decide_true, cond_true, Bool.true_and]
   congr 1
   rw [Bool.eq_iff_iff]; simp; omega
 . have : ¬ 97 <= c.toNat := by omega
   simp only [h, this, decide_false, cond_false, Bool.false_and]
theorem zsp (c : UInt8) : ug (c.toNat : Int) = some (decide (48 <= c.toNat) && decide (c.toNat <= 57)) := by
 unfold ug
 by_cases h : (48 : Int) <= c.toNat
 . have : 48 <= c.toNat := by omega
   simp only [h, this, decide_true, cond_true, Bool.true_and]
   congr 1
   rw [Bool.eq_iff_iff]; simp; omega
 . have : ¬ 48 <= c.toNat := by omega
   simp only [h, this, decide_false, cond_false, Bool.false_and]
theorem zwi (c : UInt8) : decide (c ∈ wordSet) = (decide (97 <= c.toNat) && decide (c.toNat <= 122) || (decide (48 <= c.toNat) && decide (c.toNat <= 57)) || decide (c.toNat = 45)) := by
 have key : ∀ n : Fin 256, decide (UInt8.ofNat n ∈ wordSet) = (decide (97 <= n.val) && decide (n.val <= 122) || (decide (48 <= n.val) && decide (n.val <= 57)) || decide (n.val = 45)) := by decide +kernel
 have := key ⟨c.toNat, c.toNat_lt⟩
 simpa using this
theorem zls (s : List UInt8) (h : s.length <= 1000000000) : zuh s = some (uo s) := by
 unfold zuh
 cases s with
 | nil => rfl
 | cons a r =>
   have g1 : ¬ ((a :: r).length : Int) < 1 := by simp; omega
   simp only [g1, decide_false, cond_false]
   unfold uo
   by_cases h1 : (16 : Int) < ((a :: r).length : Int)
   . have : ¬ (a :: r).length <= 16 := by omega
     simp only [h1, decide_true, cond_true, this, decide_false, Bool.false_and]
   have h1' : (a :: r).length <= 16 := by omega
   have e5 : zh (a :: r) 0 = fun f => (f a : Option Bool) := rfl
   simp only [h1, decide_false, cond_false, h1', decide_true, Bool.true_and, e5, zi5, Option.bind_some]
   cases e : (decide (97 <= a.toNat) && decide (a.toNat <= 122)) with
   | false => rfl
   | true =>
     simp only [Bool.not_true, cond_false, Bool.true_and]
     generalize a :: r = s at *
     rw [wB s.length (fun k => if decide (s.getD k 0 ∈ wordSet) = true then none else some false) () (fun k hk => ?_) (by simp)]
     . cases hs : zt (fun k => if decide (s.getD k 0 ∈ wordSet) = true then none else some false) 0 s.length with
       | none =>
         have := scan_none.1 hs
         simp only
         congr 1
         symm
         rw [List.all_eq_true]
         intro c hc
         obtain ⟨i, hi, rfl⟩ := List.getElem_of_mem hc
         have := this i (by omega) (by omega)
         rw [jv (List.getElem?_eq_getElem hi)] at this
         split at this
         . assumption
         . cases this
       | some b =>
         simp only
         congr 1
         have hall : ¬ s.all (fun c => decide (c ∈ wordSet)) = true := by
          intro hall
          rw [List.all_eq_true] at hall
          have : zt (fun k => if decide (s.getD k 0 ∈ wordSet) = true then none else some false) 0 s.length = none := scan_none.2 fun i _ hi => by
           have hi' : i < s.length := by omega
           rw [jv (List.getElem?_eq_getElem hi'), if_pos (hall _ (List.getElem_mem hi'))]
          rw [this] at hs; cases hs
         have hb : b = false := by
          have key : ∀ {j k : Nat}, zt (fun k => if decide (s.getD k 0 ∈ wordSet) = true then none else some false) k j = some b -> b = false := by
           intro j
           induction j with
           | zero => intro k h; cases h
           | succ j ih =>
             intro k h
             simp only [zt] at h
             split at h
             . rename_i r hr
               cases h
               split at hr
               . cases hr
               . cases hr; rfl
             . exact ih h
          exact key hs
         rw [hb]
         cases e : s.all (fun c => decide (c ∈ wordSet)) with
         | false => rfl
         | true => exact absurd e hall
     . obtain ⟨x, hx⟩ := zG (l := s) (i := k) hk
       simp only [Int.ofNat_lt, hk, decide_true, cond_true, zh, Int.toNat_natCast, hx, Option.bind_some, zf, Int.natCast_nonneg, if_true, zi5, zsp]
       rw [jv hx, w64 (by omega) (by omega), zwi]
       cases (decide (97 <= x.toNat) && decide (x.toNat <= 122)) with
       | true => simp
       | false =>
         cases (decide (48 <= x.toNat) && decide (x.toNat <= 57)) with
         | true => simp
         | false =>
           by_cases h45 : x.toNat = 45
           . simp [h45]
           . have : ¬ (x.toNat : Int) = 45 := by omega
             simp [h45, this]
theorem zoe (ns : List (List UInt8)) (h : ns.length <= 20) (hn : ∀ s ∈ ns, s.length <= 1000) : zt9 ns = some (jb ns) := by
 unfold zt9 jb
 simp only [List.length_map]
 by_cases h1 : ns.length < 1
 . have : (ns.length : Int) < 1 := by omega
   simp [h1, this]
 by_cases h2 : 8 < ns.length
 . have : (8 : Int) < ns.length := by omega
   have g1 : ¬ (ns.length : Int) < 1 := by omega
   simp [h2, this, g1]
 have g1 : ¬ (ns.length : Int) < 1 := by omega
 have g2 : ¬ (8 : Int) < ns.length := by omega
 simp only [g1, g2, h1, h2, decide_false, cond_false, or_self, if_false]
 rw [wB ns.length (jI ns) () (fun k hk => ?_) (by simp)]
 . cases zt (jI ns) 0 ns.length <;> rfl
 . obtain ⟨x, hx⟩ := zG (l := ns) (i := k) hk
   have hxl := hn x (List.mem_of_getElem? hx)
   simp only [Int.ofNat_lt, hk, decide_true, cond_true, zh, Int.toNat_natCast, hx, Option.bind_some, Int.natCast_nonneg, if_true]
   rw [zls x (by omega)]
   unfold jI
   rw [jv hx]
   cases e : uo x with
   | false => simp
   | true =>
     simp only [Option.bind_some, Bool.not_true, cond_false, if_true]
     rw [wB k (fun j => if ns.getD j [] = x then some (.inr (.inr ((k : Int), (8 : Int)))) else none) () (fun j hj => ?_) (by simp)]
     . by_cases hm : x ∈ ns.take k
       . obtain ⟨j, hj, rfl⟩ := List.getElem_of_mem hm
         have hj' : j < k /\ j < ns.length := by simp at hj; omega
         cases hs : zt (fun i => if ns.getD i [] = (ns.take k)[j] then some ((.inr (.inr ((k : Int), (8 : Int)))) : Int ⊕ (Unit ⊕ (Int × Int))) else none) 0 k with
         | none =>
           have := scan_none.1 hs j (by omega) (by omega)
           rw [jv (List.getElem?_eq_getElem hj'.2)] at this
           simp at this
         | some b =>
           have : b = .inr (.inr ((k : Int), (8 : Int))) := za9 (fun i => by split <;> simp) hs
           rw [this, if_pos hm]
       . have : zt (fun j => if ns.getD j [] = x then some ((.inr (.inr ((k : Int), (8 : Int)))) : Int ⊕ (Unit ⊕ (Int × Int))) else none) 0 k = none := scan_none.2 fun i _ hi => by
          have hi' : i < ns.length := by omega
          rw [jv (List.getElem?_eq_getElem hi'), if_neg]
          rintro rfl
          exact hm (List.mem_iff_getElem.2 ⟨i, by simp; omega, by simp⟩)
         rw [this]
         simp only [hm, if_false, zf]
         rw [w64 (by omega) (by omega)]
     . obtain ⟨y, hy⟩ := zG (l := ns) (i := j) (by omega)
       simp only [Int.ofNat_lt, hj, decide_true, cond_true, zh, Int.toNat_natCast, hy, Option.bind_some, zf, Int.natCast_nonneg, if_true, hx]
       rw [jv hy, w64 (by omega) (by omega)]
       by_cases hxy : y = x
       . simp [hxy]
       . simp [hxy]
open Go
def dn (l : TL) (b : Nat) : Nat -> Nat
 | 0 => 0
 | k + 1 => dn l b k ||| (if up l k b = true then 2 ^ k else 0)
theorem zo7 (l : TL) (b : Nat) : ∀ (k i : Nat), (dn l b k).testBit i = (decide (i < k) && up l i b)
 | 0, i => by simp [dn]
 | k + 1, i => by
   simp only [dn, Nat.testBit_or, zo7 l b k i]
   by_cases h : up l k b = true
   . simp only [h, if_true, Nat.testBit_two_pow]
     by_cases hik : i = k
     . subst hik; simp [h]
     . have h1 : ¬ k = i := fun e => hik e.symm
       have h2 : (i < k + 1) = (i < k) := by simp; omega
       simp [h1, h2]
   . simp only [h, if_false, Nat.zero_testBit, Bool.or_false]
     by_cases hik : i = k
     . subst hik; simp [h]
     . have h2 : (i < k + 1) = (i < k) := by simp; omega
       simp [h2]
theorem zAk (l : TL) (b : Nat) : ∀ k : Nat, dn l b k < 2 ^ k
 | 0 => by simp [dn]
 | k + 1 => by
   simp only [dn]
   refine Nat.or_lt_two_pow (Nat.lt_of_lt_of_le (zAk l b k) (Nat.pow_le_pow_right (by omega) (by omega))) ?_
   split
   . exact Nat.pow_lt_pow_right (by omega) (by omega)
   . exact Nat.two_pow_pos _
theorem zh8 (l : TL) (b : Nat) {k : Nat} (h : k <= 8) : dn l b k < 256 := Nat.lt_of_lt_of_le (zAk l b k) (Nat.pow_le_pow_right (n := 2) (by omega) h)
theorem zq8 {c : Bool} {k : Nat} (h : k < 8) : IntKind.wrap .u8 ((if c = true then (1 : Int) else 0) * 2 ^ min k (IntKind.bits .u8)) = ((if c = true then 2 ^ k else 0 : Nat) : Int) := by
 have key : ∀ (c : Bool) (k : Fin 8), IntKind.wrap .u8 ((if c = true then (1 : Int) else 0) * 2 ^ min k.val (IntKind.bits .u8)) = ((if c = true then 2 ^ k.val else 0 : Nat) : Int) := by decide +kernel
 exact key c ⟨k, h⟩
theorem zvh {a b : Nat} (ha : a < 256) (hb : b < 256) : bits .or .u8 (a : Int) (b : Int) = ((a ||| b : Nat) : Int) := by
 rw [zrf (by omega) (by omega) (by omega) (by omega)]; rfl
theorem zrs {a b : Nat} (ha : a < 256) (hb : b < 256) : bits .and .u8 (a : Int) (b : Int) = ((a &&& b : Nat) : Int) := by
 rw [zdi (by omega) (by omega) (by omega) (by omega)]; rfl
theorem zD7 {c : Bool} {k : Nat} (h : k < 8) : (if c = true then 2 ^ k else 0) < 256 := by
 split
 . exact Nat.lt_of_lt_of_le (Nat.pow_lt_pow_right (a := 2) (by omega) h) (by omega)
 . omega
theorem zj6 {α : Type} {l : List α} {i j : Nat} {x : α} (h : i < l.length) : (l.set i x)[j]? = if i = j then some x else l[j]? := by
 rw [List.getElem?_set]
 split
 . simp [h]
 . rfl
theorem zp0 (l : TL) (hu : U8s l.Up) (hn : l.Names.length <= 8) (hl : l.Up.length = l.Names.length) :
 Tot (zhk l) fun o => o.n_ = l.Names.length /\ o.up_.length = 8 /\ o.down_.length = 8 /\ (∀ j, j < l.Names.length -> o.up_[j]? = l.Up[j]?) /\ ∀ b, b < l.Names.length -> o.down_[b]? = some (dn l b l.Names.length : Int) := by
 unfold zhk
 simp only [zy, List.length_map]
 refine Tot.count l.Up.length (fun k s => s.1 = (k : Int) /\ s.2.1.length = 8 /\ s.2.2.length = 8 /\ (∀ j, j < k -> s.2.1[j]? = l.Up[j]?) /\ ∀ b, b < l.Names.length -> s.2.2[b]? = some (dn l b k : Int)) ?_ ⟨rfl, rfl, rfl, fun j hj => absurd hj (by omega), fun b hb => ?_⟩
 . rintro k ⟨i, up', down⟩ hk ⟨h0, h1, h2, h3, h4⟩
   simp only at h0 h1 h2 h3 h4
   subst h0
   simp only [zv, zE, qh, qu, qM, zy, Sum.elim_inl, Sum.elim_inr, decide_eq_true_eq, decide_eq_false_iff_not, Int.toNat_natCast]
   refine ⟨fun hlt => ?_, fun hlt => ?_⟩
   . obtain ⟨x, hx⟩ := zG (l := l.Up) (i := k) (by omega)
     obtain ⟨y, hy⟩ := zG (l := up') (i := k) (by omega)
     refine ⟨by omega, x, hx, ⟨by omega, by omega⟩, by omega, y, hy, ?_⟩
     have hx' := hu.get hx
     refine Tot.count l.Names.length (fun j s => s.1 = (j : Int) /\ s.2.length = 8 /\ ∀ b, b < l.Names.length -> s.2[b]? = some (dn l b (if b < j then k + 1 else k) : Int)) ?_ ⟨rfl, h2, fun b hb => by simpa using h4 b hb⟩
     rintro j ⟨i', d⟩ hj ⟨g0, g1, g2⟩
     simp only at g0 g1 g2
     subst g0
     simp only [zv, zE, qh, qu, qM, zy, Sum.elim_inl, Sum.elim_inr, decide_eq_true_eq, decide_eq_false_iff_not, Int.toNat_natCast]
     refine ⟨fun hlt' => ?_, fun hlt' => ?_⟩
     . have hz := g2 j (by omega)
       rw [if_neg (by omega)] at hz
       rw [w64 (by omega) (by omega)]
       refine ⟨⟨by omega, by omega⟩, by omega, _, hz, by omega, by omega, ⟨by omega, by omega⟩, by omega, _, hz, by omega, by omega, by simpa using g1, fun b hb => ?_⟩
       rw [zj6 (by omega)]
       by_cases hjb : j = b
       . subst hjb
         rw [if_pos rfl, if_pos (by omega), zdj hx'.1 hx'.2 (by omega), <- xu hx, zq8 (by omega), zvh (zh8 l j (by omega)) (zD7 (by omega))]
         rfl
       . rw [if_neg hjb, g2 b hb]
         have : (b < j + 1) = (b < j) := by simp; omega
         simp only [this]
     . rw [w64 (by omega) (by omega)]
       refine ⟨by omega, by omega, by simpa using h1, g1, fun q hq => ?_, fun b hb => ?_⟩
       . rw [zj6 (by omega)]
         by_cases hkq : k = q
         . subst hkq; rw [if_pos rfl, hx]
         . rw [if_neg hkq]; exact h3 q (by omega)
       . rw [g2 b hb, if_pos (by omega)]
   . have hkn : k = l.Names.length := by omega
     subst hkn
     exact ⟨trivial, h1, h2, h3, h4⟩
 . have h8 : ∀ b : Fin 8, ([0, 0, 0, 0, 0, 0, 0, 0] : List Int)[b.val]? = some 0 := by decide
   exact h8 ⟨b, by omega⟩
theorem qs {ρ : Type} {p : Prop} [Decidable p] {x : Option ρ} (h : p) : zi p x = x := by unfold zi; rw [if_pos h]
def bnd (g : Nat -> Nat) (n a b : Nat) : Option Nat := zt (fun c => if g c = g a &&& g b then some c else none) 0 n
def zew (g : Nat -> Nat) (n a b : Nat) : Int := match bnd g n a b with | some c => c | none => -1
theorem zgg (m : List Int) (g : Nat -> Nat) (n a b : Nat) (hn : n <= 8) (hg : ∀ c, c < n -> m[c]? = some (g c : Int)) (hg8 : ∀ c, c < n -> g c < 256) (hs : ∀ c, c < n -> (g c).testBit c = true) (ha : a < n) (hb : b < n) :
 zjx m n a b = some (zew g n a b) := by
 unfold zjx zew bnd
 have s1 : ((0 : Int) <= (a : Int) /\ (a : Int) < ((8 : Nat) : Int)) := by omega
 have s2 : ((0 : Int) <= (b : Int) /\ (b : Int) < ((8 : Nat) : Int)) := by omega
 simp only [qs s1, qs s2]
 simp only [zh, Int.toNat_natCast, Int.natCast_nonneg, if_true, hg a ha, hg b hb, Option.bind_some, zrs (hg8 a ha) (hg8 b hb)]
 have h8 : g a &&& g b < 256 := zez (hg8 a ha)
 generalize g a &&& g b = both at *
 rw [wB n (fun c => if g c = both then some (c : Int) else none) () (fun c hc => ?_) (by simp)]
 . have e : (fun c => if g c = both then some (c : Int) else none) = fun c => (if g c = both then some c else none).map (fun c : Nat => (c : Int)) := by
    funext c; split <;> rfl
   rw [e, jW]
   cases zt (fun c => if g c = both then some c else none) 0 n <;> rfl
 . have s3 : ((0 : Int) <= (c : Int) /\ (c : Int) < ((8 : Nat) : Int)) := by omega
   simp only [qs s3]
   simp only [Int.ofNat_lt, hc, decide_true, cond_true, zi, Int.natCast_nonneg, if_true, hg c hc, Option.bind_some, zf]
   rw [w64 (by omega) (by omega), zdj (by omega) (by omega) (by omega)]
   simp only [Int.toNat_natCast]
   by_cases hbc : both.testBit c = true
   . simp only [hbc, if_true, decide_true, cond_true]
     rw [hg c hc]
     by_cases hgc : g c = both
     . simp [hgc]
     . have : ¬ (g c : Int) = (both : Int) := by omega
       simp [hgc, this]
   . have : g c ≠ both := fun e => hbc (e ▸ hs c hc)
     simp [hbc, this]
theorem uR (m : List Int) (g : Nat -> Nat) (a b : Nat) (hn : m.length <= 8) (hg : ∀ c, c < m.length -> m[c]? = some (g c : Int)) (hg8 : ∀ c, c < m.length -> g c < 256) (ha : a < m.length) (hb : b < m.length) :
 zkj m a b = some (zew g m.length a b) := by
 unfold zkj zew bnd
 simp only [zh, Int.toNat_natCast, Int.natCast_nonneg, if_true, hg a ha, hg b hb, Option.bind_some, zrs (hg8 a ha) (hg8 b hb), List.length_map]
 have h8 : g a &&& g b < 256 := zez (hg8 a ha)
 generalize g a &&& g b = both at *
 rw [wB m.length (fun c => if g c = both then some (c : Int) else none) () (fun c hc => ?_) (by simp)]
 . have e : (fun c => if g c = both then some (c : Int) else none) = fun c => (if g c = both then some c else none).map (fun c : Nat => (c : Int)) := by
    funext c; split <;> rfl
   rw [e, jW]
   cases zt (fun c => if g c = both then some c else none) 0 m.length <;> rfl
 . simp only [Int.ofNat_lt, hc, decide_true, cond_true, hg c hc, Option.bind_some, zf]
   rw [w64 (by omega) (by omega), Int.toNat_natCast, if_pos (by omega), hg c hc]
   by_cases hgc : g c = both
   . simp [hgc]
   . have : ¬ (g c : Int) = (both : Int) := by omega
     simp [hgc, this]
open Go
def upN (l : TL) (a : Nat) : Nat := (l.Up.getD a 0).toNat
def zhj (l : TL) (a b : Nat) : Bool := !up l a b || ((decide (b = a) || !up l b a) && (List.range l.Names.length).all fun i => !up l b i || up l a i)
def xA (l : TL) (a : Nat) : Bool := decide (upN l a < 2 ^ l.Names.length) && up l a a && (List.range l.Names.length).all fun b => zhj l a b
def dnN (l : TL) (b : Nat) : Nat := dn l b l.Names.length
def wW (l : TL) (a b : Nat) : Bool := (bnd (upN l) l.Names.length a b).isNone || (bnd (dnN l) l.Names.length a b).isNone
def zcw (l : TL) : Int × Int :=
 if (jb l.Names).2 = 0 then
  if l.Up.length = l.Names.length then
   match zt (fun a => if xA l a = true then none else some ((a : Int), (6 : Int))) 0 l.Names.length with
   | some r => r
   | none => (zt (fun a => zt (fun b => if wW l a b = true then some ((a : Int), (4 : Int)) else none) 0 l.Names.length) 0 l.Names.length).getD (0, 0)
  else (-1, 6)
 else jb l.Names
theorem zrl {α : Type} {p : Nat -> Bool} {v : α} : ∀ {j k : Nat}, zt (fun i => if p i = true then none else some v) k j = if (List.range j).all (fun i => p (k + i)) = true then none else some v
 | 0, _ => by simp [zt]
 | j + 1, k => by
   simp only [zt, zrl (j := j) (k := k + 1)]
   have e : (List.range (j + 1)).all (fun i => p (k + i)) = (p k && (List.range j).all fun i => p (k + 1 + i)) := by
    rw [List.range_succ_eq_map, List.all_cons, List.all_map]
    congr 1
    congr 1
    funext i
    simp only [Function.comp]
    congr 1; omega
   rw [e]
   cases p k <;> simp
theorem zll {α : Type} {p : Nat -> Bool} {u v : α} {n : Nat} : ∀ {j k : Nat}, k + j = n -> 0 < j -> zt (fun i => if p i = true then (if i + 1 = n then some u else none) else some v) k j = some (if (List.range j).all (fun i => p (k + i)) = true then u else v)
 | 0, _, _, h => by omega
 | j + 1, k, hk, _ => by
   have e : (List.range (j + 1)).all (fun i => p (k + i)) = (p k && (List.range j).all fun i => p (k + 1 + i)) := by
    rw [List.range_succ_eq_map, List.all_cons, List.all_map]
    congr 1
    congr 1
    funext i
    simp only [Function.comp]
    congr 1; omega
   rw [e]
   simp only [zt]
   cases hp : p k with
   | false => simp
   | true =>
     simp only [if_true, Bool.true_and]
     by_cases hj : j = 0
     . subst hj
       have : k + 1 = n := by omega
       simp [this]
     . have : ¬ k + 1 = n := by omega
       simp only [this, if_false]
       exact zll (by omega) (by omega)
theorem zs6 (x : Int) (h0 : 0 <= x) (h1 : x < 256) : Tot (zje x) fun y => ∀ n : Nat, n <= 8 -> decide ((n : Int) < y) = !decide (x.toNat < 2 ^ n) := by
 unfold zje
 rw [qu]
 refine ⟨h0, ?_⟩
 have key : ∀ l : List UInt8, (∀ x : Fin 256, ∀ n : Fin 9, (l[x.val]?.map fun y => decide ((n.val : Int) < IntKind.wrap .i64 (y.toNat : Int))) = some (!decide (x.val < 2 ^ n.val))) ->
  ∃ y, l[x.toNat]? = some y /\ Tot (zf (IntKind.wrap .i64 (y.toNat : Int)) fun z => some z) fun y => ∀ n : Nat, n <= 8 -> decide ((n : Int) < y) = !decide (x.toNat < 2 ^ n) := by
  intro l hl
  cases e : l[x.toNat]? with
  | none =>
    have := hl ⟨x.toNat, by omega⟩ ⟨0, by omega⟩
    simp only [e] at this
    cases this
  | some y =>
    refine ⟨y, rfl, .mk fun n hn => ?_⟩
    have := hl ⟨x.toNat, by omega⟩ ⟨n, by omega⟩
    simp only [e] at this
    exact Option.some.inj this
 exact key _ (by decide +kernel)
theorem xH {l : TL} (hu : U8s l.Up) {a b : Nat} (ha : a < l.Up.length) (hb : b <= 8) : uV l a b = some (up l a b) := by
 unfold uV
 obtain ⟨x, hx⟩ := zG ha
 have hx' := hu.get hx
 have key : ∀ u : Fin 256, ∀ b : Fin 9, decide (Int.tmod (Int.fdiv (u.val : Int) (2 ^ min b.val (IntKind.bits .u8))) 2 = 1) = Nat.testBit u b := by decide +kernel
 have := key ⟨x.toNat, by omega⟩ ⟨b, by omega⟩
 simp only [Int.toNat_of_nonneg hx'.1] at this
 simp only [List.length_map, Int.natCast_nonneg, decide_true, cond_true, Int.ofNat_lt, ha, zh, Int.toNat_natCast, if_true, hx, Option.bind_some, zi, this, xu hx]
theorem zeg {n : Nat} (h : n < 1000000) : IntKind.wrap .i64 (n : Int) = n := w64 (by omega) (by omega)
theorem zrz (n : Nat) : BitVec.ofInt 64 (n : Int) = BitVec.ofNat 64 n := BitVec.ofInt_natCast 64 n
theorem zra {a b : Nat} (ha : a < 1000000) (hb : b < 1000000) : bits .and .i64 (a : Int) (b : Int) = ((a &&& b : Nat) : Int) := by
 have e : bits .and .i64 (a : Int) (b : Int) = IntKind.wrap .i64 ((BitVec.ofInt 64 (a : Int) &&& BitVec.ofInt 64 (b : Int)).toNat : Int) := rfl
 rw [e, zrz, zrz, BitVec.toNat_and, BitVec.toNat_ofNat, BitVec.toNat_ofNat, Nat.mod_eq_of_lt (by omega), Nat.mod_eq_of_lt (by omega)]
 exact zeg (Nat.lt_of_le_of_lt Nat.and_le_left ha)
theorem zxe {x y n : Nat} : ((y &&& (2 ^ n - 1)) &&& x = y &&& (2 ^ n - 1)) ↔ ((List.range n).all fun i => !y.testBit i || x.testBit i) = true := by
 rw [List.all_eq_true]
 constructor
 . intro h i hi
   have hi' : i < n := by simpa using hi
   have := congrArg (fun z => z.testBit i) h
   simp only [Nat.testBit_and, Nat.testBit_two_pow_sub_one, hi', decide_true, Bool.and_true] at this
   cases e : y.testBit i with
   | false => rfl
   | true => rw [e] at this; simpa using this
 . intro h
   apply Nat.eq_of_testBit_eq
   intro i
   simp only [Nat.testBit_and, Nat.testBit_two_pow_sub_one]
   by_cases hi : i < n
   . have := h i (by simpa using hi)
     simp only [hi, decide_true, Bool.and_true]
     cases e : y.testBit i with
     | false => rfl
     | true => rw [e] at this; simpa using this
   . simp [hi]
open Go
theorem zwt {l : TL} {a : Nat} {x : Int} (h : l.Up[a]? = some x) : upN l a = x.toNat := by unfold upN; rw [jv h]
theorem zfv {l : TL} {a b : Nat} : (upN l a).testBit b = up l a b := rfl
theorem zcd {l : TL} (hu : U8s l.Up) {a : Nat} (ha : a < l.Up.length) : upN l a < 256 := by
 obtain ⟨x, hx⟩ := zG ha
 have := hu.get hx
 rw [zwt hx]; omega
theorem zas {l : TL} (hu : U8s l.Up) {a : Nat} (ha : a < l.Up.length) : l.Up[a]? = some (upN l a : Int) := by
 obtain ⟨x, hx⟩ := zG ha
 have := hu.get hx
 rw [hx, zwt hx, Int.toNat_of_nonneg this.1]
theorem zns {l : TL} (hu : U8s l.Up) (h8 : l.Names.length <= 8) (hl : l.Up.length = l.Names.length) {a : Nat} (ha : a < l.Names.length) : zsj l a = some (xA l a) := by
 unfold zsj xA
 have g0 : ((0 : Int) <= (l.Names.length : Int)) := by omega
 have hb := fun b (hb : b < l.Names.length) => xH hu (a := a) (b := b) (by omega) (by omega)
 have hxa := zas hu (a := a) (by omega)
 have hlt := zcd hu (a := a) (by omega)
 have sh : decide ((0 : Int) < Int.fdiv (upN l a : Int) (2 ^ min l.Names.length (IntKind.bits .i64))) = !decide (upN l a < 2 ^ l.Names.length) := by
  have key : ∀ u : Fin 256, ∀ n : Fin 9, decide ((0 : Int) < Int.fdiv (u.val : Int) (2 ^ min n.val (IntKind.bits .i64))) = !decide (u.val < 2 ^ n.val) := by decide +kernel
  exact key ⟨upN l a, hlt⟩ ⟨l.Names.length, by omega⟩
 have mk : IntKind.wrap .i64 (IntKind.wrap .i64 (1 * 2 ^ min l.Names.length (IntKind.bits .i64)) - 1) = ((2 ^ l.Names.length - 1 : Nat) : Int) := by
  have key : ∀ n : Fin 9, IntKind.wrap .i64 (IntKind.wrap .i64 (1 * 2 ^ min n.val (IntKind.bits .i64)) - 1) = ((2 ^ n.val - 1 : Nat) : Int) := by decide +kernel
  exact key ⟨l.Names.length, by omega⟩
 have mk' : 2 ^ l.Names.length - 1 < 1000000 := by
  have : 2 ^ l.Names.length <= 2 ^ 8 := Nat.pow_le_pow_right (by omega) h8
  omega
 simp only [List.length_map, qs g0, Int.toNat_natCast]
 simp only [zh, Int.toNat_natCast, Int.natCast_nonneg, if_true, hxa, Option.bind_some, zf]
 rw [zeg (by omega), sh, hb a ha, mk]
 cases e1 : decide (upN l a < 2 ^ l.Names.length) with
 | false => simp
 | true =>
   simp only [Bool.not_true, cond_false, Bool.true_and, Option.bind_some]
   cases e2 : up l a a with
   | false => simp
   | true =>
     simp only [Bool.not_true, cond_false, Bool.true_and]
     rw [wB l.Names.length (fun b => if zhj l a b = true then none else some false) () (fun b hbn => ?_) (by simp)]
     . rw [zrl]
       simp only [Nat.zero_add]
       cases (List.range l.Names.length).all fun b => zhj l a b <;> rfl
     . have hxb := zas hu (a := b) (by omega)
       have hltb := zcd hu (a := b) (by omega)
       simp only [Int.ofNat_lt, hbn, decide_true, cond_true, Option.bind_some, Int.toNat_natCast, hxb]
       rw [hb b hbn, zeg (n := upN l b) (by omega), zra (by omega) mk', w64 (by omega) (by omega), xH hu (by omega) (by omega)]
       have hand : upN l b &&& (2 ^ l.Names.length - 1) < 1000000 := Nat.lt_of_le_of_lt Nat.and_le_left (by omega)
       rw [zra hand (by omega)]
       have hsub := zxe (x := upN l a) (y := upN l b) (n := l.Names.length)
       simp only [zfv] at hsub
       have hsub' : decide ((((upN l b &&& (2 ^ l.Names.length - 1)) &&& upN l a : Nat) : Int) = ((upN l b &&& (2 ^ l.Names.length - 1) : Nat) : Int)) = (List.range l.Names.length).all fun i => !up l b i || up l a i := by
        rw [Bool.eq_iff_iff, <- hsub, decide_eq_true_eq]; omega
       rw [hsub']
       unfold zhj
       cases e3 : up l a b with
       | false => simp
       | true =>
         simp only [Option.bind_some, Bool.not_true, cond_false, Bool.false_or]
         by_cases hba : b = a
         . subst hba
           simp only [decide_true, Bool.not_true, cond_false, Bool.true_or, Bool.true_and]
           cases (List.range l.Names.length).all fun i => !up l b i || up l b i <;> simp
         . have : ¬ (b : Int) = (a : Int) := by omega
           simp only [this, hba, decide_false, Bool.not_false, cond_true, Bool.false_or]
           cases up l b a with
           | true => simp
           | false =>
             cases (List.range l.Names.length).all fun i => !up l b i || up l a i <;> simp
theorem zio {l : TL} (hu : U8s l.Up) (h8 : l.Names.length <= 8) (hl : l.Up.length = l.Names.length) : Tot (zpw l) fun d => d.length = l.Names.length /\ ∀ b, b < l.Names.length -> d[b]? = some (dnN l b : Int) := by
 unfold zpw
 simp only [zy, qM, List.length_map, Int.toNat_natCast]
 refine ⟨⟨by omega, trivial, by omega, by omega⟩, ?_⟩
 refine Tot.count l.Names.length (fun k s => s.1 = (k : Int) /\ s.2.length = l.Names.length /\ ∀ b, b < l.Names.length -> s.2[b]? = some (dn l b k : Int)) ?_ ⟨rfl, by simp, fun b hb => ?_⟩
 . rintro k ⟨i, down⟩ hk ⟨h0, h2, h4⟩
   simp only at h0 h2 h4
   subst h0
   simp only [zv, zE, qh, qu, qM, zy, Sum.elim_inl, Sum.elim_inr, decide_eq_true_eq, decide_eq_false_iff_not, Int.toNat_natCast]
   refine ⟨fun hlt => ?_, fun hlt => ?_⟩
   . refine Tot.count l.Names.length (fun j s => s.1 = (j : Int) /\ s.2.length = l.Names.length /\ ∀ b, b < l.Names.length -> s.2[b]? = some (dn l b (if b < j then k + 1 else k) : Int)) ?_ ⟨rfl, h2, fun b hb => by simpa using h4 b hb⟩
     rintro j ⟨i', d⟩ hj ⟨g0, g1, g2⟩
     simp only at g0 g1 g2
     subst g0
     simp only [zv, zE, qh, qu, qM, zy, Sum.elim_inl, Sum.elim_inr, decide_eq_true_eq, decide_eq_false_iff_not, Int.toNat_natCast]
     refine ⟨fun hlt' => ?_, fun hlt' => ?_⟩
     . rw [xH hu (by omega) (by omega), zv]
       have hz := g2 j (by omega)
       rw [if_neg (by omega)] at hz
       rw [w64 (by omega) (by omega)]
       refine ⟨fun hup => ⟨⟨by omega, by simp; omega⟩, by omega, _, hz, by omega, ⟨by omega, by simp; omega⟩, by omega, _, hz, by omega, by omega, by simpa using g1, fun b hb => ?_⟩, fun hup => ⟨by omega, by omega, g1, fun b hb => ?_⟩⟩
       . have hsh := zq8 (c := true) (k := k) (by omega)
         simp only [if_true] at hsh
         rw [zj6 (by omega), hsh]
         by_cases hjb : j = b
         . subst hjb
           have hp : 2 ^ k < 256 := Nat.lt_of_lt_of_le (Nat.pow_lt_pow_right (a := 2) (by omega) (show k < 8 by omega)) (by omega)
           rw [if_pos rfl, if_pos (by omega), zvh (zh8 l j (by omega)) hp]
           simp [dn, hup]
         . rw [if_neg hjb, g2 b hb]
           have : (b < j + 1) = (b < j) := by simp; omega
           simp only [this]
       . rw [g2 b hb]
         by_cases hjb : j = b
         . subst hjb
           rw [if_neg (by omega), if_pos (by omega)]
           simp [dn, hup]
         . have : (b < j + 1) = (b < j) := by simp; omega
           simp only [this]
     . rw [w64 (by omega) (by omega)]
       refine ⟨by omega, by omega, g1, fun b hb => ?_⟩
       rw [g2 b hb, if_pos (by omega)]
   . have hkn : k = l.Names.length := by omega
     subst hkn
     exact ⟨h2, h4⟩
 . rw [List.getElem?_replicate, if_pos hb]; rfl
open Go
theorem zor (g : Nat -> Nat) (n a b : Nat) : decide (zew g n a b < 0) = (bnd g n a b).isNone := by
 unfold zew
 cases bnd g n a b with
 | none => rfl
 | some c => simp
theorem zut {l : TL} (h8 : l.Names.length <= 8) (b : Nat) : dnN l b < 256 := zh8 l b h8
theorem xt (l : TL) (hu : U8s l.Up) (hn : l.Names.length <= 20) (hs : ∀ s ∈ l.Names, s.length <= 1000) : zd6 l = some (zcw l) := by
 unfold zd6 zcw
 rw [zoe _ hn hs]
 simp only [Option.bind_some, List.length_map]
 by_cases h0 : (jb l.Names).2 = 0
 case neg => simp [h0]
 simp only [h0, decide_true, Bool.not_true, cond_false, if_true]
 by_cases hlen : l.Up.length = l.Names.length
 case neg =>
  have : ¬ (l.Up.length : Int) = l.Names.length := by omega
  simp [hlen, this]
 have h8 : l.Names.length <= 8 := by
  unfold jb at h0
  split at h0
  . cases h0
  . omega
 simp only [hlen, decide_true, Bool.not_true, cond_false, if_true]
 rw [wB l.Names.length (fun a => if xA l a = true then none else some ((a : Int), (6 : Int))) () (fun a ha => ?_) (by simp)]
 . cases h1 : zt (fun a => if xA l a = true then none else some ((a : Int), (6 : Int))) 0 l.Names.length with
   | some r => rfl
   | none =>
     simp only
     obtain ⟨d, ed, hdl, hd⟩ := zio hu h8 hlen
     rw [ed, Option.bind_some]
     rw [wB l.Names.length (fun a => zt (fun b => if wW l a b = true then some ((a : Int), (4 : Int)) else none) 0 l.Names.length) () (fun a ha => ?_) (by simp)]
     . cases zt (fun a => zt (fun b => if wW l a b = true then some ((a : Int), (4 : Int)) else none) 0 l.Names.length) 0 l.Names.length <;> rfl
     . simp only [Int.ofNat_lt, ha, decide_true, cond_true]
       rw [wB l.Names.length (fun b => if wW l a b = true then some (.inr (.inr ((a : Int), (4 : Int)))) else none) () (fun b hb => ?_) (by simp)]
       . have e : (fun b => if wW l a b = true then some (Sum.inr (Sum.inr ((a : Int), (4 : Int))) : Int ⊕ (Unit ⊕ (Int × Int))) else none) = fun b => (if wW l a b = true then some ((a : Int), (4 : Int)) else none).map fun v => .inr (.inr v) := by
          funext b; split <;> rfl
         rw [e, jW]
         cases zt (fun b => if wW l a b = true then some ((a : Int), (4 : Int)) else none) 0 l.Names.length with
         | some r => rfl
         | none =>
           simp only [Option.map_none, zf]
           rw [w64 (by omega) (by omega)]
       . simp only [Int.ofNat_lt, hb, decide_true, cond_true]
         have n1 := uR l.Up (upN l) a b (by omega) (fun c hc => zas hu hc) (fun c hc => zcd hu hc) (by omega) (by omega)
         have n2 := uR d (dnN l) a b (by omega) (fun c hc => hd c (by omega)) (fun c hc => zut h8 c) (by omega) (by omega)
         rw [hlen] at n1
         rw [hdl] at n2
         rw [n1, n2]
         simp only [Option.bind_some, zor, zf]
         rw [w64 (by omega) (by omega)]
         unfold wW
         cases (bnd (upN l) l.Names.length a b).isNone with
         | true => simp
         | false => cases (bnd (dnN l) l.Names.length a b).isNone <;> simp
 . simp only [Int.ofNat_lt, ha, decide_true, cond_true]
   rw [zns hu h8 hlen ha]
   simp only [Option.bind_some, zf]
   rw [w64 (by omega) (by omega)]
   cases xA l a <;> simp
open Go
theorem zb0 (l : TL) (hu : U8s l.Up) (hn : l.Names.length <= 20) (hs : ∀ s ∈ l.Names, s.length <= 1000) : zbz l = some (zcw l) := by
 unfold zbz zcw
 rw [zxc _ hn hs]
 simp only [Option.bind_some, List.length_map]
 by_cases h0 : (jb l.Names).2 = 0
 case neg => simp [h0]
 simp only [h0, decide_true, Bool.not_true, cond_false, if_true]
 by_cases hlen : l.Up.length = l.Names.length
 case neg =>
  have : ¬ (l.Up.length : Int) = l.Names.length := by omega
  simp [hlen, this]
 have h8 : 1 <= l.Names.length /\ l.Names.length <= 8 := by
  unfold jb at h0
  split at h0
  . cases h0
  . omega
 obtain ⟨h1, h8⟩ := h8
 have g0 : ((0 : Int) <= (l.Names.length : Int)) := by omega
 simp only [hlen, decide_true, Bool.not_true, cond_false, if_true, qs g0, zf, Int.toNat_natCast]
 have hmask := zna l.Names.length h8
 have hm0 := zms (e := IntKind.wrap .u8 (1 * 2 ^ min l.Names.length (IntKind.bits .u8)) - 1)
 rw [wB l.Names.length (fun a => if xA l a = true then none else some ((a : Int), (6 : Int))) () (fun a ha => ?_) (by simp)]
 . cases h1 : zt (fun a => if xA l a = true then none else some ((a : Int), (6 : Int))) 0 l.Names.length with
   | some r => rfl
   | none =>
     simp only
     have hself : ∀ a, a < l.Names.length -> up l a a = true := by
      intro a ha
      have := scan_none.1 h1 a (by omega) (by omega)
      split at this
      . rename_i h
        unfold xA at h
        simp only [Bool.and_eq_true] at h
        exact h.1.2
      . cases this
     obtain ⟨o, eo, _, o1, o2, o3, o4⟩ := zp0 l hu h8 hlen
     rw [eo, Option.bind_some]
     rw [wB l.Names.length (fun a => zt (fun b => if wW l a b = true then some ((a : Int), (4 : Int)) else none) 0 l.Names.length) () (fun a ha => ?_) (by simp)]
     . cases zt (fun a => zt (fun b => if wW l a b = true then some ((a : Int), (4 : Int)) else none) 0 l.Names.length) 0 l.Names.length <;> rfl
     . simp only [Int.ofNat_lt, ha, decide_true, cond_true]
       rw [wB l.Names.length (fun b => if wW l a b = true then some (.inr (.inr ((a : Int), (4 : Int)))) else none) () (fun b hb => ?_) (by simp)]
       . have e : (fun b => if wW l a b = true then some (Sum.inr (Sum.inr ((a : Int), (4 : Int))) : Int ⊕ (Unit ⊕ (Int × Int))) else none) = fun b => (if wW l a b = true then some ((a : Int), (4 : Int)) else none).map fun v => .inr (.inr v) := by
          funext b; split <;> rfl
         rw [e, jW]
         cases zt (fun b => if wW l a b = true then some ((a : Int), (4 : Int)) else none) 0 l.Names.length with
         | some r => rfl
         | none =>
           simp only [Option.map_none]
           rw [w64 (by omega) (by omega)]
       . simp only [Int.ofNat_lt, hb, decide_true, cond_true]
         have n1 := zgg o.up_ (upN l) l.Names.length a b h8 (fun c hc => by rw [o3 c hc]; exact zas hu (by omega)) (fun c hc => zcd hu (by omega)) (fun c hc => hself c hc) ha hb
         have n2 : zr6 o.down_ l.Names.length a b = some (zew (dnN l) l.Names.length a b) := zgg o.down_ (dnN l) l.Names.length a b h8 (fun c hc => o4 c hc) (fun c hc => zut h8 c) (fun c hc => by unfold dnN; rw [zo7, hself c hc]; simp [hc]) ha hb
         rw [n1, n2]
         simp only [Option.bind_some, zor]
         rw [w64 (by omega) (by omega)]
         unfold wW
         cases (bnd (upN l) l.Names.length a b).isNone with
         | true => simp
         | false => cases (bnd (dnN l) l.Names.length a b).isNone <;> simp
 . -- one label's row
   have hxa := zas hu (a := a) (by omega)
   have hlt := zcd hu (a := a) (by omega)
   obtain ⟨y, ey, hy⟩ := zs6 (upN l a : Int) (by omega) (by omega)
   have hy := hy l.Names.length h8
   rw [Int.toNat_natCast] at hy
   have ga : ((0 : Int) <= (a : Int)) := by omega
   have hbit : ∀ b, b < l.Names.length -> bits .and .u8 (Int.fdiv (upN l a : Int) (2 ^ min b (IntKind.bits .u8))) 1 = if up l a b = true then 1 else 0 := fun b hb => by
    rw [zdj (by omega) (by omega) (by omega), Int.toNat_natCast]; rfl
   simp only [Int.ofNat_lt, ha, decide_true, cond_true, zh, Int.toNat_natCast, if_pos ga, hxa, Option.bind_some, ey, hy, qs ga]
   simp only [hbit a ha]
   unfold xA
   cases e1 : decide (upN l a < 2 ^ l.Names.length) with
   | false => simp
   | true =>
     simp only [Bool.not_true, cond_false, Bool.true_and]
     cases e2 : up l a a with
     | false => simp
     | true =>
       simp only [if_true, Int.reduceEq, decide_false, cond_false, Bool.true_and]
       rw [wB l.Names.length (fun b => if zhj l a b = true then (if b + 1 = l.Names.length then some (.inl ((a : Int) + 1)) else none) else some (.inr (.inr ((a : Int), (6 : Int))))) () (fun b hb => ?_) (by simp)]
       . rw [zll (by omega) (by omega)]
         simp only [Nat.zero_add]
         cases (List.range l.Names.length).all fun b => zhj l a b <;> rfl
       . have hxb := zas hu (a := b) (by omega)
         have hltb := zcd hu (a := b) (by omega)
         have gb : ((0 : Int) <= (b : Int)) := by omega
         have hbit' : bits .and .u8 (Int.fdiv (upN l b : Int) (2 ^ min a (IntKind.bits .u8))) 1 = if up l b a = true then 1 else 0 := by
          rw [zdj (by omega) (by omega) (by omega), Int.toNat_natCast]; rfl
         simp only [Int.ofNat_lt, hb, decide_true, cond_true, Option.bind_some, Int.toNat_natCast, hxb, if_pos gb, qs gb]
         simp only [hbit b hb, hbit', w64 (e := (l.Names.length : Int) - 1) (by omega) (by omega), w64 (e := (a : Int) + 1) (by omega) (by omega), w64 (e := (b : Int) + 1) (by omega) (by omega)]
         have hnot : decide (bits .andNot .u8 (bits .and .u8 (upN l b : Int) (IntKind.wrap .u8 (IntKind.wrap .u8 (1 * 2 ^ min l.Names.length (IntKind.bits .u8)) - 1))) (upN l a : Int) = 0) = (List.range l.Names.length).all fun i => !up l b i || up l a i := by
          revert hmask hm0
          generalize IntKind.wrap .u8 (IntKind.wrap .u8 (1 * 2 ^ min l.Names.length (IntKind.bits .u8)) - 1) = mask
          intro hmask hm0
          have hand : bits .and .u8 (upN l b : Int) mask = ((upN l b &&& mask.toNat : Nat) : Int) := by
           rw [zdi (by omega) (by omega) hm0.1 hm0.2, Int.toNat_natCast]
          have hlt2 : upN l b &&& mask.toNat < 256 := zez hltb
          rw [hand, Bool.eq_iff_iff, decide_eq_true_eq, zb3 (by omega) (by omega) (by omega) (by omega), List.all_eq_true]
          simp only [Int.toNat_natCast, Nat.testBit_and, hmask, zfv]
          constructor
          . intro h i hi
            have := h i
            have hi' : i < l.Names.length := by simpa using hi
            cases e : up l b i with
            | false => rfl
            | true => rw [e] at this; simpa [hi'] using this
          . intro h i hi
            simp only [Bool.and_eq_true, decide_eq_true_eq] at hi
            have := h i (by simpa using hi.2)
            rw [hi.1] at this; simpa using this
         simp only [hnot]
         have hlast : decide ((b : Int) = (l.Names.length : Int) - 1) = decide (b + 1 = l.Names.length) := by
          rw [Bool.eq_iff_iff, decide_eq_true_eq, decide_eq_true_eq]; omega
         simp only [hlast]
         unfold zhj
         cases e3 : up l a b with
         | false => by_cases hl : b + 1 = l.Names.length <;> simp [hl]
         | true =>
           by_cases hba : b = a
           . subst hba
             have d2 : decide ((b : Int) = (b : Int)) = true := by simp
             cases (List.range l.Names.length).all fun i => !up l b i || up l b i with
             | false => by_cases hl : b + 1 = l.Names.length <;> simp [hl]
             | true => by_cases hl : b + 1 = l.Names.length <;> simp [hl]
           . have d2 : decide ((b : Int) = (a : Int)) = false := by simp; omega
             have d3 : decide (b = a) = false := by simp [hba]
             simp only [d2, d3]
             cases up l b a with
             | true => by_cases hl : b + 1 = l.Names.length <;> simp [hl]
             | false =>
               cases (List.range l.Names.length).all fun i => !up l b i || up l a i with
               | false => by_cases hl : b + 1 = l.Names.length <;> simp [hl]
               | true => by_cases hl : b + 1 = l.Names.length <;> simp [hl]
theorem zfj {l : TL} (h : LatIn l) : qG l = zcw l := by
 unfold qG; rw [zb0 l h.u8 h.names h.name]; rfl
open Go
theorem zjo {l : TL} (h : LatIn l) (a b : Int) : zr7 l a b = some (zb4 l [a, b]) := by
 unfold zr7 zb4
 rw [xt l h.u8 h.names h.name, zfj h]
 simp only [Option.bind_some, List.length_map, List.all_cons, List.all_nil, Bool.and_true]
 by_cases h0 : (zcw l).2 = 0
 . simp only [h0, decide_true, cond_true, if_true]
   unfold wv
   by_cases a1 : a < 0
   . have : ¬ 0 <= a := by omega
     simp [a1, this]
   by_cases a2 : (l.Names.length : Int) <= a
   . have : ¬ a < (l.Names.length : Int) := by omega
     simp [a1, a2, this]
   by_cases b1 : b < 0
   . have : ¬ 0 <= b := by omega
     simp [a1, a2, b1, this]
   by_cases b2 : (l.Names.length : Int) <= b
   . have : ¬ b < (l.Names.length : Int) := by omega
     simp [a1, a2, b1, b2, this]
   have a1' : 0 <= a := by omega
   have a2' : a < (l.Names.length : Int) := by omega
   have b1' : 0 <= b := by omega
   have b2' : b < (l.Names.length : Int) := by omega
   simp [a1, a2, b1, b2, a1', a2', b1', b2']
 . simp [h0]
open Go
theorem zyv {g : Nat -> Nat} {n a b c : Nat} (h : bnd g n a b = some c) : c < n /\ g c = g a &&& g b := by
 have key : ∀ {j k : Nat}, zt (fun c => if g c = g a &&& g b then some c else none) k j = some c -> c < k + j /\ g c = g a &&& g b := by
  intro j
  induction j with
  | zero => intro k h; cases h
  | succ j ih =>
    intro k h
    simp only [zt] at h
    split at h
    . rename_i r hr
      cases h
      split at hr
      . rename_i hh; cases hr; exact ⟨by omega, hh⟩
      . cases hr
    . have := ih h
      exact ⟨by omega, this.2⟩
 have := key h
 simpa using this
theorem zel {l : TL} (h : LatIn l) (k : (qG l).2 = 0) : (∀ a, a < l.Names.length -> xA l a = true) /\ ∀ a b, a < l.Names.length -> b < l.Names.length -> wW l a b = false := by
 rw [zfj h] at k
 unfold zcw at k
 split at k
 case isFalse h0 => exact absurd k h0
 split at k
 case isFalse => cases k
 split at k
 case h_1 r hr =>
  exfalso
  have key : ∀ {j k : Nat}, zt (fun a => if xA l a = true then none else some ((a : Int), (6 : Int))) k j = some r -> r.2 = 6 := by
   intro j
   induction j with
   | zero => intro k h; cases h
   | succ j ih =>
     intro k h
     simp only [zt] at h
     split at h
     . rename_i r' hr'
       cases h
       split at hr'
       . cases hr'
       . cases hr'; rfl
     . exact ih h
  rw [key hr] at k; cases k
 case h_2 hord =>
  have key2 : ∀ {a j k : Nat} {r : Int × Int}, zt (fun b => if wW l a b = true then some ((a : Int), (4 : Int)) else none) k j = some r -> r.2 = 4 := by
   intro a j
   induction j with
   | zero => intro k r h; cases h
   | succ j ih =>
     intro k r h
     simp only [zt] at h
     split at h
     . rename_i r' hr'
       cases h
       split at hr'
       . cases hr'; rfl
       . cases hr'
     . exact ih h
  have key : ∀ {j k : Nat} {r : Int × Int}, zt (fun a => zt (fun b => if wW l a b = true then some ((a : Int), (4 : Int)) else none) 0 l.Names.length) k j = some r -> r.2 = 4 := by
   intro j
   induction j with
   | zero => intro k r h; cases h
   | succ j ih =>
     intro k r h
     simp only [zt] at h
     split at h
     . rename_i r' hr'
       cases h
       exact key2 hr'
     . exact ih h
  cases hs : zt (fun a => zt (fun b => if wW l a b = true then some ((a : Int), (4 : Int)) else none) 0 l.Names.length) 0 l.Names.length with
  | some r =>
    rw [hs] at k
    have := key hs
    simp only [Option.getD_some] at k
    rw [this] at k; cases k
  | none =>
    refine ⟨fun a ha => ?_, fun a b ha hb => ?_⟩
    . have h1 := scan_none.1 hord a (by omega) (by omega)
      split at h1
      . assumption
      . cases h1
    . have h1 := scan_none.1 (scan_none.1 hs a (by omega) (by omega)) b (by omega) (by omega)
      split at h1
      . cases h1
      . rename_i h2; simpa using h2
theorem zm2 {l : TL} (h : LatIn l) (k : (qG l).2 = 0) {a b : Nat} (ha : a < l.Names.length) (hb : b < l.Names.length) : ∃ c, bnd (dnN l) l.Names.length a b = some c /\ c < l.Names.length /\ dnN l c = dnN l a &&& dnN l b := by
 have h2 := (zel h k).2 a b ha hb
 unfold wW at h2
 cases e : bnd (dnN l) l.Names.length a b with
 | none => rw [e] at h2; simp at h2
 | some c => exact ⟨c, rfl, zyv e⟩
theorem zxk {l : TL} (ok : LatOK l) {a b c : Nat} (ha : a < l.Names.length) (hb : b < l.Names.length) (hc : c < l.Names.length) (h1 : up l a b = true) (h2 : up l b c = true) : up l a c = true := (ok.row a ha b hb h1).2 c hc h2
theorem zBq {l : TL} {b i : Nat} : (dnN l b).testBit i = (decide (i < l.Names.length) && up l i b) := zo7 l b l.Names.length i
theorem zh5 {l : TL} {a b c i : Nat} (hi : i < l.Names.length) (hg : dnN l c = dnN l a &&& dnN l b) : up l i c = (up l i a && up l i b) := by
 have h1 := congrArg (fun x => x.testBit i) hg
 simp only [Nat.testBit_and, zBq, hi, decide_true, Bool.true_and] at h1
 exact h1
theorem zBf {l : TL} (ok : LatOK l) {a b : Nat} (ha : a < l.Names.length) (hb : b < l.Names.length) (h1 : up l a b = true) (h2 : up l b a = true) : a = b := by
 by_cases e : b = a
 . exact e.symm
 . have := (ok.row a ha b hb h1).1 e
   rw [h2] at this; cases this
theorem zBm {l : TL} (h : LatIn l) (k : (qG l).2 = 0) : ∃ t, t < l.Names.length /\ ∀ a, a < l.Names.length -> up l t a = true := by
 have ok := uF h k
 have key : ∀ j, j <= l.Names.length -> ∃ t, t < l.Names.length /\ ∀ a, a < j -> up l t a = true := by
  intro j
  induction j with
  | zero => intro _; exact ⟨0, ok.pos, fun a ha => absurd ha (by omega)⟩
  | succ j ih =>
    intro hj
    obtain ⟨t, ht, hall⟩ := ih (by omega)
    obtain ⟨c, _, hc, hg⟩ := zm2 h k ht (show j < l.Names.length by omega)
    have hcc := ok.self c hc
    rw [zh5 hc hg, Bool.and_eq_true] at hcc
    refine ⟨c, hc, fun a ha => ?_⟩
    rcases Nat.lt_or_ge a j with g | g
    . exact zxk ok hc ht (by omega) hcc.1 (hall a g)
    . have : a = j := by omega
      subst this; exact hcc.2
 exact key _ (Nat.le_refl _)
def wA (l : TL) : Nat := ((List.range l.Names.length).find? fun b => (List.range l.Names.length).all fun a => up l b a).getD 0
theorem zhz {l : TL} (h : LatIn l) (k : (qG l).2 = 0) : wA l < l.Names.length /\ ∀ a, a < l.Names.length -> up l (wA l) a = true := by
 obtain ⟨t, ht, hall⟩ := zBm h k
 unfold wA
 cases e : (List.range l.Names.length).find? fun b => (List.range l.Names.length).all fun a => up l b a with
 | none =>
   have := List.find?_eq_none.1 e t (by simpa using ht)
   exact absurd (by simp only [List.all_eq_true, List.mem_range]; exact hall) this
 | some b =>
   have h1 := List.find?_some e
   have h2 := List.mem_of_find?_eq_some e
   simp only [List.all_eq_true, List.mem_range] at h1 h2
   exact ⟨h2, h1⟩
theorem zvs {l : TL} (h : LatIn l) (k : (qG l).2 = 0) {b : Nat} (hb : b < l.Names.length) (hall : ∀ a, a < l.Names.length -> up l b a = true) : b = wA l := by
 obtain ⟨h1, h2⟩ := zhz h k
 exact zBf (uF h k) hb h1 (hall _ h1) (h2 _ hb)
theorem zxa {l : TL} (h : LatIn l) (k : (qG l).2 = 0) {b : Nat} (hb : b < l.Names.length) : upN l b = 2 ^ l.Names.length - 1 ↔ b = wA l := by
 have h1 := (zel h k).1 b hb
 unfold xA at h1
 simp only [Bool.and_eq_true, decide_eq_true_eq] at h1
 constructor
 . intro e
   refine zvs h k hb fun a ha => ?_
   rw [<- zfv, e, Nat.testBit_two_pow_sub_one]
   simpa using ha
 . rintro rfl
   have h2 := (zhz h k).2
   refine Nat.eq_of_testBit_eq fun i => ?_
   rw [Nat.testBit_two_pow_sub_one]
   rcases Nat.lt_or_ge i l.Names.length with g | g
   . rw [zfv, h2 i g]; simp [g]
   . rw [Nat.testBit_lt_two_pow (Nat.lt_of_lt_of_le h1.1.1 (Nat.pow_le_pow_right (by omega) g))]
     simp; omega
open Go
theorem zof (s : List UInt8) (c : Int) : zd2 s c = some (Go.Lib.indexByte s c.toNat.toUInt8) := by
 unfold zd2 qm
 rfl
theorem zbe (r : Int) (h0 : 0 <= r) (h1 : r < 256) : xO [] r = some false := by
 unfold xO
 have key : Tot (zjw [] r) fun x => x < 0 := by
  unfold zjw
  have e0 : decide (0 <= r) = true := by simp [h0]
  simp only [e0, cond_true]
  rw [zE]
  refine ⟨fun _ => ?_, fun h2 => ?_⟩
  . rw [qh, zy, zof]
    simp only [zv]
    simp [Go.Lib.indexByte]
  . simp only [decide_eq_false_iff_not] at h2
    obtain ⟨x, y, exy, hy⟩ := zv9 (r := r) (by omega) h1
    have e1 : decide (r = 65533) = false := by simp; omega
    simp only [e1, cond_false, exy]
    rw [zy]
    refine (zby r).mono fun v _ => ?_
    rw [zE]
    refine ⟨fun _ => .mk (by decide), fun _ => ?_⟩
    rw [qh]
    have e2 : IntKind.wrap .i64 (((List.length [x, y] : Nat) : Int) - 1) = 1 := rfl
    rw [e2, zy]
    refine Tot.loop (fun _ => 0) (fun _ => True) (fun _ _ => ?_) trivial
    rw [zE]
    refine ⟨fun h3 => ?_, fun _ => ?_⟩
    . simp only [decide_eq_true_eq, List.length_nil] at h3
      exact absurd h3 (by decide)
    . simp only [zv, Sum.elim_inr, Sum.elim_inl]
      decide
 obtain ⟨x, e, hx⟩ := key
 rw [e]
 have : decide (0 <= x) = false := by simp; omega
 simp [this]
theorem zpn (r : Int) (h0 : 0 <= r) (h1 : r < 256) : zev r = some true := by
 unfold zev
 have e0 : decide (0 <= r) = true := by simp [h0]
 have e1 : decide (r < 55296) = true := by simp; omega
 simp only [e0, e1, cond_true]
theorem zqo (r : Int) (h0 : 0 <= r) (h1 : r < 256) : zst r = some true := by
 unfold zst
 simp only [zf, zpc h0 h1]
 rw [w64 (by omega) (by omega)]
 simp [zpn r h0 h1]
def yK (c : UInt8) : Bool := decide (97 <= c.toNat) && decide (c.toNat <= 122)
def xE (c : UInt8) : Bool := decide (48 <= c.toNat) && decide (c.toNat <= 57)
theorem zqn {cs : List (List UInt8)} (hcs : cs.length = 10) (h : ∀ s ∈ cs, s.length <= 1000 /\ ∀ c ∈ s, c.toNat < 128) (h6 : cs[6]? = some []) (h8 : cs[8]? = some []) (r : Int) (h0 : 0 <= r) (h1 : r < 256) {Q : Unit ⊕ (Int × Int) -> Prop} (hQ : Q (.inl ())) (hQ' : ∀ x, x ≠ 6 -> x ≠ 8 -> Q (.inr (x, 0))) :
 Tot (lpO (fun (s : Int) => cond (decide (s < 10)) (zh cs s fun x => zf (IntKind.wrap IntKind.i32 r) fun y => Option.bind (xO x y) fun z => cond z (some (Sum.inr (Sum.inr (s, (0 : Int))))) (zf (IntKind.wrap IntKind.i64 (s + 1)) fun u => some (Sum.inl u))) (some (Sum.inr (Sum.inl ())))) 0) Q := by
 refine Tot.count 10 (fun k s => s = (k : Int)) ?_ rfl
 rintro k _ hk rfl
 simp only [zE, zv, qh, qu, zy, Sum.elim_inl, Sum.elim_inr, decide_eq_true_eq, decide_eq_false_iff_not, Int.toNat_natCast]
 refine ⟨fun hlt => ?_, fun _ => hQ⟩
 obtain ⟨x, hx⟩ := zG (l := cs) (i := k) (by omega)
 have hx' := h x (List.mem_of_getElem? hx)
 refine ⟨by omega, x, hx, ?_⟩
 rw [zpc h0 h1]
 have nx : k < 10 /\ IntKind.wrap .i64 ((k : Int) + 1) = ((k + 1 : Nat) : Int) := by
  rw [w64 (by omega) (by omega)]; exact ⟨by omega, by omega⟩
 by_cases g6 : k = 6
 . subst g6
   rw [h6] at hx; cases hx
   rw [zbe r h0 h1, zv]
   exact ⟨fun e => (by cases e), fun _ => nx⟩
 by_cases g8 : k = 8
 . subst g8
   rw [h8] at hx; cases hx
   rw [zbe r h0 h1, zv]
   exact ⟨fun e => (by cases e), fun _ => nx⟩
 refine (zec x r hx'.2 hx'.1 h0 h1).mono fun _ _ => ⟨fun _ => hQ' _ (by omega) (by omega), fun _ => nx⟩
theorem zdg (c : UInt8) : Tot (zer (IntKind.wrap .i64 (c.toNat : Int))) fun x => (decide (x.1 = 8) = yK c) /\ (decide (x.1 = 6) = xE c) := by
 have hc := c.toNat_lt
 rw [w64 (by omega) (by omega)]
 have h0 : (0 : Int) <= c.toNat := by omega
 have h1 : (c.toNat : Int) < 256 := by omega
 unfold zer zg4 yK xE
 rw [zqo _ h0 h1]
 simp only [Option.bind_some, Bool.not_true, cond_false]
 have L : ¬ (48 <= c.toNat /\ c.toNat <= 57) -> ¬ (97 <= c.toNat /\ c.toNat <= 122) -> _ := fun d1 d2 => zqn (cs := [[], [32], [10], [40, 91], [41, 93], [34], [], [45], [], [60, 61]]) rfl (by decide) rfl rfl c.toNat h0 h1 (Q := fun a => Tot (Sum.elim (fun _ => some ((10 : Int), (0 : Int))) some a) fun (x : Int × Int) => (decide (x.1 = 8) = (decide (97 <= c.toNat) && decide (c.toNat <= 122))) /\ (decide (x.1 = 6) = (decide (48 <= c.toNat) && decide (c.toNat <= 57))))
  (.mk (by
    have a1 : (decide (97 <= c.toNat) && decide (c.toNat <= 122)) = false := by simp; omega
    have a2 : (decide (48 <= c.toNat) && decide (c.toNat <= 57)) = false := by simp; omega
    rw [a1, a2]; exact ⟨rfl, rfl⟩)) (fun x e6 e8 => .mk (by
    have a1 : (decide (97 <= c.toNat) && decide (c.toNat <= 122)) = false := by simp; omega
    have a2 : (decide (48 <= c.toNat) && decide (c.toNat <= 57)) = false := by simp; omega
    rw [a1, a2]; simp [e6, e8]))
 simp only [zE, zv, zy, decide_eq_true_eq, decide_eq_false_iff_not]
 have six : 48 <= c.toNat -> c.toNat <= 57 -> decide ((6 : Int) = 8) = (decide (97 <= c.toNat) && decide (c.toNat <= 122)) /\ decide ((6 : Int) = 6) = (decide (48 <= c.toNat) && decide (c.toNat <= 57)) := by
  intro d1 d2
  have a1 : (decide (97 <= c.toNat) && decide (c.toNat <= 122)) = false := by simp; omega
  have a2 : (decide (48 <= c.toNat) && decide (c.toNat <= 57)) = true := by simp; omega
  rw [a1, a2]; exact ⟨rfl, rfl⟩
 have eight : 97 <= c.toNat -> c.toNat <= 122 -> decide ((8 : Int) = 8) = (decide (97 <= c.toNat) && decide (c.toNat <= 122)) /\ decide ((8 : Int) = 6) = (decide (48 <= c.toNat) && decide (c.toNat <= 57)) := by
  intro d1 d2
  have a1 : (decide (97 <= c.toNat) && decide (c.toNat <= 122)) = true := by simp; omega
  have a2 : (decide (48 <= c.toNat) && decide (c.toNat <= 57)) = false := by simp; omega
  rw [a1, a2]; exact ⟨rfl, rfl⟩
 refine ⟨fun d1 => ⟨fun d2 => six (by omega) (by omega), fun d2 => ⟨fun d3 => ⟨fun d4 => eight (by omega) (by omega), fun d4 => L (by omega) (by omega)⟩, fun d3 => L (by omega) (by omega)⟩⟩, fun d1 => ⟨fun d3 => ⟨fun d4 => eight (by omega) (by omega), fun d4 => L (by omega) (by omega)⟩, fun d3 => L (by omega) (by omega)⟩⟩
def ya (s : List UInt8) : Bool := (match s with | [] => false | c :: _ => yK c) && s.all fun c => yK c || xE c
theorem zhb {s : List UInt8} {p : UInt8 -> Bool} {k : Nat} {c : UInt8} (h : (s.take k).all p = true) (hc : s[k]? = some c) (hp : p c = true) : (s.take (k + 1)).all p = true := by
 rw [List.take_add_one, hc, List.all_append, h]
 simp [hp]
theorem zif (s : List UInt8) (h : s.length <= 1000000) : Tot (ztz (TK.mk 1 0 0 0 s)) fun x => decide (x = 0) = (ya s && decide (s.length <= 16)) := by
 unfold ztz
 dsimp only
 have e2 : decide ((1 : Int) < 1) = false := rfl
 have e3 : decide ((9 : Int) < 1) = false := rfl
 simp only [e2, e3, decide_true, cond_true, cond_false, Option.bind_some, Sum.elim_inl, Bool.and_self, Bool.not_true]
 rw [zy]
 have Qn : ∀ x : Int, ya s = false -> Tot (Sum.elim (fun (n : Int) => cond (decide (n < (s.length : Int))) (some (3 : Int)) (some (0 : Int))) some (Sum.inr 6 : Int ⊕ Int)) fun x => decide (x = 0) = (ya s && decide (s.length <= 16)) := by
  intro _ e
  rw [e]; exact .mk rfl
 have Qy : ya s = true -> Tot (Sum.elim (fun (n : Int) => cond (decide (n < (s.length : Int))) (some (3 : Int)) (some (0 : Int))) some (Sum.inl 16 : Int ⊕ Int)) fun x => decide (x = 0) = (ya s && decide (s.length <= 16)) := by
  intro e
  rw [e]
  simp only [Sum.elim_inl, zE, zv, decide_eq_true_eq, decide_eq_false_iff_not]
  refine ⟨fun g => ?_, fun g => ?_⟩
  . have : decide (s.length <= 16) = false := by simp; omega
    rw [this]; rfl
  . have : decide (s.length <= 16) = true := by simp; omega
    rw [this]; rfl
 rw [zE]
 refine ⟨fun h1 => ?_, fun h1 => ?_⟩
 . simp only [zv]
   refine Qn 0 ?_
   have : s = [] := List.length_eq_zero_iff.1 (by simpa using h1)
   rw [this]; rfl
 simp only [decide_eq_false_iff_not] at h1
 obtain ⟨c, hc⟩ := zG (l := s) (i := 0) (by omega)
 have hs0 : ∃ r, s = c :: r := by
  cases s with
  | nil => simp at hc
  | cons a r => simp at hc; exact ⟨r, by rw [hc]⟩
 have e0 : (0 : Int).toNat = 0 := rfl
 simp only [qu, qh, zy, e0]
 refine ⟨by omega, c, hc, (zdg c).mono fun x hx => ?_⟩
 rw [zE]
 refine ⟨fun g => ?_, fun g => ?_⟩
 . simp only [zv]
   refine Qn 0 ?_
   obtain ⟨r, rfl⟩ := hs0
   have : yK c = false := by rw [<- hx.1]; simpa using g
   unfold ya; simp [this]
 have hlow : yK c = true := by rw [<- hx.1]; simpa using g
 simp only [qu, qh, zy, e0]
 refine ⟨by omega, c, hc, (zdg c).mono fun y hy => ?_⟩
 refine Tot.loop (fun (p : Int × Int) => s.length - p.2.toNat) (fun (p : Int × Int) => 0 <= p.2 /\ p.2 <= (s.length : Int) /\ (s.take p.2.toNat).all (fun c => yK c || xE c) = true /\ ((p.2 = (s.length : Int) /\ p.1 = 10) \/ ∃ d, s[p.2.toNat]? = some d /\ decide (p.1 = 8) = yK d /\ decide (p.1 = 6) = xE d)) ?_ ⟨by simp, by simp, by simp, .inr ⟨c, by simpa using hc, hy⟩⟩
 rintro ⟨k, a⟩ ⟨h2, h3, hall, h4⟩
 simp only at h2 h3 hall h4
 have round : (k = 8 \/ k = 6) -> ∀ {Q : (Bool × Int × Int) ⊕ (Int ⊕ Int) -> Prop}, Tot (zf (IntKind.wrap .i64 (a + 1)) fun (u : Int) => cond (decide ((s.length : Int) <= u)) (some (Sum.inl ((10 : Int), u))) (zh s u fun (v : UInt8) => zf (IntKind.wrap .i64 (v.toNat : Int)) fun (z : Int) => Option.bind (zer z) fun r => some (Sum.inl (r.1, u)))) (Sum.elim (fun (s' : Int × Int) => (0 <= s'.2 /\ s'.2 <= (s.length : Int) /\ (s.take s'.2.toNat).all (fun c => yK c || xE c) = true /\ ((s'.2 = (s.length : Int) /\ s'.1 = 10) \/ ∃ d, s[s'.2.toNat]? = some d /\ decide (s'.1 = 8) = yK d /\ decide (s'.1 = 6) = xE d)) /\ s.length - s'.2.toNat < s.length - a.toNat) Q) := by
  intro hk Q
  rcases h4 with ⟨g1, g2⟩ | ⟨d, hd, d1, d2⟩
  . omega
  have hlt : a.toNat < s.length := by
   rcases Nat.lt_or_ge a.toNat s.length with g | g
   . exact g
   . rw [List.getElem?_eq_none g] at hd; cases hd
  have hp : (yK d || xE d) = true := by
   rw [<- d1, <- d2]
   rcases hk with rfl | rfl <;> rfl
  have e1 : (a + 1).toNat = a.toNat + 1 := by omega
  have hall' : (s.take (a + 1).toNat).all (fun c => yK c || xE c) = true := by rw [e1]; exact zhb hall hd hp
  rw [qh, w64 (by omega) (by omega), zE]
  refine ⟨fun g => ?_, fun g => ?_⟩
  . simp only [decide_eq_true_eq] at g
    simp only [zv, Sum.elim_inl]
    exact ⟨⟨by omega, by omega, hall', .inl ⟨by omega, trivial⟩⟩, by omega⟩
  . simp only [decide_eq_false_iff_not] at g
    obtain ⟨d', hd'⟩ := zG (l := s) (i := (a + 1).toNat) (by omega)
    simp only [qu, qh, zy]
    refine ⟨by omega, d', hd', (zdg d').mono fun z hz => ?_⟩
    simp only [zv, Sum.elim_inl]
    exact ⟨⟨by omega, by omega, hall', .inr ⟨d', hd', hz⟩⟩, by omega⟩
 rw [zE]
 refine ⟨fun g => round (.inl (by simpa using g)), fun g => ?_⟩
 rw [zE]
 refine ⟨fun g' => round (.inr (by simpa using g')), fun g' => ?_⟩
 simp only [zv, Sum.elim_inr, Sum.elim_inl, qM, zE, e0, List.drop_zero]
 refine ⟨by omega, fun hne => ?_, fun heq => ?_⟩
 . refine (zv (Q := fun x => decide (x = 0) = (ya s && decide (s.length <= 16)))).1 (Qn 0 ?_)
   rcases h4 with ⟨g1, _⟩ | ⟨d, hd, d1, d2⟩
   . exfalso
     have : a.toNat = s.length := by omega
     rw [this, List.take_length] at hne
     simp at hne
   . unfold ya
     have : (s.all fun c => yK c || xE c) = false := by
      rw [List.all_eq_false]
      refine ⟨d, List.mem_of_getElem? hd, ?_⟩
      rw [<- d1, <- d2, g, g']
      simp
     rw [this, Bool.and_false]
 . have ht : s.take a.toNat = s := by simpa using heq
   rw [ht] at hall
   have hw : ya s = true := by
    unfold ya
    obtain ⟨r, rfl⟩ := hs0
    simp only [hall, hlow, Bool.and_self]
   rw [hw]
   refine ⟨fun g => ?_, fun g => ?_⟩
   . have : decide (s.length <= 16) = false := by simp at g ⊢; omega
     rw [this]; rfl
   . have : decide (s.length <= 16) = true := by simp at g ⊢; omega
     rw [this]; rfl
open Go
theorem zox (c : UInt8) : zpr (c.toNat : Int) = some (yK c) := by
 unfold zpr yK
 by_cases h : 97 <= c.toNat
 . have : decide ((97 : Int) <= (c.toNat : Int)) = true := by simp; omega
   rw [this]
   simp only [cond_true, h, decide_true, Bool.true_and, Option.some.injEq]
   rw [Bool.eq_iff_iff]; simp; omega
 . have : decide ((97 : Int) <= (c.toNat : Int)) = false := by simp; omega
   rw [this]
   simp [h]
theorem zBj (c : UInt8) : zta (c.toNat : Int) = some (xE c) := by
 unfold zta xE
 by_cases h : 48 <= c.toNat
 . have : decide ((48 : Int) <= (c.toNat : Int)) = true := by simp; omega
   rw [this]
   simp only [cond_true, h, decide_true, Bool.true_and, Option.some.injEq]
   rw [Bool.eq_iff_iff]; simp; omega
 . have : decide ((48 : Int) <= (c.toNat : Int)) = false := by simp; omega
   rw [this]
   simp [h]
theorem zA6 (s : List UInt8) (h : s.length <= 1000000) : zcm s = some (ya s) := by
 unfold zcm
 cases s with
 | nil => rfl
 | cons c r =>
   have e1 : decide (c :: r = (ByteArray.mk #[]).data.toList) = false := by
    exact decide_eq_false (fun e => by cases (show c :: r = [] from e))
   rw [e1]
   apply Tot.eq
   have e0 : (0 : Int).toNat = 0 := rfl
   simp only [cond_false, qu, e0, zy]
   refine ⟨by omega, c, rfl, ?_⟩
   rw [zox, zv, zE]
   refine ⟨fun g => ?_, fun g => ?_⟩
   . have : yK c = false := by simpa using g
     simp [zv, ya, this]
   have hl : yK c = true := by simpa using g
   rw [zy]
   refine Tot.count (c :: r).length (fun k s => s = (k : Int) /\ ((c :: r).take k).all (fun c => yK c || xE c) = true) ?_ ⟨rfl, by simp⟩
   rintro k _ hk ⟨rfl, hall⟩
   simp only [zE, zv, qh, qu, zy, Sum.elim_inl, Sum.elim_inr, decide_eq_true_eq, decide_eq_false_iff_not, Int.toNat_natCast]
   refine ⟨fun hlt => ?_, fun hge => ?_⟩
   . obtain ⟨d, hd⟩ := zG (l := c :: r) (i := k) (by omega)
     refine ⟨by omega, d, hd, ?_⟩
     rw [zox, zv]
     have nx : k < (c :: r).length /\ IntKind.wrap .i64 ((k : Int) + 1) = ((k + 1 : Nat) : Int) := by
      rw [w64 (by omega) (by omega)]; exact ⟨by omega, by omega⟩
     refine ⟨fun g1 => ⟨by omega, d, hd, ?_⟩, fun g1 => ⟨nx.1, nx.2, zhb hall hd (by simp at g1; simp [g1])⟩⟩
     rw [zBj, zv]
     refine ⟨fun g2 => ?_, fun g2 => ⟨nx.1, nx.2, zhb hall hd (by simp at g2; simp [g2])⟩⟩
     have : ((c :: r).all fun c => yK c || xE c) = false := by
      rw [List.all_eq_false]
      refine ⟨d, List.mem_of_getElem? hd, ?_⟩
      simp at g1 g2
      simp [g1, g2]
     unfold ya
     rw [this, Bool.and_false]
   . rw [List.take_of_length_le (by omega)] at hall
     unfold ya
     rw [hall]
     show true = (yK c && true)
     rw [hl]; rfl
theorem zDw (s : List UInt8) (h : s.length <= 1000000) : Tot (zuj (TK.mk 1 0 0 0 s)) fun x => decide (x = 0) = (ya s && decide (s.length <= 16)) := by
 unfold zuj
 dsimp only
 have e2 : decide ((1 : Int) < 1) = false := rfl
 have e3 : decide ((9 : Int) < 1) = false := rfl
 have e4 : decide ((1 : Int) = 2) = false := rfl
 simp only [e2, e3, e4, decide_true, cond_true, cond_false, Bool.not_true, Bool.not_false, zA6 s h, Option.bind_some, zE, zv]
 refine ⟨fun g => ?_, fun g => ?_⟩
 . have : ya s = false := by simpa using g
   rw [this]; rfl
 . have : ya s = true := by simpa using g
   rw [this]
   refine ⟨fun g => ?_, fun g => ?_⟩
   . have : decide (s.length <= 16) = false := by simp at g ⊢; omega
     rw [this]; rfl
   . have : decide (s.length <= 16) = true := by simp at g ⊢; omega
     rw [this]; rfl
def primN : List (List UInt8) := [[110, 101, 103], [97, 98, 115], [110, 111, 116], [115, 104, 97, 112, 101], [114, 97, 118, 101, 108], [114, 101, 118, 101, 114, 115, 101], [102, 108, 105, 112], [105, 111, 116, 97], [115, 117, 109], [108, 101, 97, 115, 116], [109, 111, 115, 116], [99, 111, 117, 110, 116], [115, 99, 97, 110], [103, 114, 97, 100, 101], [97, 100, 100], [115, 117, 98], [109, 117, 108], [100, 105, 118], [109, 111, 100], [112, 108, 117, 115], [109, 105, 110, 117, 115], [116, 105, 109, 101, 115], [101, 113], [110, 101], [108, 116], [108, 101], [103, 116], [103, 101], [97, 110, 100], [111, 114], [109, 105, 110], [109, 97, 120], [116, 97, 107, 101], [100, 114, 111, 112], [102, 105, 108, 108], [103, 114, 105, 100], [99, 97, 116], [97, 116], [105, 110], [112, 105, 99, 107]]
theorem zjb (s : List UInt8) : Tot (zpg s) fun x => decide (x.2 = 0) = decide (s ∈ primN) := by
 by_cases hm : s ∈ primN
 . have h2 : ∀ t ∈ primN, ∃ x, zpg t = some x /\ decide (x.2 = 0) = true := by
    unfold primN
    simp only [List.forall_mem_cons]
    repeat' constructor
    intro t ht; cases ht
   obtain ⟨x, e, hx⟩ := h2 s hm
   exact ⟨x, e, by show decide (x.2 = 0) = _; rw [hx]; simp [hm]⟩
 . have hd : decide (s ∈ primN) = false := by simp [hm]
   rw [hd]
   unfold zpg
   unfold primN at hm
   simp only [List.mem_cons, List.not_mem_nil, or_false, not_or] at hm
   have sw : ∀ n : List UInt8, (n = s) = (s = n) := fun n => propext eq_comm
   simp only [sw, hm, decide_false, cond_false, Option.bind_some, Sum.elim_inl, zv]
   rfl
theorem zlz (s : List UInt8) : Tot (zsm s) fun x => decide (x.2 = 0) = decide (s ∈ primN) := by
 unfold zsm zr4
 simp only [Option.bind_some]
 change Tot (Option.bind (lpO (fun (k : Int) => cond (decide (k < ((List.length (List.map SV.str primN) : Nat) : Int))) (zh primN k _) _) 0) _) _
 rw [zy]
 have hn : (List.map SV.str primN).length = 40 := rfl
 have hn' : primN.length = 40 := rfl
 rw [hn]
 refine Tot.count 40 (fun k x => x = (k : Int) /\ s ∉ primN.take k) ?_ ⟨rfl, by simp⟩
 rintro k _ hk ⟨rfl, hmem⟩
 simp only [zE, zv, qh, qu, zy, Sum.elim_inl, Sum.elim_inr, decide_eq_true_eq, decide_eq_false_iff_not, Int.toNat_natCast]
 refine ⟨fun hlt => ?_, fun hge => ?_⟩
 . obtain ⟨x, hx⟩ := zG (l := primN) (i := k) (by omega)
   refine ⟨by omega, x, hx, fun g => ?_, fun g => ?_⟩
   . subst g
     have := List.mem_of_getElem? hx
     simp [this]
   . rw [w64 (by omega) (by omega), List.take_add_one, hx]
     refine ⟨by omega, by omega, fun hm => ?_⟩
     rcases List.mem_append.1 hm with hm | hm
     . exact hmem hm
     . simp at hm; exact g hm.symm
 . rw [List.take_of_length_le (by omega)] at hmem
   simp [hmem]
def resN : List (List UInt8) := [[118, 97, 114], [100, 101, 102], [111, 117, 116], [105, 102], [101, 108, 115, 101], [119, 104, 105, 108, 101], [101, 110, 100], [114, 101, 108, 101, 97, 115, 101], [105, 110, 116], [99, 104, 97, 114]]
def exN (s : List UInt8) : Bool := !decide (s ∈ resN) && !decide (s ∈ primN) && (ya s && decide (s.length <= 16))
theorem zci (s : List UInt8) (h : s.length <= 1000000) : zjm s = some (exN s) := by
 apply Tot.eq
 unfold exN
 by_cases hm : s ∈ resN
 . have h2 : ∀ t ∈ resN, zjm t = some false := by
    unfold resN
    simp only [List.forall_mem_cons]
    repeat' constructor
    intro t ht; cases ht
   rw [h2 s hm, zv]
   simp [hm]
 . have hd : decide (s ∈ resN) = false := by simp [hm]
   rw [hd]
   unfold zjm
   unfold resN at hm
   simp only [List.mem_cons, List.not_mem_nil, or_false, not_or] at hm
   change Tot (cond (decide (s = [118, 97, 114])) _ (cond (decide (s = [100, 101, 102])) _ (cond (decide (s = [111, 117, 116])) _ (cond (decide (s = [105, 102])) _ (cond (decide (s = [101, 108, 115, 101])) _ (cond (decide (s = [119, 104, 105, 108, 101])) _ (cond (decide (s = [101, 110, 100])) _ (cond (decide (s = [114, 101, 108, 101, 97, 115, 101])) _ (cond (decide (s = [105, 110, 116])) _ (cond (decide (s = [99, 104, 97, 114])) _ _)))))))))) _
   simp only [hm, decide_false, cond_false, zy]
   refine (zjb s).mono fun x hx => ?_
   rw [hx, zE]
   refine ⟨fun g => ?_, fun g => ?_⟩
   . rw [g]; exact .mk rfl
   . rw [g, zy]
     refine (zif s h).mono fun y hy => .mk ?_
     rw [hy]; rfl
theorem zlq (s : List UInt8) : zte s = some (decide (s ∈ resN)) := by
 unfold zte
 apply Tot.eq
 change Tot (Option.bind (lpO (fun (k : Int) => cond (decide (k < ((10 : Nat) : Int))) (zi (0 <= k /\ k < ((10 : Nat) : Int)) (zh resN ((k.toNat : Nat) : Int) _)) _) 0) _) _
 rw [zy]
 have hn' : resN.length = 10 := rfl
 refine Tot.count 10 (fun k x => x = (k : Int) /\ s ∉ resN.take k) ?_ ⟨rfl, by simp⟩
 rintro k _ hk ⟨rfl, hmem⟩
 simp only [zE, zv, qh, qu, qM, zy, Sum.elim_inl, Sum.elim_inr, decide_eq_true_eq, decide_eq_false_iff_not, Int.toNat_natCast]
 refine ⟨fun hlt => ?_, fun hge => ?_⟩
 . obtain ⟨x, hx⟩ := zG (l := resN) (i := k) (by omega)
   refine ⟨⟨by omega, by omega⟩, by omega, x, hx, fun g => ?_, fun g => ?_⟩
   . subst g
     have := List.mem_of_getElem? hx
     simp [this]
   . rw [w64 (by omega) (by omega), List.take_add_one, hx]
     refine ⟨by omega, by omega, fun hm => ?_⟩
     rcases List.mem_append.1 hm with hm | hm
     . exact hmem hm
     . simp at hm; exact g hm.symm
 . rw [List.take_of_length_le (by omega)] at hmem
   simp [hmem]
theorem ziw (s : List UInt8) (h : s.length <= 1000000) : zsw s = some (exN s) := by
 unfold zsw exN
 apply Tot.eq
 rw [zy]
 refine (zlz s).mono fun x hx => ?_
 rw [zy]
 refine (zDw s h).mono fun y hy => ?_
 rw [hx, hy, zlq]
 cases ya s && decide (s.length <= 16) <;> cases decide (s ∈ primN) <;> cases decide (s ∈ resN) <;> exact .mk rfl
open Go
theorem m1 : max (1 : Int) 0 = 1 := by decide
open Go
open Go
theorem qr {σ τ ε : Type} {step : σ -> Option (σ ⊕ (ε ⊕ τ))} {k1 : ε -> Option τ} (n : Nat) (S : Nat -> σ) (f : Nat -> Option τ) (e : ε)
 (h1 : ∀ k : Nat, k < n -> step (S k) = some (match f k with | some r => .inr (.inr r) | none => .inl (S (k + 1))))
 (h2 : step (S n) = some (.inr (.inl e))) {s0 : σ} (h0 : S 0 = s0) : (lpO step s0).bind (Sum.elim k1 some) = match zt f 0 n with | some r => some r | none => k1 e := by
 subst h0
 rw [zhm n S (fun k => (f k).map Sum.inr) (.inl e) (fun k hk => by rw [h1 k hk]; cases f k <;> rfl) h2, jW]
 cases zt f 0 n <;> rfl
theorem zg2 {σ τ ε : Type} {step : σ -> Option (σ ⊕ (ε ⊕ τ))} {k1 : ε -> Option τ} (n : Nat) (S : Nat -> σ) (e : ε)
 (h1 : ∀ k : Nat, k < n -> step (S k) = some (.inl (S (k + 1)))) (h2 : step (S n) = some (.inr (.inl e))) {s0 : σ} (h0 : S 0 = s0) : (lpO step s0).bind (Sum.elim k1 some) = k1 e := by
 subst h0
 rw [zqw n S (.inl e) h1 h2]; rfl
def foldN : List (List UInt8) := [[], [115, 117, 109], [99, 111, 117, 110, 116], [108, 101, 97, 115, 116], [109, 111, 115, 116]]
theorem zp6 (s : List UInt8) : zkx s = zfs s := by
 have hR : zfs s = some (if [115, 117, 109] = s then (1, 0) else if [99, 111, 117, 110, 116] = s then (2, 0) else if [108, 101, 97, 115, 116] = s then (3, 0) else if [109, 111, 115, 116] = s then (4, 0) else (0, 4)) := by
  unfold zfs zks
  simp only [Option.bind_some]
  have := qr (k1 := fun (_ : Unit) => some (((0 : Int), (4 : Int)))) (step := fun (s13 : Int) => cond (decide (s13 < (5 : Int))) (zh foldN s13 fun x19 => cond (decide (x19 = s)) (some (Sum.inr (Sum.inr ((s13, (0 : Int)))))) (zf (IntKind.wrap IntKind.i64 (s13 + (1 : Int))) fun x21 => some (Sum.inl x21))) (some (Sum.inr (Sum.inl ()))))
   4 (fun k => ((k + 1 : Nat) : Int)) (fun k => match foldN[k + 1]? with | some x => if x = s then some (((k + 1 : Nat) : Int), (0 : Int)) else none | none => none) ()
   (fun k hk => by
     rcases k with _ | _ | _ | _ | k
     all_goals first | (exfalso; omega) | skip
     all_goals (simp only [foldN]; split <;> (rename_i h; simp at h; simp [zh, zf, h]) <;> rfl)) rfl rfl
  refine Eq.trans this ?_
  by_cases h1 : [115, 117, 109] = s
  . simp [zt, foldN, h1]
  by_cases h2 : [99, 111, 117, 110, 116] = s
  . simp [zt, foldN, h1, h2]
  by_cases h3 : [108, 101, 97, 115, 116] = s
  . simp [zt, foldN, h1, h2, h3]
  by_cases h4 : [109, 111, 115, 116] = s
  . simp [zt, foldN, h1, h2, h3, h4]
  simp [zt, foldN, h1, h2, h3, h4]
 rw [hR]
 unfold zkx
 by_cases h1 : [115, 117, 109] = s
 . simp [h1]
 by_cases h2 : [99, 111, 117, 110, 116] = s
 . simp [h1, h2]
 by_cases h3 : [108, 101, 97, 115, 116] = s
 . simp [h1, h2, h3]
 by_cases h4 : [109, 111, 115, 116] = s
 . simp [h1, h2, h3, h4]
 simp [h1, h2, h3, h4]
def wi (n : Int) : List UInt8 × Int := if n < 1 \/ 4 < n then ([], 2) else (foldN.getD n.toNat [], 0)
theorem zag {n : Int} (h : ¬ (n < 1 \/ 4 < n)) : n = 1 \/ n = 2 \/ n = 3 \/ n = 4 := by omega
theorem zf7 (n : Int) : zob n = some (wi n) := by
 unfold zob wi
 by_cases h : n < 1 \/ 4 < n
 . rw [if_pos h]
   rcases h with h | h
   . simp [h]
   . have : ¬ n < 1 := by omega
     simp [this, h]
 . rw [if_neg h]
   rcases zag h with rfl | rfl | rfl | rfl <;> rfl
theorem zf4 (n : Int) : zni n = some (wi n) := by
 unfold zni wi zks
 by_cases h : n < 1 \/ 4 < n
 . rw [if_pos h]
   rcases h with h | h
   . simp [h]
   . have : ¬ n < 1 := by omega
     simp [this, h]
 . rw [if_neg h]
   rcases zag h with rfl | rfl | rfl | rfl <;> rfl
theorem nameC_err {n : Int} : (wi n).2 = 0 ↔ 1 <= n /\ n <= 4 := by
 unfold wi
 split <;> simp <;> omega
def i64 (n : Int) : Prop := -9223372036854775808 <= n /\ n <= 9223372036854775807
open Go
open Go
open Go
theorem zCh {n : Int} (h : inK .u8 n) : 0 <= n /\ n < 256 := by
 have e1 : IntKind.u8.min = 0 := by decide
 have e2 : IntKind.u8.max = 255 := by decide
 unfold inK at h
 omega
open Go
theorem zqj (x : Int) (h0 : 0 <= x) (h1 : x < 256) : Tot (zo1 x) fun y => ∀ n : Nat, n <= 8 -> x.toNat < 2 ^ n -> decide (y < (n : Int)) = !decide (x.toNat = 2 ^ n - 1) := by
 unfold zo1
 rw [qu]
 refine ⟨h0, ?_⟩
 have key : ∀ l : List UInt8, (∀ x : Fin 256, ∀ n : Fin 9, (l[x.val]?.map fun y => decide (x.val < 2 ^ n.val -> decide (IntKind.wrap .i64 (y.toNat : Int) < (n.val : Int)) = !decide (x.val = 2 ^ n.val - 1))) = some true) ->
  ∃ y, l[x.toNat]? = some y /\ Tot (zf (IntKind.wrap .i64 (y.toNat : Int)) fun z => some z) fun y => ∀ n : Nat, n <= 8 -> x.toNat < 2 ^ n -> decide (y < (n : Int)) = !decide (x.toNat = 2 ^ n - 1) := by
  intro l hl
  cases e : l[x.toNat]? with
  | none =>
    have := hl ⟨x.toNat, by omega⟩ ⟨0, by omega⟩
    simp only [e] at this
    cases this
  | some y =>
    refine ⟨y, rfl, .mk fun n hn hx => ?_⟩
    have := hl ⟨x.toNat, by omega⟩ ⟨n, by omega⟩
    simp only [e, Option.map_some, Option.some.injEq, decide_eq_true_eq] at this
    exact this hx
 exact key _ (by decide +kernel)
theorem zuq {l : TL} (h : LatIn l) : zsb l = some (if (qG l).2 = 0 then ((wA l : Int), 0) else (0, (qG l).2)) := by
 unfold zsb
 rw [zgb h [] (by simp)]
 simp only [Option.bind_some, zb4, List.all_nil, if_true]
 by_cases hk : (qG l).2 = 0
 case neg => simp [hk]
 have ok := uF h hk
 simp only [hk, if_true, decide_true, Bool.not_true, cond_false]
 obtain ⟨o, e1, on, ol, _, ou, _⟩ := zp0 l ok.u8 ok.le ok.len
 rw [e1]
 simp only [Option.bind_some]
 have hb := (zhz h hk).1
 have hend : zuc o.up_ o.n_ = some (wA l : Int) := by
  unfold zuc
  rw [on]
  have hw : IntKind.wrap .i64 ((l.Names.length : Int) - 1) = ((l.Names.length - 1 : Nat) : Int) := by
   have := ok.pos; have := ok.le
   rw [w64 (by omega) (by omega)]; omega
  have hle := ok.le
  have hpos := ok.pos
  have hrun := zhm (step := fun (s585 : Int) =>
   zf (IntKind.wrap IntKind.i64 ((l.Names.length : Int) - (1 : Int))) fun x591 =>
   cond (decide (s585 < x591))
   (zi ((0 : Int) <= s585 /\ s585 < (↑(8 : Nat) : Int)) (
   zh (o.up_) ((↑(Int.toNat s585) : Int)) fun x593 =>
   Option.bind (zo1 (x593)) fun x594 =>
   cond (decide (x594 < (l.Names.length : Int)))
   (zf (IntKind.wrap IntKind.i64 (s585 + (1 : Int))) fun x596 =>
   some (Sum.inl (x596)))
   (some (Sum.inr (Sum.inl (β := Int) s585)))))
   (some (Sum.inr (Sum.inl s585)))) (l.Names.length - 1) (fun k => (k : Int)) (fun k => if k = wA l then some (Sum.inl (k : Int)) else none) (Sum.inl ((l.Names.length - 1 : Nat) : Int)) (fun k hk2 => by
     have hlt : (k : Int) < ((l.Names.length - 1 : Nat) : Int) := by omega
     have n1 : (0 : Int) <= (k : Int) := by omega
     have n2 : (k : Int) < ((8 : Nat) : Int) := by omega
     have hw2 : IntKind.wrap .i64 ((k : Int) + 1) = ((k + 1 : Nat) : Int) := w64 (by omega) (by omega)
     obtain ⟨x, hx⟩ := zG (l := l.Up) (i := k) (by have := ok.len; omega)
     have hx' := ok.u8.get hx
     have hox : o.up_[k]? = some x := by rw [ou k (by omega)]; exact hx
     obtain ⟨y, ey, hy⟩ := zqj x hx'.1 hx'.2
     have hux : x.toNat = upN l k := by unfold upN; rw [List.getD_eq_getElem?_getD, hx]; rfl
     have hf := zxa h hk (b := k) (by omega)
     have hlt2 : x.toNat < 2 ^ l.Names.length := by
      have h1 := (zel h hk).1 k (by omega)
      unfold xA at h1
      simp only [Bool.and_eq_true, decide_eq_true_eq] at h1
      rw [hux]; exact h1.1.1
     have hd := hy l.Names.length hle hlt2
     rw [hux] at hd
     simp only [zf, hw, hlt, decide_true, cond_true, zi, n1, n2, and_self, if_true, zh, Int.toNat_natCast, hox, Option.bind_some, ey, hw2, hd]
     by_cases hq : k = wA l
     . have := hf.2 hq
       simp only [this, if_pos hq, decide_true, Bool.not_true, cond_false]
     . have : ¬ upN l k = 2 ^ l.Names.length - 1 := fun e => hq (hf.1 e)
       simp only [this, if_neg hq, decide_false, Bool.not_false, cond_true]) (by
     simp only [zf, hw]
     simp)
  have hs0 : ((0 : Nat) : Int) = 0 := rfl
  simp only [hs0] at hrun
  rw [hrun]
  have hsc : (zt (fun k => if k = wA l then some (Sum.inl (α := Int) (β := Int) (k : Int)) else none) 0 (l.Names.length - 1)).getD (Sum.inl ((l.Names.length - 1 : Nat) : Int)) = Sum.inl (wA l : Int) := by
   cases e : zt (fun k => if k = wA l then some (Sum.inl (α := Int) (β := Int) (k : Int)) else none) 0 (l.Names.length - 1) with
   | some r =>
     have : r = Sum.inl (wA l : Int) := za9 (v := Sum.inl (wA l : Int)) (fun i => by
      by_cases hi : i = wA l
      . exact .inl (by rw [if_pos hi, hi])
      . exact .inr (by rw [if_neg hi])) e
     rw [this]; rfl
   | none =>
     have hn := scan_none.1 e
     rcases Nat.lt_or_ge (wA l) (l.Names.length - 1) with g | g
     . have := hn (wA l) (by omega) (by omega)
       simp at this
     . have : wA l = l.Names.length - 1 := by omega
       rw [this]; rfl
  rw [hsc]
  rfl
 rw [hend]
 rfl
open Go
theorem zl5 {l : TL} (h : LatIn l) : zm5 l = some (if (qG l).2 = 0 then ((wA l : Int), 0) else (0, (qG l).2)) := by
 apply Tot.eq
 unfold zm5
 rw [zjo h]
 simp only [Option.bind_some]
 by_cases hk : (qG l).2 = 0
 case neg =>
  have : zb4 l [0, 0] = (qG l).2 := by unfold zb4; rw [if_neg hk]
  simp only [this, hk, decide_false, Bool.not_false, cond_true, if_false]
  exact .mk rfl
 have ok := uF h hk
 have hpos := ok.pos
 have hle := ok.le
 have h0n : (0 : Int) < (l.Names.length : Int) := by omega
 have hl0 : wv l 0 = true := by unfold wv; rw [decide_eq_true (Int.le_refl 0), decide_eq_true h0n]; rfl
 have ha : zb4 l [0, 0] = 0 := by unfold zb4; rw [if_pos hk, List.all_cons, List.all_cons, hl0]; rfl
 simp only [ha, hk, decide_true, Bool.not_true, cond_false, if_true]
 obtain ⟨d, e1, dl, dd⟩ := zio ok.u8 ok.le ok.len
 rw [e1]
 simp only [Option.bind_some, zy, List.length_map]
 refine Tot.count l.Names.length (fun k s => s.1 = (k : Int) /\ ∃ v : Nat, s.2 = (v : Int) /\ v < l.Names.length /\ ∀ i, i < l.Names.length -> up l i v = true -> ∀ j, j < k -> up l i j = true) ?_ ⟨rfl, 0, rfl, by omega, fun i _ _ j hj => by omega⟩
 rintro k ⟨i, w⟩ hkn ⟨h0, v, h1, h2, h3⟩
 simp only at h0 h1
 subst h0 h1
 simp only [zE, decide_eq_true_eq, decide_eq_false_iff_not]
 refine ⟨fun hlt => ?_, fun hlt => ?_⟩
 . obtain ⟨c, hc, hcn, hg⟩ := zm2 h hk (a := k) (b := v) (by omega) h2
   rw [uR d (dnN l) k v (by omega) (fun c hc => dd c (by omega)) (fun c hc2 => zh8 l c hle) (by omega) (by omega)]
   unfold zew
   rw [dl, hc]
   simp only [Option.bind_some, zf, zv, Sum.elim_inl]
   refine ⟨by omega, w64 (by omega) (by omega), c, rfl, hcn, fun i hi hu j hj => ?_⟩
   rw [zh5 hi hg] at hu
   simp only [Bool.and_eq_true] at hu
   rcases Nat.lt_or_ge j k with g | g
   . exact h3 i hi hu.2 j g
   . have : j = k := by omega
     rw [this]; exact hu.1
 . have hke : k = l.Names.length := by omega
   simp only [zv, Sum.elim_inl, Sum.elim_inr]
   have := zvs h hk h2 fun a ha => h3 v h2 (ok.self v h2) a (by omega)
   rw [<- this]
open Go
theorem zwe {l : TL} (hu : U8s l.Up) {a b : Nat} (ha : a < l.Up.length) (hb : b <= 8) : zp2 l a b = some (up l a b) := by
 unfold zp2
 obtain ⟨x, hx⟩ := zG ha
 have hx' := hu.get hx
 have key : ∀ u : Fin 256, ∀ b : Fin 9, decide (bits .and .u8 (Int.fdiv (u.val : Int) (2 ^ min b.val (IntKind.bits .u8))) 1 = 1) = Nat.testBit u b := by decide +kernel
 have := key ⟨x.toNat, by omega⟩ ⟨b, by omega⟩
 simp only [Int.toNat_of_nonneg hx'.1] at this
 simp only [Int.natCast_nonneg, zh, Int.toNat_natCast, if_true, hx, Option.bind_some, zi, this, xu hx]
theorem zh7 {l : TL} (h : LatIn l) (hk : (qG l).2 = 0) (xs : List Int) (hx : xs.length <= 64) (hl : ∀ x ∈ xs, wv l x = true) : zul l xs = some (0, 0) := by
 unfold zul
 rw [uf h]
 have h64 : ¬ (64 : Int) < (xs.length : Int) := by omega
 simp only [Option.bind_some, hk, decide_true, Bool.not_true, cond_false, List.length_map, h64, decide_false]
 refine (zg2 xs.length (fun k => (k : Int)) () (fun k hk => ?_) (by simp) rfl).trans rfl
 obtain ⟨x, hx⟩ := zG hk
 have hq := hl x (List.mem_of_getElem? hx)
 unfold wv at hq
 simp only [Bool.and_eq_true, decide_eq_true_eq] at hq
 have hlt : (k : Int) < (xs.length : Int) := by omega
 have hw : IntKind.wrap .i64 ((k : Int) + 1) = ((k + 1 : Nat) : Int) := w64 (by omega) (by omega)
 have n1 : (0 : Int) <= (k : Int) := by omega
 have n2 : ¬ x < 0 := by omega
 have n3 : ¬ (l.Names.length : Int) <= x := by omega
 simp only [hlt, decide_true, cond_true, zh, n1, if_true, Int.toNat_natCast, hx, Option.bind_some, zf, hw, n2, n3, decide_false, cond_false]
def flK (l : TL) (xs : List Int) (a : Int) (k : Nat) : Option Int := match xs[k]? with
 | some x => if up l x.toNat a.toNat = true then none else some (k : Int)
 | none => none
def flV (l : TL) (xs : List Int) (a : Int) : Int × Int := match zt (flK l xs a) 0 xs.length with | some r => (r, 25) | none => (0, 0)
theorem zzg {l : TL} (h : LatIn l) (hk : (qG l).2 = 0) (xs : List Int) (hx : xs.length <= 64) (hl : ∀ x ∈ xs, wv l x = true) (a : Int) (ha : wv l a = true) :
 zkp l xs a = some (flV l xs a) := by
 have ok := uF h hk
 have hle := ok.le
 have hlen := ok.len
 unfold zkp
 rw [zh7 h hk xs hx hl]
 unfold wv at ha
 simp only [Bool.and_eq_true, decide_eq_true_eq] at ha
 have n2 : ¬ a < 0 := by omega
 have n3 : ¬ (l.Names.length : Int) <= a := by omega
 simp only [Option.bind_some, decide_true, Bool.not_true, cond_false, n2, n3, decide_false, List.length_map]
 have hi : zug xs (l, a) = some (match zt (flK l xs a) 0 xs.length with | some r => r | none => -1) := by
  unfold zug
  simp only [List.length_map]
  refine (qr xs.length (fun k => (k : Int)) (flK l xs a) () (fun k hk => ?_) (by simp) rfl).trans ?_
  . obtain ⟨x, hx⟩ := zG hk
    have hq := hl x (List.mem_of_getElem? hx)
    unfold wv at hq
    simp only [Bool.and_eq_true, decide_eq_true_eq] at hq
    have hlt : (k : Int) < (xs.length : Int) := by omega
    have hw : IntKind.wrap .i64 ((k : Int) + 1) = ((k + 1 : Nat) : Int) := w64 (by omega) (by omega)
    have n1 : (0 : Int) <= (k : Int) := by omega
    have hb : zp2 l x a = some (up l x.toNat a.toNat) := by
     have := zwe ok.u8 (a := x.toNat) (b := a.toNat) (by omega) (by omega)
     rwa [Int.toNat_of_nonneg hq.1, Int.toNat_of_nonneg ha.1] at this
    simp only [hlt, decide_true, cond_true, zh, n1, if_true, Int.toNat_natCast, hx, Option.bind_some, zf, hw, zw2, hb, flK]
    cases up l x.toNat a.toNat <;> simp
  . cases zt (flK l xs a) 0 xs.length <;> rfl
 rw [hi]
 unfold flV
 cases e : zt (flK l xs a) 0 xs.length with
 | none => simp
 | some r =>
   have : 0 <= r := by
    have key : ∀ {j k : Nat} {b : Int}, zt (flK l xs a) k j = some b -> 0 <= b := by
     intro j
     induction j with
     | zero => intro k b h; cases h
     | succ j ih =>
       intro k b h
       simp only [zt] at h
       cases hf : flK l xs a k with
       | none => rw [hf] at h; exact ih h
       | some z =>
         rw [hf] at h
         cases h
         unfold flK at hf
         split at hf
         . split at hf
           . cases hf
           . cases hf; omega
         . cases hf
    exact key e
   simp [this]
open Go
def qw (l : TL) (a : Int) : Bool := decide (0 <= a) && decide (a < (l.Names.length : Int))
theorem jR (l : TL) (a : Int) : xc l a = some (qw l a) := by
 unfold xc qw
 by_cases h : 0 <= a <;> simp [h]
theorem jx (l : TL) (a : Int) : xL l a = some (qw l a) := by
 unfold xL qw
 by_cases h : 0 <= a <;> simp [h]
def nmE (s : List UInt8) (before : List (List UInt8)) : Int := if exN s = true then (if s ∈ before then 8 else 0) else 24
theorem inL_iff {α : Type} [DecidableEq α] {a : α} {l : List α} : inL a l = true ↔ a ∈ l := by
 unfold inL; simp
theorem zcb (s : List UInt8) (b : List (List UInt8)) (h : s.length <= 1000000) (hb : b.length <= 1000000) : zpx s b = some (nmE s b) := by
 unfold zpx nmE
 rw [ziw s h]
 simp only [Option.bind_some, List.length_map]
 cases exN s with
 | false => simp
 | true =>
   simp only [Bool.not_true, cond_false, if_true]
   refine (qr b.length (fun k => (k : Int)) (fun k => match b[k]? with | some x => if x = s then some (8 : Int) else none | none => none) () (fun k hk => ?_) ?_ rfl).trans ?_
   . obtain ⟨x, hx⟩ := zG hk
     have hlt : (k : Int) < (b.length : Int) := by omega
     have hw : IntKind.wrap .i64 ((k : Int) + 1) = ((k + 1 : Nat) : Int) := w64 (by omega) (by omega)
     have n1 : (0 : Int) <= (k : Int) := by omega
     simp only [hlt, decide_true, cond_true, zh, n1, if_true, Int.toNat_natCast, hx, Option.bind_some, zf, hw]
     by_cases he : x = s <;> simp [he]
   . simp
   . cases hr : zt (fun k => match b[k]? with | some x => if x = s then some (8 : Int) else none | none => none) 0 b.length with
     | some r =>
       have h8 : r = 8 := za9 (v := (8 : Int)) (fun i => by
        cases b[i]? with
        | none => exact .inr rfl
        | some x => by_cases hx : x = s <;> simp [hx]) hr
       have hm : s ∈ b := by
        by_cases hm : s ∈ b
        . exact hm
        have : zt (fun k => match b[k]? with | some x => if x = s then some (8 : Int) else none | none => none) 0 b.length = none := by
         rw [scan_none]
         intro i _ hi
         obtain ⟨x, hx⟩ := zG (l := b) (i := i) (by omega)
         rw [hx]
         have : x ≠ s := fun e => hm (e ▸ List.mem_of_getElem? hx)
         simp [this]
        rw [this] at hr; cases hr
       simp [hm, h8]
     | none =>
       have hm : ¬ s ∈ b := by
        intro hm
        obtain ⟨i, hi, e⟩ := List.getElem_of_mem hm
        have := scan_none.1 hr i (by omega) (by omega)
        rw [List.getElem?_eq_getElem hi, e] at this
        simp at this
       simp [hm]
def chK (p : TP) (k : Nat) : Option (Int × Int) := match p.Channels[k]? with
 | some c => if nmE c.s_ ((p.Channels.take k).map (·.s_)) ≠ 0 then some ((k : Int), nmE c.s_ ((p.Channels.take k).map (·.s_))) else if qw p.Lattice c.at_ = true then none else some ((k : Int), 7)
 | none => none
def chC (p : TP) : Int × Int := if (16 : Int) < (p.Channels.length : Int) then (-1, 3) else match zt (chK p) 0 p.Channels.length with | some r => r | none => (0, 0)
theorem zdy (p : TP) (hs : ∀ c ∈ p.Channels, c.s_.length <= 1000000) : zs5 p = some (chC p) := by
 unfold zs5 chC
 simp only [List.length_map]
 by_cases h : (16 : Int) < (p.Channels.length : Int)
 . simp [h]
 simp only [h, decide_false, cond_false, if_false]
 refine (qr p.Channels.length (fun k => ((k : Int), (p.Channels.take k).map (·.s_))) (chK p) () (fun k hk => ?_) ?_ rfl).trans ?_
 . obtain ⟨x, hx⟩ := zG hk
   have hlt : (k : Int) < (p.Channels.length : Int) := by omega
   have hw : IntKind.wrap .i64 ((k : Int) + 1) = ((k + 1 : Nat) : Int) := w64 (by omega) (by omega)
   have n1 : (0 : Int) <= (k : Int) := by omega
   have e : (p.Channels.take (k + 1)).map (·.s_) = (p.Channels.take k).map (·.s_) ++ [x.s_] := by rw [List.take_add_one, hx]; simp
   simp only [hlt, decide_true, cond_true, zh, n1, if_true, Int.toNat_natCast, hx, Option.bind_some, zf, hw, zci x.s_ (hs x (List.mem_of_getElem? hx)), jR, chK, e]
   unfold nmE
   cases exN x.s_ with
   | false => simp
   | true =>
     cases hi : inL x.s_ ((p.Channels.take k).map (·.s_)) with
     | true =>
       have := inL_iff.1 hi
       simp only [Bool.not_true, cond_false, cond_true, if_true, if_pos this]
       simp
     | false =>
       have : ¬ x.s_ ∈ (p.Channels.take k).map (·.s_) := fun h => by rw [inL_iff.2 h] at hi; cases hi
       simp only [Bool.not_true, cond_false, if_true, if_neg this]
       cases qw p.Lattice x.at_ <;> simp
 . simp
 . cases zt (chK p) 0 p.Channels.length <;> rfl
theorem zfx (p : TP) (hs : ∀ c ∈ p.Channels, c.s_.length <= 1000000) : zui p = some (chC p) := by
 unfold zui chC
 simp only [List.length_map]
 by_cases h : (16 : Int) < (p.Channels.length : Int)
 . simp [h]
 simp only [h, decide_false, cond_false, if_false]
 refine (qr p.Channels.length (fun k => ((k : Int), (p.Channels.take k).map (·.s_))) (chK p) () (fun k hk => ?_) ?_ rfl).trans ?_
 . obtain ⟨x, hx⟩ := zG hk
   have hlt : (k : Int) < (p.Channels.length : Int) := by omega
   have hw : IntKind.wrap .i64 ((k : Int) + 1) = ((k + 1 : Nat) : Int) := w64 (by omega) (by omega)
   have n1 : (0 : Int) <= (k : Int) := by omega
   have e : (p.Channels.take (k + 1)).map (·.s_) = (p.Channels.take k).map (·.s_) ++ [x.s_] := by rw [List.take_add_one, hx]; simp
   have hl : ((p.Channels.take k).map (·.s_)).length <= 16 := by rw [List.length_map, List.length_take]; omega
   simp only [hlt, decide_true, cond_true, zh, n1, if_true, Int.toNat_natCast, hx, Option.bind_some, zf, hw, zcb x.s_ _ (hs x (List.mem_of_getElem? hx)) (Nat.le_trans hl (by omega)), jx, chK, e, zi, List.length_map]
   rw [if_pos (by rw [List.length_map] at hl; omega)]
   by_cases h0 : nmE x.s_ ((p.Channels.take k).map (·.s_)) = 0
   . simp only [h0]
     cases qw p.Lattice x.at_ <;> simp
   . generalize nmE x.s_ ((p.Channels.take k).map (·.s_)) = z at h0 ⊢
     simp [h0]
 . simp
 . cases zt (chK p) 0 p.Channels.length <;> rfl
end Go.Sx.O
noncomputable section
namespace Go.Sx.O
open Go
def yW (l : TL) (t : TY) : Int :=
 if t.Rank < 0 \/ 2 < t.Rank then 7
 else if qw l t.Axes.1 = true /\ qw l t.Axes.2 = true /\ qw l t.Data = true then
  if ([t.Axes.1, t.Axes.2].drop t.Rank.toNat).all (fun x => decide (x = (wA l : Int))) = true then
   if ([t.Axes.1, t.Axes.2].take t.Rank.toNat).all (fun x => up l x.toNat t.Data.toNat) = true then 0 else 25
  else 6
 else 7
def um (l : TL) (t : TY) : Int := if (qG l).2 = 0 then (if t.Kind = 1 \/ t.Kind = 2 then yW l t else 7) else (qG l).2
theorem zuu {β : Type} (v : β) (b : Int) (xs : List Int) (hx : xs.length <= 2) : zt (fun k => match xs[k]? with | some x => if x = b then none else some v | none => none) 0 xs.length = if xs.all (fun x => decide (x = b)) = true then none else some v := by
 match xs, hx with
 | [], _ => rfl
 | [x], _ => by_cases h : x = b <;> simp [zt, h]
 | [x, y], _ => by_cases h : x = b <;> by_cases g : y = b <;> simp [zt, h, g]
theorem zye (l : TL) (a : Int) (xs : List Int) (hx : xs.length <= 2) : (flV l xs a).2 = if xs.all (fun x => up l x.toNat a.toNat) = true then 0 else 25 := by
 match xs, hx with
 | [], _ => rfl
 | [x], _ => cases h : up l x.toNat a.toNat <;> simp [flV, zt, flK, h]
 | [x, y], _ => cases h : up l x.toNat a.toNat <;> cases g : up l y.toNat a.toNat <;> simp [flV, zt, flK, h, g]
theorem zvm {l : TL} (h : LatIn l) (hk : (qG l).2 = 0) (t : TY) (hr : ¬ (t.Rank < 0 \/ 2 < t.Rank)) (l1 : qw l t.Axes.1 = true) (l2 : qw l t.Axes.2 = true) (l3 : qw l t.Data = true) :
 (Option.bind (lpO (fun (s612 : Int) =>
 cond (decide (s612 < (↑(List.length (List.drop (Int.toNat t.Rank) (List.take (Int.toNat (↑(2 : Nat) : Int)) [SV.int IntKind.i64 t.Axes.fst, SV.int IntKind.i64 t.Axes.snd]))) : Int)))
 (zh (List.drop (Int.toNat t.Rank) (List.take (Int.toNat (↑(2 : Nat) : Int)) [t.Axes.fst, t.Axes.snd])) (s612) fun x617 =>
 cond (!decide (x617 = (wA l : Int)))
 (some (Sum.inr (Sum.inr ((6 : Int)))))
 (zf (IntKind.wrap IntKind.i64 (s612 + (1 : Int))) fun x619 =>
 some (Sum.inl (x619))))
 (some (Sum.inr (Sum.inl (()))))) ((0 : Int)))
 (Sum.elim (fun (_ : Unit) =>
 zi ((0 : Int) <= t.Rank /\ t.Rank <= (↑(2 : Nat) : Int)) (
 Option.bind (zkp l (List.drop (Int.toNat (0 : Int)) (List.take (Int.toNat t.Rank) [t.Axes.fst, t.Axes.snd])) (t.Data)) fun x653 =>
 cond (!decide (x653.snd = (0 : Int)))
 (some (x653.snd))
 (some ((0 : Int))))) some)) = some (yW l t) := by
 have e0 : List.take (Int.toNat ((2 : Nat) : Int)) [t.Axes.fst, t.Axes.snd] = [t.Axes.fst, t.Axes.snd] := rfl
 have e1 : List.take (Int.toNat ((2 : Nat) : Int)) [SV.int IntKind.i64 t.Axes.fst, SV.int IntKind.i64 t.Axes.snd] = [SV.int IntKind.i64 t.Axes.fst, SV.int IntKind.i64 t.Axes.snd] := rfl
 have e2 : List.drop (Int.toNat 0) (List.take (Int.toNat t.Rank) [t.Axes.fst, t.Axes.snd]) = List.take (Int.toNat t.Rank) [t.Axes.fst, t.Axes.snd] := rfl
 rw [e0, e1, e2]
 have hlen : (List.drop (Int.toNat t.Rank) [SV.int IntKind.i64 t.Axes.fst, SV.int IntKind.i64 t.Axes.snd]).length = (List.drop (Int.toNat t.Rank) [t.Axes.fst, t.Axes.snd]).length := by simp
 rw [hlen]
 have hd2 : (List.drop (Int.toNat t.Rank) [t.Axes.fst, t.Axes.snd]).length <= 2 := by simp
 have ht2 : (List.take (Int.toNat t.Rank) [t.Axes.fst, t.Axes.snd]).length <= 2 := by simp; omega
 have htl : ∀ x ∈ List.take (Int.toNat t.Rank) [t.Axes.fst, t.Axes.snd], wv l x = true := fun x hx => by
  have := List.mem_of_mem_take hx
  simp only [List.mem_cons, List.not_mem_nil, or_false] at this
  rcases this with rfl | rfl
  . exact l1
  . exact l2
 unfold yW
 rw [if_neg hr, if_pos ⟨l1, l2, l3⟩]
 generalize hD : List.drop (Int.toNat t.Rank) [t.Axes.fst, t.Axes.snd] = D at hd2 ⊢
 generalize hT : List.take (Int.toNat t.Rank) [t.Axes.fst, t.Axes.snd] = T at ht2 htl ⊢
 refine (qr D.length (fun k => (k : Int)) (fun k => match D[k]? with | some x => if x = (wA l : Int) then none else some (6 : Int) | none => none) () (fun k hk => ?_) (by simp) rfl).trans ?_
 . obtain ⟨x, hx⟩ := zG hk
   have hlt : (k : Int) < (D.length : Int) := by omega
   have hw : IntKind.wrap .i64 ((k : Int) + 1) = ((k + 1 : Nat) : Int) := w64 (by omega) (by omega)
   have n1 : (0 : Int) <= (k : Int) := by omega
   simp only [hlt, decide_true, cond_true, zh, n1, if_true, Int.toNat_natCast, hx, Option.bind_some, zf, hw]
   by_cases hb : x = (wA l : Int) <;> simp [hb]
 . rw [zuu (6 : Int) (wA l : Int) D hd2]
   by_cases hall : D.all (fun x => decide (x = (wA l : Int))) = true
   . simp only [hall, if_true]
     unfold zi
     rw [if_pos (by omega), zzg h hk T (by omega) htl t.Data l3]
     have := zye l t.Data T ht2
     simp only [Option.bind_some]
     rw [this]
     split <;> rfl
   . rw [if_neg hall, if_neg hall]
end Go.Sx.O
end
namespace Go.Sx.O
open Go
theorem zkr {l : TL} (h : LatIn l) (t : TY) : zkg l t = some (um l t) := by
 unfold zkg um
 rw [zuq h]
 by_cases hk : (qG l).2 = 0
 case neg => simp [hk]
 simp only [hk, if_true, Option.bind_some, decide_true, Bool.not_true, cond_false, jR]
 by_cases r1 : t.Rank < 0
 . by_cases k1 : t.Kind = 1 <;> by_cases k2 : t.Kind = 2 <;> simp [k1, k2, r1, yW]
 by_cases r2 : 2 < t.Rank
 . by_cases k1 : t.Kind = 1 <;> by_cases k2 : t.Kind = 2 <;> simp [k1, k2, r1, r2, yW]
 have hr : ¬ (t.Rank < 0 \/ 2 < t.Rank) := by omega
 have hside : (0 : Int) <= t.Rank /\ t.Rank <= ((2 : Nat) : Int) := by omega
 cases l1 : qw l t.Axes.fst with
 | false => by_cases k1 : t.Kind = 1 <;> by_cases k2 : t.Kind = 2 <;> simp [k1, k2, r1, r2, yW, l1]
 | true =>
   cases l2 : qw l t.Axes.snd with
   | false => by_cases k1 : t.Kind = 1 <;> by_cases k2 : t.Kind = 2 <;> simp [k1, k2, r1, r2, yW, l1, l2]
   | true =>
     cases l3 : qw l t.Data with
     | false => by_cases k1 : t.Kind = 1 <;> by_cases k2 : t.Kind = 2 <;> simp [k1, k2, r1, r2, yW, l1, l2, l3]
     | true =>
       have key := zvm h hk t hr l1 l2 l3
       simp only [Bool.not_true, cond_false, r1, r2, decide_false]
       by_cases k1 : t.Kind = 1
       . simp only [k1, decide_true, Bool.not_true, cond_false, true_or, if_true]
         rw [zi, if_pos hside]
         exact key
       . by_cases k2 : t.Kind = 2
         . simp only [k1, k2, decide_true, decide_false, Bool.not_true, Bool.not_false, cond_true, cond_false, or_true, if_true]
           rw [zi, if_pos hside]
           exact key
         . simp [k1, k2]
open Go
def bK {β : Type} (v : β) (b : Int) (xs : List Int) (k : Nat) : Option β := match xs[k]? with | some x => if x = b then none else some v | none => none
theorem zA3 {β : Type} (v : β) (b : Int) (xs : List Int) (hx : xs.length <= 2) : zt (bK v b xs) 0 xs.length = if xs.all (fun x => decide (x = b)) = true then none else some v := by
 match xs, hx with
 | [], _ => rfl
 | [x], _ => by_cases h : x = b <;> simp [zt, bK, h]
 | [x, y], _ => by_cases h : x = b <;> by_cases g : y = b <;> simp [zt, bK, h, g]
def uK {β : Type} (v : β) (l : TL) (a : Int) (xs : List Int) (k : Nat) : Option β := match xs[k]? with | some x => if up l x.toNat a.toNat = true then none else some v | none => none
theorem zBa {β : Type} (v : β) (l : TL) (a : Int) (xs : List Int) (hx : xs.length <= 2) : zt (uK v l a xs) 0 xs.length = if xs.all (fun x => up l x.toNat a.toNat) = true then none else some v := by
 match xs, hx with
 | [], _ => rfl
 | [x], _ => cases h : up l x.toNat a.toNat <;> simp [zt, uK, h]
 | [x, y], _ => cases h : up l x.toNat a.toNat <;> cases g : up l y.toNat a.toNat <;> simp [zt, uK, h, g]
theorem zlw {l : TL} (h : LatIn l) (hk : (qG l).2 = 0) (t : TY) (hr : ¬ (t.Rank < 0 \/ 2 < t.Rank)) (l1 : qw l t.Axes.1 = true) (l2 : qw l t.Axes.2 = true) (l3 : qw l t.Data = true) :
 (Option.bind (lpO (fun (s598 : Int) =>
 cond (decide (s598 < (2 : Int)))
 (zi ((0 : Int) <= s598 /\ s598 < (↑(2 : Nat) : Int)) (
 zh ([t.Axes.fst, t.Axes.snd]) ((↑(Int.toNat s598) : Int)) fun x604 =>
 cond (!decide (x604 = (wA l : Int)))
 (some (Sum.inr (Sum.inr ((6 : Int)))))
 (zf (IntKind.wrap IntKind.i64 (s598 + (1 : Int))) fun x606 =>
 some (Sum.inl (x606)))))
 (some (Sum.inr (Sum.inl (()))))) (t.Rank))
 (Sum.elim (fun (_ : Unit) =>
 Option.bind (
 lpO (fun (s609 : Int) =>
 cond (decide (s609 < t.Rank))
 (zi ((0 : Int) <= s609 /\ s609 < (↑(2 : Nat) : Int)) (
 zh ([t.Axes.fst, t.Axes.snd]) ((↑(Int.toNat s609) : Int)) fun x614 =>
 Option.bind (uV l (x614) (t.Data)) fun x615 =>
 cond (!x615)
 (some (Sum.inr (Sum.inr ((25 : Int)))))
 (zf (IntKind.wrap IntKind.i64 (s609 + (1 : Int))) fun x617 =>
 some (Sum.inl (x617)))))
 (some (Sum.inr (Sum.inl (()))))) ((0 : Int)))
 (Sum.elim (fun (_ : Unit) =>
 some ((0 : Int))) some)) some)) = some (yW l t) := by
 have ok := uF h hk
 have hle := ok.le
 have hlen := ok.len
 unfold yW
 rw [if_neg hr, if_pos ⟨l1, l2, l3⟩]
 have l1' : wv l t.Axes.1 = true := l1
 have l2' : wv l t.Axes.2 = true := l2
 unfold qw at l1 l2 l3
 simp only [Bool.and_eq_true, decide_eq_true_eq] at l1 l2 l3
 have hB : ∀ x : Int, 0 <= x /\ x < (l.Names.length : Int) -> uV l x t.Data = some (up l x.toNat t.Data.toNat) := fun x hx => by
  have := xH ok.u8 (a := x.toNat) (b := t.Data.toNat) (by omega) (by omega)
  rwa [Int.toNat_of_nonneg hx.1, Int.toNat_of_nonneg l3.1] at this
 have hdl : (2 - t.Rank).toNat = ([t.Axes.1, t.Axes.2].drop t.Rank.toNat).length := by simp; omega
 have htl : t.Rank.toNat = ([t.Axes.1, t.Axes.2].take t.Rank.toNat).length := by simp; omega
 refine (qr (2 - t.Rank).toNat (fun k => t.Rank + (k : Int)) (bK (6 : Int) (wA l : Int) ([t.Axes.1, t.Axes.2].drop t.Rank.toNat)) () (fun k hk2 => ?_) ?_ (by simp)).trans ?_
 . have hkk : t.Rank.toNat + k < 2 := by omega
   have hw : IntKind.wrap .i64 (t.Rank + (k : Int) + 1) = t.Rank + ((k + 1 : Nat) : Int) := by rw [w64 (by omega) (by omega)]; omega
   have hlt : t.Rank + (k : Int) < 2 := by omega
   have n1 : (0 : Int) <= t.Rank + (k : Int) /\ t.Rank + (k : Int) < ((2 : Nat) : Int) := by omega
   have hn : (t.Rank + (k : Int)).toNat = t.Rank.toNat + k := by omega
   obtain ⟨x, hx⟩ := zG (l := [t.Axes.1, t.Axes.2]) (i := t.Rank.toNat + k) (by simpa using hkk)
   have n0 : (0 : Int) <= ((t.Rank.toNat + k : Nat) : Int) := by omega
   simp only [hlt, decide_true, cond_true, zi, n1, and_self, if_true, zh, hn, n0, Int.toNat_natCast, hx, Option.bind_some, zf, hw, bK, List.getElem?_drop]
   by_cases hb : x = (wA l : Int) <;> simp [hb]
 . have : ¬ t.Rank + ((2 - t.Rank).toNat : Int) < 2 := by omega
   simp only [this, decide_false, cond_false]
 . rw [hdl, zA3 (6 : Int) (wA l : Int) _ (by simp)]
   by_cases hall : ([t.Axes.1, t.Axes.2].drop t.Rank.toNat).all (fun x => decide (x = (wA l : Int))) = true
   . simp only [hall, if_true]
     refine (qr t.Rank.toNat (fun k => (k : Int)) (uK (25 : Int) l t.Data ([t.Axes.1, t.Axes.2].take t.Rank.toNat)) () (fun k hk2 => ?_) ?_ rfl).trans ?_
     . have hkk : k < 2 := by omega
       have hw : IntKind.wrap .i64 ((k : Int) + 1) = ((k + 1 : Nat) : Int) := w64 (by omega) (by omega)
       have hlt : (k : Int) < t.Rank := by omega
       have n1 : (0 : Int) <= (k : Int) /\ (k : Int) < ((2 : Nat) : Int) := by omega
       obtain ⟨x, hx⟩ := zG (l := [t.Axes.1, t.Axes.2]) (i := k) (by simpa using hkk)
       have hxl : wv l x = true := by
        have := List.mem_of_getElem? hx
        simp only [List.mem_cons, List.not_mem_nil, or_false] at this
        rcases this with rfl | rfl
        . exact l1'
        . exact l2'
       have hxb : 0 <= x /\ x < (l.Names.length : Int) := by unfold wv at hxl; simpa using hxl
       simp only [hlt, decide_true, cond_true, zi, n1, and_self, if_true, zh, Int.toNat_natCast, hx, Option.bind_some, zf, hw, uK, hB x hxb, List.getElem?_take, hk2]
       cases up l x.toNat t.Data.toNat <;> simp
     . have : ¬ (t.Rank.toNat : Int) < t.Rank := by omega
       simp only [this, decide_false, cond_false]
     . rw (occs := .pos [2]) [htl]
       rw [zBa (25 : Int) l t.Data _ (by simp; omega)]
       cases (List.take t.Rank.toNat [t.Axes.fst, t.Axes.snd]).all fun x => up l x.toNat t.Data.toNat <;> rfl
   . rw [if_neg hall, if_neg hall]
open Go
def vrK (g : TY -> Int) (p : TP) (k : Nat) : Option (Int × Int) := match p.Vars[k]? with
 | some c => if nmE c.Name ((p.Vars.take k).map (·.Name)) ≠ 0 then some ((k : Int), nmE c.Name ((p.Vars.take k).map (·.Name))) else if g c.Type_ = 0 then none else some ((k : Int), g c.Type_)
 | none => none
def vrC (g : TY -> Int) (p : TP) : Int × Int := if (32 : Int) < (p.Vars.length : Int) then (-1, 3) else match zt (vrK g p) 0 p.Vars.length with | some r => r | none => (0, 0)
theorem zji (g : TY -> Int) (p : TP) (hs : ∀ c ∈ p.Vars, c.Name.length <= 1000000) (hg : ∀ c ∈ p.Vars, zkg p.Lattice c.Type_ = some (g c.Type_)) : ztm p = some (vrC g p) := by
 unfold ztm vrC
 simp only [List.length_map]
 by_cases h : (32 : Int) < (p.Vars.length : Int)
 . simp [h]
 simp only [h, decide_false, cond_false, if_false]
 refine (qr p.Vars.length (fun k => ((k : Int), (p.Vars.take k).map (·.Name))) (vrK g p) () (fun k hk => ?_) ?_ rfl).trans ?_
 . obtain ⟨x, hx⟩ := zG hk
   have hlt : (k : Int) < (p.Vars.length : Int) := by omega
   have hw : IntKind.wrap .i64 ((k : Int) + 1) = ((k + 1 : Nat) : Int) := w64 (by omega) (by omega)
   have n1 : (0 : Int) <= (k : Int) := by omega
   have e : (p.Vars.take (k + 1)).map (·.Name) = (p.Vars.take k).map (·.Name) ++ [x.Name] := by rw [List.take_add_one, hx]; simp
   simp only [hlt, decide_true, cond_true, zh, n1, if_true, Int.toNat_natCast, hx, Option.bind_some, zf, hw, zci x.Name (hs x (List.mem_of_getElem? hx)), hg x (List.mem_of_getElem? hx), vrK, e]
   unfold nmE
   cases exN x.Name with
   | false => simp
   | true =>
     cases hi : inL x.Name ((p.Vars.take k).map (·.Name)) with
     | true =>
       have := inL_iff.1 hi
       simp only [Bool.not_true, cond_false, cond_true, if_true, if_pos this]
       simp
     | false =>
       have : ¬ x.Name ∈ (p.Vars.take k).map (·.Name) := fun h => by rw [inL_iff.2 h] at hi; cases hi
       simp only [Bool.not_true, cond_false, if_true, if_neg this]
       by_cases hz : g x.Type_ = 0 <;> simp [hz]
 . simp
 . cases zt (vrK g p) 0 p.Vars.length <;> rfl
theorem zl4 (g : TY -> Int) (p : TP) (hs : ∀ c ∈ p.Vars, c.Name.length <= 1000000) (hg : ∀ c ∈ p.Vars, zn1 p.Lattice c.Type_ = some (g c.Type_)) : zs2 p = some (vrC g p) := by
 unfold zs2 vrC
 simp only [List.length_map]
 by_cases h : (32 : Int) < (p.Vars.length : Int)
 . simp [h]
 simp only [h, decide_false, cond_false, if_false]
 refine (qr p.Vars.length (fun k => ((k : Int), (p.Vars.take k).map (·.Name))) (vrK g p) () (fun k hk => ?_) ?_ rfl).trans ?_
 . obtain ⟨x, hx⟩ := zG hk
   have hlt : (k : Int) < (p.Vars.length : Int) := by omega
   have hw : IntKind.wrap .i64 ((k : Int) + 1) = ((k + 1 : Nat) : Int) := w64 (by omega) (by omega)
   have n1 : (0 : Int) <= (k : Int) := by omega
   have e : (p.Vars.take (k + 1)).map (·.Name) = (p.Vars.take k).map (·.Name) ++ [x.Name] := by rw [List.take_add_one, hx]; simp
   have hl : ((p.Vars.take k).map (·.Name)).length <= 32 := by rw [List.length_map, List.length_take]; omega
   simp only [hlt, decide_true, cond_true, zh, n1, if_true, Int.toNat_natCast, hx, Option.bind_some, zf, hw, zcb x.Name _ (hs x (List.mem_of_getElem? hx)) (Nat.le_trans hl (by omega)), hg x (List.mem_of_getElem? hx), vrK, e, zi, List.length_map]
   rw [if_pos (by rw [List.length_map] at hl; omega)]
   by_cases h0 : nmE x.Name ((p.Vars.take k).map (·.Name)) = 0
   . simp only [h0]
     by_cases hz : g x.Type_ = 0 <;> simp [hz]
   . generalize nmE x.Name ((p.Vars.take k).map (·.Name)) = z at h0 ⊢
     simp [h0]
 . simp
 . cases zt (vrK g p) 0 p.Vars.length <;> rfl
open Go
theorem zl1 {l : TL} (h : LatIn l) (t : TY) : zn1 l t = some (um l t) := by
 unfold zn1 um
 rw [xt l h.u8 h.names h.name, <- zfj h]
 by_cases hk : (qG l).2 = 0
 case neg => simp [hk]
 simp only [hk, if_true, Option.bind_some, decide_true, Bool.not_true, cond_false, jx]
 by_cases r1 : t.Rank < 0
 . by_cases k1 : t.Kind = 1 <;> by_cases k2 : t.Kind = 2 <;> simp [k1, k2, r1, yW]
 by_cases r2 : 2 < t.Rank
 . by_cases k1 : t.Kind = 1 <;> by_cases k2 : t.Kind = 2 <;> simp [k1, k2, r1, r2, yW]
 have hr : ¬ (t.Rank < 0 \/ 2 < t.Rank) := by omega
 cases l1 : qw l t.Axes.fst with
 | false => by_cases k1 : t.Kind = 1 <;> by_cases k2 : t.Kind = 2 <;> simp [k1, k2, r1, r2, yW, l1]
 | true =>
   cases l2 : qw l t.Axes.snd with
   | false => by_cases k1 : t.Kind = 1 <;> by_cases k2 : t.Kind = 2 <;> simp [k1, k2, r1, r2, yW, l1, l2]
   | true =>
     cases l3 : qw l t.Data with
     | false => by_cases k1 : t.Kind = 1 <;> by_cases k2 : t.Kind = 2 <;> simp [k1, k2, r1, r2, yW, l1, l2, l3]
     | true =>
       have key := zlw h hk t hr l1 l2 l3
       simp only [Bool.not_true, cond_false, r1, r2, decide_false, zl5 h, hk, if_true, Option.bind_some]
       by_cases k1 : t.Kind = 1
       . simp only [k1, decide_true, Bool.not_true, cond_false, true_or, if_true]
         exact key
       . by_cases k2 : t.Kind = 2
         . simp only [k1, k2, decide_true, decide_false, Bool.not_true, Bool.not_false, cond_true, cond_false, or_true, if_true]
           exact key
         . simp [k1, k2]
def ckK {α τ : Type} (c : α -> Bool) (v : τ) (L : List α) (j : Nat) : Option τ := match L[j]? with | some y => if c y = true then some v else none | none => none
theorem zc4 {α τ : Type} (c : α -> Bool) (v : τ) (L : List α) (n : Nat) (hn : n <= L.length) : zt (ckK c v L) 0 n = if (L.take n).any c = true then some v else none := by
 by_cases h : (L.take n).any c = true
 . rw [if_pos h]
   cases e : zt (ckK c v L) 0 n with
   | some r =>
     have : r = v := za9 (v := v) (fun i => by
      unfold ckK
      cases L[i]? with
      | none => exact .inr rfl
      | some x => by_cases hx : c x = true <;> simp [hx]) e
     rw [this]
   | none =>
     exfalso
     rw [List.any_eq_true] at h
     obtain ⟨x, hx, hc⟩ := h
     obtain ⟨i, hi, hxi⟩ := List.getElem_of_mem hx
     rw [List.length_take] at hi
     have := scan_none.1 e i (by omega) (by omega)
     rw [List.getElem_take] at hxi
     unfold ckK at this
     rw [List.getElem?_eq_getElem (by omega), hxi] at this
     simp [hc] at this
 . rw [if_neg h, scan_none]
   intro i _ hi
   unfold ckK
   obtain ⟨x, hx⟩ := zG (l := L) (i := i) (by omega)
   rw [hx]
   have : ¬ c x = true := fun hc => h (by
    rw [List.any_eq_true]
    exact ⟨x, List.mem_take_iff_getElem.2 ⟨i, by omega, by rw [List.getElem?_eq_getElem (by omega)] at hx; exact Option.some.inj hx⟩, hc⟩)
   simp [this]
def zc9 (x y : TU) : Bool := decide (y.From = x.From) && decide (y.Goal = x.Goal)
def rlK (p : TP) (k : Nat) : Option (Int × Int) := match p.Rules[k]? with
 | some x => if qw p.Lattice x.From = true then (if qw p.Lattice x.Goal = true then (if x.From = x.Goal then some ((k : Int), 25) else if up p.Lattice x.Goal.toNat x.From.toNat = true then (if (p.Rules.take k).any (zc9 x) = true then some ((k : Int), 8) else if x.K < 2 then some ((k : Int), 3) else if 400 < x.K then some ((k : Int), 3) else none) else some ((k : Int), 25)) else some ((k : Int), 7)) else some ((k : Int), 7)
 | none => none
def rlC (p : TP) : Int × Int := if (64 : Int) < (p.Rules.length : Int) then (-1, 3) else match zt (rlK p) 0 p.Rules.length with | some r => r | none => (0, 0)
theorem zBg (x : TU) (L : List TU) : inL (x.From, x.Goal) (L.map fun y => (y.From, y.Goal)) = L.any (zc9 x) := by
 rw [Bool.eq_iff_iff, inL_iff, List.any_eq_true]
 simp only [List.mem_map, Prod.mk.injEq, zc9, Bool.and_eq_true, decide_eq_true_eq]
theorem zBr {x : Int} (h0 : 0 <= x) (h1 : x < 256) {b : Nat} (hb : b <= 8) : decide (bits .and .u8 (Int.fdiv x (2 ^ min b (IntKind.bits .u8))) 1 = 0) = !Nat.testBit x.toNat b := by
 have key : ∀ u : Fin 256, ∀ b : Fin 9, decide (bits .and .u8 (Int.fdiv (u.val : Int) (2 ^ min b.val (IntKind.bits .u8))) 1 = 0) = !Nat.testBit u b := by decide +kernel
 have := key ⟨x.toNat, by omega⟩ ⟨b, by omega⟩
 simpa only [Int.toNat_of_nonneg h0] using this
theorem zjd (p : TP) (h : LatIn p.Lattice) (hk : (qG p.Lattice).2 = 0) : ztc p = some (rlC p) := by
 have ok := uF h hk
 have hle := ok.le
 have hlen := ok.len
 unfold ztc rlC
 simp only [List.length_map]
 by_cases h6 : (64 : Int) < (p.Rules.length : Int)
 . simp [h6]
 simp only [h6, decide_false, cond_false, if_false]
 refine (qr p.Rules.length (fun k => ((k : Int), (p.Rules.take k).map fun y => (y.From, y.Goal))) (rlK p) () (fun k hk => ?_) ?_ rfl).trans ?_
 . obtain ⟨x, hx⟩ := zG hk
   have hlt : (k : Int) < (p.Rules.length : Int) := by omega
   have hw : IntKind.wrap .i64 ((k : Int) + 1) = ((k + 1 : Nat) : Int) := w64 (by omega) (by omega)
   have n1 : (0 : Int) <= (k : Int) := by omega
   have e : (p.Rules.take (k + 1)).map (fun y => (y.From, y.Goal)) = (p.Rules.take k).map (fun y => (y.From, y.Goal)) ++ [(x.From, x.Goal)] := by rw [List.take_add_one, hx]; simp
   simp only [hlt, decide_true, cond_true, zh, n1, if_true, Int.toNat_natCast, hx, Option.bind_some, zf, hw, jR, rlK, e, zBg]
   cases l1 : qw p.Lattice x.From with
   | false => simp
   | true =>
     cases l2 : qw p.Lattice x.Goal with
     | false => simp
     | true =>
       unfold qw at l1 l2
       simp only [Bool.and_eq_true, decide_eq_true_eq] at l1 l2
       obtain ⟨u, hu⟩ := zG (l := p.Lattice.Up) (i := x.Goal.toNat) (by omega)
       have hu' := ok.u8.get hu
       have hb := zBr hu'.1 hu'.2 (b := x.From.toNat) (by omega)
       have n2 : (0 : Int) <= x.Goal := l2.1
       have n3 : (0 : Int) <= x.From := l1.1
       simp only [Bool.not_true, cond_false, n2, if_true, hu, Option.bind_some, zi, n3, hb, xu hu]
       by_cases hfg : x.From = x.Goal
       . simp [hfg]
       cases hbt : Nat.testBit u.toNat x.From.toNat with
       | false => simp [hfg]
       | true =>
         cases (p.Rules.take k).any (zc9 x) with
         | true => simp [hfg]
         | false =>
           by_cases k2 : x.K < 2
           . simp [hfg, k2]
           . by_cases k4 : 400 < x.K <;> simp [hfg, k2, k4]
 . simp
 . cases zt (rlK p) 0 p.Rules.length <;> rfl
theorem zju (p : TP) (h : LatIn p.Lattice) (hk : (qG p.Lattice).2 = 0) : zue p = some (rlC p) := by
 have ok := uF h hk
 have hle := ok.le
 have hlen := ok.len
 unfold zue rlC
 simp only [List.length_map]
 by_cases h6 : (64 : Int) < (p.Rules.length : Int)
 . simp [h6]
 simp only [h6, decide_false, cond_false, if_false]
 refine (qr p.Rules.length (fun k => (k : Int)) (rlK p) () (fun k hk => ?_) ?_ rfl).trans ?_
 . obtain ⟨x, hx⟩ := zG hk
   have hlt : (k : Int) < (p.Rules.length : Int) := by omega
   have hw : IntKind.wrap .i64 ((k : Int) + 1) = ((k + 1 : Nat) : Int) := w64 (by omega) (by omega)
   have n1 : (0 : Int) <= (k : Int) := by omega
   simp only [hlt, decide_true, cond_true, zh, n1, if_true, Int.toNat_natCast, hx, Option.bind_some, zf, hw, jx, rlK]
   cases l1 : qw p.Lattice x.From with
   | false => simp
   | true =>
     cases l2 : qw p.Lattice x.Goal with
     | false => simp
     | true =>
       unfold qw at l1 l2
       simp only [Bool.and_eq_true, decide_eq_true_eq] at l1 l2
       have hB := xH ok.u8 (a := x.Goal.toNat) (b := x.From.toNat) (by omega) (by omega)
       rw [Int.toNat_of_nonneg l2.1, Int.toNat_of_nonneg l1.1] at hB
       simp only [Bool.not_true, cond_false, if_true, hB, Option.bind_some]
       by_cases hfg : x.From = x.Goal
       . simp [hfg]
       cases hbt : up p.Lattice x.Goal.toNat x.From.toNat with
       | false => simp [hfg]
       | true =>
         simp only [hfg, decide_false, cond_false, Bool.not_true, if_true, if_false]
         refine (qr k (fun j => (j : Int)) (ckK (zc9 x) (Sum.inr (Sum.inr ((k : Int), (8 : Int)))) p.Rules) () (fun j hj => ?_) ?_ rfl).trans ?_
         . obtain ⟨y, hy⟩ := zG (l := p.Rules) (i := j) (by omega)
           have hlt2 : (j : Int) < (k : Int) := by omega
           have hw2 : IntKind.wrap .i64 ((j : Int) + 1) = ((j + 1 : Nat) : Int) := w64 (by omega) (by omega)
           have n2 : (0 : Int) <= (j : Int) := by omega
           simp only [hlt2, decide_true, cond_true, n2, if_true, Int.toNat_natCast, hy, Option.bind_some, hw2, ckK, zc9]
           by_cases c1 : y.From = x.From <;> by_cases c2 : y.Goal = x.Goal <;> simp [c1, c2]
         . simp
         . rw [zc4 _ _ _ k (by omega)]
           cases (p.Rules.take k).any (zc9 x) with
           | true => simp
           | false =>
             by_cases k2 : x.K < 2
             . simp [k2]
             . by_cases k4 : 400 < x.K <;> simp [k2, k4]
 . simp
 . cases zt (rlK p) 0 p.Rules.length <;> rfl
end Go.Sx.O
noncomputable section
namespace Go.Sx.O
open Go
structure PolIn (p : TP) : Prop where
 lat : LatIn p.Lattice
 chan : ∀ c ∈ p.Channels, c.s_.length <= 1000000
 var : ∀ c ∈ p.Vars, c.Name.length <= 1000000
def qO (p : TP) : Int × Int × Int :=
 if (qG p.Lattice).2 = 0 then (if (chC p).2 = 0 then (if (vrC (um p.Lattice) p).2 = 0 then (if (rlC p).2 = 0 then (0, 0, 0) else (4, rlC p)) else (3, vrC (um p.Lattice) p)) else (2, chC p)) else (1, qG p.Lattice)
theorem xQ {τ : Type} {P : τ -> Prop} {f : Nat -> Option τ} (hf : ∀ i r, f i = some r -> P r) : ∀ {n k r}, zt f k n = some r -> P r := by
 intro n
 induction n with
 | zero => intro k r h; cases h
 | succ n ih =>
   intro k r h
   simp only [zt] at h
   split at h
   . rename_i b hb; cases h; exact hf _ _ hb
   . exact ih h
theorem zoz {p : TP} (h : (rlC p).2 = 0) : rlC p = (0, 0) := by
 unfold rlC at h ⊢
 split at h
 . simp at h
 . rename_i h6
   rw [if_neg h6]
   cases e : zt (rlK p) 0 p.Rules.length with
   | none => rfl
   | some r =>
     exfalso
     rw [e] at h
     have := xQ (P := fun r : Int × Int => r.2 ≠ 0) (fun i r hr => by
      unfold rlK at hr
      revert hr
      repeat' split
      all_goals (intro hr; cases hr <;> simp)) e
     exact this h
theorem jj {p : TP} (h : PolIn p) : zh1 p = some (qO p) := by
 unfold zh1 qO zxt
 rw [uf h.lat, zdy p h.chan, zji (um p.Lattice) p h.var (fun c _ => zkr h.lat _)]
 by_cases hk : (qG p.Lattice).2 = 0
 case neg => simp [hk]
 rw [zjd p h.lat hk]
 by_cases h2 : (chC p).2 = 0
 case neg => simp [hk, h2]
 by_cases h3 : (vrC (um p.Lattice) p).2 = 0
 case neg => simp [hk, h2, h3]
 by_cases h4 : (rlC p).2 = 0
 case neg => simp [hk, h2, h3, h4]
 simp [hk, h2, h3, zoz h4]
theorem jt {p : TP} (h : PolIn p) : zg1 p = some (qO p) := by
 unfold zg1 qO
 rw [xt p.Lattice h.lat.u8 h.lat.names h.lat.name, <- zfj h.lat, zfx p h.chan, zl4 (um p.Lattice) p h.var (fun c _ => zl1 h.lat _)]
 by_cases hk : (qG p.Lattice).2 = 0
 case neg => simp [hk]
 rw [zju p h.lat hk]
 by_cases h2 : (chC p).2 = 0
 case neg => simp [hk, h2]
 by_cases h3 : (vrC (um p.Lattice) p).2 = 0
 case neg => simp [hk, h2, h3]
 by_cases h4 : (rlC p).2 = 0
 case neg => simp [hk, h2, h3, h4]
 simp [hk, h2, h3, h4]
theorem zkq {p : TP} (h : (qO p).2.2 = 0) : (qG p.Lattice).2 = 0 := by
 unfold qO at h
 by_cases hk : (qG p.Lattice).2 = 0
 . exact hk
 . rw [if_neg hk] at h; exact absurd h hk
theorem zwq {p : TP} (h : (qO p).2.2 = 0) : rlC p = (0, 0) := by
 unfold qO at h
 split at h
 . split at h
   . split at h
     . split at h
       . rename_i h4; exact zoz h4
       . rename_i h4; exact absurd h h4
     . rename_i h4; exact absurd h h4
   . rename_i h4; exact absurd h h4
 . rename_i h4; exact absurd h h4
def rfK (p : TP) (a b : Int) (k : Nat) : Option (Int × Int) := match p.Rules[k]? with
 | some x => if x.From = a then (if x.Goal = b then some (x.K, 0) else none) else none
 | none => none
def xe (p : TP) (a b : Int) : Int × Int :=
 if (qO p).2.2 = 0 then (if qw p.Lattice a = true then (if qw p.Lattice b = true then (match zt (rfK p a b) 0 p.Rules.length with | some r => r | none => (0, 4)) else (0, 7)) else (0, 7)) else (0, (qO p).2.2)
theorem zli {p : TP} (h : (qO p).2.2 = 0) : p.Rules.length <= 64 := by
 have := zwq h
 unfold rlC at this
 split at this
 . cases this
 . omega
theorem zj2 {p : TP} (h : PolIn p) (a b : Int) : ztn p a b = some (xe p a b) := by
 unfold ztn xe
 rw [jj h]
 by_cases h0 : (qO p).2.2 = 0
 case neg => simp [h0]
 have hl := zli h0
 simp only [Option.bind_some, h0, decide_true, Bool.not_true, cond_false, jR, if_true, List.length_map]
 cases qw p.Lattice a with
 | false => simp
 | true =>
   cases qw p.Lattice b with
   | false => simp
   | true =>
     simp only [Bool.not_true, cond_false, if_true]
     refine (qr p.Rules.length (fun k => (k : Int)) (rfK p a b) () (fun k hk => ?_) ?_ rfl).trans ?_
     . obtain ⟨x, hx⟩ := zG hk
       have hlt : (k : Int) < (p.Rules.length : Int) := by omega
       have hw : IntKind.wrap .i64 ((k : Int) + 1) = ((k + 1 : Nat) : Int) := w64 (by omega) (by omega)
       have n1 : (0 : Int) <= (k : Int) := by omega
       simp only [hlt, decide_true, cond_true, zh, n1, if_true, Int.toNat_natCast, hx, zf, hw, rfK]
       by_cases c1 : x.From = a <;> by_cases c2 : x.Goal = b <;> simp [c1, c2]
     . simp
     . cases zt (rfK p a b) 0 p.Rules.length <;> rfl
theorem zlv {p : TP} (h : PolIn p) (a b : Int) : zj4 p a b = some (xe p a b) := by
 unfold zj4 xe
 rw [jt h]
 by_cases h0 : (qO p).2.2 = 0
 case neg => simp [h0]
 have hl := zli h0
 simp only [Option.bind_some, h0, decide_true, Bool.not_true, cond_false, cond_true, jx, if_true, List.length_map]
 cases qw p.Lattice a with
 | false => simp
 | true =>
   cases qw p.Lattice b with
   | false => simp
   | true =>
     simp only [Bool.not_true, cond_false, if_true]
     refine (qr p.Rules.length (fun k => (k : Int)) (rfK p a b) () (fun k hk => ?_) ?_ rfl).trans ?_
     . obtain ⟨x, hx⟩ := zG hk
       have hlt : (k : Int) < (p.Rules.length : Int) := by omega
       have hw : IntKind.wrap .i64 ((k : Int) + 1) = ((k + 1 : Nat) : Int) := w64 (by omega) (by omega)
       have n1 : (0 : Int) <= (k : Int) := by omega
       simp only [hlt, decide_true, cond_true, zh, n1, if_true, Int.toNat_natCast, hx, zf, hw, rfK]
       by_cases c1 : x.From = a <;> by_cases c2 : x.Goal = b <;> simp [c1, c2]
     . simp
     . cases zt (rfK p a b) 0 p.Rules.length <;> rfl
theorem zko {α : Type} {L : List α} {N : Nat} {c : α -> Bool} (h : (L.take (min L.length N)).any c = false) (hn : L.length <= N) : ∀ x ∈ L, c x = false := by
 rw [Nat.min_eq_left hn, List.take_length] at h
 simpa using h
theorem zp4 (L : List (List UInt8)) : ∃ b, Fz0 L = some b /\ (b = false -> L.length <= 12 /\ ∀ s ∈ L, s.length <= 100) := by
 unfold Fz0
 simp only [List.length_map]
 rw [qr (s0 := (0 : Int)) (min L.length 20) (fun k => (k : Int)) (ckK (fun s : List UInt8 => decide ((100 : Int) < (s.length : Int))) true L) () ?_ ?_ rfl, zc4 _ _ _ _ (by omega)]
 . cases h : (L.take (min L.length 20)).any (fun s => decide ((100 : Int) < (s.length : Int))) with
   | true => exact ⟨true, rfl, fun h => by cases h⟩
   | false =>
     refine ⟨_, rfl, fun h12 => ?_⟩
     have h12 : L.length <= 12 := by simp at h12; omega
     exact ⟨h12, fun s hs => by have := zko h (by omega) s hs; simp at this; omega⟩
 . intro k hk
   obtain ⟨x, hx⟩ := zG (l := L) (i := k) (by omega)
   have hlt : (k : Int) < (L.length : Int) := by omega
   have hlt2 : (k : Int) < 20 := by omega
   have hw : IntKind.wrap .i64 ((k : Int) + 1) = ((k + 1 : Nat) : Int) := w64 (by omega) (by omega)
   have n1 : (0 : Int) <= (k : Int) := by omega
   simp only [hlt, hlt2, decide_true, cond_true, zh, n1, if_true, Int.toNat_natCast, hx, zf, hw, ckK]
   by_cases c1 : (100 : Int) < (x.length : Int) <;> simp [c1]
 . by_cases c1 : ((min L.length 20 : Nat) : Int) < (L.length : Int)
   . have c2 : ¬ ((min L.length 20 : Nat) : Int) < 20 := by omega
     simp only [c1, c2, decide_true, decide_false, cond_true, cond_false]
   . simp only [c1, decide_false, cond_false]
theorem zy3 (p : TP) (hu : U8s p.Lattice.Up) : ∃ b, Fz2 p = some b /\ (b = false -> PolIn p) := by
 unfold Fz2
 simp only [List.length_map]
 rw [qr (s0 := (0 : Int)) (min p.Channels.length 25) (fun k => (k : Int)) (ckK (fun s : TR => decide ((100 : Int) < (s.s_.length : Int))) true p.Channels) () ?_ ?_ rfl, zc4 _ _ _ _ (by omega)]
 rotate_left
 . intro k hk
   obtain ⟨x, hx⟩ := zG (l := p.Channels) (i := k) (by omega)
   have hlt : (k : Int) < (p.Channels.length : Int) := by omega
   have hlt2 : (k : Int) < 25 := by omega
   have hw : IntKind.wrap .i64 ((k : Int) + 1) = ((k + 1 : Nat) : Int) := w64 (by omega) (by omega)
   have n1 : (0 : Int) <= (k : Int) := by omega
   simp only [hlt, hlt2, decide_true, cond_true, zh, n1, if_true, Int.toNat_natCast, hx, zf, hw, ckK]
   by_cases c1 : (100 : Int) < (x.s_.length : Int) <;> simp [c1]
 . by_cases c1 : ((min p.Channels.length 25 : Nat) : Int) < (p.Channels.length : Int)
   . have c2 : ¬ ((min p.Channels.length 25 : Nat) : Int) < 25 := by omega
     simp only [c1, c2, decide_true, decide_false, cond_true, cond_false]
   . simp only [c1, decide_false, cond_false]
 cases hc : (p.Channels.take (min p.Channels.length 25)).any (fun s => decide ((100 : Int) < (s.s_.length : Int))) with
 | true => exact ⟨true, rfl, fun h => by cases h⟩
 | false =>
   simp only [Bool.false_eq_true, if_false]
   rw [qr (s0 := (0 : Int)) (min p.Vars.length 45) (fun k => (k : Int)) (ckK (fun s : TV => decide ((100 : Int) < (s.Name.length : Int))) true p.Vars) () ?_ ?_ rfl, zc4 _ _ _ _ (by omega)]
   rotate_left
   . intro k hk
     obtain ⟨x, hx⟩ := zG (l := p.Vars) (i := k) (by omega)
     have hlt : (k : Int) < (p.Vars.length : Int) := by omega
     have hlt2 : (k : Int) < 45 := by omega
     have hw : IntKind.wrap .i64 ((k : Int) + 1) = ((k + 1 : Nat) : Int) := w64 (by omega) (by omega)
     have n1 : (0 : Int) <= (k : Int) := by omega
     simp only [hlt, hlt2, decide_true, cond_true, zh, n1, if_true, Int.toNat_natCast, hx, zf, hw, ckK]
     by_cases c1 : (100 : Int) < (x.Name.length : Int) <;> simp [c1]
   . by_cases c1 : ((min p.Vars.length 45 : Nat) : Int) < (p.Vars.length : Int)
     . have c2 : ¬ ((min p.Vars.length 45 : Nat) : Int) < 45 := by omega
       simp only [c1, c2, decide_true, decide_false, cond_true, cond_false]
     . simp only [c1, decide_false, cond_false]
   cases hv : (p.Vars.take (min p.Vars.length 45)).any (fun s => decide ((100 : Int) < (s.Name.length : Int))) with
   | true => exact ⟨true, rfl, fun h => by cases h⟩
   | false =>
     simp only [Bool.false_eq_true, if_false]
     unfold Fz1
     obtain ⟨b, e, hb⟩ := zp4 p.Lattice.Names
     rw [e]
     simp only [Option.bind_some, List.length_map]
     cases b with
     | true => exact ⟨true, rfl, fun h => by cases h⟩
     | false =>
       obtain ⟨hb1, hb2⟩ := hb rfl
       simp only [cond_false, Option.bind_some]
       by_cases h12 : (12 : Int) < (p.Lattice.Up.length : Int)
       . exact ⟨true, by simp [h12], fun h => by cases h⟩
       by_cases h20 : (20 : Int) < (p.Channels.length : Int)
       . exact ⟨true, by simp [h12, h20], fun h => by cases h⟩
       by_cases h40 : (40 : Int) < (p.Vars.length : Int)
       . exact ⟨true, by simp [h12, h20, h40], fun h => by cases h⟩
       simp only [h12, h20, h40, decide_false, cond_false]
       refine ⟨_, rfl, fun _ => ⟨⟨hu, by omega, fun s hs => by have := hb2 s hs; omega⟩, fun c h => ?_, fun c h => ?_⟩⟩
       . have := zko hc (by omega) c h; simp at this; omega
       . have := zko hv (by omega) c h; simp at this; omega
end Go.Sx.O
end
noncomputable section
namespace Go.Sx.O
open Go
def zdv (x : TE) (k : Int) : Bool := if x.Cells < k then decide (x.Value.1 = 0) && decide (x.Value.2 = 0) else decide (x.Value.1 = 1) && (!decide (x.Fold = 2) || (decide (0 <= x.Value.2) && decide (x.Value.2 <= x.Cells)))
def yD (p : TP) (x : TE) : Int :=
 if (qO p).2.2 = 0 then (if (wi x.Fold).2 = 0 then (if x.Site < 0 \/ 1000000000 < x.Site \/ x.Cells < 0 \/ 400 < x.Cells then 7 else if (xe p x.From x.Goal).2 = 0 then (if zdv x (xe p x.From x.Goal).1 = true then 0 else 6) else (xe p x.From x.Goal).2) else (wi x.Fold).2) else (qO p).2.2
theorem zo9 (x : TE) (k : Int) : zss x k = some (zdv x k) := by
 unfold zss zdv
 by_cases h : x.Cells < k
 . simp [h]
 by_cases h1 : x.Value.1 = 1
 case neg => simp [h, h1]
 by_cases h2 : x.Fold = 2
 case neg => simp [h, h1, h2]
 by_cases h3 : 0 <= x.Value.2 <;> simp [h, h1, h2, h3]
theorem zoa {p : TP} (h : PolIn p) (x : TE) : zt5 p x = some (yD p x) := by
 unfold zt5 yD
 rw [jj h, zf7, zj2 h]
 simp only [Option.bind_some, zo9]
 by_cases h0 : (qO p).2.2 = 0
 case neg => simp [h0]
 by_cases h1 : (wi x.Fold).2 = 0
 case neg => simp [h0, h1]
 by_cases h2 : x.Site < 0
 . simp [h0, h1, h2]
 by_cases h3 : 1000000000 < x.Site
 . simp [h0, h1, h2, h3]
 by_cases h4 : x.Cells < 0
 . simp [h0, h1, h2, h3, h4]
 by_cases h5 : 400 < x.Cells
 . simp [h0, h1, h2, h3, h4, h5]
 by_cases h6 : (xe p x.From x.Goal).2 = 0
 case neg => simp [h0, h1, h2, h3, h4, h5, h6]
 cases h7 : zdv x (xe p x.From x.Goal).1 <;> simp [h0, h1, h2, h3, h4, h5, h6, h7]
theorem zjq {p : TP} (h : PolIn p) (x : TE) : zou p x = some (yD p x) := by
 unfold zou yD
 rw [jt h, zf4, zlv h]
 simp only [Option.bind_some]
 by_cases h0 : (qO p).2.2 = 0
 case neg => simp [h0]
 by_cases h1 : (wi x.Fold).2 = 0
 case neg => simp [h0, h1]
 by_cases h2 : x.Site < 0
 . simp [h0, h1, h2]
 by_cases h3 : 1000000000 < x.Site
 . simp [h0, h1, h2, h3]
 by_cases h8 : (xe p x.From x.Goal).2 = 7
 . by_cases h4 : x.Cells < 0
   . simp [h0, h1, h2, h3, h4, h8]
   by_cases h5 : 400 < x.Cells
   . simp [h0, h1, h2, h3, h4, h5, h8]
   simp [h0, h1, h2, h3, h4, h5, h8]
 by_cases h4 : x.Cells < 0
 . simp [h0, h1, h2, h3, h4, h8]
 by_cases h5 : 400 < x.Cells
 . simp [h0, h1, h2, h3, h4, h5, h8]
 by_cases h6 : (xe p x.From x.Goal).2 = 0
 case neg => simp [h0, h1, h2, h3, h4, h5, h6, h8]
 simp only [h0, h1, h2, h3, h4, h5, h6, decide_true, decide_false, cond_true, cond_false, Bool.not_true, or_self, if_true, if_false, h8]
 unfold zdv
 by_cases c1 : x.Cells < (xe p x.From x.Goal).1
 . by_cases c2 : x.Value.1 = 0 <;> by_cases c3 : x.Value.2 = 0 <;> simp [c1, c2, c3]
 by_cases c2 : x.Value.1 = 1
 case neg => simp [c1, c2]
 by_cases c3 : x.Fold = 2
 case neg => simp [c1, c2, c3]
 by_cases c4 : x.Value.2 < 0
 . have : ¬ 0 <= x.Value.2 := by omega
   simp [c1, c2, c3, c4, this]
 have c5 : 0 <= x.Value.2 := by omega
 by_cases c6 : x.Cells < x.Value.2
 . have : ¬ x.Value.2 <= x.Cells := by omega
   simp [c1, c2, c3, c4, c5, c6, this]
 have c7 : x.Value.2 <= x.Cells := by omega
 simp [c1, c2, c3, c4, c5, c6, c7]
theorem zDn {l : List Int} (h : xW (inK .u8) l) : U8s l := fun x hx => zCh (h x hx)
end Go.Sx.O
end
noncomputable section
namespace Go.Sx.O
open Go
def auK (p : TP) (l : List TE) (k : Nat) : Option (Int × Int) := match l[k]? with
 | some x => if yD p x = 0 then (if x.Site = 0 then some ((k : Int), 6) else none) else some ((k : Int), yD p x)
 | none => none
def wn (p : TP) (l : List TE) : Int × Int := if (qO p).2.2 = 0 then (if (2000 : Int) < (l.length : Int) then (-1, 3) else match zt (auK p l) 0 l.length with | some r => r | none => (0, 0)) else (-1, (qO p).2.2)
theorem zcj {p : TP} (h : PolIn p) (l : List TE) (hl : l.length <= 1000000) : zpz p l = some (wn p l) := by
 unfold zpz wn
 rw [jj h]
 simp only [Option.bind_some, List.length_map]
 by_cases hk : (qO p).2.2 = 0
 case neg => simp [hk]
 simp only [hk, decide_true, Bool.not_true, cond_false, if_true]
 by_cases h2 : (2000 : Int) < (l.length : Int)
 . simp [h2]
 simp only [h2, decide_false, cond_false, if_false]
 refine (qr l.length (fun k => (k : Int)) (auK p l) () (fun k hk => ?_) (by simp) rfl).trans ?_
 . obtain ⟨x, hx⟩ := zG hk
   have hlt : (k : Int) < (l.length : Int) := by omega
   have hw : IntKind.wrap .i64 ((k : Int) + 1) = ((k + 1 : Nat) : Int) := w64 (by omega) (by omega)
   have n1 : (0 : Int) <= (k : Int) := by omega
   simp only [hlt, decide_true, cond_true, zh, n1, if_true, Int.toNat_natCast, hx, Option.bind_some, zf, hw, zoa h, auK]
   by_cases c1 : yD p x = 0 <;> by_cases c2 : x.Site = 0 <;> simp [c1, c2]
 . cases zt (auK p l) 0 l.length <;> rfl
theorem zcf {p : TP} (h : PolIn p) (l : List TE) (hl : l.length <= 1000000) : zgs p l = some (wn p l) := by
 unfold zgs wn
 rw [jt h]
 simp only [Option.bind_some, List.length_map]
 by_cases hk : (qO p).2.2 = 0
 case neg => simp [hk]
 simp only [hk, decide_true, Bool.not_true, cond_true, cond_false, if_true]
 by_cases h2 : (2000 : Int) < (l.length : Int)
 . simp [h2]
 simp only [h2, decide_false, cond_false, if_false]
 refine (qr l.length (fun k => (k : Int)) (auK p l) () (fun k hk => ?_) (by simp) rfl).trans ?_
 . obtain ⟨x, hx⟩ := zG hk
   have hlt : (k : Int) < (l.length : Int) := by omega
   have hw : IntKind.wrap .i64 ((k : Int) + 1) = ((k + 1 : Nat) : Int) := w64 (by omega) (by omega)
   have n1 : (0 : Int) <= (k : Int) := by omega
   simp only [hlt, decide_true, cond_true, zh, n1, if_true, Int.toNat_natCast, hx, Option.bind_some, zf, hw, zjq h, auK]
   by_cases c1 : yD p x = 0 <;> by_cases c2 : x.Site = 0 <;> simp [c1, c2]
 . cases zt (auK p l) 0 l.length <;> rfl
theorem xf {p : TP} {x : TE} (h : yD p x = 0) : qw p.Lattice x.Goal = true := by
 unfold yD at h
 by_cases h1 : (qO p).2.2 = 0
 case neg => rw [if_neg h1] at h; exact absurd h h1
 rw [if_pos h1] at h
 by_cases h2 : (wi x.Fold).2 = 0
 case neg => rw [if_neg h2] at h; exact absurd h h2
 rw [if_pos h2] at h
 split at h
 . cases h
 by_cases h3 : (xe p x.From x.Goal).2 = 0
 case neg => rw [if_neg h3] at h; exact absurd h h3
 unfold xe at h3
 rw [if_pos h1] at h3
 by_cases h4 : qw p.Lattice x.From = true
 case neg => rw [if_neg h4] at h3; exact absurd h3 (by decide)
 rw [if_pos h4] at h3
 by_cases h5 : qw p.Lattice x.Goal = true
 . exact h5
 . rw [if_neg h5] at h3; exact absurd h3 (by decide)
theorem zDu {p : TP} {l : List TE} (h : (wn p l).2 = 0) : (qO p).2.2 = 0 /\ l.length <= 2000 /\ ∀ x ∈ l, qw p.Lattice x.Goal = true := by
 unfold wn at h
 by_cases hk : (qO p).2.2 = 0
 case neg => rw [if_neg hk] at h; exact absurd h hk
 rw [if_pos hk] at h
 by_cases h2 : (2000 : Int) < (l.length : Int)
 . rw [if_pos h2] at h; exact absurd h (by decide)
 rw [if_neg h2] at h
 refine ⟨hk, by omega, fun x hx => ?_⟩
 cases hs : zt (auK p l) 0 l.length with
 | some r =>
   rw [hs] at h
   have : r.2 ≠ 0 := xQ (P := fun r => r.2 ≠ 0) (fun i r hr => by
    unfold auK at hr
    split at hr
    . split at hr
      . split at hr
        . cases hr; exact (by decide : (6 : Int) ≠ 0)
        . cases hr
      . cases hr; assumption
    . cases hr) hs
   exact absurd h this
 | none =>
   obtain ⟨i, hi, e⟩ := List.getElem_of_mem hx
   have := scan_none.1 hs i (by omega) (by omega)
   unfold auK at this
   rw [List.getElem?_eq_getElem hi, e] at this
   simp only at this
   split at this
   . rename_i hc; exact xf hc
   . cases this
end Go.Sx.O
end
namespace Go.Sx.O
open Go
open Go
theorem zbw (a : List TE) (ha : a.length <= 1000000) : zah a a = some true := by
 unfold zah
 simp only [List.length_map, decide_true, Bool.not_true, cond_false]
 refine (zg2 a.length (fun k => (k : Int)) () (fun k hk => ?_) (by simp) rfl).trans rfl
 obtain ⟨u, hu⟩ := zG hk
 have hlt : (k : Int) < (a.length : Int) := by omega
 have hw : IntKind.wrap .i64 ((k : Int) + 1) = ((k + 1 : Nat) : Int) := w64 (by omega) (by omega)
 have n1 : (0 : Int) <= (k : Int) := by omega
 simp only [hlt, decide_true, cond_true, zh, n1, if_true, Int.toNat_natCast, hu, Option.bind_some, zf, hw, Bool.and_true, Bool.not_true, cond_false]
open Go
theorem aud_iff {p : TP} {l : List TE} : (wn p l).2 = 0 ↔ (qO p).2.2 = 0 /\ l.length <= 2000 /\ ∀ x ∈ l, yD p x = 0 /\ x.Site ≠ 0 := by
 constructor
 . intro h
   obtain ⟨h1, h2, _⟩ := zDu h
   refine ⟨h1, h2, fun x hx => ?_⟩
   unfold wn at h
   rw [if_pos h1, if_neg (by omega)] at h
   cases hs : zt (auK p l) 0 l.length with
   | some r =>
     rw [hs] at h
     have : r.2 ≠ 0 := xQ (P := fun r => r.2 ≠ 0) (fun i r hr => by
      unfold auK at hr
      split at hr
      . split at hr
        . split at hr
          . cases hr; exact (by decide : (6 : Int) ≠ 0)
          . cases hr
        . cases hr; assumption
      . cases hr) hs
     exact absurd h this
   | none =>
     obtain ⟨i, hi, e⟩ := List.getElem_of_mem hx
     have := scan_none.1 hs i (by omega) (by omega)
     unfold auK at this
     rw [List.getElem?_eq_getElem hi, e] at this
     simp only at this
     split at this
     . rename_i hc
       refine ⟨hc, fun hs => ?_⟩
       rw [if_pos hs] at this
       cases this
     . cases this
 . rintro ⟨h1, h2, h3⟩
   unfold wn
   rw [if_pos h1, if_neg (by omega)]
   have : zt (auK p l) 0 l.length = none := by
    rw [scan_none]
    intro i _ hi
    obtain ⟨x, hx⟩ := zG (l := l) (i := i) (by omega)
    obtain ⟨c1, c2⟩ := h3 x (List.mem_of_getElem? hx)
    unfold auK
    rw [hx]
    simp [c1, c2]
   rw [this]
open Go
open Go Go.Lib
def dgt (c : UInt8) : Bool := decide (48 <= c.toNat) && decide (c.toNat <= 57)
theorem dgt_iff {c : UInt8} : dgt c = true ↔ 48 <= c.toNat /\ c.toNat <= 57 := by simp [dgt]
def qI : Nat -> List UInt8 -> Nat
 | a, [] => a
 | a, c :: r => qI (a * 10 + (c.toNat - 48)) r
theorem zhq : ∀ {l m : List UInt8} {a : Nat}, qI a (l ++ m) = qI (qI a l) m
 | [], _, _ => rfl
 | _ :: l, _, _ => zhq (l := l)
theorem ze3 : ∀ {l : List UInt8} {a : Nat}, a <= qI a l
 | [], _ => Nat.le_refl _
 | c :: l, a => by
   have := ze3 (l := l) (a := a * 10 + (c.toNat - 48))
   unfold qI; omega
theorem uO {d : Nat} (h : d < 10) : (UInt8.ofNat (48 + d)).toNat = 48 + d := by
 rw [UInt8.toNat_ofNat']; omega
theorem uE {u : Nat} (h : u < 10) : decDigits u = [UInt8.ofNat (48 + u)] := by rw [decDigits, dif_pos h]
theorem ze0 {u : Nat} (h : ¬ u < 10) : decDigits u = decDigits (u / 10) ++ [UInt8.ofNat (48 + u % 10)] := by rw [decDigits, dif_neg h]
theorem zv3 {u : Nat} : decDigits u ≠ [] := by
 by_cases h : u < 10
 . rw [uE h]; simp
 . rw [ze0 h]; simp
theorem zru : ∀ (u : Nat), (decDigits u).all dgt = true := by
 intro u
 induction u using Nat.strongRecOn with
 | _ u ih =>
   by_cases h : u < 10
   . rw [uE h]
     simp only [List.all_cons, List.all_nil, Bool.and_true]
     rw [dgt_iff, uO h]; omega
   . rw [ze0 h, List.all_append, ih (u / 10) (by omega)]
     simp only [List.all_cons, List.all_nil, Bool.and_true, Bool.true_and]
     rw [dgt_iff, uO (by omega)]; omega
theorem zq9 : ∀ (u : Nat), qI 0 (decDigits u) = u := by
 intro u
 induction u using Nat.strongRecOn with
 | _ u ih =>
   by_cases h : u < 10
   . have e : qI 0 [UInt8.ofNat (48 + u)] = 0 * 10 + ((UInt8.ofNat (48 + u)).toNat - 48) := rfl
     rewrite [uE h, e, uO h, Nat.zero_mul, Nat.zero_add, Nat.add_sub_cancel_left]
     rfl
   . have e : ∀ v, qI v [UInt8.ofNat (48 + u % 10)] = v * 10 + ((UInt8.ofNat (48 + u % 10)).toNat - 48) := fun _ => rfl
     rewrite [ze0 h, zhq, ih (u / 10) (by omega), e, uO (by omega), Nat.add_sub_cancel_left]
     omega
theorem zD0 {u : Nat} (h : u < 10) (h0 : u ≠ 0) : ([UInt8.ofNat (48 + u)] : List UInt8).head? ≠ some 48 := by
 intro e
 have e' : UInt8.ofNat (48 + u) = 48 := Option.some.inj e
 have k : (UInt8.ofNat (48 + u)).toNat = (48 : UInt8).toNat := by rw [e']
 have k2 := uO h
 grind
theorem zo8 : ∀ (u : Nat), u ≠ 0 -> (decDigits u).head? ≠ some 48 := by
 intro u
 induction u using Nat.strongRecOn with
 | _ u ih =>
   intro h0
   by_cases h : u < 10
   . rewrite [uE h]
     exact zD0 h h0
   . rewrite [ze0 h]
     have hne := zv3 (u := u / 10)
     have := ih (u / 10) (by omega) (by omega)
     cases e : decDigits (u / 10) with
     | nil => exact absurd e hne
     | cons c r => rw [e] at this; simpa using this
def za1 (l : List UInt8) : Prop := l ≠ [] /\ l.all dgt = true /\ (l.head? ≠ some 48 \/ l = [48])
theorem zr0 (u : Nat) : za1 (decDigits u) := by
 refine ⟨zv3, zru u, ?_⟩
 by_cases h : u = 0
 . subst h; right; rw [uE (by omega)]; rfl
 . exact .inl (zo8 u h)
theorem zfn : ∀ (n : Nat) (l : List UInt8), l.length = n -> za1 l -> decDigits (qI 0 l) = l
 | 0, l, hl, h => absurd (List.length_eq_zero_iff.1 hl) h.1
 | n + 1, l, hl, h => by
   have e := List.dropLast_concat_getLast h.1
   obtain ⟨m, c, rfl⟩ : ∃ m c, l = m ++ [c] := ⟨_, _, e.symm⟩
   obtain ⟨h1, h2, h3⟩ := h
   rw [List.all_append, Bool.and_eq_true] at h2
   obtain ⟨hm, hc⟩ := h2
   simp only [List.all_cons, List.all_nil, Bool.and_true] at hc
   rw [dgt_iff] at hc
   have hcc : UInt8.ofNat (48 + (c.toNat - 48)) = c := by
    simp_all
   cases m with
   | nil =>
     have e1 : qI 0 ([] ++ [c]) = 0 * 10 + (c.toNat - 48) := rfl
     rewrite [e1, Nat.zero_mul, Nat.zero_add, uE (by omega), hcc]
     rfl
   | cons a r =>
     have hcan : za1 (a :: r) := by
      refine ⟨by simp, hm, .inl ?_⟩
      grind
     have ih := zfn n (a :: r) (by simpa using hl) hcan
     have hv : qI 0 (a :: r) ≠ 0 := fun e0 => by
      rewrite [e0, uE (by omega)] at ih
      grind
     rewrite [zhq]
     generalize qI 0 (a :: r) = v at ih hv
     have e : qI v [c] = v * 10 + (c.toNat - 48) := rfl
     rewrite [e, ze0 (by omega), show (v * 10 + (c.toNat - 48)) / 10 = v by omega, show (v * 10 + (c.toNat - 48)) % 10 = c.toNat - 48 by omega, ih, hcc]
     rfl
theorem pum {M : Nat} (hM : M < 18446744073709551616) : ∀ {l : List UInt8} {a : Nat}, l.all dgt = true -> a <= M -> parseUintM M a l = if qI a l <= M then .ok (qI a l) else .range
 | [], a, _, ha => by
   have : qI a [] = a := rfl
   rewrite [this, if_pos ha]
   rfl
 | c :: r, a, hl, ha => by
   simp only [List.all_cons, Bool.and_eq_true] at hl
   obtain ⟨hc, hr⟩ := hl
   rw [dgt_iff] at hc
   have hmo := ze3 (l := r) (a := a * 10 + (c.toNat - 48))
   unfold parseUintM
   rw [if_pos hc]
   by_cases h1 : 1844674407370955162 <= a
   . rw [if_pos h1, if_neg (by unfold qI; omega)]
   . rw [if_neg h1]
     by_cases h2 : M < a * 10 + (c.toNat - 48)
     . rw [if_pos h2, if_neg (by unfold qI; omega)]
     . rw [if_neg h2, pum hM hr (by omega)]
       rfl
theorem zzx {x : UInt8} : digs.contains x = dgt x := by
 rw [Bool.eq_iff_iff, dgt_iff]
 simp only [digs, List.contains_iff_mem, List.mem_cons, List.not_mem_nil, or_false]
 constructor
 . rintro (rfl | rfl | rfl | rfl | rfl | rfl | rfl | rfl | rfl | rfl) <;> exact ⟨by decide, by decide⟩
 . intro ⟨h1, h2⟩
   have : x.toNat = 48 \/ x.toNat = 49 \/ x.toNat = 50 \/ x.toNat = 51 \/ x.toNat = 52 \/ x.toNat = 53 \/ x.toNat = 54 \/ x.toNat = 55 \/ x.toNat = 56 \/ x.toNat = 57 := by omega
   rcases this with h | h | h | h | h | h | h | h | h | h
   . exact .inl (UInt8.toNat_inj.1 h)
   . exact .inr (.inl (UInt8.toNat_inj.1 h))
   . exact .inr (.inr (.inl (UInt8.toNat_inj.1 h)))
   . exact .inr (.inr (.inr (.inl (UInt8.toNat_inj.1 h))))
   . exact .inr (.inr (.inr (.inr (.inl (UInt8.toNat_inj.1 h)))))
   . exact .inr (.inr (.inr (.inr (.inr (.inl (UInt8.toNat_inj.1 h))))))
   . exact .inr (.inr (.inr (.inr (.inr (.inr (.inl (UInt8.toNat_inj.1 h)))))))
   . exact .inr (.inr (.inr (.inr (.inr (.inr (.inr (.inl (UInt8.toNat_inj.1 h))))))))
   . exact .inr (.inr (.inr (.inr (.inr (.inr (.inr (.inr (.inl (UInt8.toNat_inj.1 h)))))))))
   . exact .inr (.inr (.inr (.inr (.inr (.inr (.inr (.inr (.inr (UInt8.toNat_inj.1 h)))))))))
theorem dropW_nil {p : UInt8 -> Bool} : ∀ {l : List UInt8}, l.dropWhile p = [] ↔ l.all p = true
 | [] => by simp
 | c :: r => by
   rw [List.dropWhile_cons, List.all_cons]
   cases h : p c with
   | true => simp only [if_true, Bool.true_and]; exact dropW_nil
   | false => simp
theorem trim_nil {l : List UInt8} : trimS l digs = [] ↔ l.all dgt = true := by
 have hd : (fun x => digs.contains x) = dgt := funext fun x => zzx
 unfold trimS trimLeftS trimRightS
 show List.dropWhile (fun x => digs.contains x) (List.dropWhile (fun x => digs.contains x) l.reverse).reverse = [] ↔ _
 rw [hd, dropW_nil, List.all_reverse]
 constructor
 . intro h
   have key : ∀ (m : List UInt8), (m.dropWhile dgt).all dgt = true -> m.all dgt = true := by
    intro m
    induction m with
    | nil => simp
    | cons c r ih =>
      rw [List.dropWhile_cons]
      grind
   grind
 . intro h
   have : l.reverse.all dgt = true := by rw [List.all_reverse]; exact h
   rw [dropW_nil.2 this]; rfl
open Go Go.Lib
theorem zco {r : List UInt8} : trimPrefix (45 :: r) [45] = r := by
 unfold trimPrefix hasPrefix; simp [List.isPrefixOf]
theorem zcu {s : List UInt8} (h : s.head? ≠ some 45) : trimPrefix s [45] = s := by
 unfold trimPrefix hasPrefix
 cases s with
 | nil => rfl
 | cons c r =>
   grind
theorem xi {s : List UInt8} {c : UInt8} {r : List UInt8} (h : trimPrefix s [45] = c :: r) : yG s = ((c :: r).all dgt && (decide (c ≠ 48) || decide (s = [48]))) := by
 unfold yG
 rw [h]
 simp only
 cases e : (c :: r).all dgt with
 | true => rw [trim_nil.2 e]; rfl
 | false =>
   cases e2 : trimS (c :: r) digs with
   | nil => rw [trim_nil.1 e2] at e; cases e
   | cons a b => rfl
theorem zxn {l : List UInt8} (h : l.all dgt = true) : l.head? ≠ some 45 := by
 cases l with
 | nil => simp
 | cons c r =>
   simp only [List.all_cons, Bool.and_eq_true] at h
   intro e
   have e' : c = 45 := Option.some.inj e
   rw [e'] at h
   exact absurd h.1 (by decide)
theorem zvu {s : List UInt8} (h : za1 s) : yG s = true := by
 obtain ⟨h1, h2, h3⟩ := h
 cases s with
 | nil => exact absurd rfl h1
 | cons c r =>
   rw [xi (zcu (zxn h2)), h2]
   grind
theorem zus {r : List UInt8} (h : za1 r) (h0 : r.head? ≠ some 48) : yG (45 :: r) = true := by
 obtain ⟨h1, h2, _⟩ := h
 cases r with
 | nil => exact absurd rfl h1
 | cons c r =>
   rw [xi zco, h2]
   grind
theorem zon {s : List UInt8} (h : yG s = true) : za1 s \/ ∃ r, s = 45 :: r /\ za1 r /\ r.head? ≠ some 48 := by
 by_cases e : s.head? = some 45
 . cases s with
   | nil => cases e
   | cons c r =>
     have : c = 45 := Option.some.inj e
     subst this
     cases r with
     | nil => exact absurd h (by unfold yG; rw [zco]; decide)
     | cons c r =>
       rw [xi zco, Bool.and_eq_true, Bool.or_eq_true, decide_eq_true_eq, decide_eq_true_eq] at h
       obtain ⟨h1, h2⟩ := h
       have hc : c ≠ 48 := h2.resolve_right (by intro x; cases x)
       have hh : (c :: r).head? ≠ some 48 := fun x => hc (Option.some.inj x)
       exact .inr ⟨_, rfl, ⟨by simp, h1, .inl hh⟩, hh⟩
 . cases s with
   | nil => exact absurd h (by decide)
   | cons c r =>
     rw [xi (zcu e), Bool.and_eq_true, Bool.or_eq_true, decide_eq_true_eq, decide_eq_true_eq] at h
     obtain ⟨h1, h2⟩ := h
     refine .inl ⟨by simp, h1, ?_⟩
     grind
theorem pub {l : List UInt8} (h : za1 l) : parseUintB 64 l = if qI 0 l <= 18446744073709551615 then .ok (qI 0 l) else .range := by
 unfold parseUintB
 rw [if_neg h.1]
 exact pum (M := 2 ^ 64 - 1) (by decide) h.2.1 (by decide)
def wP : Int := -9223372036854775808
def wQ : Int := 9223372036854775807
theorem zjk {s : List UInt8} (h : za1 s) : wg s wP wQ = if qI 0 s < 9223372036854775808 then ((qI 0 s : Int), 0) else (0, 7) := by
 unfold wg
 rw [if_pos (zvu h)]
 have hp : parseIntB 64 s = if qI 0 s < 9223372036854775808 then .ok (qI 0 s : Int) else .range := by
  have h2 := h.2.1
  have hu := pub h
  cases s with
  | nil => exact absurd rfl h.1
  | cons c r =>
    simp only [List.all_cons, Bool.and_eq_true] at h2
    have hc := dgt_iff.1 h2.1
    grind [parseIntB]
 rw [hp]
 by_cases h3 : qI 0 s < 9223372036854775808
 . rw [if_pos h3, if_pos h3]
   simp only
   rw [if_neg (by unfold wP wQ; omega)]
 . grind
theorem zj0 {r : List UInt8} (h : za1 r) (h0 : r.head? ≠ some 48) : wg (45 :: r) wP wQ = if qI 0 r <= 9223372036854775808 then (-(qI 0 r : Int), 0) else (0, 7) := by
 unfold wg
 rw [if_pos (zus h h0)]
 have hp : parseIntB 64 (45 :: r) = if qI 0 r <= 9223372036854775808 then .ok (-(qI 0 r : Int)) else .range := by
  have hu := pub h
  grind [parseIntB]
 rw [hp]
 by_cases h3 : qI 0 r <= 9223372036854775808
 . rw [if_pos h3, if_pos h3]
   simp only
   rw [if_neg (by unfold wP wQ; omega)]
 . grind
theorem zwa {s : List UInt8} (h : yG s = false) : wg s wP wQ = (0, 6) := by
 unfold wg
 rw [h]; rfl
theorem znx {l : List UInt8} (h : za1 l) (h0 : l.head? ≠ some 48) : qI 0 l ≠ 0 := fun e => by
 have := zfn _ l rfl h
 rewrite [e] at this
 rewrite [<- this, uE (by omega)] at h0
 exact h0 rfl
theorem zzu {n : Int} (h0 : -9223372036854775808 <= n) (h1 : n <= 9223372036854775807) : wg (itoa n) wP wQ = (n, 0) := by
 unfold itoa
 by_cases h : n < 0
 . rw [if_pos h, zj0 (zr0 _) (zo8 _ (by omega)), zq9, if_pos (by omega)]
   grind
 . rw [if_neg h, zjk (zr0 _), zq9, if_pos (by omega)]
   grind
theorem zzl {s : List UInt8} {v : Int} (h : wg s wP wQ = (v, 0)) : itoa v = s /\ -9223372036854775808 <= v /\ v <= 9223372036854775807 := by
 cases e : yG s with
 | false => rw [zwa e] at h; cases h
 | true =>
   rcases zon e with hc | ⟨r, rfl, hc, h0⟩
   . rw [zjk hc] at h
     by_cases h3 : qI 0 s < 9223372036854775808
     . rw [if_pos h3] at h
       have hv : (qI 0 s : Int) = v := congrArg Prod.fst h
       have hd := zfn _ s rfl hc
       grind [itoa]
     . grind
   . rw [zj0 hc h0] at h
     by_cases h3 : qI 0 r <= 9223372036854775808
     . rw [if_pos h3] at h
       have hv : -(qI 0 r : Int) = v := congrArg Prod.fst h
       have hd := zfn _ r rfl hc
       have hz := znx hc h0
       grind [itoa]
     . grind
theorem zwh {n : Int} {c : UInt8} (h : c ∈ itoa n) : c ≠ 32 /\ c ≠ 10 := by
 have key : ∀ {u : Nat} {c : UInt8}, c ∈ decDigits u -> c ≠ 32 /\ c ≠ 10 := fun {u c} hc => by
  have := List.all_eq_true.1 (zru u) c hc
  have h2 := dgt_iff.1 this
  constructor
  . rintro rfl; exact absurd h2.1 (by decide)
  . rintro rfl; exact absurd h2.1 (by decide)
 grind [itoa]
open Go Go.Lib
theorem jc {c x : UInt8} {r cur : List UInt8} : zF c (x :: r) cur = if x = c then cur.reverse :: zF c r [] else zF c r (x :: cur) := by
 rw [zF]
 by_cases h : x = c
 . simp_all
 . have : Nat.beq x.toNat c.toNat = false := by
    rw [Bool.eq_false_iff]
    exact fun e => h (UInt8.toNat_inj.1 (Nat.eq_of_beq_eq_true e))
   rw [this, if_neg h]
theorem znq {c : UInt8} : ∀ {s cur : List UInt8}, c ∉ s -> zF c s cur = [cur.reverse ++ s]
 | [], cur, _ => by simp [zF]
 | x :: r, cur, h => by
   have h1 : x ≠ c := fun e => h (by simp [e])
   rw [jc, if_neg h1, znq (fun m => h (List.mem_cons_of_mem _ m))]
   simp
theorem jr {c : UInt8} {t : List UInt8} : ∀ {s cur : List UInt8}, c ∉ s -> zF c (s ++ c :: t) cur = (cur.reverse ++ s) :: zF c t []
 | [], cur, _ => by rw [List.nil_append, jc, if_pos rfl, List.append_nil]
 | x :: r, cur, h => by
   have h1 : x ≠ c := fun e => h (by simp [e])
   rw [List.cons_append, jc, if_neg h1, jr (fun m => h (List.mem_cons_of_mem _ m))]
   simp
theorem zcr {c : UInt8} : ∀ {s cur : List UInt8}, zF c (s ++ [c]) cur = zF c s cur ++ [[]]
 | [], cur => by rw [List.nil_append, jc, if_pos rfl]; rfl
 | x :: r, cur => by
   rw [List.cons_append, jc, jc]
   split
   . rw [zcr]; rfl
   . rw [zcr]
theorem zat {c : UInt8} : ∀ {s cur : List UInt8}, (zF c s cur).length = countByte s c + 1
 | [], _ => rfl
 | x :: r, cur => by
   unfold countByte
   rw [jc, List.count_cons]
   split
   . rename_i e
     rw [List.length_cons, zat, e]
     simp [countByte]
   . rename_i e
     rw [zat]
     simp [countByte, e]
theorem zvg {c : UInt8} {s cur : List UInt8} : zF c s cur ≠ [] := fun e => by
 have := zat (c := c) (s := s) (cur := cur)
 rw [e] at this
 exact absurd this (by simp)
theorem join_cons {x s : List UInt8} {l : List (List UInt8)} (h : l ≠ []) : qx (x :: l) s = x ++ s ++ qx l s := by
 cases l with
 | nil => exact absurd rfl h
 | cons y r => simp [qx, zal, List.append_assoc]
theorem zc0 {c : UInt8} : ∀ {s cur : List UInt8}, qx (zF c s cur) [c] = cur.reverse ++ s
 | [], cur => by simp [zF, qx, zal]
 | x :: r, cur => by
   rw [jc]
   split
   . rename_i e
     rw [join_cons zvg, zc0, e]
     simp
   . rw [zc0]; simp
theorem zk4 {c : UInt8} : ∀ {ls : List (List UInt8)}, (∀ l ∈ ls, c ∉ l) -> zF c ((ls.map fun l => l ++ [c]).flatten) [] = ls ++ [[]]
 | [], _ => rfl
 | l :: r, h => by
   rw [List.map_cons, List.flatten_cons, List.append_assoc, List.singleton_append, jr (h l (by simp)), zk4 (fun x hx => h x (List.mem_cons_of_mem _ hx))]
   rfl
theorem zc1 {c : UInt8} : ∀ {ls : List (List UInt8)}, ls ≠ [] -> (ls.map fun l => l ++ [c]).flatten = qx ls [c] ++ [c]
 | [], h => absurd rfl h
 | [l], _ => by simp [qx, zal]
 | l :: m :: r, _ => by
   have e := zc1 (c := c) (ls := m :: r) (by simp)
   have hne : m :: r ≠ [] := by simp
   generalize m :: r = q at e hne
   rw [List.map_cons, List.flatten_cons, e, join_cons hne]
   simp only [List.append_assoc]
theorem zwc {c : UInt8} {a b d e f g i : List UInt8} (ha : c ∉ a) (hb : c ∉ b) (hd : c ∉ d) (he : c ∉ e) (hf : c ∉ f) (hg : c ∉ g) (hi : c ∉ i) :
 zF c (qx [a, b, d, e, f, g, i] [c]) [] = [a, b, d, e, f, g, i] := by
 have : qx [a, b, d, e, f, g, i] [c] = a ++ c :: (b ++ c :: (d ++ c :: (e ++ c :: (f ++ c :: (g ++ c :: i))))) := by
  simp [qx, zal]
 rw [this, jr ha, jr hb, jr hd, jr he, jr hf, jr hg, znq hi]
 rfl
open Go Go.Lib
theorem zoi (c : UInt8) : ug (c.toNat : Int) = some (dgt c) := by
 grind [ug, dgt]
theorem zpf (l : List UInt8) (hl : l.length <= 1000000) : (lpO (fun (s473 : Int) =>
 cond (decide (s473 < (↑(List.length l) : Int)))
 (zh l (s473) fun x479 =>
 Option.bind (ug ((↑(UInt8.toNat x479) : Int))) fun x480 =>
 cond (!x480)
 (some (Sum.inr (Sum.inr (false))))
 (zf (IntKind.wrap IntKind.i64 (s473 + (1 : Int))) fun x482 =>
 some (Sum.inl (x482))))
 (some (Sum.inr (Sum.inl (()))))) ((0 : Int))).bind (Sum.elim (fun (_ : Unit) => some (true)) some) = some (l.all dgt) := by
 have key : ∀ (rest pre : List UInt8), l = pre ++ rest -> (lpO (fun (s473 : Int) =>
 cond (decide (s473 < (↑(List.length l) : Int)))
 (zh l (s473) fun x479 =>
 Option.bind (ug ((↑(UInt8.toNat x479) : Int))) fun x480 =>
 cond (!x480)
 (some (Sum.inr (Sum.inr (false))))
 (zf (IntKind.wrap IntKind.i64 (s473 + (1 : Int))) fun x482 =>
 some (Sum.inl (x482))))
 (some (Sum.inr (Sum.inl (()))))) (pre.length : Int)) = some (if rest.all dgt = true then Sum.inl () else Sum.inr false) := by
   intro rest
   induction rest with
   | nil =>
     intro pre e
     rw [qn]
     grind
   | cons c r ih =>
     intro pre e
     have hlen : l.length = pre.length + (r.length + 1) := by rw [e, List.length_append, List.length_cons]
     have hx : l[pre.length]? = some c := by rw [e]; simp
     have hlt : (pre.length : Int) < (l.length : Int) := by omega
     have hw : IntKind.wrap .i64 ((pre.length : Int) + 1) = (((pre ++ [c]).length : Nat) : Int) := by rw [w64 (by omega) (by omega)]; simp
     have n1 : (0 : Int) <= (pre.length : Int) := by omega
     have ih' := ih (pre ++ [c]) (by rw [e]; simp)
     rw [qn]
     simp only [hlt, decide_true, cond_true, zh, n1, if_true, Int.toNat_natCast, hx, Option.bind_some, zoi, zf, hw]
     cases hd : dgt c with
     | true =>
       simp only [Bool.not_true, cond_false, Option.bind_some, Sum.elim_inl, List.all_cons, hd, Bool.true_and]
       simp_all [zoi, zh, zf]
     | false => simp [hd]
 grind [List.length_nil]
theorem zsz (s : List UInt8) (hs : s.length <= 1000000) : zmh s = some (yG s) := by
 unfold zmh
 cases s with
 | nil => rfl
 | cons c r =>
   have e1 : List.drop (Int.toNat (1 : Int)) (List.take (Int.toNat (↑(List.length (c :: r)) : Int)) (c :: r)) = r := by
    simp_all
   have i0 : ∀ {α : Type} {k : UInt8 -> Option α}, zh (c :: r) (0 : Int) k = k c := fun {α k} => by simp [zh]
   have z0 : ¬ (((c :: r).length : Nat) : Int) = 0 := by simp; omega
   have ca : ((c.toNat : Int) = 45) ↔ c = 45 := by
    constructor
    . intro h
      have e : (45 : UInt8).toNat = 45 := by decide
      exact UInt8.toNat_inj.1 (by omega)
    . rintro rfl; decide
   have c48 : ∀ {x : UInt8}, ((x.toNat : Int) = 48) ↔ x = 48 := fun {x} => by
    constructor
    . intro h
      have e : (48 : UInt8).toNat = 48 := by decide
      exact UInt8.toNat_inj.1 (by omega)
    . rintro rfl; decide
   have hL := zpf (c :: r) hs
   simp only [e1, i0, z0, decide_false, cond_false, hL]
   cases r with
   | nil =>
     have l1 : ¬ (1 : Int) < (([c] : List UInt8).length : Int) := by simp
     simp only [l1, decide_false, cond_false]
     by_cases h45 : c = 45
     . subst h45; decide
     . rw [xi (zcu (fun x => h45 (Option.some.inj x)))]
       grind
   | cons d q =>
     have l1 : (1 : Int) < ((c :: d :: q).length : Int) := by simp; omega
     have i1 : ∀ {α : Type} {k : UInt8 -> Option α}, zh (c :: d :: q) (1 : Int) k = k d := fun {α k} => by simp [zh]
     have i2 : ∀ {α : Type} {k : UInt8 -> Option α}, zh (d :: q) (0 : Int) k = k d := fun {α k} => by simp [zh]
     have z1 : ¬ (((d :: q).length : Nat) : Int) = 0 := by simp; omega
     have sd : ((0 : Int) <= (1 : Int) /\ (1 : Int) <= (↑(List.length (c :: d :: q)) : Int)) := ⟨by omega, by omega⟩
     have hR := zpf (d :: q) (by simp only [List.length_cons] at hs ⊢; omega)
     simp only [l1, decide_true, cond_true, i1, i2, zi, sd, z1, decide_false, cond_false, hR, ca, c48]
     by_cases h45 : c = 45
     . subst h45
       rw [xi zco]
       by_cases h48 : d = 48
       . subst h48; simp [show dgt 45 = false by decide]
       . simp [h48]
     . rw [xi (zcu (fun x => h45 (Option.some.inj x)))]
       by_cases h48 : c = 48
       . simp_all
       . simp [h45, h48]
open Go Go.Lib
def zgv : Int -> List UInt8 -> Option Int
 | n, [] => some n
 | n, c :: r => if n < Int.tdiv (-9223372036854775808 + (c.toNat - 48 : Nat)) 10 then none else zgv (10 * n - (c.toNat - 48 : Nat)) r
theorem zjs : ∀ {l : List UInt8} {a : Nat}, l.all dgt = true -> a <= 9223372036854775808 -> zgv (-(a : Int)) l = if qI a l <= 9223372036854775808 then some (-(qI a l : Int)) else none
 | [], a, _, ha => by
   have : qI a [] = a := rfl
   rewrite [this, if_pos ha]
   rfl
 | c :: r, a, hl, ha => by
   simp only [List.all_cons, Bool.and_eq_true] at hl
   obtain ⟨hc, hr⟩ := hl
   have hc := dgt_iff.1 hc
   have hv : qI a (c :: r) = qI (a * 10 + (c.toNat - 48)) r := rfl
   rewrite [hv]
   unfold zgv
   generalize hd : c.toNat - 48 = d
   have hd9 : d <= 9 := by omega
   have ht : Int.tdiv (-9223372036854775808 + (d : Int)) 10 = -((9223372036854775808 - d) / 10 : Nat) := by
    grind
   rw [ht]
   by_cases h : a * 10 + d <= 9223372036854775808
   . rw [if_neg (by omega), show 10 * -(a : Int) - (d : Int) = -((a * 10 + d : Nat) : Int) by omega]
     exact zjs hr h
   . rw [if_pos (by omega), if_neg]
     have := ze3 (l := r) (a := a * 10 + d)
     omega
theorem znu (l : List UInt8) (hl : l.length <= 1000000) (k : Int -> Option (Int × Int)) : ∀ (rest pre : List UInt8) (n : Int), l = pre ++ rest -> rest.all dgt = true -> -9223372036854775808 <= n -> n <= 0 -> (lpO (fun (s543 : Int × Int) =>
 cond (decide (s543.fst < (↑(List.length l) : Int)))
 (zh (l) (s543.fst) fun x555 =>
 cond (decide ((↑(UInt8.toNat x555) : Int) = (45 : Int)))
 (zf (IntKind.wrap IntKind.i64 (s543.fst + (1 : Int))) fun x557 =>
 some (Sum.inl ((x557, s543.snd))))
 (zh (l) (s543.fst) fun x558 =>
 zf (IntKind.wrap IntKind.u8 ((↑(UInt8.toNat x558) : Int) - (48 : Int))) fun x559 =>
 zf (IntKind.wrap IntKind.i64 x559) fun x560 =>
 zf (IntKind.wrap IntKind.i64 ((-9223372036854775808 : Int) + x560)) fun x561 =>
 zf (IntKind.wrap IntKind.i64 (Int.tdiv x561 (10 : Int))) fun x562 =>
 cond (decide (s543.snd < x562))
 (some (Sum.inr (Sum.inr (((0 : Int), (7 : Int))))))
 (zf (IntKind.wrap IntKind.i64 ((10 : Int) * s543.snd)) fun x564 =>
 zf (IntKind.wrap IntKind.i64 (x564 - x560)) fun x565 =>
 zf (IntKind.wrap IntKind.i64 (s543.fst + (1 : Int))) fun x566 =>
 some (Sum.inl ((x566, x565))))))
 (some (Sum.inr (Sum.inl (s543.snd))))) ((pre.length : Int), n)).bind (Sum.elim k some) = match zgv n rest with | some v => k v | none => some (0, 7) := by
 intro rest
 induction rest with
 | nil =>
   intro pre n e _ h1 h2
   have hlt : ¬ (pre.length : Int) < (l.length : Int) := by rw [e, List.append_nil]; omega
   rw [qn]
   simp only [hlt, decide_false, cond_false, Option.bind_some, Sum.elim_inr, Sum.elim_inl]
   rfl
 | cons c r ih =>
   intro pre n e hd h1 h2
   simp only [List.all_cons, Bool.and_eq_true] at hd
   obtain ⟨hc, hr⟩ := hd
   have hc := dgt_iff.1 hc
   have hlen : l.length = pre.length + (r.length + 1) := by rw [e, List.length_append, List.length_cons]
   have hx : l[pre.length]? = some c := by rw [e]; simp
   have hlt : (pre.length : Int) < (l.length : Int) := by omega
   have hw : IntKind.wrap .i64 ((pre.length : Int) + 1) = (((pre ++ [c]).length : Nat) : Int) := by rw [w64 (by omega) (by omega)]; simp
   have n1 : (0 : Int) <= (pre.length : Int) := by omega
   have hi : ∀ {α : Type} {k : UInt8 -> Option α}, zh l (pre.length : Int) k = k c := fun {α k} => by simp [zh, hx]
   have ih' := fun n => ih (pre ++ [c]) n (by rw [e]; simp) hr
   have h45 : ¬ (c.toNat : Int) = 45 := by omega
   generalize hd : c.toNat - 48 = d
   have hd9 : d <= 9 := by omega
   have w0 : IntKind.wrap .u8 ((c.toNat : Int) - 48) = (d : Int) := by
    grind [IntKind.bits, IntKind.signed, IntKind.wrap]
   have w1 : IntKind.wrap .i64 (d : Int) = (d : Int) := w64 (by omega) (by omega)
   have w2 : IntKind.wrap .i64 ((-9223372036854775808 : Int) + (d : Int)) = (-9223372036854775808 : Int) + (d : Int) := w64 (by omega) (by omega)
   have ht : Int.tdiv (-9223372036854775808 + (d : Int)) 10 = -((9223372036854775808 - d) / 10 : Nat) := by
    grind
   have w3 : IntKind.wrap .i64 (Int.tdiv (-9223372036854775808 + (d : Int)) 10) = Int.tdiv (-9223372036854775808 + (d : Int)) 10 := by
    rw [ht]; exact w64 (by omega) (by omega)
   rw [qn]
   unfold zgv
   rw [hd]
   simp only [hlt, decide_true, cond_true, hi, h45, decide_false, cond_false, zf, w0, w1, w2, w3, hw]
   by_cases hb : n < Int.tdiv (-9223372036854775808 + (d : Int)) 10
   . grind
   . have hb' := hb
     rw [ht] at hb'
     have w4 : IntKind.wrap .i64 (10 * n) = 10 * n := w64 (by omega) (by omega)
     have w5 : IntKind.wrap .i64 (10 * n - (d : Int)) = 10 * n - (d : Int) := w64 (by omega) (by omega)
     simp only [hb, decide_false, cond_false, if_false, Option.bind_some, Sum.elim_inl, w4, w5]
     have := ih' (10 * n - (d : Int)) (by omega) (by omega)
     simp_all [zf]
open Go Go.Lib
theorem zo3 (s : List UInt8) (hs : s.length <= 1000000) : zmf s (-9223372036854775808) 9223372036854775807 = some (wg s wP wQ) := by
 unfold zmf
 rw [zsz s hs]
 simp only [Option.bind_some]
 cases e : yG s with
 | false => rw [zwa e]; rfl
 | true =>
   simp only [Bool.not_true, cond_false]
   rcases zon e with hc | ⟨r, rfl, hc, h0⟩
   . rw [zjk hc]
     have hne := hc.1
     have hall := hc.2.1
     cases s with
     | nil => exact absurd rfl hne
     | cons c r =>
       have hcd : dgt c = true := by
        simp only [List.all_cons, Bool.and_eq_true] at hall
        exact hall.1
       have hcd := dgt_iff.1 hcd
       have h45 : ¬ (c.toNat : Int) = 45 := by omega
       have i0 : ∀ {α : Type} {k : UInt8 -> Option α}, zh (c :: r) (0 : Int) k = k c := fun {α k} => by simp [zh]
       rw [i0]
       refine (znu (c :: r) hs _ (c :: r) [] 0 rfl hall (by decide) (by decide)).trans ?_
       have hN : zgv 0 (c :: r) = _ := zjs (l := c :: r) (a := 0) hall (by decide)
       rw [hN]
       generalize qI 0 (c :: r) = v
       by_cases h1 : v <= 9223372036854775808
       . rw [if_pos h1]
         simp only [h45, decide_false, Bool.not_false, cond_true]
         by_cases h2 : v < 9223372036854775808
         . have n1 : ¬ -(v : Int) = -9223372036854775808 := by omega
           have w : IntKind.wrap .i64 (0 - -(v : Int)) = (v : Int) := by
            rw [show 0 - -(v : Int) = (v : Int) by omega]
            exact w64 (by omega) (by omega)
           have n2 : ¬ (v : Int) < -9223372036854775808 := by omega
           have n3 : ¬ (9223372036854775807 : Int) < (v : Int) := by omega
           simp only [n1, decide_false, cond_false, zf, w, n2, n3, h2, if_true]
         . have n1 : -(v : Int) = -9223372036854775808 := by omega
           simp only [n1, decide_true, cond_true, h2, if_false]
       . rw [if_neg h1, if_neg (by omega)]
   . rw [zj0 hc h0]
     have hall := hc.2.1
     have i0 : ∀ {α : Type} {k : UInt8 -> Option α}, zh (45 :: r) (0 : Int) k = k 45 := fun {α k} => by simp [zh]
     have h45 : ((UInt8.toNat 45 : Nat) : Int) = 45 := by decide
     rw [i0, qn]
     have hlt : (0 : Int) < ((45 :: r : List UInt8).length : Int) := by simp only [List.length_cons]; omega
     have w1 : IntKind.wrap .i64 (0 + 1 : Int) = 1 := by decide
     simp only [hlt, decide_true, cond_true, i0, h45, zf, w1, Option.bind_some, Sum.elim_inl, Bool.not_true, cond_false]
     have hI := znu (45 :: r) hs (fun s541 => cond (decide (s541 < (-9223372036854775808 : Int))) (some (((0 : Int), (7 : Int)))) (cond (decide ((9223372036854775807 : Int) < s541)) (some (((0 : Int), (7 : Int)))) (some ((s541, (0 : Int)))))) r [45] 0 rfl hall (by decide) (by decide)
     simp only [zf] at hI
     refine Eq.trans hI ?_
     have hN : zgv 0 r = _ := zjs (l := r) (a := 0) hall (by decide)
     rw [hN]
     generalize qI 0 r = v
     by_cases h1 : v <= 9223372036854775808
     . rw [if_pos h1, if_pos h1]
       have n2 : ¬ -(v : Int) < -9223372036854775808 := by omega
       have n3 : ¬ (9223372036854775807 : Int) < -(v : Int) := by omega
       simp only [n2, n3, decide_false, cond_false]
     . rw [if_neg h1, if_neg h1]
theorem zm6 (s : List UInt8) (hs : s.length <= 1000000) : uj s (-9223372036854775808) 9223372036854775807 = some (wg s wP wQ) := if_pos hs
open Go Go.Lib
theorem zq3 (pre cur rest : List UInt8) : List.drop pre.length (List.take (pre ++ cur).length (pre ++ cur ++ rest)) = cur := by
 grind
theorem zuo (l : List UInt8) (hl : l.length <= 1000000) (c : UInt8) : ∀ (rest pre cur : List UInt8) (out : List (List UInt8)), l = pre ++ cur ++ rest -> out.length <= pre.length -> lpO (fun (s432 : Int × Int × List (List UInt8)) =>
 cond (decide (s432.fst <= (↑(List.length l) : Int)))
 (cond (decide (s432.fst = (↑(List.length l) : Int)))
 (zi ((0 : Int) <= s432.snd.fst /\ s432.snd.fst <= s432.fst /\ s432.fst <= (↑(List.length l) : Int)) (
 zi ((List.length (List.map SV.str s432.snd.snd) + (1 : Nat)) * (16 : Nat) <= (70368744177664 : Nat)) (
 zf (IntKind.wrap IntKind.i64 (s432.fst + (1 : Int))) fun x439 =>
 zf (IntKind.wrap IntKind.i64 (s432.fst + (1 : Int))) fun x440 =>
 some (Sum.inl ((x440, x439, s432.snd.snd ++ [List.drop (Int.toNat s432.snd.fst) (List.take (Int.toNat s432.fst) l)]))))))
 (zh (l) (s432.fst) fun x441 =>
 cond (decide ((↑(UInt8.toNat x441) : Int) = (c.toNat : Int)))
 (zi ((0 : Int) <= s432.snd.fst /\ s432.snd.fst <= s432.fst /\ s432.fst <= (↑(List.length l) : Int)) (
 zi ((List.length (List.map SV.str s432.snd.snd) + (1 : Nat)) * (16 : Nat) <= (70368744177664 : Nat)) (
 zf (IntKind.wrap IntKind.i64 (s432.fst + (1 : Int))) fun x443 =>
 zf (IntKind.wrap IntKind.i64 (s432.fst + (1 : Int))) fun x444 =>
 some (Sum.inl ((x444, x443, s432.snd.snd ++ [List.drop (Int.toNat s432.snd.fst) (List.take (Int.toNat s432.fst) l)]))))))
 (zf (IntKind.wrap IntKind.i64 (s432.fst + (1 : Int))) fun x445 =>
 some (Sum.inl ((x445, s432.snd))))))
 (some (Sum.inr (Sum.inl (s432.snd.snd) : List (List UInt8) ⊕ List (List UInt8))))) (((pre ++ cur).length : Int), (pre.length : Int), out) = some (Sum.inl (out ++ zF c rest cur.reverse)) := by
 intro rest
 induction rest with
 | nil =>
   intro pre cur out e ho
   rw [List.append_nil] at e
   subst e
   have hcut : List.drop pre.length (List.take (pre ++ cur).length (pre ++ cur)) = cur := by have := zq3 pre cur []; rwa [List.append_nil] at this
   have hp : pre.length <= (pre ++ cur).length := by rw [List.length_append]; omega
   have hw : IntKind.wrap .i64 ((((pre ++ cur).length : Nat) : Int) + 1) = (((pre ++ cur).length + 1 : Nat) : Int) := by rw [w64 (by omega) (by omega)]; omega
   have s1 : (0 : Int) <= (pre.length : Int) /\ (pre.length : Int) <= (((pre ++ cur).length : Nat) : Int) /\ True := ⟨by omega, by omega, trivial⟩
   have s2 : (List.length (List.map SV.str out) + (1 : Nat)) * (16 : Nat) <= (70368744177664 : Nat) := by rw [List.length_map]; omega
   have hgt : ¬ (((pre ++ cur).length + 1 : Nat) : Int) <= ((pre ++ cur).length : Int) := by omega
   rw [qn]
   simp only [Int.le_refl, decide_true, cond_true, zi, s1, s2, true_and, if_true, zf, hw, Int.toNat_natCast, hcut, Option.bind_some, Sum.elim_inl]
   rw [qn]
   simp only [hgt, decide_false, cond_false, Option.bind_some, Sum.elim_inr]
   simp [zF]
 | cons x r ih =>
   intro pre cur out e ho
   have hlen : l.length = (pre ++ cur).length + (r.length + 1) := by rw [e, List.length_append, List.length_cons]
   have hcut : List.drop pre.length (List.take (pre ++ cur).length l) = cur := by rw [e]; exact zq3 pre cur _
   have hx : l[(pre ++ cur).length]? = some x := by rw [e, List.getElem?_append_right (Nat.le_refl _), Nat.sub_self]; rfl
   have hp : pre.length <= (pre ++ cur).length := by rw [List.length_append]; omega
   have hle : (((pre ++ cur).length : Nat) : Int) <= (l.length : Int) := by omega
   have heq : ¬ (((pre ++ cur).length : Nat) : Int) = (l.length : Int) := by omega
   have hw : IntKind.wrap .i64 ((((pre ++ cur).length : Nat) : Int) + 1) = (((pre ++ cur ++ [x]).length : Nat) : Int) := by rw [w64 (by omega) (by omega), List.length_append (bs := [x])]; simp
   have s1 : (0 : Int) <= (pre.length : Int) /\ (pre.length : Int) <= (((pre ++ cur).length : Nat) : Int) /\ (((pre ++ cur).length : Nat) : Int) <= (l.length : Int) := by omega
   have s2 : (List.length (List.map SV.str out) + (1 : Nat)) * (16 : Nat) <= (70368744177664 : Nat) := by rw [List.length_map]; omega
   have hi : ∀ {α : Type} {k : UInt8 -> Option α}, zh l (((pre ++ cur).length : Nat) : Int) k = k x := fun {α k} => by
    grind [Int.toNat_natCast, zh]
   have hc : ((x.toNat : Int) = (c.toNat : Int)) ↔ x = c := ⟨fun h => UInt8.toNat_inj.1 (by omega), fun h => by rw [h]⟩
   rw [qn, jc]
   by_cases h : x = c
   . have := ih (pre ++ cur ++ [x]) [] (out ++ [cur]) (by rw [e]; simp) (by simp only [List.length_append, List.length_cons, List.length_nil] at *; omega)
     simp only [zi, zf, hc] at this
     simp only [hle, heq, decide_true, decide_false, cond_true, cond_false, hi, hc, h, zi, s1, s2, true_and, if_true, zf, hw, Int.toNat_natCast, hcut, Option.bind_some, Sum.elim_inl]
     grind
   . have := ih pre (cur ++ [x]) out (by rw [e]; simp) ho
     simp only [zi, zf, hc] at this
     simp only [hle, heq, decide_true, decide_false, cond_true, cond_false, hi, hc, h, zi, zf, hw, Option.bind_some, Sum.elim_inl, if_false]
     grind
theorem zcc (l : List UInt8) (hl : l.length <= 1000000) (c : UInt8) : zc3 l (c.toNat : Int) = some (zF c l []) := by
 unfold zc3
 have := zuo l hl c l [] [] [] rfl (Nat.le_refl _)
 grind
end Go.Sx.O
noncomputable section
namespace Go.Sx.O
open Go Go.Lib
def qk (s : List UInt8) : Int × Int := if [115, 117, 109] = s then (1, 0) else if [99, 111, 117, 110, 116] = s then (2, 0) else if [108, 101, 97, 115, 116] = s then (3, 0) else if [109, 111, 115, 116] = s then (4, 0) else (0, 4)
theorem zbq (s : List UInt8) : zkx s = some (qk s) := by
 grind [zkx, qk]
theorem zlu (s : List UInt8) : zfs s = some (qk s) := by rw [<- zp6, zbq]
theorem zve {n : Int} (h : (wi n).2 = 0) : qk (wi n).1 = (n, 0) := by
 have h := nameC_err.1 h
 have : n = 1 \/ n = 2 \/ n = 3 \/ n = 4 := by omega
 rcases this with rfl | rfl | rfl | rfl <;> decide
theorem zur {s : List UInt8} (h : (qk s).2 = 0) : (wi (qk s).1).1 = s /\ (wi (qk s).1).2 = 0 := by
 unfold qk at h ⊢
 by_cases h1 : [115, 117, 109] = s
 . subst h1; decide
 by_cases h2 : [99, 111, 117, 110, 116] = s
 . subst h2; decide
 by_cases h3 : [108, 101, 97, 115, 116] = s
 . subst h3; decide
 by_cases h4 : [109, 111, 115, 116] = s
 . subst h4; decide
 grind
def ixN (l : List (List UInt8)) (s : List UInt8) : Option Nat := l.findIdx? fun x => decide (s = x)
def ym (l : TL) (s : List UInt8) : Int × Int := if (qG l).2 = 0 then (match ixN l.Names s with | some i => ((i : Int), 0) | none => (0, 4)) else (0, (qG l).2)
theorem zi8 {l : TL} (h : LatIn l) (s : List UInt8) : zpv l s = some (ym l s) := by
 have hn := h.names
 unfold zpv ym
 rw [zgb h [] (by simp), uA _ _ (by omega)]
 unfold zb4 ixN
 grind
theorem zly {l : TL} (h : LatIn l) (s : List UInt8) : zi4 l s = some (ym l s) := by
 have hn := h.names
 have hC : zd6 l = some (qG l) := by
  rw [xt l h.u8 h.names h.name, <- zb0 l h.u8 h.names h.name, uf h]
 unfold zi4 ym
 rw [hC]
 simp only [Option.bind_some]
 by_cases h0 : (qG l).2 = 0
 case neg =>
  grind
 rw [if_pos h0]
 simp only [h0, decide_true, Bool.not_true, cond_false]
 rw [zk2 (l := l.Names) (fun x => decide (s = x)) (d := .inl ()) (g := fun k => .inr (k, 0)) ?_ ?_]
 . grind [ixN]
 . intro k x hx
   have hlt : k < l.Names.length := by
    grind
   simp only [List.length_map, Int.ofNat_lt, hlt, decide_true, cond_true, zh, Int.toNat_natCast, hx, Option.bind_some, zf, Int.natCast_nonneg, if_true]
   rw [w64 (by omega) (by omega), decide_eq_decide.2 (eq_comm (a := x) (b := s))]
   cases decide (s = x) <;> rfl
 . simp
theorem zEp (a b c : Int) : ∃ e, zs9 [a, b, c] = some e /\ (e = 0 ↔ a = 0 /\ b = 0 /\ c = 0) := by
 unfold zs9
 have w1 : IntKind.wrap .i64 (0 + 1 : Int) = 1 := by decide
 have w2 : IntKind.wrap .i64 (1 + 1 : Int) = 2 := by decide
 have w3 : IntKind.wrap .i64 (2 + 1 : Int) = 3 := by decide
 have i0 : ∀ {α : Type} {k : Int -> Option α}, zh [a, b, c] (0 : Int) k = k a := rfl
 have i1 : ∀ {α : Type} {k : Int -> Option α}, zh [a, b, c] (1 : Int) k = k b := rfl
 have i2 : ∀ {α : Type} {k : Int -> Option α}, zh [a, b, c] (2 : Int) k = k c := rfl
 have l0 : (0 : Int) < ((([a, b, c].map (SV.int IntKind.i64)).length : Nat) : Int) := by simp
 have l1 : (1 : Int) < ((([a, b, c].map (SV.int IntKind.i64)).length : Nat) : Int) := by simp
 have l2 : (2 : Int) < ((([a, b, c].map (SV.int IntKind.i64)).length : Nat) : Int) := by simp
 have l3 : ¬ (3 : Int) < ((([a, b, c].map (SV.int IntKind.i64)).length : Nat) : Int) := by simp
 rw [qn]
 simp only [l0, decide_true, cond_true, i0, zf, w1]
 by_cases ha : a = 0
 case neg => exact ⟨a, by simp [ha], by simp [ha]⟩
 simp only [ha, decide_true, Bool.not_true, cond_false, Option.bind_some, Sum.elim_inl]
 rw [qn]
 simp only [ha] at l1 i1
 simp only [l1, decide_true, cond_true, i1, zf, w2]
 by_cases hb : b = 0
 case neg => exact ⟨b, by simp [hb], by simp [hb]⟩
 simp only [hb, decide_true, Bool.not_true, cond_false, Option.bind_some, Sum.elim_inl]
 rw [qn]
 simp only [ha, hb] at l2 i2
 simp only [l2, decide_true, cond_true, i2, zf, w3]
 by_cases hc : c = 0
 case neg => exact ⟨c, by simp [hc], by simp [hc]⟩
 simp only [hc, decide_true, Bool.not_true, cond_false, Option.bind_some, Sum.elim_inl]
 rw [qn]
 grind
end Go.Sx.O
end
noncomputable section
namespace Go.Sx.O
open Go Go.Lib
def E0 : TE := TE.mk 0 0 0 0 0 (0, 0)
def iC (s : List UInt8) : Int × Int := wg s wP wQ
def zhn (p : TP) (a b c d e f g : List UInt8) : TE × Int :=
 if (iC a).2 = 0 /\ (iC e).2 = 0 /\ (iC f).2 = 0 /\ (iC g).2 = 0 then
  (if (qk b).2 = 0 /\ (ym p.Lattice c).2 = 0 /\ (ym p.Lattice d).2 = 0 then (TE.mk (iC a).1 (qk b).1 (ym p.Lattice c).1 (ym p.Lattice d).1 (iC e).1 ((iC f).1, (iC g).1), 0) else (E0, 4))
 else (E0, 6)
def zhf (p : TP) (l : List (List UInt8)) : TE × Int := match l with
 | [a, b, c, d, e, f, g] => zhn p a b c d e f g
 | _ => (E0, 6)
def yj (p : TP) (s : List UInt8) : TE × Int := zhf p (zF 32 s [])
theorem zmg {α : Type} {l : List α} (h : l.length = 7) : ∃ a b c d e f g, l = [a, b, c, d, e, f, g] := by
 match l, h with
 | [a, b, c, d, e, f, g], _ => exact ⟨a, b, c, d, e, f, g, rfl⟩
theorem zj5 {p : TP} {l : List (List UInt8)} (h : l.length ≠ 7) : zhf p l = (E0, 6) := by
 unfold zhf
 split
 . exact absurd rfl h
 . rfl
theorem xV {c : UInt8} : ∀ {s cur q : List UInt8}, q ∈ zF c s cur -> q.length <= cur.length + s.length
 | [], cur, q, h => by
   have : q = cur.reverse := by simpa [zF] using h
   rw [this]; simp
 | x :: r, cur, q, h => by
   rw [jc] at h
   split at h
   . rcases List.mem_cons.1 h with rfl | h
     . simp
     . have := xV h
       simp at this ⊢; omega
   . have := xV h
     simp at this ⊢; omega
theorem zjh {p : TP} (h : PolIn p) (s : List UInt8) (hs : s.length <= 1000000) : ztu p s = some (yj p s) := by
 unfold ztu yj
 have hS : wX s (ByteArray.mk #[(32 : UInt8)]).data.toList = some (zF 32 s []) := if_pos hs
 rw [hS]
 have hp := fun (q : List UInt8) (hq : q ∈ zF 32 s []) => xV hq
 generalize zF 32 s [] = l at hp ⊢
 simp only [Option.bind_some, List.length_map]
 by_cases h7 : l.length = 7
 case neg =>
  have : ¬ (l.length : Int) = 7 := by omega
  rw [zj5 h7]
  simp only [this, decide_false, Bool.not_false, cond_true]
  rfl
 obtain ⟨a, b, c, d, e, f, g, rfl⟩ := zmg h7
 have hq := fun q hq => by have := hp q hq; simp only [List.length_nil] at this; exact zm6 q (by omega)
 have qa := hq a (by simp)
 have qe := hq e (by simp)
 have qf := hq f (by simp)
 have qg := hq g (by simp)
 have hl7 : (([a, b, c, d, e, f, g].length : Nat) : Int) = 7 := rfl
 have i0 : ∀ {α : Type} {k : List UInt8 -> Option α}, zh [a, b, c, d, e, f, g] (0 : Int) k = k a := rfl
 have i1 : ∀ {α : Type} {k : List UInt8 -> Option α}, zh [a, b, c, d, e, f, g] (1 : Int) k = k b := rfl
 have i2 : ∀ {α : Type} {k : List UInt8 -> Option α}, zh [a, b, c, d, e, f, g] (2 : Int) k = k c := rfl
 have i3 : ∀ {α : Type} {k : List UInt8 -> Option α}, zh [a, b, c, d, e, f, g] (3 : Int) k = k d := rfl
 have i4 : ∀ {α : Type} {k : List UInt8 -> Option α}, zh [a, b, c, d, e, f, g] (4 : Int) k = k e := rfl
 have i5 : ∀ {α : Type} {k : List UInt8 -> Option α}, zh [a, b, c, d, e, f, g] (5 : Int) k = k f := rfl
 have i6 : ∀ {α : Type} {k : List UInt8 -> Option α}, zh [a, b, c, d, e, f, g] (6 : Int) k = k g := rfl
 have j0 : ∀ {α : Type} {k : Int -> Option α}, zh [(0 : Int), 4, 5, 6] ((Int.toNat 0 : Nat) : Int) k = k 0 := rfl
 have j1 : ∀ {α : Type} {k : Int -> Option α}, zh [(0 : Int), 4, 5, 6] ((Int.toNat 1 : Nat) : Int) k = k 4 := rfl
 have j2 : ∀ {α : Type} {k : Int -> Option α}, zh [(0 : Int), 4, 5, 6] ((Int.toNat 2 : Nat) : Int) k = k 5 := rfl
 have j3 : ∀ {α : Type} {k : Int -> Option α}, zh [(0 : Int), 4, 5, 6] ((Int.toNat 3 : Nat) : Int) k = k 6 := rfl
 have w1 : IntKind.wrap .i64 (0 + 1 : Int) = 1 := by decide
 have w2 : IntKind.wrap .i64 (1 + 1 : Int) = 2 := by decide
 have w3 : IntKind.wrap .i64 (2 + 1 : Int) = 3 := by decide
 have w4 : IntKind.wrap .i64 (3 + 1 : Int) = 4 := by decide
 have l0 : (0 : Int) < ((4 : Nat) : Int) := by decide
 have l1 : (1 : Int) < ((4 : Nat) : Int) := by decide
 have l2 : (2 : Int) < ((4 : Nat) : Int) := by decide
 have l3 : (3 : Int) < ((4 : Nat) : Int) := by decide
 have l4 : ¬ (4 : Int) < ((4 : Nat) : Int) := by decide
 have t1 : (0 : Int) <= 1 := by decide
 have t2 : (0 : Int) <= 2 := by decide
 have t3 : (0 : Int) <= 3 := by decide
 have sT : ∀ {α : Type} {x : Option α}, zi True x = x := by intro α x; simp [zi]
 have z0 : (([] : List Int).length + 1) * 8 <= 70368744177664 := by decide
 have z1 : ∀ x : Int, (([] ++ [x] : List Int).length + 1) * 8 <= 70368744177664 := fun x => by simp
 have z2 : ∀ x y : Int, (([] ++ [x] ++ [y] : List Int).length + 1) * 8 <= 70368744177664 := fun x y => by simp
 have z3 : ∀ x y w : Int, (([] ++ [x] ++ [y] ++ [w] : List Int).length + 1) * 8 <= 70368744177664 := fun x y w => by simp
 simp only [hl7, decide_true, Bool.not_true, cond_false]
 unfold zhf zhn
 rw [qn]
 simp only [l0, decide_true, cond_true, Int.le_refl, and_self, sT, j0, i0, qa, Option.bind_some]
 by_cases e1 : (iC a).2 = 0
 case neg =>
  have e1' : ¬ (wg a wP wQ).2 = 0 := e1
  simp only [e1, e1', false_and, if_false, decide_false, Bool.not_false, cond_true, Option.bind_some, Sum.elim_inr]
  rfl
 have e1' : (wg a wP wQ).2 = 0 := e1
 simp only [e1, e1', true_and, decide_true, Bool.not_true, cond_false, List.length_map, qs z0, zf, w1, Option.bind_some, Sum.elim_inl]
 rw [qn]
 simp only [l1, decide_true, cond_true, t1, and_self, sT, j1, i4, qe, Option.bind_some]
 by_cases e2 : (iC e).2 = 0
 case neg =>
  have e2' : ¬ (wg e wP wQ).2 = 0 := e2
  simp only [e2, e2', false_and, if_false, decide_false, Bool.not_false, cond_true, Option.bind_some, Sum.elim_inr]
  rfl
 have e2' : (wg e wP wQ).2 = 0 := e2
 simp only [e2, e2', true_and, decide_true, Bool.not_true, cond_false, List.length_map, qs (z1 _), zf, w2, Option.bind_some, Sum.elim_inl]
 rw [qn]
 simp only [l2, decide_true, cond_true, t2, and_self, sT, j2, i5, qf, Option.bind_some]
 by_cases e3 : (iC f).2 = 0
 case neg =>
  have e3' : ¬ (wg f wP wQ).2 = 0 := e3
  simp only [e3, e3', false_and, if_false, decide_false, Bool.not_false, cond_true, Option.bind_some, Sum.elim_inr]
  rfl
 have e3' : (wg f wP wQ).2 = 0 := e3
 simp only [e3, e3', true_and, decide_true, Bool.not_true, cond_false, List.length_map, qs (z2 _ _), zf, w3, Option.bind_some, Sum.elim_inl]
 rw [qn]
 simp only [l3, decide_true, cond_true, t3, and_self, sT, j3, i6, qg, Option.bind_some]
 by_cases e4 : (iC g).2 = 0
 case neg =>
  have e4' : ¬ (wg g wP wQ).2 = 0 := e4
  simp only [e4, e4', if_false, decide_false, Bool.not_false, cond_true, Option.bind_some, Sum.elim_inr]
  rfl
 have e4' : (wg g wP wQ).2 = 0 := e4
 simp only [e4, e4', decide_true, Bool.not_true, cond_false, List.length_map, qs (z3 _ _ _), zf, w4, Option.bind_some, Sum.elim_inl, if_true]
 rw [qn]
 simp only [l4, decide_false, cond_false, Option.bind_some, Sum.elim_inl, Sum.elim_inr, i1, i2, i3, zbq, zi8 h.lat]
 obtain ⟨v, hv, hv0⟩ := zEp (qk b).2 (ym p.Lattice c).2 (ym p.Lattice d).2
 rw [hv]
 simp only [Option.bind_some]
 by_cases e5 : v = 0
 case neg =>
  rw [if_neg (fun x => e5 (hv0.2 x))]
  simp only [e5, decide_false, Bool.not_false, cond_true]
  rfl
 rw [if_pos (hv0.1 e5)]
 simp only [e5, decide_true, Bool.not_true, cond_false]
 rfl
theorem zjy {p : TP} (h : PolIn p) (s : List UInt8) (hs : s.length <= 1000000) : zfe p s = some (yj p s) := by
 unfold zfe yj
 have hS : zc3 s (32 : Int) = some (zF 32 s []) := zcc s hs 32
 rw [hS]
 have hp := fun (q : List UInt8) (hq : q ∈ zF 32 s []) => xV hq
 generalize zF 32 s [] = l at hp ⊢
 simp only [Option.bind_some, List.length_map]
 by_cases h7 : l.length = 7
 case neg =>
  have : ¬ (l.length : Int) = 7 := by omega
  rw [zj5 h7]
  simp only [this, decide_false, Bool.not_false, cond_true]
  rfl
 obtain ⟨a, b, c, d, e, f, g, rfl⟩ := zmg h7
 have hq := fun q hq => by have := hp q hq; simp only [List.length_nil] at this; exact zo3 q (by omega)
 have qa := hq a (by simp)
 have qe := hq e (by simp)
 have qf := hq f (by simp)
 have qg := hq g (by simp)
 have hl7 : (([a, b, c, d, e, f, g].length : Nat) : Int) = 7 := rfl
 have i0 : ∀ {α : Type} {k : List UInt8 -> Option α}, zh [a, b, c, d, e, f, g] (0 : Int) k = k a := rfl
 have i1 : ∀ {α : Type} {k : List UInt8 -> Option α}, zh [a, b, c, d, e, f, g] (1 : Int) k = k b := rfl
 have i2 : ∀ {α : Type} {k : List UInt8 -> Option α}, zh [a, b, c, d, e, f, g] (2 : Int) k = k c := rfl
 have i3 : ∀ {α : Type} {k : List UInt8 -> Option α}, zh [a, b, c, d, e, f, g] (3 : Int) k = k d := rfl
 have i4 : ∀ {α : Type} {k : List UInt8 -> Option α}, zh [a, b, c, d, e, f, g] (4 : Int) k = k e := rfl
 have i5 : ∀ {α : Type} {k : List UInt8 -> Option α}, zh [a, b, c, d, e, f, g] (5 : Int) k = k f := rfl
 have i6 : ∀ {α : Type} {k : List UInt8 -> Option α}, zh [a, b, c, d, e, f, g] (6 : Int) k = k g := rfl
 have j0 : ∀ {w x y z : Int} {α : Type} {k : Int -> Option α}, zh [w, x, y, z] ((Int.toNat 0 : Nat) : Int) k = k w := rfl
 have j1 : ∀ {w x y z : Int} {α : Type} {k : Int -> Option α}, zh [w, x, y, z] ((Int.toNat 1 : Nat) : Int) k = k x := rfl
 have j2 : ∀ {w x y z : Int} {α : Type} {k : Int -> Option α}, zh [w, x, y, z] ((Int.toNat 2 : Nat) : Int) k = k y := rfl
 have j3 : ∀ {w x y z : Int} {α : Type} {k : Int -> Option α}, zh [w, x, y, z] ((Int.toNat 3 : Nat) : Int) k = k z := rfl
 have s0 : ∀ {w x y z v : Int}, List.set [w, x, y, z] (Int.toNat 0) v = [v, x, y, z] := rfl
 have s1 : ∀ {w x y z v : Int}, List.set [w, x, y, z] (Int.toNat 1) v = [w, v, y, z] := rfl
 have s2 : ∀ {w x y z v : Int}, List.set [w, x, y, z] (Int.toNat 2) v = [w, x, v, z] := rfl
 have s3 : ∀ {w x y z v : Int}, List.set [w, x, y, z] (Int.toNat 3) v = [w, x, y, v] := rfl
 have w1 : IntKind.wrap .i64 (0 + 1 : Int) = 1 := by decide
 have w2 : IntKind.wrap .i64 (1 + 1 : Int) = 2 := by decide
 have w3 : IntKind.wrap .i64 (2 + 1 : Int) = 3 := by decide
 have w4 : IntKind.wrap .i64 (3 + 1 : Int) = 4 := by decide
 have l0 : (0 : Int) < (4 : Int) := by decide
 have l1 : (1 : Int) < (4 : Int) := by decide
 have l2 : (2 : Int) < (4 : Int) := by decide
 have l3 : (3 : Int) < (4 : Int) := by decide
 have l4 : ¬ (4 : Int) < (4 : Int) := by decide
 have m0 : (0 : Int) < ((4 : Nat) : Int) := by decide
 have m1 : (1 : Int) < ((4 : Nat) : Int) := by decide
 have m2 : (2 : Int) < ((4 : Nat) : Int) := by decide
 have m3 : (3 : Int) < ((4 : Nat) : Int) := by decide
 have t1 : (0 : Int) <= 1 := by decide
 have t2 : (0 : Int) <= 2 := by decide
 have t3 : (0 : Int) <= 3 := by decide
 have sT : ∀ {α : Type} {x : Option α}, zi True x = x := by intro α x; simp [zi]
 simp only [hl7, decide_true, Bool.not_true, cond_false]
 unfold zhf zhn
 rw [qn]
 simp only [l0, decide_true, cond_true, Int.le_refl, m0, and_self, sT, j0, i0, qa, Option.bind_some]
 by_cases e1 : (iC a).2 = 0
 case neg =>
  have e1' : ¬ (wg a wP wQ).2 = 0 := e1
  simp only [e1, e1', false_and, if_false, decide_false, Bool.not_false, cond_true, Option.bind_some, Sum.elim_inr]
  rfl
 have e1' : (wg a wP wQ).2 = 0 := e1
 simp only [e1, e1', true_and, decide_true, Bool.not_true, cond_false, zf, w1, s0, Option.bind_some, Sum.elim_inl]
 rw [qn]
 simp only [l1, decide_true, cond_true, t1, m1, and_self, sT, j1, i4, qe, Option.bind_some]
 by_cases e2 : (iC e).2 = 0
 case neg =>
  have e2' : ¬ (wg e wP wQ).2 = 0 := e2
  simp only [e2, e2', false_and, if_false, decide_false, Bool.not_false, cond_true, Option.bind_some, Sum.elim_inr]
  rfl
 have e2' : (wg e wP wQ).2 = 0 := e2
 simp only [e2, e2', true_and, decide_true, Bool.not_true, cond_false, zf, w2, s1, Option.bind_some, Sum.elim_inl]
 rw [qn]
 simp only [l2, decide_true, cond_true, t2, m2, and_self, sT, j2, i5, qf, Option.bind_some]
 by_cases e3 : (iC f).2 = 0
 case neg =>
  have e3' : ¬ (wg f wP wQ).2 = 0 := e3
  simp only [e3, e3', false_and, if_false, decide_false, Bool.not_false, cond_true, Option.bind_some, Sum.elim_inr]
  rfl
 have e3' : (wg f wP wQ).2 = 0 := e3
 simp only [e3, e3', true_and, decide_true, Bool.not_true, cond_false, zf, w3, s2, Option.bind_some, Sum.elim_inl]
 rw [qn]
 simp only [l3, decide_true, cond_true, t3, m3, and_self, sT, j3, i6, qg, Option.bind_some]
 by_cases e4 : (iC g).2 = 0
 case neg =>
  have e4' : ¬ (wg g wP wQ).2 = 0 := e4
  simp only [e4, e4', if_false, decide_false, Bool.not_false, cond_true, Option.bind_some, Sum.elim_inr]
  rfl
 have e4' : (wg g wP wQ).2 = 0 := e4
 simp only [e4, e4', decide_true, Bool.not_true, cond_false, zf, w4, s3, Option.bind_some, Sum.elim_inl, if_true]
 rw [qn]
 simp only [l4, decide_false, cond_false, Option.bind_some, Sum.elim_inl, Sum.elim_inr, i1, i2, i3, zlu, zly h.lat]
 by_cases e5 : (qk b).2 = 0
 case neg =>
  simp only [e5, false_and, if_false, decide_false, Bool.not_false, cond_true]
  rfl
 by_cases e6 : (ym p.Lattice c).2 = 0
 case neg =>
  simp only [e5, e6, false_and, and_false, if_false, decide_true, decide_false, Bool.not_false, Bool.not_true, cond_true, cond_false]
  rfl
 by_cases e7 : (ym p.Lattice d).2 = 0
 case neg =>
  simp only [e5, e6, e7, and_false, if_false, decide_true, decide_false, Bool.not_false, Bool.not_true, cond_true, cond_false]
  rfl
 simp only [e5, e6, e7, and_self, if_true, decide_true, Bool.not_true, cond_false]
 rfl
end Go.Sx.O
end
noncomputable section
namespace Go.Sx.O
open Go Go.Lib
theorem zn0 {p : TP} {l : List TE} : -1 <= (wn p l).1 /\ (wn p l).1 <= (l.length : Int) := by
 unfold wn
 by_cases h1 : (qO p).2.2 = 0
 case neg => rw [if_neg h1]; exact ⟨by simp only; omega, by simp only; omega⟩
 rw [if_pos h1]
 by_cases h2 : (2000 : Int) < (l.length : Int)
 . grind
 rw [if_neg h2]
 cases hs : zt (auK p l) 0 l.length with
 | none => exact ⟨by simp only; omega, by simp only; omega⟩
 | some r =>
   refine xQ (P := fun r => -1 <= r.1 /\ r.1 <= (l.length : Int)) (fun i r hr => ?_) hs
   grind [auK]
def enK (p : TP) (L : List (List UInt8)) (k : Nat) : Option (List TE × Int × Int) := match L[k]? with
 | some s => if (yj p s).2 = 0 then none else some ([], ((k + 1 : Nat) : Int), (yj p s).2)
 | none => none
def enS (p : TP) (L : List (List UInt8)) : List TE := L.map fun s => (yj p s).1
def zb2 (p : TP) (L : List (List UInt8)) : List TE × Int × Int := match zt (enK p L) 0 L.length with
 | some r => r
 | none => if (wn p (enS p L)).2 = 0 then (enS p L, 0, 0) else ([], (wn p (enS p L)).1 + 1, (wn p (enS p L)).2)
def wO (p : TP) (t : List UInt8) : List TE × Int × Int :=
 if (qO p).2.2 = 0 then (if 200000 < t.length \/ 2000 < countByte t 10 then ([], 0, 3) else if t = [] then ([], 0, 0) else if hasSuffix t [10] = true then zb2 p (zF 10 t.dropLast []) else ([], 0, 6)) else ([], 0, (qO p).2.2)
theorem suf_iff {t : List UInt8} : hasSuffix t [10] = true ↔ ∃ u, t = u ++ [10] := by
 unfold hasSuffix
 rw [List.isSuffixOf_iff_suffix]
 exact ⟨fun ⟨u, h⟩ => ⟨u, h.symm⟩, fun ⟨u, h⟩ => ⟨u, h.symm⟩⟩
theorem zn3 {t : List UInt8} {c : UInt8} : countByte t c <= t.length := List.count_le_length
theorem zck {p : TP} (h : PolIn p) (t : List UInt8) (ht : t.length <= 1000000) : zdk p t = some (wO p t) := by
 unfold zdk wO
 rw [jj h]
 simp only [Option.bind_some]
 by_cases h0 : (qO p).2.2 = 0
 case neg => simp only [h0, decide_false, Bool.not_false, cond_true, if_false]
 simp only [h0, decide_true, Bool.not_true, cond_false, if_true]
 by_cases h1 : 200000 < t.length
 . grind
 have h1' : ¬ (200000 : Int) < (t.length : Int) := by omega
 have hcnt : ji t (ByteArray.mk #[(10 : UInt8)]).data.toList = some ((countByte t 10 : Nat) : Int) := rfl
 simp only [h1, h1', decide_false, cond_false, false_or, hcnt, Option.bind_some]
 by_cases h2 : 2000 < countByte t 10
 . grind
 have h2' : ¬ (2000 : Int) < (countByte t 10 : Int) := by omega
 simp only [h2, h2', decide_false, cond_false, if_false]
 by_cases h3 : t = []
 . grind
 have h3' : ¬ t = (ByteArray.mk #[]).data.toList := h3
 have hsuf : yq t (ByteArray.mk #[(10 : UInt8)]).data.toList = some (hasSuffix t [10]) := if_pos ht
 rw [if_neg h3]
 simp only [h3', decide_false, cond_false, hsuf, Option.bind_some]
 cases h4 : hasSuffix t [10] with
 | false => rfl
 | true =>
   have hlen : t.length ≠ 0 := fun e => h3 (List.length_eq_zero_iff.1 e)
   have hw : IntKind.wrap .i64 ((t.length : Int) - 1) = ((t.length - 1 : Nat) : Int) := by rw [w64 (by omega) (by omega)]; omega
   have hs : (0 : Int) <= ((t.length - 1 : Nat) : Int) /\ ((t.length - 1 : Nat) : Int) <= (t.length : Int) := by omega
   have hdl : List.drop (Int.toNat (0 : Int)) (List.take (t.length - 1) t) = t.dropLast := by rw [List.dropLast_eq_take]; rfl
   have hsp : wX t.dropLast (ByteArray.mk #[(10 : UInt8)]).data.toList = some (zF 10 t.dropLast []) := if_pos (by rw [List.length_dropLast]; omega)
   have hL : (zF 10 t.dropLast []).length <= 200001 := by
    rw [zat]
    have := zn3 (t := t.dropLast) (c := 10)
    grind
   have hpl := fun (q : List UInt8) (hq : q ∈ zF 10 t.dropLast []) => xV hq
   simp only [Bool.not_true, cond_false, zf, hw, qs hs, Int.toNat_natCast, hdl, hsp, Option.bind_some, if_true]
   generalize zF 10 t.dropLast [] = L at hL hpl
   simp only [List.length_map]
   refine (qr L.length (fun k => ((k : Int), (L.take k).map fun s => (yj p s).1)) (enK p L) (enS p L) (fun k hk => ?_) ?_ rfl).trans ?_
   . obtain ⟨s, hx⟩ := zG (l := L) (i := k) hk
     have hlt : (k : Int) < (L.length : Int) := by omega
     have hwr : IntKind.wrap .i64 ((k : Int) + 1) = ((k + 1 : Nat) : Int) := w64 (by omega) (by omega)
     have n1 : (0 : Int) <= (k : Int) := by omega
     have hs2 := hpl s (List.mem_of_getElem? hx)
     have hE := zjh h s (by rw [List.length_dropLast] at hs2; simp only [List.length_nil] at hs2; omega)
     have hsz : ((L.take k).length + 1) * 56 <= 70368744177664 := by rw [List.length_take]; omega
     have htk : (L.take (k + 1)).map (fun s => (yj p s).1) = (L.take k).map (fun s => (yj p s).1) ++ [(yj p s).1] := by rw [List.take_add_one, hx, List.map_append]; rfl
     simp only [hlt, decide_true, cond_true, zh, n1, if_true, Int.toNat_natCast, hx, Option.bind_some, hE, hwr, List.length_map, qs hsz, enK, htk]
     grind
   . have hlt : ¬ (L.length : Int) < (L.length : Int) := by omega
     simp only [hlt, decide_false, cond_false, List.take_length, enS]
   . unfold zb2
     cases zt (enK p L) 0 L.length with
     | some r => rfl
     | none =>
       have hA := zcj h (enS p L) (by unfold enS; rw [List.length_map]; omega)
       have hF := zn0 (p := p) (l := enS p L)
       have hel : (enS p L).length <= 200001 := by unfold enS; rw [List.length_map]; omega
       have hwf : IntKind.wrap .i64 ((wn p (enS p L)).1 + 1) = (wn p (enS p L)).1 + 1 := w64 (by omega) (by omega)
       grind
end Go.Sx.O
end
namespace Go.Sx.O
open Go Go.Lib
theorem zgn {c x : UInt8} (hx : x ≠ c) : ∀ {s cur : List UInt8}, ∃ a b, zF c (s ++ [x]) cur = a ++ [b ++ [x]]
 | [], cur => by
   refine ⟨[], cur.reverse, ?_⟩
   rw [List.nil_append, jc, if_neg hx]
   simp [zF]
 | y :: r, cur => by
   rw [List.cons_append, jc]
   split
   . obtain ⟨a, b, e⟩ := zgn hx (s := r) (cur := [])
     exact ⟨cur.reverse :: a, b, by rw [e]; rfl⟩
   . exact zgn hx
theorem zzm {p : TP} (h0 : (qO p).2.2 = 0) : zb2 p [] = ([], 0, 0) := by
 have : wn p [] = (0, 0) := by
  unfold wn
  rw [if_pos h0]
  rfl
 unfold zb2
 have e : enS p [] = [] := rfl
 rw [e, this]
 rfl
theorem zvt {p : TP} (h : PolIn p) (L : List (List UInt8)) (hL : L.length <= 200001) (hpl : ∀ s ∈ L, s.length <= 1000000) : (lpO (fun (s455 : Int × List TE) =>
 zf (IntKind.wrap IntKind.i64 (s455.fst + (1 : Int))) fun x460 =>
 cond (decide (x460 < (((L ++ [[]]).length : Nat) : Int)))
 (zh (L ++ [[]]) (s455.fst) fun x462 =>
 Option.bind (zfe p (x462)) fun x463 =>
 cond (!decide (x463.snd = (0 : Int)))
 (zf (IntKind.wrap IntKind.i64 (s455.fst + (1 : Int))) fun x465 =>
 some (Sum.inr (Sum.inr (([], x465, x463.snd)))))
 (zi ((List.length s455.snd + (1 : Nat)) * (56 : Nat) <= (70368744177664 : Nat)) (
 zf (IntKind.wrap IntKind.i64 (s455.fst + (1 : Int))) fun x466 =>
 some (Sum.inl ((x466, s455.snd ++ [x463.fst]))))))
 (some (Sum.inr (Sum.inl (s455.snd))))) (((0 : Int), []))).bind
 (Sum.elim (fun (s453 : List TE) =>
 Option.bind (zgs p (s453)) fun x467 =>
 cond (!decide (x467.snd = (0 : Int)))
 (zf (IntKind.wrap IntKind.i64 (x467.fst + (1 : Int))) fun x469 =>
 some (([], x469, x467.snd)))
 (some ((s453, (0 : Int), (0 : Int))))) some) = some (zb2 p L) := by
 have hlen : (L ++ [[]]).length = L.length + 1 := by simp
 refine (qr L.length (fun k => ((k : Int), (L.take k).map fun s => (yj p s).1)) (enK p L) (enS p L) (fun k hk => ?_) ?_ rfl).trans ?_
 . obtain ⟨s, hx⟩ := zG (l := L) (i := k) hk
   have hx' : (L ++ [[]])[k]? = some s := by rw [List.getElem?_append_left hk, hx]
   have hlt : ((k + 1 : Nat) : Int) < (((L ++ [[]]).length : Nat) : Int) := by omega
   have hwr : IntKind.wrap .i64 ((k : Int) + 1) = ((k + 1 : Nat) : Int) := w64 (by omega) (by omega)
   have n1 : (0 : Int) <= (k : Int) := by omega
   have hE := zjy h s (hpl s (List.mem_of_getElem? hx))
   have hsz : ((L.take k).length + 1) * 56 <= 70368744177664 := by rw [List.length_take]; omega
   have htk : (L.take (k + 1)).map (fun s => (yj p s).1) = (L.take k).map (fun s => (yj p s).1) ++ [(yj p s).1] := by rw [List.take_add_one, hx, List.map_append]; rfl
   simp only [zf, hwr, hlt, decide_true, cond_true, zh, n1, if_true, Int.toNat_natCast, hx', hx, Option.bind_some, hE, List.length_map, qs hsz, enK, htk]
   grind
 . have hwr : IntKind.wrap .i64 ((L.length : Int) + 1) = ((L.length + 1 : Nat) : Int) := w64 (by omega) (by omega)
   have hlt : ¬ ((L.length + 1 : Nat) : Int) < (((L ++ [[]]).length : Nat) : Int) := by omega
   simp only [zf, hwr, hlt, decide_false, cond_false, List.take_length, enS]
 . unfold zb2
   cases zt (enK p L) 0 L.length with
   | some r => rfl
   | none =>
     have hA := zcf h (enS p L) (by unfold enS; rw [List.length_map]; omega)
     have hF := zn0 (p := p) (l := enS p L)
     have hel : (enS p L).length <= 200001 := by unfold enS; rw [List.length_map]; omega
     have hwf : IntKind.wrap .i64 ((wn p (enS p L)).1 + 1) = (wn p (enS p L)).1 + 1 := w64 (by omega) (by omega)
     simp only [hA, Option.bind_some, zf, hwf]
     grind
theorem zkl {p : TP} (h : PolIn p) (t : List UInt8) (ht : t.length <= 1000000) : zff p t = some (wO p t) := by
 unfold zff wO
 rw [jt h]
 simp only [Option.bind_some]
 by_cases h0 : (qO p).2.2 = 0
 case neg => simp only [h0, decide_false, Bool.not_false, cond_true, if_false]
 have hS : zc3 t (10 : Int) = some (zF 10 t []) := zcc t ht 10
 have hcl := zn3 (t := t) (c := 10)
 have hml := zat (c := 10) (s := t) (cur := [])
 simp only [h0, decide_true, Bool.not_true, cond_false, if_true, hS, Option.bind_some]
 by_cases h1 : 200000 < t.length
 . grind
 have h1' : ¬ (200000 : Int) < (t.length : Int) := by omega
 have hw : IntKind.wrap .i64 (((zF 10 t []).length : Int) - 1) = (countByte t 10 : Int) := by rw [w64 (by omega) (by omega)]; omega
 simp only [h1, h1', decide_false, cond_false, false_or, List.length_map, zf, hw]
 by_cases h2 : 2000 < countByte t 10
 . grind
 have h2' : ¬ (2000 : Int) < (countByte t 10 : Int) := by omega
 simp only [h2, h2', decide_false, cond_false, if_false]
 have fin : ∀ L : List (List UInt8), zF 10 t [] = L ++ [[]] -> (∀ s ∈ L, s.length <= 1000000) -> (zh (zF 10 t []) (countByte t 10 : Int) fun x451 => cond (!decide (x451 = (ByteArray.mk #[]).data.toList)) (some (([], (0 : Int), (6 : Int)))) ((lpO (fun (s455 : Int × List TE) =>
  cond (decide (IntKind.wrap IntKind.i64 (s455.fst + (1 : Int)) < (((zF 10 t []).length : Nat) : Int)))
  (zh (zF 10 t []) (s455.fst) fun x462 =>
  Option.bind (zfe p (x462)) fun x463 =>
  cond (!decide (x463.snd = (0 : Int)))
  (some (Sum.inr (Sum.inr (([], IntKind.wrap IntKind.i64 (s455.fst + (1 : Int)), x463.snd)))))
  (zi ((List.length s455.snd + (1 : Nat)) * (56 : Nat) <= (70368744177664 : Nat)) (
  some (Sum.inl ((IntKind.wrap IntKind.i64 (s455.fst + (1 : Int)), s455.snd ++ [x463.fst]))))))
  (some (Sum.inr (Sum.inl (s455.snd))))) (((0 : Int), []))).bind
  (Sum.elim (fun (s453 : List TE) =>
  Option.bind (zgs p (s453)) fun x467 =>
  cond (!decide (x467.snd = (0 : Int)))
  (some (([], IntKind.wrap IntKind.i64 (x467.fst + (1 : Int)), x467.snd)))
  (some ((s453, (0 : Int), (0 : Int))))) some))) = some (zb2 p L) := by
  intro L e hpl
  have hLl : L.length = countByte t 10 := by rw [e, List.length_append, List.length_singleton] at hml; omega
  have hR := zvt h L (by omega) hpl
  simp_all [Int.toNat_natCast, Nat.sub_self, hLl, zh, zf]
 by_cases h3 : t = []
 . rw [if_pos h3]
   refine (fin [] (by rw [h3]; rfl) (by simp)).trans ?_
   rw [zzm h0]
 rw [if_neg h3]
 obtain ⟨u, x, rfl⟩ : ∃ u x, t = u ++ [x] := ⟨_, _, (List.dropLast_concat_getLast h3).symm⟩
 by_cases h4 : x = 10
 . subst h4
   rw [if_pos (suf_iff.2 ⟨u, rfl⟩), List.dropLast_concat]
   rw [List.length_append, List.length_singleton] at ht
   exact fin _ zcr (fun s hs => by have := xV hs; simp only [List.length_nil] at this; omega)
 . have h5 : ¬ hasSuffix (u ++ [x]) [10] = true := fun e => by
    obtain ⟨v, e⟩ := suf_iff.1 e
    simp_all
   rw [if_neg h5]
   obtain ⟨a, b, e⟩ := zgn h4 (s := u) (cur := [])
   have hal : a.length = countByte (u ++ [x]) 10 := by rw [e, List.length_append, List.length_singleton] at hml; omega
   have hi : ∀ {α : Type} {k : List UInt8 -> Option α}, zh (a ++ [b ++ [x]]) (a.length : Int) k = k (b ++ [x]) := fun {α k} => by
    unfold zh
    grind
   grind
open Go Go.Lib
theorem ckF {p : TP} {x : TE} (h : yD p x = 0) : (wi x.Fold).2 = 0 := by
 grind [yD]
theorem zkw {p : TP} {x : TE} (h : yD p x = 0) : qw p.Lattice x.From = true := by
 grind [yD, xe]
theorem labB_if {l : TL} {a : Int} : qw l a = true ↔ 0 <= a /\ a < (l.Names.length : Int) := by simp [qw]
def r64 (n : Int) : Prop := -9223372036854775808 <= n /\ n <= 9223372036854775807
structure i64E (x : TE) : Prop where
 site : r64 x.Site
 cells : r64 x.Cells
 v1 : r64 x.Value.1
 v2 : r64 x.Value.2
theorem zB8 {x : TE} (w : W_TE x) : i64E x := ⟨w.Site, w.Cells, w.Value.1, w.Value.2⟩
def nmL (p : TP) (i : Int) : List UInt8 := p.Lattice.Names.getD i.toNat []
def wS (p : TP) (x : TE) : List (List UInt8) := [itoa x.Site, (wi x.Fold).1, nmL p x.From, nmL p x.Goal, itoa x.Cells, itoa x.Value.1, itoa x.Value.2]
def qR (p : TP) (x : TE) : List UInt8 := qx (wS p x) [32] ++ [10]
theorem zsg {c : UInt8} {a b d e f g i : List UInt8} : qx [a, b, d, e, f, g, i] [c] = a ++ c :: (b ++ c :: (d ++ c :: (e ++ c :: (f ++ c :: (g ++ c :: i))))) := by
 simp [qx, zal]
theorem zmj {p : TP} {i : Int} (h : qw p.Lattice i = true) : p.Lattice.Names[i.toNat]? = some (nmL p i) := by
 obtain ⟨h1, h2⟩ := labB_if.1 h
 grind [nmL]
theorem zie {p : TP} {i : Int} (h : qw p.Lattice i = true) {α : Type} {k : List UInt8 -> Option α} : zh p.Lattice.Names i k = k (nmL p i) := by
 obtain ⟨h1, h2⟩ := labB_if.1 h
 unfold zh
 rw [if_pos h1, zmj h]; rfl
theorem ziz {p : TP} (hp : PolIn p) {i : Int} (h : qw p.Lattice i = true) : (nmL p i).length <= 1000 := hp.lat.name _ (List.mem_of_getElem? (zmj h))
theorem zps {n : Int} : (wi n).1.length <= 5 := by
 unfold wi
 split
 . exact by decide
 . rename_i h
   rcases zag h with rfl | rfl | rfl | rfl <;> decide
theorem uC {n : Int} (h : r64 n) : (itoa n).length <= 21 := itoa_length_le n h.1 h.2
theorem zqp {p : TP} (hp : PolIn p) {x : TE} (hx : yD p x = 0) (w : i64E x) : (qx (wS p x) [32]).length <= 2200 := by
 have h1 := uC w.site
 have h2 := uC w.cells
 have h3 := uC w.v1
 have h4 := uC w.v2
 have h5 := ziz hp (zkw hx)
 have h6 := ziz hp (xf hx)
 have h7 := zps (n := x.Fold)
 unfold wS
 rw [zsg]
 simp only [List.length_append, List.length_cons]
 omega
theorem zbn {n : Int} (h : r64 n) : zj8 n = some (itoa n) := by
 unfold zj8
 have : yp n 10 = some (itoa n) := if_pos ⟨h.1, h.2, rfl⟩
 rw [this]; rfl
theorem zai {n : Int} (h : r64 n) : qy n = some (itoa n) := if_pos h
theorem zdp {p : TP} (hp : PolIn p) {x : TE} (hx : yD p x = 0) (w : i64E x) : zkd p x = some (qR p x) := by
 unfold zkd
 have hl := zqp hp hx w
 have hJ : yO (wS p x) (ByteArray.mk #[(32 : UInt8)]).data.toList = some (qx (wS p x) [32]) := if_pos ⟨by unfold wS; simp, Nat.le_trans hl (by decide)⟩
 have l0 : (0 : Int) < 2 := by decide
 have l1 : (1 : Int) < 2 := by decide
 have l2 : ¬ (2 : Int) < 2 := by decide
 have w1 : IntKind.wrap .i64 (0 + 1 : Int) = 1 := by decide
 have w2 : IntKind.wrap .i64 (1 + 1 : Int) = 2 := by decide
 have i0 : ∀ {α : Type} {k : Int -> Option α}, zh [x.Value.fst, x.Value.snd] (0 : Int) k = k x.Value.fst := rfl
 have i1 : ∀ {α : Type} {k : Int -> Option α}, zh [x.Value.fst, x.Value.snd] (1 : Int) k = k x.Value.snd := rfl
 have z : ((1 : Nat) + (4 : Nat)) * (16 : Nat) <= (70368744177664 : Nat) := by decide
 have z0 : ∀ a b c d e : List UInt8, (List.length ([a] ++ [b, c, d, e]) + (1 : Nat)) * (16 : Nat) <= (70368744177664 : Nat) := fun a b c d e => by simp
 have z1 : ∀ a b c d e f : List UInt8, (List.length ([a] ++ [b, c, d, e] ++ [f]) + (1 : Nat)) * (16 : Nat) <= (70368744177664 : Nat) := fun a b c d e f => by simp
 have e1 : ((wi x.Fold).2 = 0) := ckF hx
 simp only [zbn w.site, zbn w.cells, zf7, Option.bind_some, e1, decide_true, Bool.not_true, cond_false, zie (zkw hx), zie (xf hx), qs z]
 rw [qn]
 simp only [l0, decide_true, cond_true, i0, zbn w.v1, Option.bind_some, List.length_map, qs (z0 _ _ _ _ _), zf, w1, Sum.elim_inl]
 rw [qn]
 simp only [l1, decide_true, cond_true, i1, zbn w.v2, Option.bind_some, qs (z1 _ _ _ _ _ _), w2, Sum.elim_inl]
 rw [qn]
 simp only [l2, decide_false, cond_false, Option.bind_some, Sum.elim_inl, Sum.elim_inr]
 have hs : ([itoa x.Site] ++ [(wi x.Fold).fst, nmL p x.From, nmL p x.Goal, itoa x.Cells] ++ [itoa x.Value.fst] ++ [itoa x.Value.snd]) = wS p x := rfl
 rw [hs, hJ, Option.bind_some, qs (by omega)]
 rfl
end Go.Sx.O
noncomputable section
namespace Go.Sx.O
open Go Go.Lib
def prC (p : TP) (l : List TE) : List UInt8 × Int := if (wn p l).2 = 0 then ((l.map (qR p)).flatten, 0) else ([], (wn p l).2)
theorem jY {α : Type} {f : α -> List UInt8} {B : Nat} : ∀ {l : List α}, (∀ x ∈ l, (f x).length <= B) -> (l.map f).flatten.length <= l.length * B
 | [], _ => by simp
 | a :: r, h => by
   have h1 := h a (by simp)
   have h2 := jY (l := r) fun x hx => h x (List.mem_cons_of_mem _ hx)
   rw [List.map_cons, List.flatten_cons, List.length_append, List.length_cons, Nat.succ_mul]
   omega
theorem zda {p : TP} (hp : PolIn p) {x : TE} (hx : yD p x = 0) (w : i64E x) : (qR p x).length <= 2201 := by
 have := zqp hp hx w
 unfold qR
 grind
theorem zq5 {p : TP} {x : TE} : qR p x ≠ [] := by unfold qR; simp
theorem zjv {p : TP} {l : List TE} {k : Nat} {x : TE} (hx : l[k]? = some x) : ((l.take (k + 1)).map (qR p)).flatten = ((l.take k).map (qR p)).flatten ++ qR p x := by
 rw [List.take_add_one, hx, List.map_append, List.flatten_append]
 simp
theorem zce {p : TP} (hp : PolIn p) (l : List TE) (hl : l.length <= 1000000) (w : ∀ x ∈ l, i64E x) : xY p l = some (prC p l) := by
 unfold xY prC
 rw [zcj hp l hl]
 simp only [Option.bind_some, List.length_map]
 by_cases h0 : (wn p l).2 = 0
 case neg =>
  grind
 obtain ⟨_, h2, h3⟩ := aud_iff.1 h0
 rw [if_pos h0]
 simp only [h0, decide_true, Bool.not_true, cond_false]
 cases l with
 | nil => rfl
 | cons x r =>
   generalize hL : x :: r = l at *
   have hx0 : l[0]? = some x := by rw [<- hL]; rfl
   have hn : 0 < l.length := by rw [<- hL]; simp
   have hn0 : (0 : Int) < (l.length : Int) := by omega
   have i0 : ∀ {α : Type} {k : TE -> Option α}, zh l (0 : Int) k = k x := fun {α k} => by rw [<- hL]; rfl
   have hm : x ∈ l := by rw [<- hL]; simp
   have hF : ∀ k, ((l.take k).map (qR p)).flatten.length <= 4402000 := fun k => by
    have := jY (f := qR p) (B := 2201) (l := l.take k) fun y hy => zda hp (h3 y (List.mem_of_mem_take hy)).1 (w y (List.mem_of_mem_take hy))
    grind
   have hne : ∀ k, 0 < k -> ((l.take k).map (qR p)).flatten ≠ [] := fun k hk => by
    rw [<- hL]
    cases k with
    | zero => omega
    | succ k =>
      rw [List.take_succ_cons, List.map_cons, List.flatten_cons]
      intro e
      exact zq5 (List.append_eq_nil_iff.1 e).1
   have ht1 : ((l.take 1).map (qR p)).flatten = qR p x := by rw [<- hL]; simp
   have c0 : qR p x ≠ [] /\ (qR p x).length <= 100000000 := ⟨zq5, by have := hF 1; rw [ht1] at this; omega⟩
   simp only [hn0, decide_true, cond_true, i0, zdp hp (h3 x hm).1 (w x hm), Option.bind_some, qs c0]
   have hS : (fun k : Nat => (((k + 1 : Nat) : Int), decide ((k : Int) < (l.length : Int)), ((l.take (k + 1)).map (qR p)).flatten)) 0 = ((1 : Int), true, qR p x) := by
    grind
   rw [<- hS]
   refine (zqw (l.length - 1) (fun k : Nat => (((k + 1 : Nat) : Int), decide ((k : Int) < (l.length : Int)), ((l.take (k + 1)).map (qR p)).flatten)) ((l.map (qR p)).flatten, (0 : Int)) (fun k hk => ?_) ?_)
   . obtain ⟨y, hy⟩ := zG (l := l) (i := k + 1) (by omega)
     have hym := List.mem_of_getElem? hy
     have hlt : ((k + 1 : Nat) : Int) < (l.length : Int) := by omega
     have hwr : IntKind.wrap .i64 (((k + 1 : Nat) : Int) + 1) = ((k + 1 + 1 : Nat) : Int) := w64 (by omega) (by omega)
     have n1 : (0 : Int) <= ((k + 1 : Nat) : Int) := by omega
     have c1 : ((l.take (k + 1)).map (qR p)).flatten ≠ [] /\ (((l.take (k + 1)).map (qR p)).flatten ++ qR p y).length <= 100000000 := ⟨hne _ (by omega), by
      rw [<- zjv hy]
      have := hF (k + 1 + 1)
      omega⟩
     simp only [hlt, decide_true, cond_true, zh, n1, if_true, Int.toNat_natCast, hy, Option.bind_some, zdp hp (h3 y hym).1 (w y hym), qs c1, zf, hwr, zjv hy]
   . have hlt : ¬ ((l.length - 1 + 1 : Nat) : Int) < (l.length : Int) := by omega
     have hne' := hne (l.length - 1 + 1) (by omega)
     have htk : l.take (l.length - 1 + 1) = l := List.take_of_length_le (by omega)
     rw [htk] at hne'
     simp only [hlt, decide_false, cond_false, htk, qs hne']
theorem sO {α : Type} {x y : Option α} {n : Nat} (h : n <= 100000000) (e : x = y) : zi ((n : Int) <= (9223372036854775807 : Int)) x = y := by rw [qs (by omega), e]
theorem zjr {p : TP} (hp : PolIn p) (l : List TE) (hl : l.length <= 1000000) (w : ∀ x ∈ l, i64E x) : zkb p l = some (prC p l) := by
 unfold zkb prC
 rw [zcf hp l hl]
 simp only [Option.bind_some, List.length_map]
 by_cases h0 : (wn p l).2 = 0
 case neg =>
  grind
 obtain ⟨_, h2, h3⟩ := aud_iff.1 h0
 rw [if_pos h0]
 simp only [h0, decide_true, Bool.not_true, cond_false]
 have hF : ∀ k, ((l.take k).map (qR p)).flatten.length <= 4402000 := fun k => by
  have := jY (f := qR p) (B := 2201) (l := l.take k) fun y hy => zda hp (h3 y (List.mem_of_mem_take hy)).1 (w y (List.mem_of_mem_take hy))
  grind
 refine (zg2 l.length (fun k : Nat => ((k : Int), ((l.take k).map (qR p)).flatten)) ((l.map (qR p)).flatten) (fun k hk => ?_) ?_ rfl).trans rfl
 . obtain ⟨y, hy⟩ := zG (l := l) (i := k) hk
   have hym := List.mem_of_getElem? hy
   have hc := (h3 y hym).1
   have wy := w y hym
   have hlt : (k : Int) < (l.length : Int) := by omega
   have hwr : IntKind.wrap .i64 ((k : Int) + 1) = ((k + 1 : Nat) : Int) := w64 (by omega) (by omega)
   have n1 : (0 : Int) <= (k : Int) := by omega
   have e32 : (ByteArray.mk #[(32 : UInt8)]).data.toList = [32] := rfl
   have e10 : (ByteArray.mk #[(10 : UInt8)]).data.toList = [10] := rfl
   have g1 := uC wy.site
   have g2 := uC wy.cells
   have g3 := uC wy.v1
   have g4 := uC wy.v2
   have g5 := ziz hp (zkw hc)
   have g6 := ziz hp (xf hc)
   have g7 := zps (n := y.Fold)
   have g8 := hF k
   have hfin : ((l.take (k + 1)).map (qR p)).flatten = ((l.take k).map (qR p)).flatten ++ itoa y.Site ++ [32] ++ (wi y.Fold).1 ++ [32] ++ nmL p y.From ++ [32] ++ nmL p y.Goal ++ [32] ++ itoa y.Cells ++ [32] ++ itoa y.Value.1 ++ [32] ++ itoa y.Value.2 ++ [10] := by
    rw [zjv hy]
    unfold qR wS
    rw [zsg]
    simp_all
   simp only [hlt, decide_true, cond_true, zh, n1, if_true, Int.toNat_natCast, hy, Option.bind_some, zf4, zai wy.site]
   have e1 : ∀ {α : Type} {k : List UInt8 -> Option α}, (if 0 <= y.From then p.Lattice.Names[y.From.toNat]?.bind k else none) = k (nmL p y.From) := fun {α k} => zie (zkw hc)
   have e2 : ∀ {α : Type} {k : List UInt8 -> Option α}, (if 0 <= y.Goal then p.Lattice.Names[y.Goal.toNat]?.bind k else none) = k (nmL p y.Goal) := fun {α k} => zie (xf hc)
   simp only [e1, e2, zai wy.cells, zai wy.v1, zai wy.v2, Option.bind_some, e32, e10, zf, hwr]
   iterate 14
    refine sO ?_ ?_
    . (try simp only [List.length_append, List.length_cons, List.length_nil]); omega
   rw [hfin]
 . grind
end Go.Sx.O
end
namespace Go.Sx.O
open Go Go.Lib
theorem znt {p : TP} (hp : PolIn p) (h0 : (qO p).2.2 = 0) {i : Nat} {s : List UInt8} (hs : p.Lattice.Names[i]? = some s) : uo s = true /\ s ∉ p.Lattice.Names.take i := by
 have h1 := zkq h0
 have h2 : qG p.Lattice = zcw p.Lattice := by
  have e1 := uf hp.lat
  rw [zb0 p.Lattice hp.lat.u8 hp.lat.names hp.lat.name] at e1
  grind
 rw [h2] at h1
 have h3 : (jb p.Lattice.Names).2 = 0 := by
  grind [zcw]
 have hi : i < p.Lattice.Names.length := by
  grind
 unfold jb at h3
 split at h3
 . cases h3
 cases hsc : zt (jI p.Lattice.Names) 0 p.Lattice.Names.length with
 | some r =>
   rw [hsc] at h3
   have : r.2 ≠ 0 := xQ (P := fun r => r.2 ≠ 0) (fun j r hr => by
    unfold jI at hr
    split at hr
    . grind
    . cases hr; exact (by decide : (6 : Int) ≠ 0)) hsc
   exact absurd h3 this
 | none =>
   have := scan_none.1 hsc i (by omega) (by omega)
   grind [jI]
theorem zxi {s : List UInt8} (h : uo s = true) {c : UInt8} (hc : c ∉ wordSet) : c ∉ s := by
 unfold uo at h
 grind
theorem zvl {p : TP} (hp : PolIn p) (h0 : (qO p).2.2 = 0) {i : Int} (h : qw p.Lattice i = true) : ym p.Lattice (nmL p i) = (i, 0) := by
 obtain ⟨h1, h2⟩ := labB_if.1 h
 have hs := zmj h
 obtain ⟨_, hn⟩ := znt hp h0 hs
 unfold ym
 rw [if_pos (zkq h0)]
 have : ixN p.Lattice.Names (nmL p i) = some i.toNat := by
  unfold ixN
  rw [List.findIdx?_eq_some_iff_getElem]
  grind [List.mem_take_iff_getElem]
 grind
theorem zu6 {p : TP} {s : List UInt8} (h0 : (qO p).2.2 = 0) (h : (ym p.Lattice s).2 = 0) : nmL p (ym p.Lattice s).1 = s := by
 unfold ym at h ⊢
 rw [if_pos (zkq h0)] at h ⊢
 cases e : ixN p.Lattice.Names s with
 | none => rw [e] at h; exact absurd h (by decide)
 | some i =>
   simp only
   unfold ixN at e
   obtain ⟨hl, e1, _⟩ := List.findIdx?_eq_some_iff_getElem.1 e
   grind [Int.toNat_natCast, nmL]
theorem zB0 {n : Int} {c : UInt8} (hc : c = 32 \/ c = 10) : c ∉ (wi n).1 := by
 unfold wi
 split
 . simp
 . rename_i h
   rcases zag h with rfl | rfl | rfl | rfl <;> rcases hc with rfl | rfl <;> decide
theorem zuz {p : TP} (hp : PolIn p) (h0 : (qO p).2.2 = 0) {x : TE} (hx : yD p x = 0) {c : UInt8} (hc : c = 32 \/ c = 10) : ∀ q ∈ wS p x, c ∉ q := by
 have hi : ∀ {n : Int}, c ∉ itoa n := fun hm => by
  obtain ⟨h1, h2⟩ := zwh hm
  exact hc.elim h1 h2
 have hw : c ∉ wordSet := by rcases hc with rfl | rfl <;> decide
 have hn : ∀ {i : Int}, qw p.Lattice i = true -> c ∉ nmL p i := fun h => zxi (znt hp h0 (zmj h)).1 hw
 intro q hq
 unfold wS at hq
 simp only [List.mem_cons, List.not_mem_nil, or_false] at hq
 rcases hq with rfl | rfl | rfl | rfl | rfl | rfl | rfl
 . exact hi
 . exact zB0 hc
 . exact hn (zkw hx)
 . exact hn (xf hx)
 . exact hi
 . exact hi
 . exact hi
theorem zfa {n : Int} (h : r64 n) : iC (itoa n) = (n, 0) := zzu h.1 h.2
theorem zyt {p : TP} (hp : PolIn p) (h0 : (qO p).2.2 = 0) {x : TE} (hx : yD p x = 0) (w : i64E x) : yj p (qx (wS p x) [32]) = (x, 0) := by
 have hno := zuz hp h0 hx (c := 32) (.inl rfl)
 have hspl : zF 32 (qx (wS p x) [32]) [] = wS p x := by
  unfold wS at hno ⊢
  exact zwc (hno _ (by simp)) (hno _ (by simp)) (hno _ (by simp)) (hno _ (by simp)) (hno _ (by simp)) (hno _ (by simp)) (hno _ (by simp))
 unfold yj
 rw [hspl]
 have hE : zhf p (wS p x) = zhn p (itoa x.Site) (wi x.Fold).1 (nmL p x.From) (nmL p x.Goal) (itoa x.Cells) (itoa x.Value.1) (itoa x.Value.2) := rfl
 rw [hE]
 unfold zhn
 rw [zfa w.site, zfa w.cells, zfa w.v1, zfa w.v2, zve (ckF hx), zvl hp h0 (zkw hx), zvl hp h0 (xf hx)]
 grind
theorem zBh {p : TP} (hp : PolIn p) (h0 : (qO p).2.2 = 0) {x : TE} (hx : yD p x = 0) : (10 : UInt8) ∉ qx (wS p x) [32] := by
 have hno := zuz hp h0 hx (c := 10) (.inr rfl)
 unfold wS at hno ⊢
 rw [zsg]
 simp_all
theorem zCi {p : TP} (hp : PolIn p) {l : List TE} (hl : (wn p l).2 = 0) (h40 : l.length <= 40) (w : ∀ x ∈ l, i64E x) : wO p (prC p l).1 = (l, 0, 0) := by
 obtain ⟨h0, h2, h3⟩ := aud_iff.1 hl
 unfold prC
 rw [if_pos hl]
 simp only
 have hlen : ((l.map (qR p)).flatten).length <= 100000 := by
  have := jY (f := qR p) (B := 2201) (l := l) fun y hy => zda hp (h3 y hy).1 (w y hy)
  omega
 have hlines : (l.map (qR p)).flatten = ((l.map fun x => qx (wS p x) [32]).map fun s => s ++ [10]).flatten := by rw [List.map_map]; rfl
 have hsp := zk4 (c := 10) (ls := l.map fun x => qx (wS p x) [32]) fun s hs => by
  obtain ⟨x, hx, rfl⟩ := List.mem_map.1 hs
  exact zBh hp h0 (h3 x hx).1
 rw [<- hlines] at hsp
 have hcnt : countByte (l.map (qR p)).flatten 10 = l.length := by
  have := zat (c := 10) (s := (l.map (qR p)).flatten) (cur := [])
  grind
 unfold wO
 rw [if_pos h0, if_neg (by omega)]
 cases hle : l with
 | nil => rfl
 | cons a r =>
   rw [<- hle]
   have hne : (l.map fun x => qx (wS p x) [32]) ≠ [] := by rw [hle]; simp
   have hj := zc1 (c := 10) hne
   rw [<- hlines] at hj
   rw [hj, if_neg (by simp), if_pos (suf_iff.2 ⟨_, rfl⟩), List.dropLast_concat]
   rw [hj, zcr] at hsp
   rw [List.append_cancel_right hsp]
   have hen : ∀ x ∈ l, yj p (qx (wS p x) [32]) = (x, 0) := fun x hx => zyt hp h0 (h3 x hx).1 (w x hx)
   have hs : zt (enK p (l.map fun x => qx (wS p x) [32])) 0 (l.map fun x => qx (wS p x) [32]).length = none := by
    grind [List.length_map, enK, scan_none]
   have hes : enS p (l.map fun x => qx (wS p x) [32]) = l := by
    unfold enS
    rw [List.map_map]
    exact (List.map_congr_left fun x hx => by simp only [Function.comp]; rw [hen x hx]; rfl).trans (List.map_id l)
   unfold zb2
   grind
open Go Go.Lib
theorem zmo {s : List UInt8} (h : (iC s).2 = 0) : itoa (iC s).1 = s /\ r64 (iC s).1 := by
 have e : wg s wP wQ = ((iC s).1, 0) := by rw [<- h]; rfl
 obtain ⟨h1, h2, h3⟩ := zzl e
 exact ⟨h1, h2, h3⟩
theorem zod {p : TP} (h0 : (qO p).2.2 = 0) {s : List UInt8} (h : (yj p s).2 = 0) : qx (wS p (yj p s).1) [32] = s /\ i64E (yj p s).1 := by
 have hj : qx (zF 32 s []) [32] = s := by rw [zc0]; rfl
 unfold yj at h ⊢
 generalize zF 32 s [] = l at h hj ⊢
 by_cases h7 : l.length = 7
 case neg => rw [zj5 h7] at h; exact absurd h (by decide)
 obtain ⟨a, b, c, d, e, f, g, rfl⟩ := zmg h7
 have hE : zhf p [a, b, c, d, e, f, g] = zhn p a b c d e f g := rfl
 rw [hE] at h ⊢
 unfold zhn at h ⊢
 by_cases c1 : (iC a).2 = 0 /\ (iC e).2 = 0 /\ (iC f).2 = 0 /\ (iC g).2 = 0
 case neg => rw [if_neg c1] at h; exact absurd h (by decide)
 rw [if_pos c1] at h ⊢
 by_cases c2 : (qk b).2 = 0 /\ (ym p.Lattice c).2 = 0 /\ (ym p.Lattice d).2 = 0
 case neg => rw [if_neg c2] at h; exact absurd h (by decide)
 rw [if_pos c2]
 obtain ⟨q1, q2, q3, q4⟩ := c1
 obtain ⟨q5, q6, q7⟩ := c2
 obtain ⟨e1, r1⟩ := zmo q1
 obtain ⟨e2, r2⟩ := zmo q2
 obtain ⟨e3, r3⟩ := zmo q3
 obtain ⟨e4, r4⟩ := zmo q4
 refine ⟨?_, r1, r2, r3, r4⟩
 have hf : wS p (TE.mk (iC a).1 (qk b).1 (ym p.Lattice c).1 (ym p.Lattice d).1 (iC e).1 ((iC f).1, (iC g).1)) = [itoa (iC a).1, (wi (qk b).1).1, nmL p (ym p.Lattice c).1, nmL p (ym p.Lattice d).1, itoa (iC e).1, itoa (iC f).1, itoa (iC g).1] := rfl
 rw [hf, e1, e2, e3, e4, (zur q5).1, zu6 h0 q6, zu6 h0 q7]
 exact hj
theorem zvx {p : TP} {t : List UInt8} (h : (wO p t).2.2 = 0) : prC p (wO p t).1 = (t, 0) /\ (∀ x ∈ (wO p t).1, i64E x) /\ (wO p t).1.length <= 2000 := by
 unfold wO at h ⊢
 by_cases h0 : (qO p).2.2 = 0
 case neg => rw [if_neg h0] at h; exact absurd h h0
 rw [if_pos h0] at h ⊢
 by_cases h1 : 200000 < t.length \/ 2000 < countByte t 10
 . grind
 rw [if_neg h1] at h ⊢
 by_cases h3 : t = []
 . rw [if_pos h3]
   have : wn p [] = (0, 0) := by
    unfold wn
    rw [if_pos h0]
    rfl
   grind [prC]
 rw [if_neg h3] at h ⊢
 by_cases h4 : hasSuffix t [10] = true
 case neg => rw [if_neg h4] at h; exact absurd h (by decide)
 rw [if_pos h4] at h ⊢
 obtain ⟨u, rfl⟩ := suf_iff.1 h4
 rw [List.dropLast_concat] at h ⊢
 have hj : qx (zF 10 u []) [10] = u := by rw [zc0]; rfl
 have hne := zvg (c := 10) (s := u) (cur := [])
 generalize zF 10 u [] = L at h hj hne ⊢
 unfold zb2 at h ⊢
 cases hs : zt (enK p L) 0 L.length with
 | some r =>
   rw [hs] at h
   have : r.2.2 ≠ 0 := xQ (P := fun r => r.2.2 ≠ 0) (fun i r hr => by
    unfold enK at hr
    split at hr
    . grind
    . cases hr) hs
   exact absurd h this
 | none =>
   rw [hs] at h
   simp only at h ⊢
   by_cases ha : (wn p (enS p L)).2 = 0
   case neg => rw [if_neg ha] at h; exact absurd h ha
   rw [if_pos ha]
   have hen : ∀ s ∈ L, (yj p s).2 = 0 := fun s hm => by
    obtain ⟨i, hi, e⟩ := List.getElem_of_mem hm
    have := scan_none.1 hs i (by omega) (by omega)
    grind [enK]
   refine ⟨?_, fun x hx => ?_, (aud_iff.1 ha).2.1⟩
   . unfold prC
     rw [if_pos ha]
     have hm : (enS p L).map (qR p) = L.map fun s => s ++ [10] := by
      unfold enS
      rw [List.map_map]
      refine List.map_congr_left fun s hm => ?_
      simp only [Function.comp]
      unfold qR
      rw [(zod h0 (hen s hm)).1]
     rw [hm, zc1 hne, hj]
   . unfold enS at hx
     obtain ⟨s, hm, rfl⟩ := List.mem_map.1 hx
     exact (zod h0 (hen s hm)).2
theorem zs8 (l : List TE) : ∃ b, Fz3 l = some b /\ (b = false -> l.length <= 2005 /\ (l.length <= 2000 -> l.length <= 40)) := by
 unfold Fz3
 simp only [List.length_map]
 by_cases c1 : (40 : Int) < (l.length : Int)
 . by_cases c2 : (l.length : Int) <= 2000
   . simp_all
   . refine ⟨decide ((2005 : Int) < (l.length : Int)), by simp [c1, c2], fun h => ?_⟩
     grind
 . refine ⟨decide ((2005 : Int) < (l.length : Int)), by simp [c1], fun h => ?_⟩
   grind
theorem zyh {p : TP} {t : List UInt8} : (wO p t).1.length <= 1000000 := by
 by_cases h : (wO p t).2.2 = 0
 . have := (zvx h).2.2
   omega
 . have : (wO p t).1 = [] := by
    unfold wO at h ⊢
    by_cases h0 : (qO p).2.2 = 0
    case neg => rw [if_neg h0]
    rw [if_pos h0] at h ⊢
    by_cases h1 : 200000 < t.length \/ 2000 < countByte t 10
    . rw [if_pos h1]
    rw [if_neg h1] at h ⊢
    by_cases h3 : t = []
    . rw [if_pos h3]
    rw [if_neg h3] at h ⊢
    by_cases h4 : hasSuffix t [10] = true
    case neg => rw [if_neg h4]
    rw [if_pos h4] at h ⊢
    unfold zb2 at h ⊢
    cases hs : zt (enK p (zF 10 t.dropLast [])) 0 (zF 10 t.dropLast []).length with
    | some r =>
      exact xQ (P := fun r => r.1 = []) (fun i r hr => by
       unfold enK at hr
       split at hr
       . grind
       . cases hr) hs
    | none =>
      grind
   rw [this]; simp
theorem zAt {p : TP} {l : List TE} : (prC p l).2 = (wn p l).2 := by
 grind [prC]
theorem zBe {p : TP} (hp : PolIn p) {l : List TE} (h40 : l.length <= 2000 -> l.length <= 40) (w : ∀ x ∈ l, i64E x) : (prC p l).1.length <= 1000000 := by
 unfold prC
 split
 . rename_i h
   obtain ⟨_, h2, h3⟩ := aud_iff.1 h
   have := jY (f := qR p) (B := 2201) (l := l) fun y hy => zda hp (h3 y hy).1 (w y hy)
   grind
 . simp
theorem zpj (p : TP) (l : List TE) (t : List UInt8) (w1 : W_TP p) (w2 : xW W_TE l) (_ : True) : zua p l t = some true := by
 unfold zua
 obtain ⟨f, hf, hq⟩ := zy3 p (zDn w1.Lattice.Up)
 rw [hf]
 cases f with
 | true => rfl
 | false =>
 have h := hq rfl
 obtain ⟨fa, hfa, hqa⟩ := zs8 l
 rw [hfa]
 cases fa with
 | true => rfl
 | false =>
 obtain ⟨la, l40⟩ := hqa rfl
 have w : ∀ x ∈ l, i64E x := fun x hx => zB8 (w2 x hx)
 have hpl := zBe h l40 w
 have hps := zAt (p := p) (l := l)
 have P1 := zce h l (by omega) w
 have P2 := zjr h l (by omega) w
 have P3 := zck h (prC p l).1 hpl
 have S2 := zbw l (by omega)
 have main : t.length <= 1000000 -> (Option.bind (xY p l) fun x505 =>
  Option.bind (zkb p l) fun x506 =>
  Option.bind (zdk p t) fun x507 =>
  Option.bind (zff p t) fun x508 =>
  cond (!decide (x505.fst = x506.fst)) (some (false)) (cond (!decide (x505.snd = x506.snd)) (some (false))
  (Option.bind (zah (x507.fst) (x508.fst)) fun x511 =>
  cond (!x511) (some (false)) (cond (!decide (x507.snd.fst = x508.snd.fst)) (some (false)) (cond (!decide (x507.snd.snd = x508.snd.snd)) (some (false))
  (cond (decide (x505.snd = (0 : Int)))
  (Option.bind (zdk p (x505.fst)) fun x516 =>
  cond (!decide (x516.snd.snd = (0 : Int))) (some (false)) (cond (!decide (x516.snd.fst = (0 : Int))) (some (false))
  (Option.bind (zah (x516.fst) l) fun x519 =>
  cond (!x519) (some (false))
  (cond (decide (x507.snd.snd = (0 : Int)))
  (Option.bind (xY p (x507.fst)) fun x522 =>
  cond (!decide (x522.snd = (0 : Int))) (some (false)) (cond (!decide (x522.fst = t)) (some (false)) (some (true))))
  (some (true))))))
  (cond (decide (x507.snd.snd = (0 : Int)))
  (Option.bind (xY p (x507.fst)) fun x526 =>
  cond (!decide (x526.snd = (0 : Int))) (some (false)) (cond (!decide (x526.fst = t)) (some (false)) (some (true))))
  (some (true))))))))) = some true := fun ht => by
  have Q1 := zck h t ht
  have Q2 := zkl h t ht
  have S1 := zbw (wO p t).1 zyh
  have fin : (cond (decide ((wO p t).snd.snd = (0 : Int)))
   (Option.bind (xY p ((wO p t).fst)) fun x522 =>
   cond (!decide (x522.snd = (0 : Int))) (some (false)) (cond (!decide (x522.fst = t)) (some (false)) (some (true))))
   (some (true))) = some true := by
   by_cases e : (wO p t).2.2 = 0
   . obtain ⟨z1, z2, z3⟩ := zvx e
     rw [zce h _ (by omega) z2, z1]
     grind
   . grind
  simp only [P1, P2, Q1, Q2, Option.bind_some, decide_true, Bool.not_true, cond_false, S1, fin]
  by_cases e : (prC p l).2 = 0
  . have he : (wn p l).2 = 0 := by rw [<- hps]; exact e
    have h40 := l40 (aud_iff.1 he).2.1
    rw [zCi h he h40 w] at P3
    grind
  . grind
 grind
end Go.Sx.O
