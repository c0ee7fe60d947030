/-
  An own text of this claim.
-/
import Derived.Test.YtiiifbdejjhmiaaGreatDoorP1
namespace Go.Sx.O
open Go
def zar (ns : List (List UInt8)) (i : Nat) : Option (Int × Int) :=
 if zcb (ns.getD i []) = true then (if ns.getD i [] ∈ ns.take i then some ((i : Int), 8) else none) else some ((i : Int), 6)
def jK (ns : List (List UInt8)) : Int × Int := if ns.length < 1 \/ 8 < ns.length then (-1, 3) else (zx (zar ns) 0 ns.length).getD (0, 0)
theorem jo {α : Type} {l : List α} {i : Nat} {d x : α} (h : l[i]? = some x) : l.getD i d = x := by rw [List.getD_eq_getElem?_getD, h]; rfl
theorem zxr (ns : List (List UInt8)) (h : ns.length <= 20) (hn : ∀ s ∈ ns, s.length <= 1000) : zi5 ns = some (jK ns) := by
 unfold zi5 jK
 simp only [List.length_map]
 by_cases h1 : ns.length < 1
 . have : (ns.length : Int) < 1 := by omega
   simp [h1, this]
 by_cases h2 : 8 < ns.length
 . have : (8 : Int) < ns.length := by omega
   have g1 : ¬ (ns.length : Int) < 1 := by omega
   simp [h2, this, g1]
 have g1 : ¬ (ns.length : Int) < 1 := by omega
 have g2 : ¬ (8 : Int) < ns.length := by omega
 simp only [g1, g2, h1, h2, decide_false, cond_false, or_self, if_false]
 rw [wx ns.length (zar ns) () (fun k hk => ?_) (by simp)]
 . cases zx (zar ns) 0 ns.length <;> rfl
 . obtain ⟨x, hx⟩ := zv (l := ns) (i := k) hk
   have hxl := hn x (List.mem_of_getElem? hx)
   simp only [Int.ofNat_lt, hk, decide_true, cond_true, zh, Int.toNat_natCast, hx, Option.bind_some, zg, Int.natCast_nonneg, if_true]
   rw [zkv x (by omega), xe _ _ (by simp; omega)]
   unfold zar
   rw [jo hx, w64 (by omega) (by omega)]
   cases e : zcb x with
   | false => simp
   | true =>
     have hk' : k <= ns.length := by omega
     simp only [Option.bind_some, Bool.not_true, cond_false, Int.toNat_zero, List.drop_zero, if_true]
     by_cases hm : x ∈ ns.take k
     . simp [hm, zk, hk']
     . simp [hm, zk, hk']
theorem ziw (c : UInt8) : zp3 (c.toNat : Int) = some (decide (97 <= c.toNat) && decide (c.toNat <= 122)) := by
 unfold zp3
 by_cases h : (97 : Int) <= c.toNat
 . have : 97 <= c.toNat := by omega
   simp only [h, this, decide_true, cond_true, Bool.true_and]
   congr 1
   rw [Bool.eq_iff_iff]; simp; omega
 . have : ¬ 97 <= c.toNat := by omega
   simp only [h, this, decide_false, cond_false, Bool.false_and]
theorem zsj (c : UInt8) : zue (c.toNat : Int) = some (decide (48 <= c.toNat) && decide (c.toNat <= 57)) := by
 unfold zue
 by_cases h : (48 : Int) <= c.toNat
 . have : 48 <= c.toNat := by omega
   simp only [h, this, decide_true, cond_true, Bool.true_and]
   congr 1
   rw [Bool.eq_iff_iff]; simp; omega
 . have : ¬ 48 <= c.toNat := by omega
   simp only [h, this, decide_false, cond_false, Bool.false_and]
theorem zv1 (c : UInt8) : decide (c ∈ jp) = (decide (97 <= c.toNat) && decide (c.toNat <= 122) || (decide (48 <= c.toNat) && decide (c.toNat <= 57)) || decide (c.toNat = 45)) := by
 have key : ∀ n : Fin 256, decide (UInt8.ofNat n ∈ jp) = (decide (97 <= n.val) && decide (n.val <= 122) || (decide (48 <= n.val) && decide (n.val <= 57)) || decide (n.val = 45)) := by decide +kernel
 have := key ⟨c.toNat, c.toNat_lt⟩
 simpa using this
theorem zlu (s : List UInt8) (h : s.length <= 1000000000) : ztm s = some (zcb s) := by
 unfold ztm
 cases s with
 | nil => rfl
 | cons a r =>
   have g1 : ¬ ((a :: r).length : Int) < 1 := by simp; omega
   simp only [g1, decide_false, cond_false]
   unfold zcb
   by_cases h1 : (16 : Int) < ((a :: r).length : Int)
   . have : ¬ (a :: r).length <= 16 := by omega
     simp only [h1, decide_true, cond_true, this, decide_false, Bool.false_and]
   have h1' : (a :: r).length <= 16 := by omega
   have e5 : zh (a :: r) 0 = fun f => (f a : Option Bool) := rfl
   simp only [h1, decide_false, cond_false, h1', decide_true, Bool.true_and, e5, ziw, Option.bind_some]
   cases e : (decide (97 <= a.toNat) && decide (a.toNat <= 122)) with
   | false => rfl
   | true =>
     simp only [Bool.not_true, cond_false, Bool.true_and]
     generalize a :: r = s at *
     rw [wx s.length (fun k => if decide (s.getD k 0 ∈ jp) = true then none else some false) () (fun k hk => ?_) (by simp)]
     . cases hs : zx (fun k => if decide (s.getD k 0 ∈ jp) = true then none else some false) 0 s.length with
       | none =>
         have := scan_none.1 hs
         simp only
         congr 1
         symm
         rw [List.all_eq_true]
         intro c hc
         obtain ⟨i, hi, rfl⟩ := List.getElem_of_mem hc
         have := this i (by omega) (by omega)
         rw [jo (List.getElem?_eq_getElem hi)] at this
         split at this
         . assumption
         . cases this
       | some b =>
         simp only
         congr 1
         have hall : ¬ s.all (fun c => decide (c ∈ jp)) = true := by
          intro hall
          rw [List.all_eq_true] at hall
          have : zx (fun k => if decide (s.getD k 0 ∈ jp) = true then none else some false) 0 s.length = none := scan_none.2 fun i _ hi => by
           have hi' : i < s.length := by omega
           rw [jo (List.getElem?_eq_getElem hi'), if_pos (hall _ (List.getElem_mem hi'))]
          rw [this] at hs; cases hs
         have hb : b = false := by
          have key : ∀ {j k : Nat}, zx (fun k => if decide (s.getD k 0 ∈ jp) = true then none else some false) k j = some b -> b = false := by
           intro j
           induction j with
           | zero => intro k h; cases h
           | succ j ih =>
             intro k h
             simp only [zx] at h
             split at h
             . rename_i r hr
               cases h
               split at hr
               . cases hr
               . cases hr; rfl
             . exact ih h
          exact key hs
         rw [hb]
         cases e : s.all (fun c => decide (c ∈ jp)) with
         | false => rfl
         | true => exact absurd e hall
     . obtain ⟨x, hx⟩ := zv (l := s) (i := k) hk
       simp only [Int.ofNat_lt, hk, decide_true, cond_true, zh, Int.toNat_natCast, hx, Option.bind_some, zg, Int.natCast_nonneg, if_true, ziw, zsj]
       rw [jo hx, w64 (by omega) (by omega), zv1]
       cases (decide (97 <= x.toNat) && decide (x.toNat <= 122)) with
       | true => simp
       | false =>
         cases (decide (48 <= x.toNat) && decide (x.toNat <= 57)) with
         | true => simp
         | false =>
           by_cases h45 : x.toNat = 45
           . simp [h45]
           . have : ¬ (x.toNat : Int) = 45 := by omega
             simp [h45, this]
theorem zpt (ns : List (List UInt8)) (h : ns.length <= 20) (hn : ∀ s ∈ ns, s.length <= 1000) : zt3 ns = some (jK ns) := by
 unfold zt3 jK
 simp only [List.length_map]
 by_cases h1 : ns.length < 1
 . have : (ns.length : Int) < 1 := by omega
   simp [h1, this]
 by_cases h2 : 8 < ns.length
 . have : (8 : Int) < ns.length := by omega
   have g1 : ¬ (ns.length : Int) < 1 := by omega
   simp [h2, this, g1]
 have g1 : ¬ (ns.length : Int) < 1 := by omega
 have g2 : ¬ (8 : Int) < ns.length := by omega
 simp only [g1, g2, h1, h2, decide_false, cond_false, or_self, if_false]
 rw [wx ns.length (zar ns) () (fun k hk => ?_) (by simp)]
 . cases zx (zar ns) 0 ns.length <;> rfl
 . obtain ⟨x, hx⟩ := zv (l := ns) (i := k) hk
   have hxl := hn x (List.mem_of_getElem? hx)
   simp only [Int.ofNat_lt, hk, decide_true, cond_true, zh, Int.toNat_natCast, hx, Option.bind_some, Int.natCast_nonneg, if_true]
   rw [zlu x (by omega)]
   unfold zar
   rw [jo hx]
   cases e : zcb x with
   | false => simp
   | true =>
     simp only [Option.bind_some, Bool.not_true, cond_false, if_true]
     rw [wx k (fun j => if ns.getD j [] = x then some (.inr (.inr ((k : Int), (8 : Int)))) else none) () (fun j hj => ?_) (by simp)]
     . by_cases hm : x ∈ ns.take k
       . obtain ⟨j, hj, rfl⟩ := List.getElem_of_mem hm
         have hj' : j < k /\ j < ns.length := by simp at hj; omega
         cases hs : zx (fun i => if ns.getD i [] = (ns.take k)[j] then some ((.inr (.inr ((k : Int), (8 : Int)))) : Int ⊕ (Unit ⊕ (Int × Int))) else none) 0 k with
         | none =>
           have := scan_none.1 hs j (by omega) (by omega)
           rw [jo (List.getElem?_eq_getElem hj'.2)] at this
           simp at this
         | some b =>
           have : b = .inr (.inr ((k : Int), (8 : Int))) := zaq (fun i => by split <;> simp) hs
           rw [this, if_pos hm]
       . have : zx (fun j => if ns.getD j [] = x then some ((.inr (.inr ((k : Int), (8 : Int)))) : Int ⊕ (Unit ⊕ (Int × Int))) else none) 0 k = none := scan_none.2 fun i _ hi => by
          have hi' : i < ns.length := by omega
          rw [jo (List.getElem?_eq_getElem hi'), if_neg]
          rintro rfl
          exact hm (List.mem_iff_getElem.2 ⟨i, by simp; omega, by simp⟩)
         rw [this]
         simp only [hm, if_false, zg]
         rw [w64 (by omega) (by omega)]
     . obtain ⟨y, hy⟩ := zv (l := ns) (i := j) (by omega)
       simp only [Int.ofNat_lt, hj, decide_true, cond_true, zh, Int.toNat_natCast, hy, Option.bind_some, zg, Int.natCast_nonneg, if_true, hx]
       rw [jo hy, w64 (by omega) (by omega)]
       by_cases hxy : y = x
       . simp [hxy]
       . simp [hxy]
open Go
def dn (l : TL) (b : Nat) : Nat -> Nat
 | 0 => 0
 | k + 1 => dn l b k ||| (if up l k b = true then 2 ^ k else 0)
theorem zpd (l : TL) (b : Nat) : ∀ (k i : Nat), (dn l b k).testBit i = (decide (i < k) && up l i b)
 | 0, i => by simp [dn]
 | k + 1, i => by
   simp only [dn, Nat.testBit_or, zpd l b k i]
   by_cases h : up l k b = true
   . simp only [h, if_true, Nat.testBit_two_pow]
     by_cases hik : i = k
     . subst hik; simp [h]
     . have h1 : ¬ k = i := fun e => hik e.symm
       have h2 : (i < k + 1) = (i < k) := by simp; omega
       simp [h1, h2]
   . simp only [h, if_false, Nat.zero_testBit, Bool.or_false]
     by_cases hik : i = k
     . subst hik; simp [h]
     . have h2 : (i < k + 1) = (i < k) := by simp; omega
       simp [h2]
theorem zAb (l : TL) (b : Nat) : ∀ k : Nat, dn l b k < 2 ^ k
 | 0 => by simp [dn]
 | k + 1 => by
   simp only [dn]
   refine Nat.or_lt_two_pow (Nat.lt_of_lt_of_le (zAb l b k) (Nat.pow_le_pow_right (by omega) (by omega))) ?_
   split
   . exact Nat.pow_lt_pow_right (by omega) (by omega)
   . exact Nat.two_pow_pos _
theorem zh5 (l : TL) (b : Nat) {k : Nat} (h : k <= 8) : dn l b k < 256 := Nat.lt_of_lt_of_le (zAb l b k) (Nat.pow_le_pow_right (n := 2) (by omega) h)
theorem zrc {c : Bool} {k : Nat} (h : k < 8) : IntKind.wrap .u8 ((if c = true then (1 : Int) else 0) * 2 ^ min k (IntKind.bits .u8)) = ((if c = true then 2 ^ k else 0 : Nat) : Int) := by
 have key : ∀ (c : Bool) (k : Fin 8), IntKind.wrap .u8 ((if c = true then (1 : Int) else 0) * 2 ^ min k.val (IntKind.bits .u8)) = ((if c = true then 2 ^ k.val else 0 : Nat) : Int) := by decide +kernel
 exact key c ⟨k, h⟩
theorem zu8 {a b : Nat} (ha : a < 256) (hb : b < 256) : bits .or .u8 (a : Int) (b : Int) = ((a ||| b : Nat) : Int) := by
 rw [zrj (by omega) (by omega) (by omega) (by omega)]; rfl
theorem zq1 {a b : Nat} (ha : a < 256) (hb : b < 256) : bits .and .u8 (a : Int) (b : Int) = ((a &&& b : Nat) : Int) := by
 rw [zcl (by omega) (by omega) (by omega) (by omega)]; rfl
theorem zE1 {c : Bool} {k : Nat} (h : k < 8) : (if c = true then 2 ^ k else 0) < 256 := by
 split
 . exact Nat.lt_of_lt_of_le (Nat.pow_lt_pow_right (a := 2) (by omega) h) (by omega)
 . omega
theorem zjx {α : Type} {l : List α} {i j : Nat} {x : α} (h : i < l.length) : (l.set i x)[j]? = if i = j then some x else l[j]? := by
 rw [List.getElem?_set]
 split
 . simp [h]
 . rfl
theorem zny (l : TL) (hu : U8s l.Up) (hn : l.Names.length <= 8) (hl : l.Up.length = l.Names.length) :
 Tot (zg5 l) fun o => o.n_ = l.Names.length /\ o.up_.length = 8 /\ o.down_.length = 8 /\ (∀ j, j < l.Names.length -> o.up_[j]? = l.Up[j]?) /\ ∀ b, b < l.Names.length -> o.down_[b]? = some (dn l b l.Names.length : Int) := by
 unfold zg5
 simp only [zu, List.length_map]
 refine Tot.count l.Up.length (fun k s => s.1 = (k : Int) /\ s.2.1.length = 8 /\ s.2.2.length = 8 /\ (∀ j, j < k -> s.2.1[j]? = l.Up[j]?) /\ ∀ b, b < l.Names.length -> s.2.2[b]? = some (dn l b k : Int)) ?_ ⟨rfl, rfl, rfl, fun j hj => absurd hj (by omega), fun b hb => ?_⟩
 . rintro k ⟨i, up', down⟩ hk ⟨h0, h1, h2, h3, h4⟩
   simp only at h0 h1 h2 h3 h4
   subst h0
   simp only [tot_some, zF, zN, qn, qF, zu, Sum.elim_inl, Sum.elim_inr, decide_eq_true_eq, decide_eq_false_iff_not, Int.toNat_natCast]
   refine ⟨fun hlt => ?_, fun hlt => ?_⟩
   . obtain ⟨x, hx⟩ := zv (l := l.Up) (i := k) (by omega)
     obtain ⟨y, hy⟩ := zv (l := up') (i := k) (by omega)
     refine ⟨by omega, x, hx, ⟨by omega, by omega⟩, by omega, y, hy, ?_⟩
     have hx' := hu.get hx
     refine Tot.count l.Names.length (fun j s => s.1 = (j : Int) /\ s.2.length = 8 /\ ∀ b, b < l.Names.length -> s.2[b]? = some (dn l b (if b < j then k + 1 else k) : Int)) ?_ ⟨rfl, h2, fun b hb => by simpa using h4 b hb⟩
     rintro j ⟨i', d⟩ hj ⟨g0, g1, g2⟩
     simp only at g0 g1 g2
     subst g0
     simp only [tot_some, zF, zN, qn, qF, zu, Sum.elim_inl, Sum.elim_inr, decide_eq_true_eq, decide_eq_false_iff_not, Int.toNat_natCast]
     refine ⟨fun hlt' => ?_, fun hlt' => ?_⟩
     . have hz := g2 j (by omega)
       rw [if_neg (by omega)] at hz
       rw [w64 (by omega) (by omega)]
       refine ⟨⟨by omega, by omega⟩, by omega, _, hz, by omega, by omega, ⟨by omega, by omega⟩, by omega, _, hz, by omega, by omega, by simpa using g1, fun b hb => ?_⟩
       rw [zjx (by omega)]
       by_cases hjb : j = b
       . subst hjb
         rw [if_pos rfl, if_pos (by omega), zcw hx'.1 hx'.2 (by omega), <- jq hx, zrc (by omega), zu8 (zh5 l j (by omega)) (zE1 (by omega))]
         rfl
       . rw [if_neg hjb, g2 b hb]
         have : (b < j + 1) = (b < j) := by simp; omega
         simp only [this]
     . rw [w64 (by omega) (by omega)]
       refine ⟨by omega, by omega, by simpa using h1, g1, fun q hq => ?_, fun b hb => ?_⟩
       . rw [zjx (by omega)]
         by_cases hkq : k = q
         . subst hkq; rw [if_pos rfl, hx]
         . rw [if_neg hkq]; exact h3 q (by omega)
       . rw [g2 b hb, if_pos (by omega)]
   . have hkn : k = l.Names.length := by omega
     subst hkn
     exact ⟨trivial, h1, h2, h3, h4⟩
 . have h8 : ∀ b : Fin 8, ([0, 0, 0, 0, 0, 0, 0, 0] : List Int)[b.val]? = some 0 := by decide
   exact h8 ⟨b, by omega⟩
theorem yu {ρ : Type} {p : Prop} [Decidable p] {x : Option ρ} (h : p) : zk p x = x := by unfold zk; rw [if_pos h]
def bnd (g : Nat -> Nat) (n a b : Nat) : Option Nat := zx (fun c => if g c = g a &&& g b then some c else none) 0 n
def zd5 (g : Nat -> Nat) (n a b : Nat) : Int := match bnd g n a b with | some c => c | none => -1
theorem zfp (m : List Int) (g : Nat -> Nat) (n a b : Nat) (hn : n <= 8) (hg : ∀ c, c < n -> m[c]? = some (g c : Int)) (hg8 : ∀ c, c < n -> g c < 256) (hs : ∀ c, c < n -> (g c).testBit c = true) (ha : a < n) (hb : b < n) :
 zj7 m n a b = some (zd5 g n a b) := by
 unfold zj7 zd5 bnd
 have s1 : ((0 : Int) <= (a : Int) /\ (a : Int) < ((8 : Nat) : Int)) := by omega
 have s2 : ((0 : Int) <= (b : Int) /\ (b : Int) < ((8 : Nat) : Int)) := by omega
 simp only [yu s1, yu s2]
 simp only [zh, Int.toNat_natCast, Int.natCast_nonneg, if_true, hg a ha, hg b hb, Option.bind_some, zq1 (hg8 a ha) (hg8 b hb)]
 have h8 : g a &&& g b < 256 := zdf (hg8 a ha)
 generalize g a &&& g b = both at *
 rw [wx n (fun c => if g c = both then some (c : Int) else none) () (fun c hc => ?_) (by simp)]
 . have e : (fun c => if g c = both then some (c : Int) else none) = fun c => (if g c = both then some c else none).map (fun c : Nat => (c : Int)) := by
    funext c; split <;> rfl
   rw [e, jT]
   cases zx (fun c => if g c = both then some c else none) 0 n <;> rfl
 . have s3 : ((0 : Int) <= (c : Int) /\ (c : Int) < ((8 : Nat) : Int)) := by omega
   simp only [yu s3]
   simp only [Int.ofNat_lt, hc, decide_true, cond_true, zk, Int.natCast_nonneg, if_true, hg c hc, Option.bind_some, zg]
   rw [w64 (by omega) (by omega), zcw (by omega) (by omega) (by omega)]
   simp only [Int.toNat_natCast]
   by_cases hbc : both.testBit c = true
   . simp only [hbc, if_true, decide_true, cond_true]
     rw [hg c hc]
     by_cases hgc : g c = both
     . simp [hgc]
     . have : ¬ (g c : Int) = (both : Int) := by omega
       simp [hgc, this]
   . have : g c ≠ both := fun e => hbc (e ▸ hs c hc)
     simp [hbc, this]
theorem uw (m : List Int) (g : Nat -> Nat) (a b : Nat) (hn : m.length <= 8) (hg : ∀ c, c < m.length -> m[c]? = some (g c : Int)) (hg8 : ∀ c, c < m.length -> g c < 256) (ha : a < m.length) (hb : b < m.length) :
 zfe m a b = some (zd5 g m.length a b) := by
 unfold zfe zd5 bnd
 simp only [zh, Int.toNat_natCast, Int.natCast_nonneg, if_true, hg a ha, hg b hb, Option.bind_some, zq1 (hg8 a ha) (hg8 b hb), List.length_map]
 have h8 : g a &&& g b < 256 := zdf (hg8 a ha)
 generalize g a &&& g b = both at *
 rw [wx m.length (fun c => if g c = both then some (c : Int) else none) () (fun c hc => ?_) (by simp)]
 . have e : (fun c => if g c = both then some (c : Int) else none) = fun c => (if g c = both then some c else none).map (fun c : Nat => (c : Int)) := by
    funext c; split <;> rfl
   rw [e, jT]
   cases zx (fun c => if g c = both then some c else none) 0 m.length <;> rfl
 . simp only [Int.ofNat_lt, hc, decide_true, cond_true, hg c hc, Option.bind_some, zg]
   rw [w64 (by omega) (by omega), Int.toNat_natCast, if_pos (by omega), hg c hc]
   by_cases hgc : g c = both
   . simp [hgc]
   . have : ¬ (g c : Int) = (both : Int) := by omega
     simp [hgc, this]
open Go
def upN (l : TL) (a : Nat) : Nat := (l.Up.getD a 0).toNat
def zgl (l : TL) (a b : Nat) : Bool := !up l a b || ((decide (b = a) || !up l b a) && (List.range l.Names.length).all fun i => !up l b i || up l a i)
def xr (l : TL) (a : Nat) : Bool := decide (upN l a < 2 ^ l.Names.length) && up l a a && (List.range l.Names.length).all fun b => zgl l a b
def dnN (l : TL) (b : Nat) : Nat := dn l b l.Names.length
def wM (l : TL) (a b : Nat) : Bool := (bnd (upN l) l.Names.length a b).isNone || (bnd (dnN l) l.Names.length a b).isNone
def zhc (l : TL) : Int × Int :=
 if (jK l.Names).2 = 0 then
  if l.Up.length = l.Names.length then
   match zx (fun a => if xr l a = true then none else some ((a : Int), (6 : Int))) 0 l.Names.length with
   | some r => r
   | none => (zx (fun a => zx (fun b => if wM l a b = true then some ((a : Int), (4 : Int)) else none) 0 l.Names.length) 0 l.Names.length).getD (0, 0)
  else (-1, 6)
 else jK l.Names
theorem zru {α : Type} {p : Nat -> Bool} {v : α} : ∀ {j k : Nat}, zx (fun i => if p i = true then none else some v) k j = if (List.range j).all (fun i => p (k + i)) = true then none else some v
 | 0, _ => by simp [zx]
 | j + 1, k => by
   simp only [zx, zru (j := j) (k := k + 1)]
   have e : (List.range (j + 1)).all (fun i => p (k + i)) = (p k && (List.range j).all fun i => p (k + 1 + i)) := by
    rw [List.range_succ_eq_map, List.all_cons, List.all_map]
    congr 1
    congr 1
    funext i
    simp only [Function.comp]
    congr 1; omega
   rw [e]
   cases p k <;> simp
theorem zk5 {α : Type} {p : Nat -> Bool} {u v : α} {n : Nat} : ∀ {j k : Nat}, k + j = n -> 0 < j -> zx (fun i => if p i = true then (if i + 1 = n then some u else none) else some v) k j = some (if (List.range j).all (fun i => p (k + i)) = true then u else v)
 | 0, _, _, h => by omega
 | j + 1, k, hk, _ => by
   have e : (List.range (j + 1)).all (fun i => p (k + i)) = (p k && (List.range j).all fun i => p (k + 1 + i)) := by
    rw [List.range_succ_eq_map, List.all_cons, List.all_map]
    congr 1
    congr 1
    funext i
    simp only [Function.comp]
    congr 1; omega
   rw [e]
   simp only [zx]
   cases hp : p k with
   | false => simp
   | true =>
     simp only [if_true, Bool.true_and]
     by_cases hj : j = 0
     . subst hj
       have : k + 1 = n := by omega
       simp [this]
     . have : ¬ k + 1 = n := by omega
       simp only [this, if_false]
       exact zk5 (by omega) (by omega)
theorem zuh (x : Int) (h0 : 0 <= x) (h1 : x < 256) : Tot (zi4 x) fun y => ∀ n : Nat, n <= 8 -> decide ((n : Int) < y) = !decide (x.toNat < 2 ^ n) := by
 unfold zi4
 rw [qn]
 refine ⟨h0, ?_⟩
 have key : ∀ l : List UInt8, (∀ x : Fin 256, ∀ n : Fin 9, (l[x.val]?.map fun y => decide ((n.val : Int) < IntKind.wrap .i64 (y.toNat : Int))) = some (!decide (x.val < 2 ^ n.val))) ->
  ∃ y, l[x.toNat]? = some y /\ Tot (zg (IntKind.wrap .i64 (y.toNat : Int)) fun z => some z) fun y => ∀ n : Nat, n <= 8 -> decide ((n : Int) < y) = !decide (x.toNat < 2 ^ n) := by
  intro l hl
  cases e : l[x.toNat]? with
  | none =>
    have := hl ⟨x.toNat, by omega⟩ ⟨0, by omega⟩
    simp only [e] at this
    cases this
  | some y =>
    refine ⟨y, rfl, .mk fun n hn => ?_⟩
    have := hl ⟨x.toNat, by omega⟩ ⟨n, by omega⟩
    simp only [e] at this
    exact Option.some.inj this
 exact key _ (by decide +kernel)
theorem yR {l : TL} (hu : U8s l.Up) {a b : Nat} (ha : a < l.Up.length) (hb : b <= 8) : js l a b = some (up l a b) := by
 unfold js
 obtain ⟨x, hx⟩ := zv ha
 have hx' := hu.get hx
 have key : ∀ u : Fin 256, ∀ b : Fin 9, decide (Int.tmod (Int.fdiv (u.val : Int) (2 ^ min b.val (IntKind.bits .u8))) 2 = 1) = Nat.testBit u b := by decide +kernel
 have := key ⟨x.toNat, by omega⟩ ⟨b, by omega⟩
 simp only [Int.toNat_of_nonneg hx'.1] at this
 simp only [List.length_map, Int.natCast_nonneg, decide_true, cond_true, Int.ofNat_lt, ha, zh, Int.toNat_natCast, if_true, hx, Option.bind_some, zk, this, jq hx]
theorem zeb {n : Nat} (h : n < 1000000) : IntKind.wrap .i64 (n : Int) = n := w64 (by omega) (by omega)
theorem zqy (n : Nat) : BitVec.ofInt 64 (n : Int) = BitVec.ofNat 64 n := BitVec.ofInt_natCast 64 n
theorem zrv {a b : Nat} (ha : a < 1000000) (hb : b < 1000000) : bits .and .i64 (a : Int) (b : Int) = ((a &&& b : Nat) : Int) := by
 have e : bits .and .i64 (a : Int) (b : Int) = IntKind.wrap .i64 ((BitVec.ofInt 64 (a : Int) &&& BitVec.ofInt 64 (b : Int)).toNat : Int) := rfl
 rw [e, zqy, zqy, BitVec.toNat_and, BitVec.toNat_ofNat, BitVec.toNat_ofNat, Nat.mod_eq_of_lt (by omega), Nat.mod_eq_of_lt (by omega)]
 exact zeb (Nat.lt_of_le_of_lt Nat.and_le_left ha)
theorem zxt {x y n : Nat} : ((y &&& (2 ^ n - 1)) &&& x = y &&& (2 ^ n - 1)) ↔ ((List.range n).all fun i => !y.testBit i || x.testBit i) = true := by
 rw [List.all_eq_true]
 constructor
 . intro h i hi
   have hi' : i < n := by simpa using hi
   have := congrArg (fun z => z.testBit i) h
   simp only [Nat.testBit_and, Nat.testBit_two_pow_sub_one, hi', decide_true, Bool.and_true] at this
   cases e : y.testBit i with
   | false => rfl
   | true => rw [e] at this; simpa using this
 . intro h
   apply Nat.eq_of_testBit_eq
   intro i
   simp only [Nat.testBit_and, Nat.testBit_two_pow_sub_one]
   by_cases hi : i < n
   . have := h i (by simpa using hi)
     simp only [hi, decide_true, Bool.and_true]
     cases e : y.testBit i with
     | false => rfl
     | true => rw [e] at this; simpa using this
   . simp [hi]
open Go
theorem zw1 {l : TL} {a : Nat} {x : Int} (h : l.Up[a]? = some x) : upN l a = x.toNat := by unfold upN; rw [jo h]
theorem ze3 {l : TL} {a b : Nat} : (upN l a).testBit b = up l a b := rfl
theorem zbs {l : TL} (hu : U8s l.Up) {a : Nat} (ha : a < l.Up.length) : upN l a < 256 := by
 obtain ⟨x, hx⟩ := zv ha
 have := hu.get hx
 rw [zw1 hx]; omega
theorem uV {l : TL} (hu : U8s l.Up) {a : Nat} (ha : a < l.Up.length) : l.Up[a]? = some (upN l a : Int) := by
 obtain ⟨x, hx⟩ := zv ha
 have := hu.get hx
 rw [hx, zw1 hx, Int.toNat_of_nonneg this.1]
theorem zog {l : TL} (hu : U8s l.Up) (h8 : l.Names.length <= 8) (hl : l.Up.length = l.Names.length) {a : Nat} (ha : a < l.Names.length) : zl9 l a = some (xr l a) := by
 unfold zl9 xr
 have g0 : ((0 : Int) <= (l.Names.length : Int)) := by omega
 have hb := fun b (hb : b < l.Names.length) => yR hu (a := a) (b := b) (by omega) (by omega)
 have hxa := uV hu (a := a) (by omega)
 have hlt := zbs hu (a := a) (by omega)
 have sh : decide ((0 : Int) < Int.fdiv (upN l a : Int) (2 ^ min l.Names.length (IntKind.bits .i64))) = !decide (upN l a < 2 ^ l.Names.length) := by
  have key : ∀ u : Fin 256, ∀ n : Fin 9, decide ((0 : Int) < Int.fdiv (u.val : Int) (2 ^ min n.val (IntKind.bits .i64))) = !decide (u.val < 2 ^ n.val) := by decide +kernel
  exact key ⟨upN l a, hlt⟩ ⟨l.Names.length, by omega⟩
 have mk : IntKind.wrap .i64 (IntKind.wrap .i64 (1 * 2 ^ min l.Names.length (IntKind.bits .i64)) - 1) = ((2 ^ l.Names.length - 1 : Nat) : Int) := by
  have key : ∀ n : Fin 9, IntKind.wrap .i64 (IntKind.wrap .i64 (1 * 2 ^ min n.val (IntKind.bits .i64)) - 1) = ((2 ^ n.val - 1 : Nat) : Int) := by decide +kernel
  exact key ⟨l.Names.length, by omega⟩
 have mk' : 2 ^ l.Names.length - 1 < 1000000 := by
  have : 2 ^ l.Names.length <= 2 ^ 8 := Nat.pow_le_pow_right (by omega) h8
  omega
 simp only [List.length_map, yu g0, Int.toNat_natCast]
 simp only [zh, Int.toNat_natCast, Int.natCast_nonneg, if_true, hxa, Option.bind_some, zg]
 rw [zeb (by omega), sh, hb a ha, mk]
 cases e1 : decide (upN l a < 2 ^ l.Names.length) with
 | false => simp
 | true =>
   simp only [Bool.not_true, cond_false, Bool.true_and, Option.bind_some]
   cases e2 : up l a a with
   | false => simp
   | true =>
     simp only [Bool.not_true, cond_false, Bool.true_and]
     rw [wx l.Names.length (fun b => if zgl l a b = true then none else some false) () (fun b hbn => ?_) (by simp)]
     . rw [zru]
       simp only [Nat.zero_add]
       cases (List.range l.Names.length).all fun b => zgl l a b <;> rfl
     . have hxb := uV hu (a := b) (by omega)
       have hltb := zbs hu (a := b) (by omega)
       simp only [Int.ofNat_lt, hbn, decide_true, cond_true, Option.bind_some, Int.toNat_natCast, hxb]
       rw [hb b hbn, zeb (n := upN l b) (by omega), zrv (by omega) mk', w64 (by omega) (by omega), yR hu (by omega) (by omega)]
       have hand : upN l b &&& (2 ^ l.Names.length - 1) < 1000000 := Nat.lt_of_le_of_lt Nat.and_le_left (by omega)
       rw [zrv hand (by omega)]
       have hsub := zxt (x := upN l a) (y := upN l b) (n := l.Names.length)
       simp only [ze3] at hsub
       have hsub' : decide ((((upN l b &&& (2 ^ l.Names.length - 1)) &&& upN l a : Nat) : Int) = ((upN l b &&& (2 ^ l.Names.length - 1) : Nat) : Int)) = (List.range l.Names.length).all fun i => !up l b i || up l a i := by
        rw [Bool.eq_iff_iff, <- hsub, decide_eq_true_eq]; omega
       rw [hsub']
       unfold zgl
       cases e3 : up l a b with
       | false => simp
       | true =>
         simp only [Option.bind_some, Bool.not_true, cond_false, Bool.false_or]
         by_cases hba : b = a
         . subst hba
           simp only [decide_true, Bool.not_true, cond_false, Bool.true_or, Bool.true_and]
           cases (List.range l.Names.length).all fun i => !up l b i || up l b i <;> simp
         . have : ¬ (b : Int) = (a : Int) := by omega
           simp only [this, hba, decide_false, Bool.not_false, cond_true, Bool.false_or]
           cases up l b a with
           | true => simp
           | false =>
             cases (List.range l.Names.length).all fun i => !up l b i || up l a i <;> simp
theorem zit {l : TL} (hu : U8s l.Up) (h8 : l.Names.length <= 8) (hl : l.Up.length = l.Names.length) : Tot (zh9 l) fun d => d.length = l.Names.length /\ ∀ b, b < l.Names.length -> d[b]? = some (dnN l b : Int) := by
 unfold zh9
 simp only [zu, qF, List.length_map, Int.toNat_natCast]
 refine ⟨⟨by omega, trivial, by omega, by omega⟩, ?_⟩
 refine Tot.count l.Names.length (fun k s => s.1 = (k : Int) /\ s.2.length = l.Names.length /\ ∀ b, b < l.Names.length -> s.2[b]? = some (dn l b k : Int)) ?_ ⟨rfl, by simp, fun b hb => ?_⟩
 . rintro k ⟨i, down⟩ hk ⟨h0, h2, h4⟩
   simp only at h0 h2 h4
   subst h0
   simp only [tot_some, zF, zN, qn, qF, zu, Sum.elim_inl, Sum.elim_inr, decide_eq_true_eq, decide_eq_false_iff_not, Int.toNat_natCast]
   refine ⟨fun hlt => ?_, fun hlt => ?_⟩
   . refine Tot.count l.Names.length (fun j s => s.1 = (j : Int) /\ s.2.length = l.Names.length /\ ∀ b, b < l.Names.length -> s.2[b]? = some (dn l b (if b < j then k + 1 else k) : Int)) ?_ ⟨rfl, h2, fun b hb => by simpa using h4 b hb⟩
     rintro j ⟨i', d⟩ hj ⟨g0, g1, g2⟩
     simp only at g0 g1 g2
     subst g0
     simp only [tot_some, zF, zN, qn, qF, zu, Sum.elim_inl, Sum.elim_inr, decide_eq_true_eq, decide_eq_false_iff_not, Int.toNat_natCast]
     refine ⟨fun hlt' => ?_, fun hlt' => ?_⟩
     . rw [yR hu (by omega) (by omega), tot_some]
       have hz := g2 j (by omega)
       rw [if_neg (by omega)] at hz
       rw [w64 (by omega) (by omega)]
       refine ⟨fun hup => ⟨⟨by omega, by simp; omega⟩, by omega, _, hz, by omega, ⟨by omega, by simp; omega⟩, by omega, _, hz, by omega, by omega, by simpa using g1, fun b hb => ?_⟩, fun hup => ⟨by omega, by omega, g1, fun b hb => ?_⟩⟩
       . have hsh := zrc (c := true) (k := k) (by omega)
         simp only [if_true] at hsh
         rw [zjx (by omega), hsh]
         by_cases hjb : j = b
         . subst hjb
           have hp : 2 ^ k < 256 := Nat.lt_of_lt_of_le (Nat.pow_lt_pow_right (a := 2) (by omega) (show k < 8 by omega)) (by omega)
           rw [if_pos rfl, if_pos (by omega), zu8 (zh5 l j (by omega)) hp]
           simp [dn, hup]
         . rw [if_neg hjb, g2 b hb]
           have : (b < j + 1) = (b < j) := by simp; omega
           simp only [this]
       . rw [g2 b hb]
         by_cases hjb : j = b
         . subst hjb
           rw [if_neg (by omega), if_pos (by omega)]
           simp [dn, hup]
         . have : (b < j + 1) = (b < j) := by simp; omega
           simp only [this]
     . rw [w64 (by omega) (by omega)]
       refine ⟨by omega, by omega, g1, fun b hb => ?_⟩
       rw [g2 b hb, if_pos (by omega)]
   . have hkn : k = l.Names.length := by omega
     subst hkn
     exact ⟨h2, h4⟩
 . rw [List.getElem?_replicate, if_pos hb]; rfl
open Go
theorem zor (g : Nat -> Nat) (n a b : Nat) : decide (zd5 g n a b < 0) = (bnd g n a b).isNone := by
 unfold zd5
 cases bnd g n a b with
 | none => rfl
 | some c => simp
theorem zv4 {l : TL} (h8 : l.Names.length <= 8) (b : Nat) : dnN l b < 256 := zh5 l b h8
theorem xA (l : TL) (hu : U8s l.Up) (hn : l.Names.length <= 20) (hs : ∀ s ∈ l.Names, s.length <= 1000) : zc2 l = some (zhc l) := by
 unfold zc2 zhc
 rw [zpt _ hn hs]
 simp only [Option.bind_some, List.length_map]
 by_cases h0 : (jK l.Names).2 = 0
 case neg => simp [h0]
 simp only [h0, decide_true, Bool.not_true, cond_false, if_true]
 by_cases hlen : l.Up.length = l.Names.length
 case neg =>
  have : ¬ (l.Up.length : Int) = l.Names.length := by omega
  simp [hlen, this]
 have h8 : l.Names.length <= 8 := by
  unfold jK at h0
  split at h0
  . cases h0
  . omega
 simp only [hlen, decide_true, Bool.not_true, cond_false, if_true]
 rw [wx l.Names.length (fun a => if xr l a = true then none else some ((a : Int), (6 : Int))) () (fun a ha => ?_) (by simp)]
 . cases h1 : zx (fun a => if xr l a = true then none else some ((a : Int), (6 : Int))) 0 l.Names.length with
   | some r => rfl
   | none =>
     simp only
     obtain ⟨d, ed, hdl, hd⟩ := zit hu h8 hlen
     rw [ed, Option.bind_some]
     rw [wx l.Names.length (fun a => zx (fun b => if wM l a b = true then some ((a : Int), (4 : Int)) else none) 0 l.Names.length) () (fun a ha => ?_) (by simp)]
     . cases zx (fun a => zx (fun b => if wM l a b = true then some ((a : Int), (4 : Int)) else none) 0 l.Names.length) 0 l.Names.length <;> rfl
     . simp only [Int.ofNat_lt, ha, decide_true, cond_true]
       rw [wx l.Names.length (fun b => if wM l a b = true then some (.inr (.inr ((a : Int), (4 : Int)))) else none) () (fun b hb => ?_) (by simp)]
       . have e : (fun b => if wM l a b = true then some (Sum.inr (Sum.inr ((a : Int), (4 : Int))) : Int ⊕ (Unit ⊕ (Int × Int))) else none) = fun b => (if wM l a b = true then some ((a : Int), (4 : Int)) else none).map fun v => .inr (.inr v) := by
          funext b; split <;> rfl
         rw [e, jT]
         cases zx (fun b => if wM l a b = true then some ((a : Int), (4 : Int)) else none) 0 l.Names.length with
         | some r => rfl
         | none =>
           simp only [Option.map_none, zg]
           rw [w64 (by omega) (by omega)]
       . simp only [Int.ofNat_lt, hb, decide_true, cond_true]
         have n1 := uw l.Up (upN l) a b (by omega) (fun c hc => uV hu hc) (fun c hc => zbs hu hc) (by omega) (by omega)
         have n2 := uw d (dnN l) a b (by omega) (fun c hc => hd c (by omega)) (fun c hc => zv4 h8 c) (by omega) (by omega)
         rw [hlen] at n1
         rw [hdl] at n2
         rw [n1, n2]
         simp only [Option.bind_some, zor, zg]
         rw [w64 (by omega) (by omega)]
         unfold wM
         cases (bnd (upN l) l.Names.length a b).isNone with
         | true => simp
         | false => cases (bnd (dnN l) l.Names.length a b).isNone <;> simp
 . simp only [Int.ofNat_lt, ha, decide_true, cond_true]
   rw [zog hu h8 hlen ha]
   simp only [Option.bind_some, zg]
   rw [w64 (by omega) (by omega)]
   cases xr l a <;> simp
open Go
theorem zqj (l : TL) (hu : U8s l.Up) (hn : l.Names.length <= 20) (hs : ∀ s ∈ l.Names, s.length <= 1000) : zaf l = some (zhc l) := by
 unfold zaf zhc
 rw [zxr _ hn hs]
 simp only [Option.bind_some, List.length_map]
 by_cases h0 : (jK l.Names).2 = 0
 case neg => simp [h0]
 simp only [h0, decide_true, Bool.not_true, cond_false, if_true]
 by_cases hlen : l.Up.length = l.Names.length
 case neg =>
  have : ¬ (l.Up.length : Int) = l.Names.length := by omega
  simp [hlen, this]
 have h8 : 1 <= l.Names.length /\ l.Names.length <= 8 := by
  unfold jK at h0
  split at h0
  . cases h0
  . omega
 obtain ⟨h1, h8⟩ := h8
 have g0 : ((0 : Int) <= (l.Names.length : Int)) := by omega
 simp only [hlen, decide_true, Bool.not_true, cond_false, if_true, yu g0, zg, Int.toNat_natCast]
 have hmask := zpy l.Names.length h8
 have hm0 := znm (e := IntKind.wrap .u8 (1 * 2 ^ min l.Names.length (IntKind.bits .u8)) - 1)
 rw [wx l.Names.length (fun a => if xr l a = true then none else some ((a : Int), (6 : Int))) () (fun a ha => ?_) (by simp)]
 . cases h1 : zx (fun a => if xr l a = true then none else some ((a : Int), (6 : Int))) 0 l.Names.length with
   | some r => rfl
   | none =>
     simp only
     have hself : ∀ a, a < l.Names.length -> up l a a = true := by
      intro a ha
      have := scan_none.1 h1 a (by omega) (by omega)
      split at this
      . rename_i h
        unfold xr at h
        simp only [Bool.and_eq_true] at h
        exact h.1.2
      . cases this
     obtain ⟨o, eo, _, o1, o2, o3, o4⟩ := zny l hu h8 hlen
     rw [eo, Option.bind_some]
     rw [wx l.Names.length (fun a => zx (fun b => if wM l a b = true then some ((a : Int), (4 : Int)) else none) 0 l.Names.length) () (fun a ha => ?_) (by simp)]
     . cases zx (fun a => zx (fun b => if wM l a b = true then some ((a : Int), (4 : Int)) else none) 0 l.Names.length) 0 l.Names.length <;> rfl
     . simp only [Int.ofNat_lt, ha, decide_true, cond_true]
       rw [wx l.Names.length (fun b => if wM l a b = true then some (.inr (.inr ((a : Int), (4 : Int)))) else none) () (fun b hb => ?_) (by simp)]
       . have e : (fun b => if wM l a b = true then some (Sum.inr (Sum.inr ((a : Int), (4 : Int))) : Int ⊕ (Unit ⊕ (Int × Int))) else none) = fun b => (if wM l a b = true then some ((a : Int), (4 : Int)) else none).map fun v => .inr (.inr v) := by
          funext b; split <;> rfl
         rw [e, jT]
         cases zx (fun b => if wM l a b = true then some ((a : Int), (4 : Int)) else none) 0 l.Names.length with
         | some r => rfl
         | none =>
           simp only [Option.map_none]
           rw [w64 (by omega) (by omega)]
       . simp only [Int.ofNat_lt, hb, decide_true, cond_true]
         have n1 := zfp o.up_ (upN l) l.Names.length a b h8 (fun c hc => by rw [o3 c hc]; exact uV hu (by omega)) (fun c hc => zbs hu (by omega)) (fun c hc => hself c hc) ha hb
         have n2 : zsp o.down_ l.Names.length a b = some (zd5 (dnN l) l.Names.length a b) := zfp o.down_ (dnN l) l.Names.length a b h8 (fun c hc => o4 c hc) (fun c hc => zv4 h8 c) (fun c hc => by unfold dnN; rw [zpd, hself c hc]; simp [hc]) ha hb
         rw [n1, n2]
         simp only [Option.bind_some, zor]
         rw [w64 (by omega) (by omega)]
         unfold wM
         cases (bnd (upN l) l.Names.length a b).isNone with
         | true => simp
         | false => cases (bnd (dnN l) l.Names.length a b).isNone <;> simp
 . -- one label's row
   have hxa := uV hu (a := a) (by omega)
   have hlt := zbs hu (a := a) (by omega)
   obtain ⟨y, ey, hy⟩ := zuh (upN l a : Int) (by omega) (by omega)
   have hy := hy l.Names.length h8
   rw [Int.toNat_natCast] at hy
   have ga : ((0 : Int) <= (a : Int)) := by omega
   have hbit : ∀ b, b < l.Names.length -> bits .and .u8 (Int.fdiv (upN l a : Int) (2 ^ min b (IntKind.bits .u8))) 1 = if up l a b = true then 1 else 0 := fun b hb => by
    rw [zcw (by omega) (by omega) (by omega), Int.toNat_natCast]; rfl
   simp only [Int.ofNat_lt, ha, decide_true, cond_true, zh, Int.toNat_natCast, if_pos ga, hxa, Option.bind_some, ey, hy, yu ga]
   simp only [hbit a ha]
   unfold xr
   cases e1 : decide (upN l a < 2 ^ l.Names.length) with
   | false => simp
   | true =>
     simp only [Bool.not_true, cond_false, Bool.true_and]
     cases e2 : up l a a with
     | false => simp
     | true =>
       simp only [if_true, Int.reduceEq, decide_false, cond_false, Bool.true_and]
       rw [wx l.Names.length (fun b => if zgl l a b = true then (if b + 1 = l.Names.length then some (.inl ((a : Int) + 1)) else none) else some (.inr (.inr ((a : Int), (6 : Int))))) () (fun b hb => ?_) (by simp)]
       . rw [zk5 (by omega) (by omega)]
         simp only [Nat.zero_add]
         cases (List.range l.Names.length).all fun b => zgl l a b <;> rfl
       . have hxb := uV hu (a := b) (by omega)
         have hltb := zbs hu (a := b) (by omega)
         have gb : ((0 : Int) <= (b : Int)) := by omega
         have hbit' : bits .and .u8 (Int.fdiv (upN l b : Int) (2 ^ min a (IntKind.bits .u8))) 1 = if up l b a = true then 1 else 0 := by
          rw [zcw (by omega) (by omega) (by omega), Int.toNat_natCast]; rfl
         simp only [Int.ofNat_lt, hb, decide_true, cond_true, Option.bind_some, Int.toNat_natCast, hxb, if_pos gb, yu gb]
         simp only [hbit b hb, hbit', w64 (e := (l.Names.length : Int) - 1) (by omega) (by omega), w64 (e := (a : Int) + 1) (by omega) (by omega), w64 (e := (b : Int) + 1) (by omega) (by omega)]
         have hnot : decide (bits .andNot .u8 (bits .and .u8 (upN l b : Int) (IntKind.wrap .u8 (IntKind.wrap .u8 (1 * 2 ^ min l.Names.length (IntKind.bits .u8)) - 1))) (upN l a : Int) = 0) = (List.range l.Names.length).all fun i => !up l b i || up l a i := by
          revert hmask hm0
          generalize IntKind.wrap .u8 (IntKind.wrap .u8 (1 * 2 ^ min l.Names.length (IntKind.bits .u8)) - 1) = mask
          intro hmask hm0
          have hand : bits .and .u8 (upN l b : Int) mask = ((upN l b &&& mask.toNat : Nat) : Int) := by
           rw [zcl (by omega) (by omega) hm0.1 hm0.2, Int.toNat_natCast]
          have hlt2 : upN l b &&& mask.toNat < 256 := zdf hltb
          rw [hand, Bool.eq_iff_iff, decide_eq_true_eq, zbi (by omega) (by omega) (by omega) (by omega), List.all_eq_true]
          simp only [Int.toNat_natCast, Nat.testBit_and, hmask, ze3]
          constructor
          . intro h i hi
            have := h i
            have hi' : i < l.Names.length := by simpa using hi
            cases e : up l b i with
            | false => rfl
            | true => rw [e] at this; simpa [hi'] using this
          . intro h i hi
            simp only [Bool.and_eq_true, decide_eq_true_eq] at hi
            have := h i (by simpa using hi.2)
            rw [hi.1] at this; simpa using this
         simp only [hnot]
         have hlast : decide ((b : Int) = (l.Names.length : Int) - 1) = decide (b + 1 = l.Names.length) := by
          rw [Bool.eq_iff_iff, decide_eq_true_eq, decide_eq_true_eq]; omega
         simp only [hlast]
         unfold zgl
         cases e3 : up l a b with
         | false => by_cases hl : b + 1 = l.Names.length <;> simp [hl]
         | true =>
           by_cases hba : b = a
           . subst hba
             have d2 : decide ((b : Int) = (b : Int)) = true := by simp
             cases (List.range l.Names.length).all fun i => !up l b i || up l b i with
             | false => by_cases hl : b + 1 = l.Names.length <;> simp [hl]
             | true => by_cases hl : b + 1 = l.Names.length <;> simp [hl]
           . have d2 : decide ((b : Int) = (a : Int)) = false := by simp; omega
             have d3 : decide (b = a) = false := by simp [hba]
             simp only [d2, d3]
             cases up l b a with
             | true => by_cases hl : b + 1 = l.Names.length <;> simp [hl]
             | false =>
               cases (List.range l.Names.length).all fun i => !up l b i || up l a i with
               | false => by_cases hl : b + 1 = l.Names.length <;> simp [hl]
               | true => by_cases hl : b + 1 = l.Names.length <;> simp [hl]
theorem zbu {l : TL} (h : LatIn l) : qy l = zhc l := by
 unfold qy; rw [zqj l h.u8 h.names h.name]; rfl
open Go
theorem zi2 {l : TL} (h : LatIn l) (a b : Int) : zma l a b = some (zc0 l [a, b]) := by
 unfold zma zc0
 rw [xA l h.u8 h.names h.name, zbu h]
 simp only [Option.bind_some, List.length_map, List.all_cons, List.all_nil, Bool.and_true]
 by_cases h0 : (zhc l).2 = 0
 . simp only [h0, decide_true, cond_true, if_true]
   unfold wt
   by_cases a1 : a < 0
   . have : ¬ 0 <= a := by omega
     simp [a1, this]
   by_cases a2 : (l.Names.length : Int) <= a
   . have : ¬ a < (l.Names.length : Int) := by omega
     simp [a1, a2, this]
   by_cases b1 : b < 0
   . have : ¬ 0 <= b := by omega
     simp [a1, a2, b1, this]
   by_cases b2 : (l.Names.length : Int) <= b
   . have : ¬ b < (l.Names.length : Int) := by omega
     simp [a1, a2, b1, b2, this]
   have a1' : 0 <= a := by omega
   have a2' : a < (l.Names.length : Int) := by omega
   have b1' : 0 <= b := by omega
   have b2' : b < (l.Names.length : Int) := by omega
   simp [a1, a2, b1, b2, a1', a2', b1', b2']
 . simp [h0]
open Go
theorem zzk {g : Nat -> Nat} {n a b c : Nat} (h : bnd g n a b = some c) : c < n /\ g c = g a &&& g b := by
 have key : ∀ {j k : Nat}, zx (fun c => if g c = g a &&& g b then some c else none) k j = some c -> c < k + j /\ g c = g a &&& g b := by
  intro j
  induction j with
  | zero => intro k h; cases h
  | succ j ih =>
    intro k h
    simp only [zx] at h
    split at h
    . rename_i r hr
      cases h
      split at hr
      . rename_i hh; cases hr; exact ⟨by omega, hh⟩
      . cases hr
    . have := ih h
      exact ⟨by omega, this.2⟩
 have := key h
 simpa using this
theorem zd0 {l : TL} (h : LatIn l) (k : (qy l).2 = 0) : (∀ a, a < l.Names.length -> xr l a = true) /\ ∀ a b, a < l.Names.length -> b < l.Names.length -> wM l a b = false := by
 rw [zbu h] at k
 unfold zhc at k
 split at k
 case isFalse h0 => exact absurd k h0
 split at k
 case isFalse => cases k
 split at k
 case h_1 r hr =>
  exfalso
  have key : ∀ {j k : Nat}, zx (fun a => if xr l a = true then none else some ((a : Int), (6 : Int))) k j = some r -> r.2 = 6 := by
   intro j
   induction j with
   | zero => intro k h; cases h
   | succ j ih =>
     intro k h
     simp only [zx] at h
     split at h
     . rename_i r' hr'
       cases h
       split at hr'
       . cases hr'
       . cases hr'; rfl
     . exact ih h
  rw [key hr] at k; cases k
 case h_2 hord =>
  have key2 : ∀ {a j k : Nat} {r : Int × Int}, zx (fun b => if wM l a b = true then some ((a : Int), (4 : Int)) else none) k j = some r -> r.2 = 4 := by
   intro a j
   induction j with
   | zero => intro k r h; cases h
   | succ j ih =>
     intro k r h
     simp only [zx] at h
     split at h
     . rename_i r' hr'
       cases h
       split at hr'
       . cases hr'; rfl
       . cases hr'
     . exact ih h
  have key : ∀ {j k : Nat} {r : Int × Int}, zx (fun a => zx (fun b => if wM l a b = true then some ((a : Int), (4 : Int)) else none) 0 l.Names.length) k j = some r -> r.2 = 4 := by
   intro j
   induction j with
   | zero => intro k r h; cases h
   | succ j ih =>
     intro k r h
     simp only [zx] at h
     split at h
     . rename_i r' hr'
       cases h
       exact key2 hr'
     . exact ih h
  cases hs : zx (fun a => zx (fun b => if wM l a b = true then some ((a : Int), (4 : Int)) else none) 0 l.Names.length) 0 l.Names.length with
  | some r =>
    rw [hs] at k
    have := key hs
    simp only [Option.getD_some] at k
    rw [this] at k; cases k
  | none =>
    refine ⟨fun a ha => ?_, fun a b ha hb => ?_⟩
    . have h1 := scan_none.1 hord a (by omega) (by omega)
      split at h1
      . assumption
      . cases h1
    . have h1 := scan_none.1 (scan_none.1 hs a (by omega) (by omega)) b (by omega) (by omega)
      split at h1
      . cases h1
      . rename_i h2; simpa using h2
theorem zot {l : TL} (h : LatIn l) (k : (qy l).2 = 0) {a b : Nat} (ha : a < l.Names.length) (hb : b < l.Names.length) : ∃ c, bnd (dnN l) l.Names.length a b = some c /\ c < l.Names.length /\ dnN l c = dnN l a &&& dnN l b := by
 have h2 := (zd0 h k).2 a b ha hb
 unfold wM at h2
 cases e : bnd (dnN l) l.Names.length a b with
 | none => rw [e] at h2; simp at h2
 | some c => exact ⟨c, rfl, zzk e⟩
theorem zw3 {l : TL} (ok : LatOK l) {a b c : Nat} (ha : a < l.Names.length) (hb : b < l.Names.length) (hc : c < l.Names.length) (h1 : up l a b = true) (h2 : up l b c = true) : up l a c = true := (ok.row a ha b hb h1).2 c hc h2
theorem zBw {l : TL} {b i : Nat} : (dnN l b).testBit i = (decide (i < l.Names.length) && up l i b) := zpd l b l.Names.length i
theorem zh3 {l : TL} {a b c i : Nat} (hi : i < l.Names.length) (hg : dnN l c = dnN l a &&& dnN l b) : up l i c = (up l i a && up l i b) := by
 have h1 := congrArg (fun x => x.testBit i) hg
 simp only [Nat.testBit_and, zBw, hi, decide_true, Bool.true_and] at h1
 exact h1
theorem zA9 {l : TL} (ok : LatOK l) {a b : Nat} (ha : a < l.Names.length) (hb : b < l.Names.length) (h1 : up l a b = true) (h2 : up l b a = true) : a = b := by
 by_cases e : b = a
 . exact e.symm
 . have := (ok.row a ha b hb h1).1 e
   rw [h2] at this; cases this
theorem zBd {l : TL} (h : LatIn l) (k : (qy l).2 = 0) : ∃ t, t < l.Names.length /\ ∀ a, a < l.Names.length -> up l t a = true := by
 have ok := wR h k
 have key : ∀ j, j <= l.Names.length -> ∃ t, t < l.Names.length /\ ∀ a, a < j -> up l t a = true := by
  intro j
  induction j with
  | zero => intro _; exact ⟨0, ok.pos, fun a ha => absurd ha (by omega)⟩
  | succ j ih =>
    intro hj
    obtain ⟨t, ht, hall⟩ := ih (by omega)
    obtain ⟨c, _, hc, hg⟩ := zot h k ht (show j < l.Names.length by omega)
    have hcc := ok.self c hc
    rw [zh3 hc hg, Bool.and_eq_true] at hcc
    refine ⟨c, hc, fun a ha => ?_⟩
    rcases Nat.lt_or_ge a j with g | g
    . exact zw3 ok hc ht (by omega) hcc.1 (hall a g)
    . have : a = j := by omega
      subst this; exact hcc.2
 exact key _ (Nat.le_refl _)
def qN (l : TL) : Nat := ((List.range l.Names.length).find? fun b => (List.range l.Names.length).all fun a => up l b a).getD 0
theorem zgt {l : TL} (h : LatIn l) (k : (qy l).2 = 0) : qN l < l.Names.length /\ ∀ a, a < l.Names.length -> up l (qN l) a = true := by
 obtain ⟨t, ht, hall⟩ := zBd h k
 unfold qN
 cases e : (List.range l.Names.length).find? fun b => (List.range l.Names.length).all fun a => up l b a with
 | none =>
   have := List.find?_eq_none.1 e t (by simpa using ht)
   exact absurd (by simp only [List.all_eq_true, List.mem_range]; exact hall) this
 | some b =>
   have h1 := List.find?_some e
   have h2 := List.mem_of_find?_eq_some e
   simp only [List.all_eq_true, List.mem_range] at h1 h2
   exact ⟨h2, h1⟩
theorem zwv {l : TL} (h : LatIn l) (k : (qy l).2 = 0) {b : Nat} (hb : b < l.Names.length) (hall : ∀ a, a < l.Names.length -> up l b a = true) : b = qN l := by
 obtain ⟨h1, h2⟩ := zgt h k
 exact zA9 (wR h k) hb h1 (hall _ h1) (h2 _ hb)
theorem zzh {l : TL} (h : LatIn l) (k : (qy l).2 = 0) {b : Nat} (hb : b < l.Names.length) : upN l b = 2 ^ l.Names.length - 1 ↔ b = qN l := by
 have h1 := (zd0 h k).1 b hb
 unfold xr at h1
 simp only [Bool.and_eq_true, decide_eq_true_eq] at h1
 constructor
 . intro e
   refine zwv h k hb fun a ha => ?_
   rw [<- ze3, e, Nat.testBit_two_pow_sub_one]
   simpa using ha
 . rintro rfl
   have h2 := (zgt h k).2
   refine Nat.eq_of_testBit_eq fun i => ?_
   rw [Nat.testBit_two_pow_sub_one]
   rcases Nat.lt_or_ge i l.Names.length with g | g
   . rw [ze3, h2 i g]; simp [g]
   . rw [Nat.testBit_lt_two_pow (Nat.lt_of_lt_of_le h1.1.1 (Nat.pow_le_pow_right (by omega) g))]
     simp; omega
open Go
theorem zof (s : List UInt8) (c : Int) : zdi s c = some (Go.Lib.indexByte s c.toNat.toUInt8) := by
 unfold zdi qk
 rfl
theorem zat (r : Int) (h0 : 0 <= r) (h1 : r < 256) : xL [] r = some false := by
 unfold xL
 have key : Tot (zjz [] r) fun x => x < 0 := by
  unfold zjz
  have e0 : decide (0 <= r) = true := by simp [h0]
  simp only [e0, cond_true]
  rw [zF]
  refine ⟨fun _ => ?_, fun h2 => ?_⟩
  . rw [zN, zu, zof]
    simp only [tot_some]
    simp [Go.Lib.indexByte]
  . simp only [decide_eq_false_iff_not] at h2
    obtain ⟨x, y, exy, hy⟩ := zwh (r := r) (by omega) h1
    have e1 : decide (r = 65533) = false := by simp; omega
    simp only [e1, cond_false, exy]
    rw [zu]
    refine (za4 r).mono fun v _ => ?_
    rw [zF]
    refine ⟨fun _ => .mk (by decide), fun _ => ?_⟩
    rw [zN]
    have e2 : IntKind.wrap .i64 (((List.length [x, y] : Nat) : Int) - 1) = 1 := rfl
    rw [e2, zu]
    refine Tot.loop (fun _ => 0) (fun _ => True) (fun _ _ => ?_) trivial
    rw [zF]
    refine ⟨fun h3 => ?_, fun _ => ?_⟩
    . simp only [decide_eq_true_eq, List.length_nil] at h3
      exact absurd h3 (by decide)
    . simp only [tot_some, Sum.elim_inr, Sum.elim_inl]
      decide
 obtain ⟨x, e, hx⟩ := key
 rw [e]
 have : decide (0 <= x) = false := by simp; omega
 simp [this]
theorem zn3 (r : Int) (h0 : 0 <= r) (h1 : r < 256) : zac r = some true := by
 unfold zac
 have e0 : decide (0 <= r) = true := by simp [h0]
 have e1 : decide (r < 55296) = true := by simp; omega
 simp only [e0, e1, cond_true]
theorem zqd (r : Int) (h0 : 0 <= r) (h1 : r < 256) : zus r = some true := by
 unfold zus
 simp only [zg, zp6 h0 h1]
 rw [w64 (by omega) (by omega)]
 simp [zn3 r h0 h1]
def yJ (c : UInt8) : Bool := decide (97 <= c.toNat) && decide (c.toNat <= 122)
def xC (c : UInt8) : Bool := decide (48 <= c.toNat) && decide (c.toNat <= 57)
theorem zqs {cs : List (List UInt8)} (hcs : cs.length = 10) (h : ∀ s ∈ cs, s.length <= 1000 /\ ∀ c ∈ s, c.toNat < 128) (h6 : cs[6]? = some []) (h8 : cs[8]? = some []) (r : Int) (h0 : 0 <= r) (h1 : r < 256) {Q : Unit ⊕ (Int × Int) -> Prop} (hQ : Q (.inl ())) (hQ' : ∀ x, x ≠ 6 -> x ≠ 8 -> Q (.inr (x, 0))) :
 Tot (lpO (fun (s : Int) => cond (decide (s < 10)) (zh cs s fun x => zg (IntKind.wrap IntKind.i32 r) fun y => Option.bind (xL x y) fun z => cond z (some (Sum.inr (Sum.inr (s, (0 : Int))))) (zg (IntKind.wrap IntKind.i64 (s + 1)) fun u => some (Sum.inl u))) (some (Sum.inr (Sum.inl ())))) 0) Q := by
 refine Tot.count 10 (fun k s => s = (k : Int)) ?_ rfl
 rintro k _ hk rfl
 simp only [zF, tot_some, zN, qn, zu, Sum.elim_inl, Sum.elim_inr, decide_eq_true_eq, decide_eq_false_iff_not, Int.toNat_natCast]
 refine ⟨fun hlt => ?_, fun _ => hQ⟩
 obtain ⟨x, hx⟩ := zv (l := cs) (i := k) (by omega)
 have hx' := h x (List.mem_of_getElem? hx)
 refine ⟨by omega, x, hx, ?_⟩
 rw [zp6 h0 h1]
 have nx : k < 10 /\ IntKind.wrap .i64 ((k : Int) + 1) = ((k + 1 : Nat) : Int) := by
  rw [w64 (by omega) (by omega)]; exact ⟨by omega, by omega⟩
 by_cases g6 : k = 6
 . subst g6
   rw [h6] at hx; cases hx
   rw [zat r h0 h1, tot_some]
   exact ⟨fun e => (by cases e), fun _ => nx⟩
 by_cases g8 : k = 8
 . subst g8
   rw [h8] at hx; cases hx
   rw [zat r h0 h1, tot_some]
   exact ⟨fun e => (by cases e), fun _ => nx⟩
 refine (zd4 x r hx'.2 hx'.1 h0 h1).mono fun _ _ => ⟨fun _ => hQ' _ (by omega) (by omega), fun _ => nx⟩
theorem zcs (c : UInt8) : Tot (zec (IntKind.wrap .i64 (c.toNat : Int))) fun x => (decide (x.1 = 8) = yJ c) /\ (decide (x.1 = 6) = xC c) := by
 have hc := c.toNat_lt
 rw [w64 (by omega) (by omega)]
 have h0 : (0 : Int) <= c.toNat := by omega
 have h1 : (c.toNat : Int) < 256 := by omega
 unfold zec zf2 yJ xC
 rw [zqd _ h0 h1]
 simp only [Option.bind_some, Bool.not_true, cond_false]
 have L : ¬ (48 <= c.toNat /\ c.toNat <= 57) -> ¬ (97 <= c.toNat /\ c.toNat <= 122) -> _ := fun d1 d2 => zqs (cs := [[], [32], [10], [40, 91], [41, 93], [34], [], [45], [], [60, 61]]) rfl (by decide) rfl rfl c.toNat h0 h1 (Q := fun a => Tot (Sum.elim (fun _ => some ((10 : Int), (0 : Int))) some a) fun (x : Int × Int) => (decide (x.1 = 8) = (decide (97 <= c.toNat) && decide (c.toNat <= 122))) /\ (decide (x.1 = 6) = (decide (48 <= c.toNat) && decide (c.toNat <= 57))))
  (.mk (by
    have a1 : (decide (97 <= c.toNat) && decide (c.toNat <= 122)) = false := by simp; omega
    have a2 : (decide (48 <= c.toNat) && decide (c.toNat <= 57)) = false := by simp; omega
    rw [a1, a2]; exact ⟨rfl, rfl⟩)) (fun x e6 e8 => .mk (by
    have a1 : (decide (97 <= c.toNat) && decide (c.toNat <= 122)) = false := by simp; omega
    have a2 : (decide (48 <= c.toNat) && decide (c.toNat <= 57)) = false := by simp; omega
    rw [a1, a2]; simp [e6, e8]))
 simp only [zF, tot_some, zu, decide_eq_true_eq, decide_eq_false_iff_not]
 have six : 48 <= c.toNat -> c.toNat <= 57 -> decide ((6 : Int) = 8) = (decide (97 <= c.toNat) && decide (c.toNat <= 122)) /\ decide ((6 : Int) = 6) = (decide (48 <= c.toNat) && decide (c.toNat <= 57)) := by
  intro d1 d2
  have a1 : (decide (97 <= c.toNat) && decide (c.toNat <= 122)) = false := by simp; omega
  have a2 : (decide (48 <= c.toNat) && decide (c.toNat <= 57)) = true := by simp; omega
  rw [a1, a2]; exact ⟨rfl, rfl⟩
 have eight : 97 <= c.toNat -> c.toNat <= 122 -> decide ((8 : Int) = 8) = (decide (97 <= c.toNat) && decide (c.toNat <= 122)) /\ decide ((8 : Int) = 6) = (decide (48 <= c.toNat) && decide (c.toNat <= 57)) := by
  intro d1 d2
  have a1 : (decide (97 <= c.toNat) && decide (c.toNat <= 122)) = true := by simp; omega
  have a2 : (decide (48 <= c.toNat) && decide (c.toNat <= 57)) = false := by simp; omega
  rw [a1, a2]; exact ⟨rfl, rfl⟩
 refine ⟨fun d1 => ⟨fun d2 => six (by omega) (by omega), fun d2 => ⟨fun d3 => ⟨fun d4 => eight (by omega) (by omega), fun d4 => L (by omega) (by omega)⟩, fun d3 => L (by omega) (by omega)⟩⟩, fun d1 => ⟨fun d3 => ⟨fun d4 => eight (by omega) (by omega), fun d4 => L (by omega) (by omega)⟩, fun d3 => L (by omega) (by omega)⟩⟩
def wX (s : List UInt8) : Bool := (match s with | [] => false | c :: _ => yJ c) && s.all fun c => yJ c || xC c
theorem zhd {s : List UInt8} {p : UInt8 -> Bool} {k : Nat} {c : UInt8} (h : (s.take k).all p = true) (hc : s[k]? = some c) (hp : p c = true) : (s.take (k + 1)).all p = true := by
 rw [List.take_add_one, hc, List.all_append, h]
 simp [hp]
theorem zid (s : List UInt8) (h : s.length <= 1000000) : Tot (ztr (TK.mk 1 0 0 0 s)) fun x => decide (x = 0) = (wX s && decide (s.length <= 16)) := by
 unfold ztr
 dsimp only
 have e2 : decide ((1 : Int) < 1) = false := rfl
 have e3 : decide ((9 : Int) < 1) = false := rfl
 simp only [e2, e3, decide_true, cond_true, cond_false, Option.bind_some, Sum.elim_inl, Bool.and_self, Bool.not_true]
 rw [zu]
 have Qn : ∀ x : Int, wX s = false -> Tot (Sum.elim (fun (n : Int) => cond (decide (n < (s.length : Int))) (some (3 : Int)) (some (0 : Int))) some (Sum.inr 6 : Int ⊕ Int)) fun x => decide (x = 0) = (wX s && decide (s.length <= 16)) := by
  intro _ e
  rw [e]; exact .mk rfl
 have Qy : wX s = true -> Tot (Sum.elim (fun (n : Int) => cond (decide (n < (s.length : Int))) (some (3 : Int)) (some (0 : Int))) some (Sum.inl 16 : Int ⊕ Int)) fun x => decide (x = 0) = (wX s && decide (s.length <= 16)) := by
  intro e
  rw [e]
  simp only [Sum.elim_inl, zF, tot_some, decide_eq_true_eq, decide_eq_false_iff_not]
  refine ⟨fun g => ?_, fun g => ?_⟩
  . have : decide (s.length <= 16) = false := by simp; omega
    rw [this]; rfl
  . have : decide (s.length <= 16) = true := by simp; omega
    rw [this]; rfl
 rw [zF]
 refine ⟨fun h1 => ?_, fun h1 => ?_⟩
 . simp only [tot_some]
   refine Qn 0 ?_
   have : s = [] := List.length_eq_zero_iff.1 (by simpa using h1)
   rw [this]; rfl
 simp only [decide_eq_false_iff_not] at h1
 obtain ⟨c, hc⟩ := zv (l := s) (i := 0) (by omega)
 have hs0 : ∃ r, s = c :: r := by
  cases s with
  | nil => simp at hc
  | cons a r => simp at hc; exact ⟨r, by rw [hc]⟩
 have e0 : (0 : Int).toNat = 0 := rfl
 simp only [qn, zN, zu, e0]
 refine ⟨by omega, c, hc, (zcs c).mono fun x hx => ?_⟩
 rw [zF]
 refine ⟨fun g => ?_, fun g => ?_⟩
 . simp only [tot_some]
   refine Qn 0 ?_
   obtain ⟨r, rfl⟩ := hs0
   have : yJ c = false := by rw [<- hx.1]; simpa using g
   unfold wX; simp [this]
 have hlow : yJ c = true := by rw [<- hx.1]; simpa using g
 simp only [qn, zN, zu, e0]
 refine ⟨by omega, c, hc, (zcs c).mono fun y hy => ?_⟩
 refine Tot.loop (fun (p : Int × Int) => s.length - p.2.toNat) (fun (p : Int × Int) => 0 <= p.2 /\ p.2 <= (s.length : Int) /\ (s.take p.2.toNat).all (fun c => yJ c || xC c) = true /\ ((p.2 = (s.length : Int) /\ p.1 = 10) \/ ∃ d, s[p.2.toNat]? = some d /\ decide (p.1 = 8) = yJ d /\ decide (p.1 = 6) = xC d)) ?_ ⟨by simp, by simp, by simp, .inr ⟨c, by simpa using hc, hy⟩⟩
 rintro ⟨k, a⟩ ⟨h2, h3, hall, h4⟩
 simp only at h2 h3 hall h4
 have round : (k = 8 \/ k = 6) -> ∀ {Q : (Bool × Int × Int) ⊕ (Int ⊕ Int) -> Prop}, Tot (zg (IntKind.wrap .i64 (a + 1)) fun (u : Int) => cond (decide ((s.length : Int) <= u)) (some (Sum.inl ((10 : Int), u))) (zh s u fun (v : UInt8) => zg (IntKind.wrap .i64 (v.toNat : Int)) fun (z : Int) => Option.bind (zec z) fun r => some (Sum.inl (r.1, u)))) (Sum.elim (fun (s' : Int × Int) => (0 <= s'.2 /\ s'.2 <= (s.length : Int) /\ (s.take s'.2.toNat).all (fun c => yJ c || xC c) = true /\ ((s'.2 = (s.length : Int) /\ s'.1 = 10) \/ ∃ d, s[s'.2.toNat]? = some d /\ decide (s'.1 = 8) = yJ d /\ decide (s'.1 = 6) = xC d)) /\ s.length - s'.2.toNat < s.length - a.toNat) Q) := by
  intro hk Q
  rcases h4 with ⟨g1, g2⟩ | ⟨d, hd, d1, d2⟩
  . omega
  have hlt : a.toNat < s.length := by
   rcases Nat.lt_or_ge a.toNat s.length with g | g
   . exact g
   . rw [List.getElem?_eq_none g] at hd; cases hd
  have hp : (yJ d || xC d) = true := by
   rw [<- d1, <- d2]
   rcases hk with rfl | rfl <;> rfl
  have e1 : (a + 1).toNat = a.toNat + 1 := by omega
  have hall' : (s.take (a + 1).toNat).all (fun c => yJ c || xC c) = true := by rw [e1]; exact zhd hall hd hp
  rw [zN, w64 (by omega) (by omega), zF]
  refine ⟨fun g => ?_, fun g => ?_⟩
  . simp only [decide_eq_true_eq] at g
    simp only [tot_some, Sum.elim_inl]
    exact ⟨⟨by omega, by omega, hall', .inl ⟨by omega, trivial⟩⟩, by omega⟩
  . simp only [decide_eq_false_iff_not] at g
    obtain ⟨d', hd'⟩ := zv (l := s) (i := (a + 1).toNat) (by omega)
    simp only [qn, zN, zu]
    refine ⟨by omega, d', hd', (zcs d').mono fun z hz => ?_⟩
    simp only [tot_some, Sum.elim_inl]
    exact ⟨⟨by omega, by omega, hall', .inr ⟨d', hd', hz⟩⟩, by omega⟩
 rw [zF]
 refine ⟨fun g => round (.inl (by simpa using g)), fun g => ?_⟩
 rw [zF]
 refine ⟨fun g' => round (.inr (by simpa using g')), fun g' => ?_⟩
 simp only [tot_some, Sum.elim_inr, Sum.elim_inl, qF, zF, e0, List.drop_zero]
 refine ⟨by omega, fun hne => ?_, fun heq => ?_⟩
 . refine (tot_some (Q := fun x => decide (x = 0) = (wX s && decide (s.length <= 16)))).1 (Qn 0 ?_)
   rcases h4 with ⟨g1, _⟩ | ⟨d, hd, d1, d2⟩
   . exfalso
     have : a.toNat = s.length := by omega
     rw [this, List.take_length] at hne
     simp at hne
   . unfold wX
     have : (s.all fun c => yJ c || xC c) = false := by
      rw [List.all_eq_false]
      refine ⟨d, List.mem_of_getElem? hd, ?_⟩
      rw [<- d1, <- d2, g, g']
      simp
     rw [this, Bool.and_false]
 . have ht : s.take a.toNat = s := by simpa using heq
   rw [ht] at hall
   have hw : wX s = true := by
    unfold wX
    obtain ⟨r, rfl⟩ := hs0
    simp only [hall, hlow, Bool.and_self]
   rw [hw]
   refine ⟨fun g => ?_, fun g => ?_⟩
   . have : decide (s.length <= 16) = false := by simp at g ⊢; omega
     rw [this]; rfl
   . have : decide (s.length <= 16) = true := by simp at g ⊢; omega
     rw [this]; rfl
open Go
theorem znv (c : UInt8) : zhr (c.toNat : Int) = some (yJ c) := by
 unfold zhr yJ
 by_cases h : 97 <= c.toNat
 . have : decide ((97 : Int) <= (c.toNat : Int)) = true := by simp; omega
   rw [this]
   simp only [cond_true, h, decide_true, Bool.true_and, Option.some.injEq]
   rw [Bool.eq_iff_iff]; simp; omega
 . have : decide ((97 : Int) <= (c.toNat : Int)) = false := by simp; omega
   rw [this]
   simp [h]
theorem zBe (c : UInt8) : zmc (c.toNat : Int) = some (xC c) := by
 unfold zmc xC
 by_cases h : 48 <= c.toNat
 . have : decide ((48 : Int) <= (c.toNat : Int)) = true := by simp; omega
   rw [this]
   simp only [cond_true, h, decide_true, Bool.true_and, Option.some.injEq]
   rw [Bool.eq_iff_iff]; simp; omega
 . have : decide ((48 : Int) <= (c.toNat : Int)) = false := by simp; omega
   rw [this]
   simp [h]
theorem zA7 (s : List UInt8) (h : s.length <= 1000000) : uI s = some (wX s) := by
 unfold uI
 cases s with
 | nil => rfl
 | cons c r =>
   have e1 : decide (c :: r = (ByteArray.mk #[]).data.toList) = false := by
    exact decide_eq_false (fun e => by cases (show c :: r = [] from e))
   rw [e1]
   apply Tot.eq
   have e0 : (0 : Int).toNat = 0 := rfl
   simp only [cond_false, qn, e0, zu]
   refine ⟨by omega, c, rfl, ?_⟩
   rw [znv, tot_some, zF]
   refine ⟨fun g => ?_, fun g => ?_⟩
   . have : yJ c = false := by simpa using g
     simp [tot_some, wX, this]
   have hl : yJ c = true := by simpa using g
   rw [zu]
   refine Tot.count (c :: r).length (fun k s => s = (k : Int) /\ ((c :: r).take k).all (fun c => yJ c || xC c) = true) ?_ ⟨rfl, by simp⟩
   rintro k _ hk ⟨rfl, hall⟩
   simp only [zF, tot_some, zN, qn, zu, Sum.elim_inl, Sum.elim_inr, decide_eq_true_eq, decide_eq_false_iff_not, Int.toNat_natCast]
   refine ⟨fun hlt => ?_, fun hge => ?_⟩
   . obtain ⟨d, hd⟩ := zv (l := c :: r) (i := k) (by omega)
     refine ⟨by omega, d, hd, ?_⟩
     rw [znv, tot_some]
     have nx : k < (c :: r).length /\ IntKind.wrap .i64 ((k : Int) + 1) = ((k + 1 : Nat) : Int) := by
      rw [w64 (by omega) (by omega)]; exact ⟨by omega, by omega⟩
     refine ⟨fun g1 => ⟨by omega, d, hd, ?_⟩, fun g1 => ⟨nx.1, nx.2, zhd hall hd (by simp at g1; simp [g1])⟩⟩
     rw [zBe, tot_some]
     refine ⟨fun g2 => ?_, fun g2 => ⟨nx.1, nx.2, zhd hall hd (by simp at g2; simp [g2])⟩⟩
     have : ((c :: r).all fun c => yJ c || xC c) = false := by
      rw [List.all_eq_false]
      refine ⟨d, List.mem_of_getElem? hd, ?_⟩
      simp at g1 g2
      simp [g1, g2]
     unfold wX
     rw [this, Bool.and_false]
   . rw [List.take_of_length_le (by omega)] at hall
     unfold wX
     rw [hall]
     show true = (yJ c && true)
     rw [hl]; rfl
theorem zCp (s : List UInt8) (h : s.length <= 1000000) : Tot (zmz (TK.mk 1 0 0 0 s)) fun x => decide (x = 0) = (wX s && decide (s.length <= 16)) := by
 unfold zmz
 dsimp only
 have e2 : decide ((1 : Int) < 1) = false := rfl
 have e3 : decide ((9 : Int) < 1) = false := rfl
 have e4 : decide ((1 : Int) = 2) = false := rfl
 simp only [e2, e3, e4, decide_true, cond_true, cond_false, Bool.not_true, Bool.not_false, zA7 s h, Option.bind_some, zF, tot_some]
 refine ⟨fun g => ?_, fun g => ?_⟩
 . have : wX s = false := by simpa using g
   rw [this]; rfl
 . have : wX s = true := by simpa using g
   rw [this]
   refine ⟨fun g => ?_, fun g => ?_⟩
   . have : decide (s.length <= 16) = false := by simp at g ⊢; omega
     rw [this]; rfl
   . have : decide (s.length <= 16) = true := by simp at g ⊢; omega
     rw [this]; rfl
def primN : List (List UInt8) := [[110, 101, 103], [97, 98, 115], [110, 111, 116], [115, 104, 97, 112, 101], [114, 97, 118, 101, 108], [114, 101, 118, 101, 114, 115, 101], [102, 108, 105, 112], [105, 111, 116, 97], [115, 117, 109], [108, 101, 97, 115, 116], [109, 111, 115, 116], [99, 111, 117, 110, 116], [115, 99, 97, 110], [103, 114, 97, 100, 101], [97, 100, 100], [115, 117, 98], [109, 117, 108], [100, 105, 118], [109, 111, 100], [112, 108, 117, 115], [109, 105, 110, 117, 115], [116, 105, 109, 101, 115], [101, 113], [110, 101], [108, 116], [108, 101], [103, 116], [103, 101], [97, 110, 100], [111, 114], [109, 105, 110], [109, 97, 120], [116, 97, 107, 101], [100, 114, 111, 112], [102, 105, 108, 108], [103, 114, 105, 100], [99, 97, 116], [97, 116], [105, 110], [112, 105, 99, 107]]
theorem zim (s : List UInt8) : Tot (znn s) fun x => decide (x.2 = 0) = decide (s ∈ primN) := by
 by_cases hm : s ∈ primN
 . have h2 : ∀ t ∈ primN, ∃ x, znn t = some x /\ decide (x.2 = 0) = true := by
    unfold primN
    simp only [List.forall_mem_cons]
    repeat' constructor
    intro t ht; cases ht
   obtain ⟨x, e, hx⟩ := h2 s hm
   exact ⟨x, e, by show decide (x.2 = 0) = _; rw [hx]; simp [hm]⟩
 . have hd : decide (s ∈ primN) = false := by simp [hm]
   rw [hd]
   unfold znn
   unfold primN at hm
   simp only [List.mem_cons, List.not_mem_nil, or_false, not_or] at hm
   have sw : ∀ n : List UInt8, (n = s) = (s = n) := fun n => propext eq_comm
   simp only [sw, hm, decide_false, cond_false, Option.bind_some, Sum.elim_inl, tot_some]
   rfl
theorem zlw (s : List UInt8) : Tot (zl8 s) fun x => decide (x.2 = 0) = decide (s ∈ primN) := by
 unfold zl8 zme
 simp only [Option.bind_some]
 change Tot (Option.bind (lpO (fun (k : Int) => cond (decide (k < ((List.length (List.map SV.str primN) : Nat) : Int))) (zh primN k _) _) 0) _) _
 rw [zu]
 have hn : (List.map SV.str primN).length = 40 := rfl
 have hn' : primN.length = 40 := rfl
 rw [hn]
 refine Tot.count 40 (fun k x => x = (k : Int) /\ s ∉ primN.take k) ?_ ⟨rfl, by simp⟩
 rintro k _ hk ⟨rfl, hmem⟩
 simp only [zF, tot_some, zN, qn, zu, Sum.elim_inl, Sum.elim_inr, decide_eq_true_eq, decide_eq_false_iff_not, Int.toNat_natCast]
 refine ⟨fun hlt => ?_, fun hge => ?_⟩
 . obtain ⟨x, hx⟩ := zv (l := primN) (i := k) (by omega)
   refine ⟨by omega, x, hx, fun g => ?_, fun g => ?_⟩
   . subst g
     have := List.mem_of_getElem? hx
     simp [this]
   . rw [w64 (by omega) (by omega), List.take_add_one, hx]
     refine ⟨by omega, by omega, fun hm => ?_⟩
     rcases List.mem_append.1 hm with hm | hm
     . exact hmem hm
     . simp at hm; exact g hm.symm
 . rw [List.take_of_length_le (by omega)] at hmem
   simp [hmem]
def resN : List (List UInt8) := [[118, 97, 114], [100, 101, 102], [111, 117, 116], [105, 102], [101, 108, 115, 101], [119, 104, 105, 108, 101], [101, 110, 100], [114, 101, 108, 101, 97, 115, 101], [105, 110, 116], [99, 104, 97, 114]]
def exN (s : List UInt8) : Bool := !decide (s ∈ resN) && !decide (s ∈ primN) && (wX s && decide (s.length <= 16))
theorem zbv (s : List UInt8) (h : s.length <= 1000000) : zi3 s = some (exN s) := by
 apply Tot.eq
 unfold exN
 by_cases hm : s ∈ resN
 . have h2 : ∀ t ∈ resN, zi3 t = some false := by
    unfold resN
    simp only [List.forall_mem_cons]
    repeat' constructor
    intro t ht; cases ht
   rw [h2 s hm, tot_some]
   simp [hm]
 . have hd : decide (s ∈ resN) = false := by simp [hm]
   rw [hd]
   unfold zi3
   unfold resN at hm
   simp only [List.mem_cons, List.not_mem_nil, or_false, not_or] at hm
   change Tot (cond (decide (s = [118, 97, 114])) _ (cond (decide (s = [100, 101, 102])) _ (cond (decide (s = [111, 117, 116])) _ (cond (decide (s = [105, 102])) _ (cond (decide (s = [101, 108, 115, 101])) _ (cond (decide (s = [119, 104, 105, 108, 101])) _ (cond (decide (s = [101, 110, 100])) _ (cond (decide (s = [114, 101, 108, 101, 97, 115, 101])) _ (cond (decide (s = [105, 110, 116])) _ (cond (decide (s = [99, 104, 97, 114])) _ _)))))))))) _
   simp only [hm, decide_false, cond_false, zu]
   refine (zim s).mono fun x hx => ?_
   rw [hx, zF]
   refine ⟨fun g => ?_, fun g => ?_⟩
   . rw [g]; exact .mk rfl
   . rw [g, zu]
     refine (zid s h).mono fun y hy => .mk ?_
     rw [hy]; rfl
theorem zlx (s : List UInt8) : zmb s = some (decide (s ∈ resN)) := by
 unfold zmb
 apply Tot.eq
 change Tot (Option.bind (lpO (fun (k : Int) => cond (decide (k < ((10 : Nat) : Int))) (zk (0 <= k /\ k < ((10 : Nat) : Int)) (zh resN ((k.toNat : Nat) : Int) _)) _) 0) _) _
 rw [zu]
 have hn' : resN.length = 10 := rfl
 refine Tot.count 10 (fun k x => x = (k : Int) /\ s ∉ resN.take k) ?_ ⟨rfl, by simp⟩
 rintro k _ hk ⟨rfl, hmem⟩
 simp only [zF, tot_some, zN, qn, qF, zu, Sum.elim_inl, Sum.elim_inr, decide_eq_true_eq, decide_eq_false_iff_not, Int.toNat_natCast]
 refine ⟨fun hlt => ?_, fun hge => ?_⟩
 . obtain ⟨x, hx⟩ := zv (l := resN) (i := k) (by omega)
   refine ⟨⟨by omega, by omega⟩, by omega, x, hx, fun g => ?_, fun g => ?_⟩
   . subst g
     have := List.mem_of_getElem? hx
     simp [this]
   . rw [w64 (by omega) (by omega), List.take_add_one, hx]
     refine ⟨by omega, by omega, fun hm => ?_⟩
     rcases List.mem_append.1 hm with hm | hm
     . exact hmem hm
     . simp at hm; exact g hm.symm
 . rw [List.take_of_length_le (by omega)] at hmem
   simp [hmem]
theorem zhs (s : List UInt8) (h : s.length <= 1000000) : zmy s = some (exN s) := by
 unfold zmy exN
 apply Tot.eq
 rw [zu]
 refine (zlw s).mono fun x hx => ?_
 rw [zu]
 refine (zCp s h).mono fun y hy => ?_
 rw [hx, hy, zlx]
 cases wX s && decide (s.length <= 16) <;> cases decide (s ∈ primN) <;> cases decide (s ∈ resN) <;> exact .mk rfl
open Go
def ww (r : Int) (l : Int × Int) : Int := if r = 2 then l.1 * l.2 else if r = 1 then l.1 else 1
def shC (r : Int) (l : Int × Int) : Int :=
 if r = 0 then (if l.1 = 0 then (if l.2 = 0 then 0 else 6) else 6)
 else if r = 1 then (if l.1 < 0 then 7 else if l.2 = 0 then (if 400 < l.1 then 15 else 0) else 6)
 else if r = 2 then (if l.1 < 0 then 7 else if l.2 < 0 then 7 else if 400 < l.1 then 15 else if 400 < l.2 then 15 else if 400 < l.1 * l.2 then 15 else 0)
 else 7
theorem zox {a b : Int} (h0 : 0 <= a) (h1 : a <= 400) (h2 : 0 <= b) (h3 : b <= 400) : 0 <= a * b /\ a * b <= 160000 :=
 ⟨Int.mul_nonneg h0 h2, by have := Int.mul_le_mul h1 h3 h2 (by omega : (0 : Int) <= 400); omega⟩
theorem znt : IntKind.wrap .i64 1 = 1 := by decide
theorem ztv : IntKind.wrap .i64 2 = 2 := by decide
theorem m1 : max (1 : Int) 0 = 1 := by decide
theorem zd2 (r : Int) (l : Int × Int) (h : shC r l = 0) : zdz r l = some (ww r l) := by
 unfold zdz ww
 unfold shC at h
 by_cases h2 : r = 2
 . subst h2
   simp only [decide_true, cond_true, zg, if_true]
   simp (config := { decide := true }) only [if_false, if_true] at h
   split at h
   . cases h
   split at h
   . cases h
   split at h
   . cases h
   split at h
   . cases h
   have hm := zox (a := l.1) (b := l.2) (by omega) (by omega) (by omega) (by omega)
   rw [w64 (e := 1 * l.2) (by omega) (by omega), Int.one_mul, Int.mul_comm l.2 l.1, w64 (by omega) (by omega)]
 by_cases h1 : r = 1
 . subst h1
   simp (config := { decide := true }) only [if_false, if_true] at h ⊢
   split at h
   . cases h
   split at h
   case isFalse => cases h
   split at h
   . cases h
   simp only [decide_true, cond_true, decide_false, cond_false, zg]
   rw [w64 (e := 1 * l.1) (by omega) (by omega), Int.one_mul]
 . simp [h1, h2]
theorem zfm (r : Int) (l : Int × Int) : ztt r l = some (shC r l) := by
 unfold ztt
 by_cases hr : r < 0
 . have : shC r l = 7 := by unfold shC; rw [if_neg (by omega), if_neg (by omega), if_neg (by omega)]
   simp [hr, this]
 by_cases hr2 : 2 < r
 . have : shC r l = 7 := by unfold shC; rw [if_neg (by omega), if_neg (by omega), if_neg (by omega)]
   simp [hr, hr2, this]
 have e1 : decide (r < 0) = false := by simp; omega
 have e2 : decide (2 < r) = false := by simp; omega
 simp only [e1, e2, cond_false]
 rw [yu ⟨by omega, by omega⟩, yu ⟨by omega, by omega⟩]
 rw [zlm _ (by simp; omega), zlo _ (by simp; omega), zlq _ (by simp; omega)]
 obtain ⟨a, b⟩ := l
 have hp := zd2 r (a, b)
 rcases (by omega : r = 0 \/ r = 1 \/ r = 2) with rfl | rfl | rfl
 . by_cases ha : a = 0 <;> by_cases hb : b = 0 <;> simp [shC, ha, hb, zdz]
 . by_cases ha : a < 0
   . simp [shC, ha]
   by_cases hb : b = 0
   case neg => simp [shC, ha, hb]
   by_cases h4 : 400 < a
   . simp [shC, ha, hb, h4]
   have hs : shC 1 (a, b) = 0 := by simp [shC, ha, hb, h4]
   have hp' := hp hs
   rw [hb] at hp' hs
   simp [hp', hs, ha, hb, h4, ww]
 . by_cases ha : a < 0
   . simp [shC, ha]
   by_cases hb : b < 0
   . simp [shC, ha, hb]
   by_cases h4 : 400 < a
   . simp [shC, ha, hb, h4]
   by_cases h5 : 400 < b
   . simp [shC, ha, hb, h4, h5]
   have hm := zox (a := a) (b := b) (by omega) (by omega) (by omega) (by omega)
   have hq : zdz 2 (a, b) = some (a * b) := by
    unfold zdz
    simp only [decide_true, cond_true, zg]
    rw [w64 (e := 1 * b) (by omega) (by omega), Int.one_mul, Int.mul_comm b a, w64 (by omega) (by omega)]
   by_cases h6 : 400 < a * b
   . simp [shC, ha, hb, h4, h5, h6, hq]
   . simp [shC, ha, hb, h4, h5, h6, hq]
theorem uD (r : Int) (l : Int × Int) : zpu r l = some (if shC r l = 0 then ww r l else 0, shC r l) := by
 unfold zpu
 rw [zfm, Option.bind_some]
 by_cases h : shC r l = 0
 . simp [h, zd2 r l h]
 . simp [h]
theorem zkk (r : Int) (l : Int × Int) (h : shC r l = 0 \/ (r = 2 /\ 0 <= l.1 /\ l.1 <= 400 /\ 0 <= l.2 /\ l.2 <= 400)) : zhk r l = some (ww r l) := by
 unfold zhk
 obtain ⟨a, b⟩ := l
 by_cases h2 : r = 2
 . subst h2
   have hb : 0 <= a /\ a <= 400 /\ 0 <= b /\ b <= 400 := by
    rcases h with h | ⟨_, h⟩
    . unfold shC at h
      simp (config := { decide := true }) only [if_false, if_true] at h
      split at h
      . cases h
      split at h
      . cases h
      split at h
      . cases h
      split at h
      . cases h
      omega
    . exact h
   have hm := zox (a := a) (b := b) hb.1 hb.2.1 hb.2.2.1 hb.2.2.2
   have w1 : IntKind.wrap .i64 a = a := w64 (by omega) (by omega)
   have w2 : IntKind.wrap .i64 (a * b) = a * b := w64 (by omega) (by omega)
   rw [qC]
   simp [zk, zh, zg, m1, znt, w1]
   rw [qC]
   simp [zk, zh, zg, m1, ztv, w2]
   rw [qC]
   simp [ww]
 by_cases h1 : r = 1
 . subst h1
   have hb : 0 <= a /\ a <= 400 := by
    rcases h with h | ⟨h, _⟩
    . unfold shC at h
      simp (config := { decide := true }) only [if_false, if_true] at h
      split at h
      . cases h
      split at h
      case isFalse => cases h
      split at h
      . cases h
      omega
    . cases h
   have w1 : IntKind.wrap .i64 a = a := w64 (by omega) (by omega)
   rw [qC]
   simp [zk, zh, zg, m1, znt, w1]
   rw [qC]
   simp [ww]
 . have h0 : r <= 0 := by
    rcases h with h | ⟨h, _⟩
    . unfold shC at h
      rw [if_neg h1, if_neg h2] at h
      split at h
      . omega
      . cases h
    . exact absurd h h2
   have : ¬ 0 < r := by omega
   rw [qC]
   simp [ww, h1, h2, this]
theorem zf8 (r : Int) (l : Int × Int) : zm0 r l = some (shC r l) := by
 unfold zm0
 by_cases hr : r < 0
 . have : shC r l = 7 := by unfold shC; rw [if_neg (by omega), if_neg (by omega), if_neg (by omega)]
   simp [hr, this]
 by_cases hr2 : 2 < r
 . have : shC r l = 7 := by unfold shC; rw [if_neg (by omega), if_neg (by omega), if_neg (by omega)]
   simp [hr, hr2, this]
 have e1 : decide (r < 0) = false := by simp; omega
 have e2 : decide (2 < r) = false := by simp; omega
 simp only [e1, e2, cond_false]
 obtain ⟨a, b⟩ := l
 have hp := zkk r (a, b)
 rcases (by omega : r = 0 \/ r = 1 \/ r = 2) with rfl | rfl | rfl
 . rw [qC]
   simp only [decide_false, Int.lt_irrefl, cond_false, Option.bind_some, Sum.elim_inr, Sum.elim_inl]
   rw [qC]
   by_cases ha : a = 0
   case neg => simp [zk, zh, zg, m1, shC, ha]
   simp [zk, zh, zg, m1, ha, znt]
   rw [qC]
   by_cases hb : b = 0
   case neg => simp [zk, zh, zg, m1, shC, ha, hb]
   have hs : shC 0 (a, b) = 0 := by simp [shC, ha, hb]
   have hp' := hp (.inl hs)
   rw [ha, hb] at hp' hs
   simp [zk, zh, zg, m1, hb, ztv]
   rw [qC]
   simp [hp', hs, ww]
 . rw [qC]
   by_cases ha : a < 0
   . simp [zk, zh, zg, m1, shC, ha]
   simp [zk, zh, zg, m1, ha, znt]
   rw [qC]
   simp
   rw [qC]
   by_cases hb : b = 0
   case neg => simp [zk, zh, zg, m1, shC, ha, hb]
   simp [zk, zh, zg, m1, hb, ztv]
   rw [qC]
   by_cases h4 : 400 < a
   . simp [shC, ha, h4]
   have hs : shC 1 (a, b) = 0 := by simp [shC, ha, hb, h4]
   have hp' := hp (.inl hs)
   rw [hb] at hp' hs
   simp [hp', hs, ww, h4]
 . rw [qC]
   by_cases ha : a < 0
   . simp [zk, zh, zg, m1, shC, ha]
   simp [zk, zh, zg, m1, ha, znt]
   rw [qC]
   by_cases hb : b < 0
   . simp [zk, zh, zg, m1, shC, ha, hb]
   simp [zk, zh, zg, m1, hb, ztv]
   rw [qC]
   simp
   rw [qC]
   by_cases h4 : 400 < a
   . simp [shC, ha, hb, h4]
   by_cases h5 : 400 < b
   . simp [shC, ha, hb, h4, h5]
   have hp' := hp (.inr ⟨rfl, by simp; omega, by simp; omega, by simp; omega, by simp; omega⟩)
   by_cases h6 : 400 < a * b
   . simp [shC, ha, hb, h4, h5, h6, hp', ww]
   . simp [shC, ha, hb, h4, h5, h6, hp', ww]
theorem za0 (r : Int) (l : Int × Int) : zhn r l = some (if shC r l = 0 then ww r l else 0, shC r l) := by
 unfold zhn
 rw [zf8, Option.bind_some]
 by_cases h : shC r l = 0
 . simp [h, zkk r l (.inl h)]
 . simp [h]
open Go
def wy (c : Int) : Bool := decide (0 <= c) && decide (c <= 1114111) && (decide (c < 55296) || decide (57343 < c))
def jt (a : TA) : Int :=
 if a.Kind = 1 \/ a.Kind = 2 then
  if shC a.Rank a.Lens = 0 then
   if (a.Cells.length : Int) = ww a.Rank a.Lens then
    if a.Kind = 2 /\ (a.Cells.any fun c => !wy c) = true then 7 else 0
   else 6
  else shC a.Rank a.Lens
 else 2
theorem zvt {r : Int} (h0 : 0 <= r) (h1 : r <= 1114111) : IntKind.wrap .i32 r = r := by
 simp only [IntKind.wrap, IntKind.signed, IntKind.bits]
 have h3 : (2 : Int) ^ 32 = 4294967296 := by decide
 have h4 : (2 : Int) ^ (32 - 1) = 2147483648 := by decide
 simp only [h3, h4, Bool.true_and, decide_eq_true_eq, ge_iff_le]
 split <;> omega
theorem zjv (c : Int) : zac c = some (wy c) := by
 unfold zac wy
 by_cases h0 : 0 <= c <;> by_cases h1 : c < 55296 <;> by_cases h2 : 57343 < c <;> by_cases h3 : c <= 1114111 <;> simp [h0, h1, h2, h3] <;> omega
theorem zt9 (k c : Int) : zuf k c = some (decide (k = 1) || wy c) := by
 unfold zuf
 by_cases hk : k = 1
 . simp [hk]
 by_cases h0 : 0 <= c
 case neg => simp [hk, h0, wy]
 by_cases h1 : c <= 1114111
 case neg => simp [hk, h0, h1, wy]
 simp only [hk, h0, h1, decide_true, decide_false, cond_true, cond_false, zg, zvt h0 h1, zjv, Option.bind_some, Bool.false_or]
theorem zqm (c : Int) : zfa c = some (wy c) := by
 unfold zfa wy
 by_cases h0 : 0 <= c <;> by_cases h1 : c < 55296 <;> by_cases h2 : 57343 < c <;> by_cases h3 : c <= 1114111 <;> simp [h0, h1, h2, h3]
theorem zdr (l : List Int) (a : TA) (h : l.length <= 1000000000) : zoz l a = some (l.any fun c => !(decide (a.Kind = 1) || wy c)) := by
 unfold zoz zy9
 refine zch (l := l) (fun c => !(decide (a.Kind = 1) || wy c)) (e := ()) rfl (fun k x hx hlt => ?_) (by simp)
 simp only [List.length_map, Int.ofNat_lt, hlt, decide_true, cond_true, zh, Int.toNat_natCast, hx, Option.bind_some, zg, Int.natCast_nonneg, if_true, zyy, zt9]
 rw [w64 (by omega) (by omega)]
 cases decide (a.Kind = 1) || wy x <;> rfl
theorem zfn (a : TA) (h : a.Cells.length <= 1000000000) : zjf a = some (jt a) := by
 unfold zjf jt
 rw [uD, zdr _ _ h]
 simp only [Option.bind_some, List.length_map]
 have key : cond (!decide (shC a.Rank a.Lens = 0)) (some (shC a.Rank a.Lens)) (cond (!decide ((a.Cells.length : Int) = if shC a.Rank a.Lens = 0 then ww a.Rank a.Lens else 0)) (some 6) (cond (a.Cells.any fun c => !(decide (a.Kind = 1) || wy c)) (some 7) (some (0 : Int)))) = some (if shC a.Rank a.Lens = 0 then if (a.Cells.length : Int) = ww a.Rank a.Lens then if (a.Cells.any fun c => !(decide (a.Kind = 1) || wy c)) = true then 7 else 0 else 6 else shC a.Rank a.Lens) := by
  by_cases h1 : shC a.Rank a.Lens = 0
  case neg => simp [h1]
  by_cases h2 : (a.Cells.length : Int) = ww a.Rank a.Lens
  case neg => simp [h1, h2]
  simp only [h1, h2, if_true, decide_true, Bool.not_true, cond_false]
  cases (a.Cells.any fun c => !(decide (a.Kind = 1) || wy c)) <;> rfl
 rw [key]
 by_cases k1 : a.Kind = 1
 . have : (a.Cells.any fun c => !(decide (a.Kind = 1) || wy c)) = false := by
    rw [List.any_eq_false]; intro c _; simp [k1]
   rw [this]
   simp [k1]
 by_cases k2 : a.Kind = 2
 . have : (a.Cells.any fun c => !(decide (a.Kind = 1) || wy c)) = a.Cells.any fun c => !wy c := by
    congr 1; funext c; simp [k1]
   rw [this]
   simp [k2]
 . simp [k1, k2]
theorem zgu (a : TA) (h : a.Cells.length <= 1000000000) : zcc a = some (jt a) := by
 unfold zcc jt
 rw [za0]
 simp only [Option.bind_some, List.length_map]
 have lp0 : ∀ (v : Int), Option.bind (lpO (fun (_ : Unit) => cond (decide ((0 : Int) < (a.Cells.length : Int))) (some (Sum.inr (Sum.inl ()) : Unit ⊕ (Unit ⊕ Int))) (some (Sum.inr (Sum.inl ())))) ()) (Sum.elim (fun _ => some v) some) = some v := by
  intro v
  rw [qC]
  cases decide ((0 : Int) < (a.Cells.length : Int)) <;> rfl
 have lp1 : Option.bind (lpO (fun (s : Int × Int) => cond (decide (s.1 < (a.Cells.length : Int))) (cond (decide (s.2 = 0)) (cond (decide (a.Kind = 2)) (zh a.Cells s.1 fun x => Option.bind (zfa x) fun y => cond (!y) (zg (IntKind.wrap .i64 (s.1 + 1)) fun z => some (Sum.inl (z, (7 : Int)))) (zg (IntKind.wrap .i64 (s.1 + 1)) fun z => some (Sum.inl (z, s.2)))) (zg (IntKind.wrap .i64 (s.1 + 1)) fun z => some (Sum.inl (z, s.2)))) (some (Sum.inr (Sum.inl s.2 : Int ⊕ Int)))) (some (Sum.inr (Sum.inl s.2)))) ((0 : Int), (0 : Int))) (Sum.elim (fun v => some v) some) = some (if a.Kind = 2 /\ (a.Cells.any fun c => !wy c) = true then 7 else 0) := by
  apply Tot.eq
  rw [zu]
  refine Tot.count a.Cells.length (fun k s => s.1 = (k : Int) /\ s.2 = if a.Kind = 2 /\ ((a.Cells.take k).any fun c => !wy c) = true then 7 else 0) ?_ ⟨rfl, by simp⟩
  rintro k ⟨i, e⟩ hk ⟨rfl, he⟩
  simp only at he
  simp only [zF, tot_some, zN, qn, zu, Sum.elim_inl, Sum.elim_inr, decide_eq_true_eq, decide_eq_false_iff_not, Int.toNat_natCast, zqm]
  refine ⟨fun hlt => ⟨fun e0 => ⟨fun k2 => ?_, fun k2 => ?_⟩, fun e0 => ?_⟩, fun hge => ?_⟩
  . obtain ⟨x, hx⟩ := zv (l := a.Cells) (i := k) (by omega)
    refine ⟨by omega, x, hx, ?_⟩
    have hp : ((a.Cells.take k).any fun c => !wy c) = false := by
     rw [e0] at he
     cases hh : (a.Cells.take k).any fun c => !wy c with
     | false => rfl
     | true => rw [if_pos ⟨k2, hh⟩] at he; cases he
    rw [w64 (by omega) (by omega), List.take_add_one, hx, List.any_append, hp]
    refine ⟨fun g => ⟨by omega, by omega, ?_⟩, fun g => ⟨by omega, by omega, ?_⟩⟩
    . simp at g; simp [k2, g]
    . simp at g; simp [g, e0]
  . rw [w64 (by omega) (by omega)]
    refine ⟨by omega, by omega, ?_⟩
    rw [if_neg (fun h => k2 h.1)]; exact e0
  . have k2 : a.Kind = 2 /\ ((a.Cells.take k).any fun c => !wy c) = true := by
     by_cases hh : a.Kind = 2 /\ ((a.Cells.take k).any fun c => !wy c) = true
     . exact hh
     . rw [if_neg hh] at he; exact absurd he e0
    rw [if_pos k2] at he
    rw [he, if_pos]
    refine ⟨k2.1, ?_⟩
    obtain ⟨x, hx, hb⟩ := List.any_eq_true.1 k2.2
    exact List.any_eq_true.2 ⟨x, List.mem_of_mem_take hx, hb⟩
  . rw [List.take_of_length_le (by omega)] at he
    exact he
 by_cases h1 : shC a.Rank a.Lens = 0
 case neg =>
  simp only [h1, decide_false, cond_false, if_false, lp0]
  by_cases k1 : a.Kind = 1
  . simp [k1]
  by_cases k2 : a.Kind = 2
  . simp [k2]
  . simp [k1, k2]
 simp only [h1, decide_true, cond_true, if_true]
 by_cases h2 : (a.Cells.length : Int) = ww a.Rank a.Lens
 case neg =>
  simp only [h2, decide_false, Bool.not_false, cond_true, if_false, lp0]
  by_cases k1 : a.Kind = 1
  . simp [k1]
  by_cases k2 : a.Kind = 2
  . simp [k2]
  . simp [k1, k2]
 rw [lp1]
 simp only [h2, decide_true, Bool.not_true, cond_false, if_true]
 by_cases k1 : a.Kind = 1
 . simp [k1]
 by_cases k2 : a.Kind = 2
 . simp [k2]
 . simp [k1, k2]
open Go
theorem qu {σ τ ε : Type} {step : σ -> Option (σ ⊕ (ε ⊕ τ))} {k1 : ε -> Option τ} (n : Nat) (S : Nat -> σ) (f : Nat -> Option τ) (e : ε)
 (h1 : ∀ k : Nat, k < n -> step (S k) = some (match f k with | some r => .inr (.inr r) | none => .inl (S (k + 1))))
 (h2 : step (S n) = some (.inr (.inl e))) {s0 : σ} (h0 : S 0 = s0) : (lpO step s0).bind (Sum.elim k1 some) = match zx f 0 n with | some r => some r | none => k1 e := by
 subst h0
 rw [zb1 n S (fun k => (f k).map Sum.inr) (.inl e) (fun k hk => by rw [h1 k hk]; cases f k <;> rfl) h2, jT]
 cases zx f 0 n <;> rfl
theorem qY {σ τ ε : Type} {step : σ -> Option (σ ⊕ (ε ⊕ τ))} {k1 : ε -> Option τ} (n : Nat) (S : Nat -> σ) (e : ε)
 (h1 : ∀ k : Nat, k < n -> step (S k) = some (.inl (S (k + 1)))) (h2 : step (S n) = some (.inr (.inl e))) {s0 : σ} (h0 : S 0 = s0) : (lpO step s0).bind (Sum.elim k1 some) = k1 e := by
 subst h0
 rw [zBr n S (.inl e) h1 h2]; rfl
def i64 (n : Int) : Prop := -9223372036854775808 <= n /\ n <= 9223372036854775807
open Go
open Go
open Go
theorem zC3 {n : Int} (h : inK .u8 n) : 0 <= n /\ n < 256 := by
 have e1 : IntKind.u8.min = 0 := by decide
 have e2 : IntKind.u8.max = 255 := by decide
 unfold inK at h
 omega
open Go
def zQ (l : TL) (a : Int) : Bool := decide (0 <= a) && decide (a < (l.Names.length : Int))
theorem uu (l : TL) (a : Int) : xF l a = some (zQ l a) := by
 unfold xF zQ
 by_cases h : 0 <= a <;> simp [h]
theorem xK (l : TL) (a : Int) : jN l a = some (zQ l a) := by
 unfold jN zQ
 by_cases h : 0 <= a <;> simp [h]
def nmE (s : List UInt8) (before : List (List UInt8)) : Int := if exN s = true then (if s ∈ before then 8 else 0) else 24
theorem inL_iff {α : Type} [DecidableEq α] {a : α} {l : List α} : inL a l = true ↔ a ∈ l := by
 unfold inL; simp
theorem zbz (s : List UInt8) (b : List (List UInt8)) (h : s.length <= 1000000) (hb : b.length <= 1000000) : zhl s b = some (nmE s b) := by
 unfold zhl nmE
 rw [zhs s h]
 simp only [Option.bind_some, List.length_map]
 cases exN s with
 | false => simp
 | true =>
   simp only [Bool.not_true, cond_false, if_true]
   refine (qu b.length (fun k => (k : Int)) (fun k => match b[k]? with | some x => if x = s then some (8 : Int) else none | none => none) () (fun k hk => ?_) ?_ rfl).trans ?_
   . obtain ⟨x, hx⟩ := zv hk
     have hlt : (k : Int) < (b.length : Int) := by omega
     have hw : IntKind.wrap .i64 ((k : Int) + 1) = ((k + 1 : Nat) : Int) := w64 (by omega) (by omega)
     have n1 : (0 : Int) <= (k : Int) := by omega
     simp only [hlt, decide_true, cond_true, zh, n1, if_true, Int.toNat_natCast, hx, Option.bind_some, zg, hw]
     by_cases he : x = s <;> simp [he]
   . simp
   . cases hr : zx (fun k => match b[k]? with | some x => if x = s then some (8 : Int) else none | none => none) 0 b.length with
     | some r =>
       have h8 : r = 8 := zaq (v := (8 : Int)) (fun i => by
        cases b[i]? with
        | none => exact .inr rfl
        | some x => by_cases hx : x = s <;> simp [hx]) hr
       have hm : s ∈ b := by
        by_cases hm : s ∈ b
        . exact hm
        have : zx (fun k => match b[k]? with | some x => if x = s then some (8 : Int) else none | none => none) 0 b.length = none := by
         rw [scan_none]
         intro i _ hi
         obtain ⟨x, hx⟩ := zv (l := b) (i := i) (by omega)
         rw [hx]
         have : x ≠ s := fun e => hm (e ▸ List.mem_of_getElem? hx)
         simp [this]
        rw [this] at hr; cases hr
       simp [hm, h8]
     | none =>
       have hm : ¬ s ∈ b := by
        intro hm
        obtain ⟨i, hi, e⟩ := List.getElem_of_mem hm
        have := scan_none.1 hr i (by omega) (by omega)
        rw [List.getElem?_eq_getElem hi, e] at this
        simp at this
       simp [hm]
def chK (p : TP) (k : Nat) : Option (Int × Int) := match p.Channels[k]? with
 | some c => if nmE c.s_ ((p.Channels.take k).map (·.s_)) ≠ 0 then some ((k : Int), nmE c.s_ ((p.Channels.take k).map (·.s_))) else if zQ p.Lattice c.at_ = true then none else some ((k : Int), 7)
 | none => none
def chC (p : TP) : Int × Int := if (16 : Int) < (p.Channels.length : Int) then (-1, 3) else match zx (chK p) 0 p.Channels.length with | some r => r | none => (0, 0)
theorem zd6 (p : TP) (hs : ∀ c ∈ p.Channels, c.s_.length <= 1000000) : zsu p = some (chC p) := by
 unfold zsu chC
 simp only [List.length_map]
 by_cases h : (16 : Int) < (p.Channels.length : Int)
 . simp [h]
 simp only [h, decide_false, cond_false, if_false]
 refine (qu p.Channels.length (fun k => ((k : Int), (p.Channels.take k).map (·.s_))) (chK p) () (fun k hk => ?_) ?_ rfl).trans ?_
 . obtain ⟨x, hx⟩ := zv hk
   have hlt : (k : Int) < (p.Channels.length : Int) := by omega
   have hw : IntKind.wrap .i64 ((k : Int) + 1) = ((k + 1 : Nat) : Int) := w64 (by omega) (by omega)
   have n1 : (0 : Int) <= (k : Int) := by omega
   have e : (p.Channels.take (k + 1)).map (·.s_) = (p.Channels.take k).map (·.s_) ++ [x.s_] := by rw [List.take_add_one, hx]; simp
   simp only [hlt, decide_true, cond_true, zh, n1, if_true, Int.toNat_natCast, hx, Option.bind_some, zg, hw, zbv x.s_ (hs x (List.mem_of_getElem? hx)), uu, chK, e]
   unfold nmE
   cases exN x.s_ with
   | false => simp
   | true =>
     cases hi : inL x.s_ ((p.Channels.take k).map (·.s_)) with
     | true =>
       have := inL_iff.1 hi
       simp only [Bool.not_true, cond_false, cond_true, if_true, if_pos this]
       simp
     | false =>
       have : ¬ x.s_ ∈ (p.Channels.take k).map (·.s_) := fun h => by rw [inL_iff.2 h] at hi; cases hi
       simp only [Bool.not_true, cond_false, if_true, if_neg this]
       cases zQ p.Lattice x.at_ <;> simp
 . simp
 . cases zx (chK p) 0 p.Channels.length <;> rfl
theorem zfi (p : TP) (hs : ∀ c ∈ p.Channels, c.s_.length <= 1000000) : zl4 p = some (chC p) := by
 unfold zl4 chC
 simp only [List.length_map]
 by_cases h : (16 : Int) < (p.Channels.length : Int)
 . simp [h]
 simp only [h, decide_false, cond_false, if_false]
 refine (qu p.Channels.length (fun k => ((k : Int), (p.Channels.take k).map (·.s_))) (chK p) () (fun k hk => ?_) ?_ rfl).trans ?_
 . obtain ⟨x, hx⟩ := zv hk
   have hlt : (k : Int) < (p.Channels.length : Int) := by omega
   have hw : IntKind.wrap .i64 ((k : Int) + 1) = ((k + 1 : Nat) : Int) := w64 (by omega) (by omega)
   have n1 : (0 : Int) <= (k : Int) := by omega
   have e : (p.Channels.take (k + 1)).map (·.s_) = (p.Channels.take k).map (·.s_) ++ [x.s_] := by rw [List.take_add_one, hx]; simp
   have hl : ((p.Channels.take k).map (·.s_)).length <= 16 := by rw [List.length_map, List.length_take]; omega
   simp only [hlt, decide_true, cond_true, zh, n1, if_true, Int.toNat_natCast, hx, Option.bind_some, zg, hw, zbz x.s_ _ (hs x (List.mem_of_getElem? hx)) (Nat.le_trans hl (by omega)), xK, chK, e, zk, List.length_map]
   rw [if_pos (by rw [List.length_map] at hl; omega)]
   by_cases h0 : nmE x.s_ ((p.Channels.take k).map (·.s_)) = 0
   . simp only [h0]
     cases zQ p.Lattice x.at_ <;> simp
   . generalize nmE x.s_ ((p.Channels.take k).map (·.s_)) = z at h0 ⊢
     simp [h0]
 . simp
 . cases zx (chK p) 0 p.Channels.length <;> rfl
open Go
def vrK (g : TY -> Int) (p : TP) (k : Nat) : Option (Int × Int) := match p.Vars[k]? with
 | some c => if nmE c.Name ((p.Vars.take k).map (·.Name)) ≠ 0 then some ((k : Int), nmE c.Name ((p.Vars.take k).map (·.Name))) else if g c.Type_ = 0 then none else some ((k : Int), g c.Type_)
 | none => none
def vrC (g : TY -> Int) (p : TP) : Int × Int := if (32 : Int) < (p.Vars.length : Int) then (-1, 3) else match zx (vrK g p) 0 p.Vars.length with | some r => r | none => (0, 0)
theorem zke (g : TY -> Int) (p : TP) (hs : ∀ c ∈ p.Vars, c.Name.length <= 1000000) (hg : ∀ c ∈ p.Vars, zj5 p.Lattice c.Type_ = some (g c.Type_)) : zt8 p = some (vrC g p) := by
 unfold zt8 vrC
 simp only [List.length_map]
 by_cases h : (32 : Int) < (p.Vars.length : Int)
 . simp [h]
 simp only [h, decide_false, cond_false, if_false]
 refine (qu p.Vars.length (fun k => ((k : Int), (p.Vars.take k).map (·.Name))) (vrK g p) () (fun k hk => ?_) ?_ rfl).trans ?_
 . obtain ⟨x, hx⟩ := zv hk
   have hlt : (k : Int) < (p.Vars.length : Int) := by omega
   have hw : IntKind.wrap .i64 ((k : Int) + 1) = ((k + 1 : Nat) : Int) := w64 (by omega) (by omega)
   have n1 : (0 : Int) <= (k : Int) := by omega
   have e : (p.Vars.take (k + 1)).map (·.Name) = (p.Vars.take k).map (·.Name) ++ [x.Name] := by rw [List.take_add_one, hx]; simp
   simp only [hlt, decide_true, cond_true, zh, n1, if_true, Int.toNat_natCast, hx, Option.bind_some, zg, hw, zbv x.Name (hs x (List.mem_of_getElem? hx)), hg x (List.mem_of_getElem? hx), vrK, e]
   unfold nmE
   cases exN x.Name with
   | false => simp
   | true =>
     cases hi : inL x.Name ((p.Vars.take k).map (·.Name)) with
     | true =>
       have := inL_iff.1 hi
       simp only [Bool.not_true, cond_false, cond_true, if_true, if_pos this]
       simp
     | false =>
       have : ¬ x.Name ∈ (p.Vars.take k).map (·.Name) := fun h => by rw [inL_iff.2 h] at hi; cases hi
       simp only [Bool.not_true, cond_false, if_true, if_neg this]
       by_cases hz : g x.Type_ = 0 <;> simp [hz]
 . simp
 . cases zx (vrK g p) 0 p.Vars.length <;> rfl
theorem zly (g : TY -> Int) (p : TP) (hs : ∀ c ∈ p.Vars, c.Name.length <= 1000000) (hg : ∀ c ∈ p.Vars, zia p.Lattice c.Type_ = some (g c.Type_)) : zmd p = some (vrC g p) := by
 unfold zmd vrC
 simp only [List.length_map]
 by_cases h : (32 : Int) < (p.Vars.length : Int)
 . simp [h]
 simp only [h, decide_false, cond_false, if_false]
 refine (qu p.Vars.length (fun k => ((k : Int), (p.Vars.take k).map (·.Name))) (vrK g p) () (fun k hk => ?_) ?_ rfl).trans ?_
 . obtain ⟨x, hx⟩ := zv hk
   have hlt : (k : Int) < (p.Vars.length : Int) := by omega
   have hw : IntKind.wrap .i64 ((k : Int) + 1) = ((k + 1 : Nat) : Int) := w64 (by omega) (by omega)
   have n1 : (0 : Int) <= (k : Int) := by omega
   have e : (p.Vars.take (k + 1)).map (·.Name) = (p.Vars.take k).map (·.Name) ++ [x.Name] := by rw [List.take_add_one, hx]; simp
   have hl : ((p.Vars.take k).map (·.Name)).length <= 32 := by rw [List.length_map, List.length_take]; omega
   simp only [hlt, decide_true, cond_true, zh, n1, if_true, Int.toNat_natCast, hx, Option.bind_some, zg, hw, zbz x.Name _ (hs x (List.mem_of_getElem? hx)) (Nat.le_trans hl (by omega)), hg x (List.mem_of_getElem? hx), vrK, e, zk, List.length_map]
   rw [if_pos (by rw [List.length_map] at hl; omega)]
   by_cases h0 : nmE x.Name ((p.Vars.take k).map (·.Name)) = 0
   . simp only [h0]
     by_cases hz : g x.Type_ = 0 <;> simp [hz]
   . generalize nmE x.Name ((p.Vars.take k).map (·.Name)) = z at h0 ⊢
     simp [h0]
 . simp
 . cases zx (vrK g p) 0 p.Vars.length <;> rfl
open Go
theorem zqr (x : Int) (h0 : 0 <= x) (h1 : x < 256) : Tot (zpi x) fun y => ∀ n : Nat, n <= 8 -> x.toNat < 2 ^ n -> decide (y < (n : Int)) = !decide (x.toNat = 2 ^ n - 1) := by
 unfold zpi
 rw [qn]
 refine ⟨h0, ?_⟩
 have key : ∀ l : List UInt8, (∀ x : Fin 256, ∀ n : Fin 9, (l[x.val]?.map fun y => decide (x.val < 2 ^ n.val -> decide (IntKind.wrap .i64 (y.toNat : Int) < (n.val : Int)) = !decide (x.val = 2 ^ n.val - 1))) = some true) ->
  ∃ y, l[x.toNat]? = some y /\ Tot (zg (IntKind.wrap .i64 (y.toNat : Int)) fun z => some z) fun y => ∀ n : Nat, n <= 8 -> x.toNat < 2 ^ n -> decide (y < (n : Int)) = !decide (x.toNat = 2 ^ n - 1) := by
  intro l hl
  cases e : l[x.toNat]? with
  | none =>
    have := hl ⟨x.toNat, by omega⟩ ⟨0, by omega⟩
    simp only [e] at this
    cases this
  | some y =>
    refine ⟨y, rfl, .mk fun n hn hx => ?_⟩
    have := hl ⟨x.toNat, by omega⟩ ⟨n, by omega⟩
    simp only [e, Option.map_some, Option.some.injEq, decide_eq_true_eq] at this
    exact this hx
 exact key _ (by decide +kernel)
theorem zky {l : TL} (h : LatIn l) : znr l = some (if (qy l).2 = 0 then ((qN l : Int), 0) else (0, (qy l).2)) := by
 unfold znr
 rw [zp9 h [] (by simp)]
 simp only [Option.bind_some, zc0, List.all_nil, if_true]
 by_cases hk : (qy l).2 = 0
 case neg => simp [hk]
 have ok := wR h hk
 simp only [hk, if_true, decide_true, Bool.not_true, cond_false]
 obtain ⟨o, e1, on, ol, _, ou, _⟩ := zny l ok.u8 ok.le ok.len
 rw [e1]
 simp only [Option.bind_some]
 have hb := (zgt h hk).1
 have hend : zs9 o.up_ o.n_ = some (qN l : Int) := by
  unfold zs9
  rw [on]
  have hw : IntKind.wrap .i64 ((l.Names.length : Int) - 1) = ((l.Names.length - 1 : Nat) : Int) := by
   have := ok.pos; have := ok.le
   rw [w64 (by omega) (by omega)]; omega
  have hle := ok.le
  have hpos := ok.pos
  have hrun := zb1 (step := fun (s585 : Int) =>
   zg (IntKind.wrap IntKind.i64 ((l.Names.length : Int) - (1 : Int))) fun x591 =>
   cond (decide (s585 < x591))
   (zk ((0 : Int) <= s585 /\ s585 < (↑(8 : Nat) : Int)) (
   zh (o.up_) ((↑(Int.toNat s585) : Int)) fun x593 =>
   Option.bind (zpi (x593)) fun x594 =>
   cond (decide (x594 < (l.Names.length : Int)))
   (zg (IntKind.wrap IntKind.i64 (s585 + (1 : Int))) fun x596 =>
   some (Sum.inl (x596)))
   (some (Sum.inr (Sum.inl (β := Int) s585)))))
   (some (Sum.inr (Sum.inl s585)))) (l.Names.length - 1) (fun k => (k : Int)) (fun k => if k = qN l then some (Sum.inl (k : Int)) else none) (Sum.inl ((l.Names.length - 1 : Nat) : Int)) (fun k hk2 => by
     have hlt : (k : Int) < ((l.Names.length - 1 : Nat) : Int) := by omega
     have n1 : (0 : Int) <= (k : Int) := by omega
     have n2 : (k : Int) < ((8 : Nat) : Int) := by omega
     have hw2 : IntKind.wrap .i64 ((k : Int) + 1) = ((k + 1 : Nat) : Int) := w64 (by omega) (by omega)
     obtain ⟨x, hx⟩ := zv (l := l.Up) (i := k) (by have := ok.len; omega)
     have hx' := ok.u8.get hx
     have hox : o.up_[k]? = some x := by rw [ou k (by omega)]; exact hx
     obtain ⟨y, ey, hy⟩ := zqr x hx'.1 hx'.2
     have hux : x.toNat = upN l k := by unfold upN; rw [List.getD_eq_getElem?_getD, hx]; rfl
     have hf := zzh h hk (b := k) (by omega)
     have hlt2 : x.toNat < 2 ^ l.Names.length := by
      have h1 := (zd0 h hk).1 k (by omega)
      unfold xr at h1
      simp only [Bool.and_eq_true, decide_eq_true_eq] at h1
      rw [hux]; exact h1.1.1
     have hd := hy l.Names.length hle hlt2
     rw [hux] at hd
     simp only [zg, hw, hlt, decide_true, cond_true, zk, n1, n2, and_self, if_true, zh, Int.toNat_natCast, hox, Option.bind_some, ey, hw2, hd]
     by_cases hq : k = qN l
     . have := hf.2 hq
       simp only [this, if_pos hq, decide_true, Bool.not_true, cond_false]
     . have : ¬ upN l k = 2 ^ l.Names.length - 1 := fun e => hq (hf.1 e)
       simp only [this, if_neg hq, decide_false, Bool.not_false, cond_true]) (by
     simp only [zg, hw]
     simp)
  have hs0 : ((0 : Nat) : Int) = 0 := rfl
  simp only [hs0] at hrun
  rw [hrun]
  have hsc : (zx (fun k => if k = qN l then some (Sum.inl (α := Int) (β := Int) (k : Int)) else none) 0 (l.Names.length - 1)).getD (Sum.inl ((l.Names.length - 1 : Nat) : Int)) = Sum.inl (qN l : Int) := by
   cases e : zx (fun k => if k = qN l then some (Sum.inl (α := Int) (β := Int) (k : Int)) else none) 0 (l.Names.length - 1) with
   | some r =>
     have : r = Sum.inl (qN l : Int) := zaq (v := Sum.inl (qN l : Int)) (fun i => by
      by_cases hi : i = qN l
      . exact .inl (by rw [if_pos hi, hi])
      . exact .inr (by rw [if_neg hi])) e
     rw [this]; rfl
   | none =>
     have hn := scan_none.1 e
     rcases Nat.lt_or_ge (qN l) (l.Names.length - 1) with g | g
     . have := hn (qN l) (by omega) (by omega)
       simp at this
     . have : qN l = l.Names.length - 1 := by omega
       rw [this]; rfl
  rw [hsc]
  rfl
 rw [hend]
 rfl
open Go
theorem zlp {l : TL} (h : LatIn l) : zik l = some (if (qy l).2 = 0 then ((qN l : Int), 0) else (0, (qy l).2)) := by
 apply Tot.eq
 unfold zik
 rw [zi2 h]
 simp only [Option.bind_some]
 by_cases hk : (qy l).2 = 0
 case neg =>
  have : zc0 l [0, 0] = (qy l).2 := by unfold zc0; rw [if_neg hk]
  simp only [this, hk, decide_false, Bool.not_false, cond_true, if_false]
  exact .mk rfl
 have ok := wR h hk
 have hpos := ok.pos
 have hle := ok.le
 have h0n : (0 : Int) < (l.Names.length : Int) := by omega
 have hl0 : wt l 0 = true := by unfold wt; rw [decide_eq_true (Int.le_refl 0), decide_eq_true h0n]; rfl
 have ha : zc0 l [0, 0] = 0 := by unfold zc0; rw [if_pos hk, List.all_cons, List.all_cons, hl0]; rfl
 simp only [ha, hk, decide_true, Bool.not_true, cond_false, if_true]
 obtain ⟨d, e1, dl, dd⟩ := zit ok.u8 ok.le ok.len
 rw [e1]
 simp only [Option.bind_some, zu, List.length_map]
 refine Tot.count l.Names.length (fun k s => s.1 = (k : Int) /\ ∃ v : Nat, s.2 = (v : Int) /\ v < l.Names.length /\ ∀ i, i < l.Names.length -> up l i v = true -> ∀ j, j < k -> up l i j = true) ?_ ⟨rfl, 0, rfl, by omega, fun i _ _ j hj => by omega⟩
 rintro k ⟨i, w⟩ hkn ⟨h0, v, h1, h2, h3⟩
 simp only at h0 h1
 subst h0 h1
 simp only [zF, decide_eq_true_eq, decide_eq_false_iff_not]
 refine ⟨fun hlt => ?_, fun hlt => ?_⟩
 . obtain ⟨c, hc, hcn, hg⟩ := zot h hk (a := k) (b := v) (by omega) h2
   rw [uw d (dnN l) k v (by omega) (fun c hc => dd c (by omega)) (fun c hc2 => zh5 l c hle) (by omega) (by omega)]
   unfold zd5
   rw [dl, hc]
   simp only [Option.bind_some, zg, tot_some, Sum.elim_inl]
   refine ⟨by omega, w64 (by omega) (by omega), c, rfl, hcn, fun i hi hu j hj => ?_⟩
   rw [zh3 hi hg] at hu
   simp only [Bool.and_eq_true] at hu
   rcases Nat.lt_or_ge j k with g | g
   . exact h3 i hi hu.2 j g
   . have : j = k := by omega
     rw [this]; exact hu.1
 . have hke : k = l.Names.length := by omega
   simp only [tot_some, Sum.elim_inl, Sum.elim_inr]
   have := zwv h hk h2 fun a ha => h3 v h2 (ok.self v h2) a (by omega)
   rw [<- this]
open Go
theorem zvh {l : TL} (hu : U8s l.Up) {a b : Nat} (ha : a < l.Up.length) (hb : b <= 8) : zdw l a b = some (up l a b) := by
 unfold zdw
 obtain ⟨x, hx⟩ := zv ha
 have hx' := hu.get hx
 have key : ∀ u : Fin 256, ∀ b : Fin 9, decide (bits .and .u8 (Int.fdiv (u.val : Int) (2 ^ min b.val (IntKind.bits .u8))) 1 = 1) = Nat.testBit u b := by decide +kernel
 have := key ⟨x.toNat, by omega⟩ ⟨b, by omega⟩
 simp only [Int.toNat_of_nonneg hx'.1] at this
 simp only [Int.natCast_nonneg, zh, Int.toNat_natCast, if_true, hx, Option.bind_some, zk, this, jq hx]
theorem za8 {l : TL} (h : LatIn l) (hk : (qy l).2 = 0) (xs : List Int) (hx : xs.length <= 64) (hl : ∀ x ∈ xs, wt l x = true) : znd l xs = some (0, 0) := by
 unfold znd
 rw [zaj h]
 have h64 : ¬ (64 : Int) < (xs.length : Int) := by omega
 simp only [Option.bind_some, hk, decide_true, Bool.not_true, cond_false, List.length_map, h64, decide_false]
 refine (qY xs.length (fun k => (k : Int)) () (fun k hk => ?_) (by simp) rfl).trans rfl
 obtain ⟨x, hx⟩ := zv hk
 have hq := hl x (List.mem_of_getElem? hx)
 unfold wt at hq
 simp only [Bool.and_eq_true, decide_eq_true_eq] at hq
 have hlt : (k : Int) < (xs.length : Int) := by omega
 have hw : IntKind.wrap .i64 ((k : Int) + 1) = ((k + 1 : Nat) : Int) := w64 (by omega) (by omega)
 have n1 : (0 : Int) <= (k : Int) := by omega
 have n2 : ¬ x < 0 := by omega
 have n3 : ¬ (l.Names.length : Int) <= x := by omega
 simp only [hlt, decide_true, cond_true, zh, n1, if_true, Int.toNat_natCast, hx, Option.bind_some, zg, hw, n2, n3, decide_false, cond_false]
def flK (l : TL) (xs : List Int) (a : Int) (k : Nat) : Option Int := match xs[k]? with
 | some x => if up l x.toNat a.toNat = true then none else some (k : Int)
 | none => none
def flV (l : TL) (xs : List Int) (a : Int) : Int × Int := match zx (flK l xs a) 0 xs.length with | some r => (r, 25) | none => (0, 0)
theorem zyn {l : TL} (h : LatIn l) (hk : (qy l).2 = 0) (xs : List Int) (hx : xs.length <= 64) (hl : ∀ x ∈ xs, wt l x = true) (a : Int) (ha : wt l a = true) :
 zjr l xs a = some (flV l xs a) := by
 have ok := wR h hk
 have hle := ok.le
 have hlen := ok.len
 unfold zjr
 rw [za8 h hk xs hx hl]
 unfold wt at ha
 simp only [Bool.and_eq_true, decide_eq_true_eq] at ha
 have n2 : ¬ a < 0 := by omega
 have n3 : ¬ (l.Names.length : Int) <= a := by omega
 simp only [Option.bind_some, decide_true, Bool.not_true, cond_false, n2, n3, decide_false, List.length_map]
 have hi : zsv xs (l, a) = some (match zx (flK l xs a) 0 xs.length with | some r => r | none => -1) := by
  unfold zsv
  simp only [List.length_map]
  refine (qu xs.length (fun k => (k : Int)) (flK l xs a) () (fun k hk => ?_) (by simp) rfl).trans ?_
  . obtain ⟨x, hx⟩ := zv hk
    have hq := hl x (List.mem_of_getElem? hx)
    unfold wt at hq
    simp only [Bool.and_eq_true, decide_eq_true_eq] at hq
    have hlt : (k : Int) < (xs.length : Int) := by omega
    have hw : IntKind.wrap .i64 ((k : Int) + 1) = ((k + 1 : Nat) : Int) := w64 (by omega) (by omega)
    have n1 : (0 : Int) <= (k : Int) := by omega
    have hb : zdw l x a = some (up l x.toNat a.toNat) := by
     have := zvh ok.u8 (a := x.toNat) (b := a.toNat) (by omega) (by omega)
     rwa [Int.toNat_of_nonneg hq.1, Int.toNat_of_nonneg ha.1] at this
    simp only [hlt, decide_true, cond_true, zh, n1, if_true, Int.toNat_natCast, hx, Option.bind_some, zg, hw, zy6, hb, flK]
    cases up l x.toNat a.toNat <;> simp
  . cases zx (flK l xs a) 0 xs.length <;> rfl
 rw [hi]
 unfold flV
 cases e : zx (flK l xs a) 0 xs.length with
 | none => simp
 | some r =>
   have : 0 <= r := by
    have key : ∀ {j k : Nat} {b : Int}, zx (flK l xs a) k j = some b -> 0 <= b := by
     intro j
     induction j with
     | zero => intro k b h; cases h
     | succ j ih =>
       intro k b h
       simp only [zx] at h
       cases hf : flK l xs a k with
       | none => rw [hf] at h; exact ih h
       | some z =>
         rw [hf] at h
         cases h
         unfold flK at hf
         split at hf
         . split at hf
           . cases hf
           . cases hf; omega
         . cases hf
    exact key e
   simp [this]
end Go.Sx.O
noncomputable section
namespace Go.Sx.O
open Go
def yC (l : TL) (t : TY) : Int :=
 if t.Rank < 0 \/ 2 < t.Rank then 7
 else if zQ l t.Axes.1 = true /\ zQ l t.Axes.2 = true /\ zQ l t.Data = true then
  if ([t.Axes.1, t.Axes.2].drop t.Rank.toNat).all (fun x => decide (x = (qN l : Int))) = true then
   if ([t.Axes.1, t.Axes.2].take t.Rank.toNat).all (fun x => up l x.toNat t.Data.toNat) = true then 0 else 25
  else 6
 else 7
def yi (l : TL) (t : TY) : Int := if (qy l).2 = 0 then (if t.Kind = 1 \/ t.Kind = 2 then yC l t else 7) else (qy l).2
theorem zwy {β : Type} (v : β) (b : Int) (xs : List Int) (hx : xs.length <= 2) : zx (fun k => match xs[k]? with | some x => if x = b then none else some v | none => none) 0 xs.length = if xs.all (fun x => decide (x = b)) = true then none else some v := by
 match xs, hx with
 | [], _ => rfl
 | [x], _ => by_cases h : x = b <;> simp [zx, h]
 | [x, y], _ => by_cases h : x = b <;> by_cases g : y = b <;> simp [zx, h, g]
theorem zyk (l : TL) (a : Int) (xs : List Int) (hx : xs.length <= 2) : (flV l xs a).2 = if xs.all (fun x => up l x.toNat a.toNat) = true then 0 else 25 := by
 match xs, hx with
 | [], _ => rfl
 | [x], _ => cases h : up l x.toNat a.toNat <;> simp [flV, zx, flK, h]
 | [x, y], _ => cases h : up l x.toNat a.toNat <;> cases g : up l y.toNat a.toNat <;> simp [flV, zx, flK, h, g]
theorem zwq {l : TL} (h : LatIn l) (hk : (qy l).2 = 0) (t : TY) (hr : ¬ (t.Rank < 0 \/ 2 < t.Rank)) (l1 : zQ l t.Axes.1 = true) (l2 : zQ l t.Axes.2 = true) (l3 : zQ l t.Data = true) :
 (Option.bind (lpO (fun (s612 : Int) =>
 cond (decide (s612 < (↑(List.length (List.drop (Int.toNat t.Rank) (List.take (Int.toNat (↑(2 : Nat) : Int)) [SV.int IntKind.i64 t.Axes.fst, SV.int IntKind.i64 t.Axes.snd]))) : Int)))
 (zh (List.drop (Int.toNat t.Rank) (List.take (Int.toNat (↑(2 : Nat) : Int)) [t.Axes.fst, t.Axes.snd])) (s612) fun x617 =>
 cond (!decide (x617 = (qN l : Int)))
 (some (Sum.inr (Sum.inr ((6 : Int)))))
 (zg (IntKind.wrap IntKind.i64 (s612 + (1 : Int))) fun x619 =>
 some (Sum.inl (x619))))
 (some (Sum.inr (Sum.inl (()))))) ((0 : Int)))
 (Sum.elim (fun (_ : Unit) =>
 zk ((0 : Int) <= t.Rank /\ t.Rank <= (↑(2 : Nat) : Int)) (
 Option.bind (zjr l (List.drop (Int.toNat (0 : Int)) (List.take (Int.toNat t.Rank) [t.Axes.fst, t.Axes.snd])) (t.Data)) fun x653 =>
 cond (!decide (x653.snd = (0 : Int)))
 (some (x653.snd))
 (some ((0 : Int))))) some)) = some (yC l t) := by
 have e0 : List.take (Int.toNat ((2 : Nat) : Int)) [t.Axes.fst, t.Axes.snd] = [t.Axes.fst, t.Axes.snd] := rfl
 have e1 : List.take (Int.toNat ((2 : Nat) : Int)) [SV.int IntKind.i64 t.Axes.fst, SV.int IntKind.i64 t.Axes.snd] = [SV.int IntKind.i64 t.Axes.fst, SV.int IntKind.i64 t.Axes.snd] := rfl
 have e2 : List.drop (Int.toNat 0) (List.take (Int.toNat t.Rank) [t.Axes.fst, t.Axes.snd]) = List.take (Int.toNat t.Rank) [t.Axes.fst, t.Axes.snd] := rfl
 rw [e0, e1, e2]
 have hlen : (List.drop (Int.toNat t.Rank) [SV.int IntKind.i64 t.Axes.fst, SV.int IntKind.i64 t.Axes.snd]).length = (List.drop (Int.toNat t.Rank) [t.Axes.fst, t.Axes.snd]).length := by simp
 rw [hlen]
 have hd2 : (List.drop (Int.toNat t.Rank) [t.Axes.fst, t.Axes.snd]).length <= 2 := by simp
 have ht2 : (List.take (Int.toNat t.Rank) [t.Axes.fst, t.Axes.snd]).length <= 2 := by simp; omega
 have htl : ∀ x ∈ List.take (Int.toNat t.Rank) [t.Axes.fst, t.Axes.snd], wt l x = true := fun x hx => by
  have := List.mem_of_mem_take hx
  simp only [List.mem_cons, List.not_mem_nil, or_false] at this
  rcases this with rfl | rfl
  . exact l1
  . exact l2
 unfold yC
 rw [if_neg hr, if_pos ⟨l1, l2, l3⟩]
 generalize hD : List.drop (Int.toNat t.Rank) [t.Axes.fst, t.Axes.snd] = D at hd2 ⊢
 generalize hT : List.take (Int.toNat t.Rank) [t.Axes.fst, t.Axes.snd] = T at ht2 htl ⊢
 refine (qu D.length (fun k => (k : Int)) (fun k => match D[k]? with | some x => if x = (qN l : Int) then none else some (6 : Int) | none => none) () (fun k hk => ?_) (by simp) rfl).trans ?_
 . obtain ⟨x, hx⟩ := zv hk
   have hlt : (k : Int) < (D.length : Int) := by omega
   have hw : IntKind.wrap .i64 ((k : Int) + 1) = ((k + 1 : Nat) : Int) := w64 (by omega) (by omega)
   have n1 : (0 : Int) <= (k : Int) := by omega
   simp only [hlt, decide_true, cond_true, zh, n1, if_true, Int.toNat_natCast, hx, Option.bind_some, zg, hw]
   by_cases hb : x = (qN l : Int) <;> simp [hb]
 . rw [zwy (6 : Int) (qN l : Int) D hd2]
   by_cases hall : D.all (fun x => decide (x = (qN l : Int))) = true
   . simp only [hall, if_true]
     unfold zk
     rw [if_pos (by omega), zyn h hk T (by omega) htl t.Data l3]
     have := zyk l t.Data T ht2
     simp only [Option.bind_some]
     rw [this]
     split <;> rfl
   . rw [if_neg hall, if_neg hall]
end Go.Sx.O
end
namespace Go.Sx.O
open Go
theorem zkf {l : TL} (h : LatIn l) (t : TY) : zj5 l t = some (yi l t) := by
 unfold zj5 yi
 rw [zky h]
 by_cases hk : (qy l).2 = 0
 case neg => simp [hk]
 simp only [hk, if_true, Option.bind_some, decide_true, Bool.not_true, cond_false, uu]
 by_cases r1 : t.Rank < 0
 . by_cases k1 : t.Kind = 1 <;> by_cases k2 : t.Kind = 2 <;> simp [k1, k2, r1, yC]
 by_cases r2 : 2 < t.Rank
 . by_cases k1 : t.Kind = 1 <;> by_cases k2 : t.Kind = 2 <;> simp [k1, k2, r1, r2, yC]
 have hr : ¬ (t.Rank < 0 \/ 2 < t.Rank) := by omega
 have hside : (0 : Int) <= t.Rank /\ t.Rank <= ((2 : Nat) : Int) := by omega
 cases l1 : zQ l t.Axes.fst with
 | false => by_cases k1 : t.Kind = 1 <;> by_cases k2 : t.Kind = 2 <;> simp [k1, k2, r1, r2, yC, l1]
 | true =>
   cases l2 : zQ l t.Axes.snd with
   | false => by_cases k1 : t.Kind = 1 <;> by_cases k2 : t.Kind = 2 <;> simp [k1, k2, r1, r2, yC, l1, l2]
   | true =>
     cases l3 : zQ l t.Data with
     | false => by_cases k1 : t.Kind = 1 <;> by_cases k2 : t.Kind = 2 <;> simp [k1, k2, r1, r2, yC, l1, l2, l3]
     | true =>
       have key := zwq h hk t hr l1 l2 l3
       simp only [Bool.not_true, cond_false, r1, r2, decide_false]
       by_cases k1 : t.Kind = 1
       . simp only [k1, decide_true, Bool.not_true, cond_false, true_or, if_true]
         rw [zk, if_pos hside]
         exact key
       . by_cases k2 : t.Kind = 2
         . simp only [k1, k2, decide_true, decide_false, Bool.not_true, Bool.not_false, cond_true, cond_false, or_true, if_true]
           rw [zk, if_pos hside]
           exact key
         . simp [k1, k2]
open Go
def bK {β : Type} (v : β) (b : Int) (xs : List Int) (k : Nat) : Option β := match xs[k]? with | some x => if x = b then none else some v | none => none
theorem zBi {β : Type} (v : β) (b : Int) (xs : List Int) (hx : xs.length <= 2) : zx (bK v b xs) 0 xs.length = if xs.all (fun x => decide (x = b)) = true then none else some v := by
 match xs, hx with
 | [], _ => rfl
 | [x], _ => by_cases h : x = b <;> simp [zx, bK, h]
 | [x, y], _ => by_cases h : x = b <;> by_cases g : y = b <;> simp [zx, bK, h, g]
def uK {β : Type} (v : β) (l : TL) (a : Int) (xs : List Int) (k : Nat) : Option β := match xs[k]? with | some x => if up l x.toNat a.toNat = true then none else some v | none => none
theorem zBv {β : Type} (v : β) (l : TL) (a : Int) (xs : List Int) (hx : xs.length <= 2) : zx (uK v l a xs) 0 xs.length = if xs.all (fun x => up l x.toNat a.toNat) = true then none else some v := by
 match xs, hx with
 | [], _ => rfl
 | [x], _ => cases h : up l x.toNat a.toNat <;> simp [zx, uK, h]
 | [x, y], _ => cases h : up l x.toNat a.toNat <;> cases g : up l y.toNat a.toNat <;> simp [zx, uK, h, g]
theorem zl0 {l : TL} (h : LatIn l) (hk : (qy l).2 = 0) (t : TY) (hr : ¬ (t.Rank < 0 \/ 2 < t.Rank)) (l1 : zQ l t.Axes.1 = true) (l2 : zQ l t.Axes.2 = true) (l3 : zQ l t.Data = true) :
 (Option.bind (lpO (fun (s598 : Int) =>
 cond (decide (s598 < (2 : Int)))
 (zk ((0 : Int) <= s598 /\ s598 < (↑(2 : Nat) : Int)) (
 zh ([t.Axes.fst, t.Axes.snd]) ((↑(Int.toNat s598) : Int)) fun x604 =>
 cond (!decide (x604 = (qN l : Int)))
 (some (Sum.inr (Sum.inr ((6 : Int)))))
 (zg (IntKind.wrap IntKind.i64 (s598 + (1 : Int))) fun x606 =>
 some (Sum.inl (x606)))))
 (some (Sum.inr (Sum.inl (()))))) (t.Rank))
 (Sum.elim (fun (_ : Unit) =>
 Option.bind (
 lpO (fun (s609 : Int) =>
 cond (decide (s609 < t.Rank))
 (zk ((0 : Int) <= s609 /\ s609 < (↑(2 : Nat) : Int)) (
 zh ([t.Axes.fst, t.Axes.snd]) ((↑(Int.toNat s609) : Int)) fun x614 =>
 Option.bind (js l (x614) (t.Data)) fun x615 =>
 cond (!x615)
 (some (Sum.inr (Sum.inr ((25 : Int)))))
 (zg (IntKind.wrap IntKind.i64 (s609 + (1 : Int))) fun x617 =>
 some (Sum.inl (x617)))))
 (some (Sum.inr (Sum.inl (()))))) ((0 : Int)))
 (Sum.elim (fun (_ : Unit) =>
 some ((0 : Int))) some)) some)) = some (yC l t) := by
 have ok := wR h hk
 have hle := ok.le
 have hlen := ok.len
 unfold yC
 rw [if_neg hr, if_pos ⟨l1, l2, l3⟩]
 have l1' : wt l t.Axes.1 = true := l1
 have l2' : wt l t.Axes.2 = true := l2
 unfold zQ at l1 l2 l3
 simp only [Bool.and_eq_true, decide_eq_true_eq] at l1 l2 l3
 have hB : ∀ x : Int, 0 <= x /\ x < (l.Names.length : Int) -> js l x t.Data = some (up l x.toNat t.Data.toNat) := fun x hx => by
  have := yR ok.u8 (a := x.toNat) (b := t.Data.toNat) (by omega) (by omega)
  rwa [Int.toNat_of_nonneg hx.1, Int.toNat_of_nonneg l3.1] at this
 have hdl : (2 - t.Rank).toNat = ([t.Axes.1, t.Axes.2].drop t.Rank.toNat).length := by simp; omega
 have htl : t.Rank.toNat = ([t.Axes.1, t.Axes.2].take t.Rank.toNat).length := by simp; omega
 refine (qu (2 - t.Rank).toNat (fun k => t.Rank + (k : Int)) (bK (6 : Int) (qN l : Int) ([t.Axes.1, t.Axes.2].drop t.Rank.toNat)) () (fun k hk2 => ?_) ?_ (by simp)).trans ?_
 . have hkk : t.Rank.toNat + k < 2 := by omega
   have hw : IntKind.wrap .i64 (t.Rank + (k : Int) + 1) = t.Rank + ((k + 1 : Nat) : Int) := by rw [w64 (by omega) (by omega)]; omega
   have hlt : t.Rank + (k : Int) < 2 := by omega
   have n1 : (0 : Int) <= t.Rank + (k : Int) /\ t.Rank + (k : Int) < ((2 : Nat) : Int) := by omega
   have hn : (t.Rank + (k : Int)).toNat = t.Rank.toNat + k := by omega
   obtain ⟨x, hx⟩ := zv (l := [t.Axes.1, t.Axes.2]) (i := t.Rank.toNat + k) (by simpa using hkk)
   have n0 : (0 : Int) <= ((t.Rank.toNat + k : Nat) : Int) := by omega
   simp only [hlt, decide_true, cond_true, zk, n1, and_self, if_true, zh, hn, n0, Int.toNat_natCast, hx, Option.bind_some, zg, hw, bK, List.getElem?_drop]
   by_cases hb : x = (qN l : Int) <;> simp [hb]
 . have : ¬ t.Rank + ((2 - t.Rank).toNat : Int) < 2 := by omega
   simp only [this, decide_false, cond_false]
 . rw [hdl, zBi (6 : Int) (qN l : Int) _ (by simp)]
   by_cases hall : ([t.Axes.1, t.Axes.2].drop t.Rank.toNat).all (fun x => decide (x = (qN l : Int))) = true
   . simp only [hall, if_true]
     refine (qu t.Rank.toNat (fun k => (k : Int)) (uK (25 : Int) l t.Data ([t.Axes.1, t.Axes.2].take t.Rank.toNat)) () (fun k hk2 => ?_) ?_ rfl).trans ?_
     . have hkk : k < 2 := by omega
       have hw : IntKind.wrap .i64 ((k : Int) + 1) = ((k + 1 : Nat) : Int) := w64 (by omega) (by omega)
       have hlt : (k : Int) < t.Rank := by omega
       have n1 : (0 : Int) <= (k : Int) /\ (k : Int) < ((2 : Nat) : Int) := by omega
       obtain ⟨x, hx⟩ := zv (l := [t.Axes.1, t.Axes.2]) (i := k) (by simpa using hkk)
       have hxl : wt l x = true := by
        have := List.mem_of_getElem? hx
        simp only [List.mem_cons, List.not_mem_nil, or_false] at this
        rcases this with rfl | rfl
        . exact l1'
        . exact l2'
       have hxb : 0 <= x /\ x < (l.Names.length : Int) := by unfold wt at hxl; simpa using hxl
       simp only [hlt, decide_true, cond_true, zk, n1, and_self, if_true, zh, Int.toNat_natCast, hx, Option.bind_some, zg, hw, uK, hB x hxb, List.getElem?_take, hk2]
       cases up l x.toNat t.Data.toNat <;> simp
     . have : ¬ (t.Rank.toNat : Int) < t.Rank := by omega
       simp only [this, decide_false, cond_false]
     . rw (occs := .pos [2]) [htl]
       rw [zBv (25 : Int) l t.Data _ (by simp; omega)]
       cases (List.take t.Rank.toNat [t.Axes.fst, t.Axes.snd]).all fun x => up l x.toNat t.Data.toNat <;> rfl
   . rw [if_neg hall, if_neg hall]
open Go
theorem zls {l : TL} (h : LatIn l) (t : TY) : zia l t = some (yi l t) := by
 unfold zia yi
 rw [xA l h.u8 h.names h.name, <- zbu h]
 by_cases hk : (qy l).2 = 0
 case neg => simp [hk]
 simp only [hk, if_true, Option.bind_some, decide_true, Bool.not_true, cond_false, xK]
 by_cases r1 : t.Rank < 0
 . by_cases k1 : t.Kind = 1 <;> by_cases k2 : t.Kind = 2 <;> simp [k1, k2, r1, yC]
 by_cases r2 : 2 < t.Rank
 . by_cases k1 : t.Kind = 1 <;> by_cases k2 : t.Kind = 2 <;> simp [k1, k2, r1, r2, yC]
 have hr : ¬ (t.Rank < 0 \/ 2 < t.Rank) := by omega
 cases l1 : zQ l t.Axes.fst with
 | false => by_cases k1 : t.Kind = 1 <;> by_cases k2 : t.Kind = 2 <;> simp [k1, k2, r1, r2, yC, l1]
 | true =>
   cases l2 : zQ l t.Axes.snd with
   | false => by_cases k1 : t.Kind = 1 <;> by_cases k2 : t.Kind = 2 <;> simp [k1, k2, r1, r2, yC, l1, l2]
   | true =>
     cases l3 : zQ l t.Data with
     | false => by_cases k1 : t.Kind = 1 <;> by_cases k2 : t.Kind = 2 <;> simp [k1, k2, r1, r2, yC, l1, l2, l3]
     | true =>
       have key := zl0 h hk t hr l1 l2 l3
       simp only [Bool.not_true, cond_false, r1, r2, decide_false, zlp h, hk, if_true, Option.bind_some]
       by_cases k1 : t.Kind = 1
       . simp only [k1, decide_true, Bool.not_true, cond_false, true_or, if_true]
         exact key
       . by_cases k2 : t.Kind = 2
         . simp only [k1, k2, decide_true, decide_false, Bool.not_true, Bool.not_false, cond_true, cond_false, or_true, if_true]
           exact key
         . simp [k1, k2]
def ckK {α τ : Type} (c : α -> Bool) (v : τ) (L : List α) (j : Nat) : Option τ := match L[j]? with | some y => if c y = true then some v else none | none => none
theorem zck {α τ : Type} (c : α -> Bool) (v : τ) (L : List α) (n : Nat) (hn : n <= L.length) : zx (ckK c v L) 0 n = if (L.take n).any c = true then some v else none := by
 by_cases h : (L.take n).any c = true
 . rw [if_pos h]
   cases e : zx (ckK c v L) 0 n with
   | some r =>
     have : r = v := zaq (v := v) (fun i => by
      unfold ckK
      cases L[i]? with
      | none => exact .inr rfl
      | some x => by_cases hx : c x = true <;> simp [hx]) e
     rw [this]
   | none =>
     exfalso
     rw [List.any_eq_true] at h
     obtain ⟨x, hx, hc⟩ := h
     obtain ⟨i, hi, hxi⟩ := List.getElem_of_mem hx
     rw [List.length_take] at hi
     have := scan_none.1 e i (by omega) (by omega)
     rw [List.getElem_take] at hxi
     unfold ckK at this
     rw [List.getElem?_eq_getElem (by omega), hxi] at this
     simp [hc] at this
 . rw [if_neg h, scan_none]
   intro i _ hi
   unfold ckK
   obtain ⟨x, hx⟩ := zv (l := L) (i := i) (by omega)
   rw [hx]
   have : ¬ c x = true := fun hc => h (by
    rw [List.any_eq_true]
    exact ⟨x, List.mem_take_iff_getElem.2 ⟨i, by omega, by rw [List.getElem?_eq_getElem (by omega)] at hx; exact Option.some.inj hx⟩, hc⟩)
   simp [this]
def zcx (x y : TU) : Bool := decide (y.From = x.From) && decide (y.Goal = x.Goal)
def rlK (p : TP) (k : Nat) : Option (Int × Int) := match p.Rules[k]? with
 | some x => if zQ p.Lattice x.From = true then (if zQ p.Lattice x.Goal = true then (if x.From = x.Goal then some ((k : Int), 25) else if up p.Lattice x.Goal.toNat x.From.toNat = true then (if (p.Rules.take k).any (zcx x) = true then some ((k : Int), 8) else if x.K < 2 then some ((k : Int), 3) else if 400 < x.K then some ((k : Int), 3) else none) else some ((k : Int), 25)) else some ((k : Int), 7)) else some ((k : Int), 7)
 | none => none
def rlC (p : TP) : Int × Int := if (64 : Int) < (p.Rules.length : Int) then (-1, 3) else match zx (rlK p) 0 p.Rules.length with | some r => r | none => (0, 0)
theorem zBy (x : TU) (L : List TU) : inL (x.From, x.Goal) (L.map fun y => (y.From, y.Goal)) = L.any (zcx x) := by
 rw [Bool.eq_iff_iff, inL_iff, List.any_eq_true]
 simp only [List.mem_map, Prod.mk.injEq, zcx, Bool.and_eq_true, decide_eq_true_eq]
theorem zBu {x : Int} (h0 : 0 <= x) (h1 : x < 256) {b : Nat} (hb : b <= 8) : decide (bits .and .u8 (Int.fdiv x (2 ^ min b (IntKind.bits .u8))) 1 = 0) = !Nat.testBit x.toNat b := by
 have key : ∀ u : Fin 256, ∀ b : Fin 9, decide (bits .and .u8 (Int.fdiv (u.val : Int) (2 ^ min b.val (IntKind.bits .u8))) 1 = 0) = !Nat.testBit u b := by decide +kernel
 have := key ⟨x.toNat, by omega⟩ ⟨b, by omega⟩
 simpa only [Int.toNat_of_nonneg h0] using this
theorem zix (p : TP) (h : LatIn p.Lattice) (hk : (qy p.Lattice).2 = 0) : zuq p = some (rlC p) := by
 have ok := wR h hk
 have hle := ok.le
 have hlen := ok.len
 unfold zuq rlC
 simp only [List.length_map]
 by_cases h6 : (64 : Int) < (p.Rules.length : Int)
 . simp [h6]
 simp only [h6, decide_false, cond_false, if_false]
 refine (qu p.Rules.length (fun k => ((k : Int), (p.Rules.take k).map fun y => (y.From, y.Goal))) (rlK p) () (fun k hk => ?_) ?_ rfl).trans ?_
 . obtain ⟨x, hx⟩ := zv hk
   have hlt : (k : Int) < (p.Rules.length : Int) := by omega
   have hw : IntKind.wrap .i64 ((k : Int) + 1) = ((k + 1 : Nat) : Int) := w64 (by omega) (by omega)
   have n1 : (0 : Int) <= (k : Int) := by omega
   have e : (p.Rules.take (k + 1)).map (fun y => (y.From, y.Goal)) = (p.Rules.take k).map (fun y => (y.From, y.Goal)) ++ [(x.From, x.Goal)] := by rw [List.take_add_one, hx]; simp
   simp only [hlt, decide_true, cond_true, zh, n1, if_true, Int.toNat_natCast, hx, Option.bind_some, zg, hw, uu, rlK, e, zBy]
   cases l1 : zQ p.Lattice x.From with
   | false => simp
   | true =>
     cases l2 : zQ p.Lattice x.Goal with
     | false => simp
     | true =>
       unfold zQ at l1 l2
       simp only [Bool.and_eq_true, decide_eq_true_eq] at l1 l2
       obtain ⟨u, hu⟩ := zv (l := p.Lattice.Up) (i := x.Goal.toNat) (by omega)
       have hu' := ok.u8.get hu
       have hb := zBu hu'.1 hu'.2 (b := x.From.toNat) (by omega)
       have n2 : (0 : Int) <= x.Goal := l2.1
       have n3 : (0 : Int) <= x.From := l1.1
       simp only [Bool.not_true, cond_false, n2, if_true, hu, Option.bind_some, zk, n3, hb, jq hu]
       by_cases hfg : x.From = x.Goal
       . simp [hfg]
       cases hbt : Nat.testBit u.toNat x.From.toNat with
       | false => simp [hfg]
       | true =>
         cases (p.Rules.take k).any (zcx x) with
         | true => simp [hfg]
         | false =>
           by_cases k2 : x.K < 2
           . simp [hfg, k2]
           . by_cases k4 : 400 < x.K <;> simp [hfg, k2, k4]
 . simp
 . cases zx (rlK p) 0 p.Rules.length <;> rfl
theorem zki (p : TP) (h : LatIn p.Lattice) (hk : (qy p.Lattice).2 = 0) : zl6 p = some (rlC p) := by
 have ok := wR h hk
 have hle := ok.le
 have hlen := ok.len
 unfold zl6 rlC
 simp only [List.length_map]
 by_cases h6 : (64 : Int) < (p.Rules.length : Int)
 . simp [h6]
 simp only [h6, decide_false, cond_false, if_false]
 refine (qu p.Rules.length (fun k => (k : Int)) (rlK p) () (fun k hk => ?_) ?_ rfl).trans ?_
 . obtain ⟨x, hx⟩ := zv hk
   have hlt : (k : Int) < (p.Rules.length : Int) := by omega
   have hw : IntKind.wrap .i64 ((k : Int) + 1) = ((k + 1 : Nat) : Int) := w64 (by omega) (by omega)
   have n1 : (0 : Int) <= (k : Int) := by omega
   simp only [hlt, decide_true, cond_true, zh, n1, if_true, Int.toNat_natCast, hx, Option.bind_some, zg, hw, xK, rlK]
   cases l1 : zQ p.Lattice x.From with
   | false => simp
   | true =>
     cases l2 : zQ p.Lattice x.Goal with
     | false => simp
     | true =>
       unfold zQ at l1 l2
       simp only [Bool.and_eq_true, decide_eq_true_eq] at l1 l2
       have hB := yR ok.u8 (a := x.Goal.toNat) (b := x.From.toNat) (by omega) (by omega)
       rw [Int.toNat_of_nonneg l2.1, Int.toNat_of_nonneg l1.1] at hB
       simp only [Bool.not_true, cond_false, if_true, hB, Option.bind_some]
       by_cases hfg : x.From = x.Goal
       . simp [hfg]
       cases hbt : up p.Lattice x.Goal.toNat x.From.toNat with
       | false => simp [hfg]
       | true =>
         simp only [hfg, decide_false, cond_false, Bool.not_true, if_true, if_false]
         refine (qu k (fun j => (j : Int)) (ckK (zcx x) (Sum.inr (Sum.inr ((k : Int), (8 : Int)))) p.Rules) () (fun j hj => ?_) ?_ rfl).trans ?_
         . obtain ⟨y, hy⟩ := zv (l := p.Rules) (i := j) (by omega)
           have hlt2 : (j : Int) < (k : Int) := by omega
           have hw2 : IntKind.wrap .i64 ((j : Int) + 1) = ((j + 1 : Nat) : Int) := w64 (by omega) (by omega)
           have n2 : (0 : Int) <= (j : Int) := by omega
           simp only [hlt2, decide_true, cond_true, n2, if_true, Int.toNat_natCast, hy, Option.bind_some, hw2, ckK, zcx]
           by_cases c1 : y.From = x.From <;> by_cases c2 : y.Goal = x.Goal <;> simp [c1, c2]
         . simp
         . rw [zck _ _ _ k (by omega)]
           cases (p.Rules.take k).any (zcx x) with
           | true => simp
           | false =>
             by_cases k2 : x.K < 2
             . simp [k2]
             . by_cases k4 : 400 < x.K <;> simp [k2, k4]
 . simp
 . cases zx (rlK p) 0 p.Rules.length <;> rfl
end Go.Sx.O
noncomputable section
namespace Go.Sx.O
open Go
structure PolIn (p : TP) : Prop where
 lat : LatIn p.Lattice
 chan : ∀ c ∈ p.Channels, c.s_.length <= 1000000
 var : ∀ c ∈ p.Vars, c.Name.length <= 1000000
def ya (p : TP) : Int × Int × Int :=
 if (qy p.Lattice).2 = 0 then (if (chC p).2 = 0 then (if (vrC (yi p.Lattice) p).2 = 0 then (if (rlC p).2 = 0 then (0, 0, 0) else (4, rlC p)) else (3, vrC (yi p.Lattice) p)) else (2, chC p)) else (1, qy p.Lattice)
theorem zi7 {τ : Type} {P : τ -> Prop} {f : Nat -> Option τ} (hf : ∀ i r, f i = some r -> P r) : ∀ {n k r}, zx f k n = some r -> P r := by
 intro n
 induction n with
 | zero => intro k r h; cases h
 | succ n ih =>
   intro k r h
   simp only [zx] at h
   split at h
   . rename_i b hb; cases h; exact hf _ _ hb
   . exact ih h
theorem zxw {p : TP} (h : (rlC p).2 = 0) : rlC p = (0, 0) := by
 unfold rlC at h ⊢
 split at h
 . simp at h
 . rename_i h6
   rw [if_neg h6]
   cases e : zx (rlK p) 0 p.Rules.length with
   | none => rfl
   | some r =>
     exfalso
     rw [e] at h
     have := zi7 (P := fun r : Int × Int => r.2 ≠ 0) (fun i r hr => by
      unfold rlK at hr
      revert hr
      repeat' split
      all_goals (intro hr; cases hr <;> simp)) e
     exact this h
theorem zbc {p : TP} (h : PolIn p) : zna p = some (ya p) := by
 unfold zna ya zzu
 rw [zaj h.lat, zd6 p h.chan, zke (yi p.Lattice) p h.var (fun c _ => zkf h.lat _)]
 by_cases hk : (qy p.Lattice).2 = 0
 case neg => simp [hk]
 rw [zix p h.lat hk]
 by_cases h2 : (chC p).2 = 0
 case neg => simp [hk, h2]
 by_cases h3 : (vrC (yi p.Lattice) p).2 = 0
 case neg => simp [hk, h2, h3]
 by_cases h4 : (rlC p).2 = 0
 case neg => simp [hk, h2, h3, h4]
 simp [hk, h2, h3, zxw h4]
theorem zbp {p : TP} (h : PolIn p) : zis p = some (ya p) := by
 unfold zis ya
 rw [xA p.Lattice h.lat.u8 h.lat.names h.lat.name, <- zbu h.lat, zfi p h.chan, zly (yi p.Lattice) p h.var (fun c _ => zls h.lat _)]
 by_cases hk : (qy p.Lattice).2 = 0
 case neg => simp [hk]
 rw [zki p h.lat hk]
 by_cases h2 : (chC p).2 = 0
 case neg => simp [hk, h2]
 by_cases h3 : (vrC (yi p.Lattice) p).2 = 0
 case neg => simp [hk, h2, h3]
 by_cases h4 : (rlC p).2 = 0
 case neg => simp [hk, h2, h3, h4]
 simp [hk, h2, h3, h4]
theorem zj1 {p : TP} (h : (ya p).2.2 = 0) : (qy p.Lattice).2 = 0 := by
 unfold ya at h
 by_cases hk : (qy p.Lattice).2 = 0
 . exact hk
 . rw [if_neg hk] at h; exact absurd h hk
theorem zjm {α : Type} {L : List α} {N : Nat} {c : α -> Bool} (h : (L.take (min L.length N)).any c = false) (hn : L.length <= N) : ∀ x ∈ L, c x = false := by
 rw [Nat.min_eq_left hn, List.take_length] at h
 simpa using h
theorem zqb (L : List (List UInt8)) : ∃ b, Fz0 L = some b /\ (b = false -> L.length <= 12 /\ ∀ s ∈ L, s.length <= 100) := by
 unfold Fz0
 simp only [List.length_map]
 rw [qu (s0 := (0 : Int)) (min L.length 20) (fun k => (k : Int)) (ckK (fun s : List UInt8 => decide ((100 : Int) < (s.length : Int))) true L) () ?_ ?_ rfl, zck _ _ _ _ (by omega)]
 . cases h : (L.take (min L.length 20)).any (fun s => decide ((100 : Int) < (s.length : Int))) with
   | true => exact ⟨true, rfl, fun h => by cases h⟩
   | false =>
     refine ⟨_, rfl, fun h12 => ?_⟩
     have h12 : L.length <= 12 := by simp at h12; omega
     exact ⟨h12, fun s hs => by have := zjm h (by omega) s hs; simp at this; omega⟩
 . intro k hk
   obtain ⟨x, hx⟩ := zv (l := L) (i := k) (by omega)
   have hlt : (k : Int) < (L.length : Int) := by omega
   have hlt2 : (k : Int) < 20 := by omega
   have hw : IntKind.wrap .i64 ((k : Int) + 1) = ((k + 1 : Nat) : Int) := w64 (by omega) (by omega)
   have n1 : (0 : Int) <= (k : Int) := by omega
   simp only [hlt, hlt2, decide_true, cond_true, zh, n1, if_true, Int.toNat_natCast, hx, zg, hw, ckK]
   by_cases c1 : (100 : Int) < (x.length : Int) <;> simp [c1]
 . by_cases c1 : ((min L.length 20 : Nat) : Int) < (L.length : Int)
   . have c2 : ¬ ((min L.length 20 : Nat) : Int) < 20 := by omega
     simp only [c1, c2, decide_true, decide_false, cond_true, cond_false]
   . simp only [c1, decide_false, cond_false]
theorem zxc (p : TP) (hu : U8s p.Lattice.Up) : ∃ b, Fz2 p = some b /\ (b = false -> PolIn p) := by
 unfold Fz2
 simp only [List.length_map]
 rw [qu (s0 := (0 : Int)) (min p.Channels.length 25) (fun k => (k : Int)) (ckK (fun s : TR => decide ((100 : Int) < (s.s_.length : Int))) true p.Channels) () ?_ ?_ rfl, zck _ _ _ _ (by omega)]
 rotate_left
 . intro k hk
   obtain ⟨x, hx⟩ := zv (l := p.Channels) (i := k) (by omega)
   have hlt : (k : Int) < (p.Channels.length : Int) := by omega
   have hlt2 : (k : Int) < 25 := by omega
   have hw : IntKind.wrap .i64 ((k : Int) + 1) = ((k + 1 : Nat) : Int) := w64 (by omega) (by omega)
   have n1 : (0 : Int) <= (k : Int) := by omega
   simp only [hlt, hlt2, decide_true, cond_true, zh, n1, if_true, Int.toNat_natCast, hx, zg, hw, ckK]
   by_cases c1 : (100 : Int) < (x.s_.length : Int) <;> simp [c1]
 . by_cases c1 : ((min p.Channels.length 25 : Nat) : Int) < (p.Channels.length : Int)
   . have c2 : ¬ ((min p.Channels.length 25 : Nat) : Int) < 25 := by omega
     simp only [c1, c2, decide_true, decide_false, cond_true, cond_false]
   . simp only [c1, decide_false, cond_false]
 cases hc : (p.Channels.take (min p.Channels.length 25)).any (fun s => decide ((100 : Int) < (s.s_.length : Int))) with
 | true => exact ⟨true, rfl, fun h => by cases h⟩
 | false =>
   simp only [Bool.false_eq_true, if_false]
   rw [qu (s0 := (0 : Int)) (min p.Vars.length 45) (fun k => (k : Int)) (ckK (fun s : TV => decide ((100 : Int) < (s.Name.length : Int))) true p.Vars) () ?_ ?_ rfl, zck _ _ _ _ (by omega)]
   rotate_left
   . intro k hk
     obtain ⟨x, hx⟩ := zv (l := p.Vars) (i := k) (by omega)
     have hlt : (k : Int) < (p.Vars.length : Int) := by omega
     have hlt2 : (k : Int) < 45 := by omega
     have hw : IntKind.wrap .i64 ((k : Int) + 1) = ((k + 1 : Nat) : Int) := w64 (by omega) (by omega)
     have n1 : (0 : Int) <= (k : Int) := by omega
     simp only [hlt, hlt2, decide_true, cond_true, zh, n1, if_true, Int.toNat_natCast, hx, zg, hw, ckK]
     by_cases c1 : (100 : Int) < (x.Name.length : Int) <;> simp [c1]
   . by_cases c1 : ((min p.Vars.length 45 : Nat) : Int) < (p.Vars.length : Int)
     . have c2 : ¬ ((min p.Vars.length 45 : Nat) : Int) < 45 := by omega
       simp only [c1, c2, decide_true, decide_false, cond_true, cond_false]
     . simp only [c1, decide_false, cond_false]
   cases hv : (p.Vars.take (min p.Vars.length 45)).any (fun s => decide ((100 : Int) < (s.Name.length : Int))) with
   | true => exact ⟨true, rfl, fun h => by cases h⟩
   | false =>
     simp only [Bool.false_eq_true, if_false]
     unfold Fz1
     obtain ⟨b, e, hb⟩ := zqb p.Lattice.Names
     rw [e]
     simp only [Option.bind_some, List.length_map]
     cases b with
     | true => exact ⟨true, rfl, fun h => by cases h⟩
     | false =>
       obtain ⟨hb1, hb2⟩ := hb rfl
       simp only [cond_false, Option.bind_some]
       by_cases h12 : (12 : Int) < (p.Lattice.Up.length : Int)
       . exact ⟨true, by simp [h12], fun h => by cases h⟩
       by_cases h20 : (20 : Int) < (p.Channels.length : Int)
       . exact ⟨true, by simp [h12, h20], fun h => by cases h⟩
       by_cases h40 : (40 : Int) < (p.Vars.length : Int)
       . exact ⟨true, by simp [h12, h20, h40], fun h => by cases h⟩
       simp only [h12, h20, h40, decide_false, cond_false]
       refine ⟨_, rfl, fun _ => ⟨⟨hu, by omega, fun s hs => by have := hb2 s hs; omega⟩, fun c h => ?_, fun c h => ?_⟩⟩
       . have := zjm hc (by omega) c h; simp at this; omega
       . have := zjm hv (by omega) c h; simp at this; omega
end Go.Sx.O
end
noncomputable section
namespace Go.Sx.O
open Go
theorem zka {r : Int} {l : Int × Int} (h : shC r l = 0) : 0 <= ww r l /\ ww r l <= 400 := by
 unfold shC at h
 unfold ww
 by_cases r0 : r = 0
 . simp [r0]
 by_cases r1 : r = 1
 . rw [if_neg r0, if_pos r1] at h
   rw [if_neg (by omega), if_pos r1]
   by_cases c1 : l.1 < 0
   . rw [if_pos c1] at h; omega
   rw [if_neg c1] at h
   by_cases c2 : l.2 = 0
   . rw [if_pos c2] at h
     by_cases c3 : 400 < l.1
     . rw [if_pos c3] at h; omega
     . omega
   . rw [if_neg c2] at h; omega
 by_cases r2 : r = 2
 . rw [if_neg r0, if_neg r1, if_pos r2] at h
   rw [if_pos r2]
   by_cases c1 : l.1 < 0
   . rw [if_pos c1] at h; omega
   by_cases c2 : l.2 < 0
   . rw [if_neg c1, if_pos c2] at h; omega
   rw [if_neg c1, if_neg c2] at h
   have := Int.mul_nonneg (a := l.1) (b := l.2) (by omega) (by omega)
   by_cases c3 : 400 < l.1
   . rw [if_pos c3] at h; omega
   by_cases c4 : 400 < l.2
   . rw [if_neg c3, if_pos c4] at h; omega
   by_cases c5 : 400 < l.1 * l.2
   . rw [if_neg c3, if_neg c4, if_pos c5] at h; omega
   . omega
 . rw [if_neg r0, if_neg r1, if_neg r2] at h; omega
theorem zx6 {a : TA} (h : jt a = 0) : a.Cells.length <= 400 := by
 unfold jt at h
 split at h
 . split at h
   . rename_i hs
     have := zka hs
     split at h
     . omega
     . omega
   . omega
 . omega
theorem zgw (a : TA) : zjf a = some (jt a) := by
 by_cases hl : a.Cells.length <= 1000000000
 . exact zfn a hl
 unfold zjf jt
 rw [uD]
 simp only [Option.bind_some, List.length_map]
 by_cases hs : shC a.Rank a.Lens = 0
 . have hm := zka hs
   have hne : ¬ (a.Cells.length : Int) = ww a.Rank a.Lens := by omega
   simp only [hs, if_true, decide_true, Bool.not_true, cond_false, hne, decide_false, Bool.not_false, cond_true, if_false]
   by_cases k1 : a.Kind = 1 <;> by_cases k2 : a.Kind = 2 <;> simp [k1, k2]
 . simp only [hs, if_false, decide_false, Bool.not_false, cond_true]
   by_cases k1 : a.Kind = 1 <;> by_cases k2 : a.Kind = 2 <;> simp [k1, k2]
theorem zhh (a : TA) : zcc a = some (jt a) := by
 by_cases hl : a.Cells.length <= 1000000000
 . exact zgu a hl
 unfold zcc jt
 rw [za0]
 simp only [Option.bind_some, List.length_map]
 have lp0 : ∀ (v : Int), Option.bind (lpO (fun (_ : Unit) => cond (decide ((0 : Int) < (a.Cells.length : Int))) (some (Sum.inr (Sum.inl ()) : Unit ⊕ (Unit ⊕ Int))) (some (Sum.inr (Sum.inl ())))) ()) (Sum.elim (fun _ => some v) some) = some v := by
  intro v
  rw [qC]
  cases decide ((0 : Int) < (a.Cells.length : Int)) <;> rfl
 by_cases hs : shC a.Rank a.Lens = 0
 . have hm := zka hs
   have hne : ¬ (a.Cells.length : Int) = ww a.Rank a.Lens := by omega
   simp only [hs, if_true, decide_true, Bool.not_true, cond_false, hne, decide_false, Bool.not_false, cond_true, if_false, lp0]
   by_cases k1 : a.Kind = 1 <;> by_cases k2 : a.Kind = 2 <;> simp [k1, k2]
 . simp only [hs, if_false, decide_false, Bool.not_false, cond_true, cond_false, lp0]
   by_cases k1 : a.Kind = 1 <;> by_cases k2 : a.Kind = 2 <;> simp [k1, k2]
theorem zkl (w : List TW) : ∃ b, Fz3 w = some b /\ (b = false -> w.length <= 40 /\ ∀ x ∈ w, x.Name.length <= 100) := by
 have key : Tot (Fz3 w) fun b => b = false -> w.length <= 40 /\ ∀ x ∈ w, x.Name.length <= 100 := by
  unfold Fz3
  rw [zu]
  refine Tot.count (min w.length 50) (fun k s => s.1 = (k : Int) /\ ∀ x ∈ w.take k, x.Name.length <= 100) ?_ ⟨rfl, by simp⟩
  rintro k ⟨i, n⟩ hk ⟨h0, h1⟩
  simp only at h0
  subst h0
  simp only [zF, tot_some, zN, qn, Sum.elim_inl, Sum.elim_inr, decide_eq_true_eq, decide_eq_false_iff_not, Int.toNat_natCast, List.length_map]
  refine ⟨fun hlt => ⟨fun h5 => ?_, fun h5 => ?_⟩, fun hge => ?_⟩
  . obtain ⟨x, hx⟩ := zv (l := w) (i := k) (by omega)
    refine ⟨by omega, x, hx, by omega, x, hx, fun hc => ?_, fun hc => ?_⟩
    . intro h; cases h
    . rw [w64 (by omega) (by omega)]
      refine ⟨by omega, by omega, ?_⟩
      rw [List.take_add_one, hx]
      intro y hy
      simp only [List.mem_append, Option.toList_some, List.mem_singleton] at hy
      rcases hy with hy | rfl
      . exact h1 y hy
      . omega
  . refine ⟨fun _ => (fun h => by cases h), fun _ h4 => ?_⟩
    simp at h4
    omega
  . refine ⟨fun _ => (fun h => by cases h), fun _ h4 => ?_⟩
    simp at h4
    have : w.take k = w := List.take_of_length_le (by omega)
    rw [this] at h1
    exact ⟨by omega, h1⟩
 obtain ⟨b, e, h⟩ := key
 exact ⟨b, e, h⟩
def zbo (p : TP) (w : List TW) (k : Nat) : Option (Int × Int) := match w[k]?, p.Vars[k]? with
 | some x, some v => if x.Name = v.Name then (if jt x.Value = 0 then (if x.Value.Kind = v.Type_.Kind then (if x.Value.Rank = v.Type_.Rank then none else some ((k : Int), 22)) else some ((k : Int), 21)) else some ((k : Int), jt x.Value)) else some ((k : Int), 24)
 | _, _ => none
def zZ (p : TP) (w : List TW) : Int × Int := if (ya p).2.2 = 0 then (if w.length = p.Vars.length then (match zx (zbo p w) 0 w.length with | some r => r | none => (0, 0)) else (-1, 3)) else (-1, (ya p).2.2)
theorem zi9 {p : TP} (h : PolIn p) (w : List TW) (hw : w.length <= 1000000) : zth p w = some (zZ p w) := by
 unfold zth zZ
 rw [zbc h]
 simp only [Option.bind_some, List.length_map]
 by_cases hk : (ya p).2.2 = 0
 case neg => simp [hk]
 simp only [hk, decide_true, Bool.not_true, cond_false, if_true]
 by_cases hl : w.length = p.Vars.length
 case neg =>
  have : ¬ (w.length : Int) = (p.Vars.length : Int) := by omega
  simp [hl, this]
 have hl' : (w.length : Int) = (p.Vars.length : Int) := by omega
 simp only [hl', hl, decide_true, Bool.not_true, cond_false, if_true]
 refine (qu p.Vars.length (fun k => (k : Int)) (zbo p w) () (fun k hk => ?_) (by simp) rfl).trans ?_
 . obtain ⟨v, hv⟩ := zv hk
   obtain ⟨x, hx⟩ := zv (l := w) (i := k) (by omega)
   have hlt : (k : Int) < (p.Vars.length : Int) := by omega
   have hw : IntKind.wrap .i64 ((k : Int) + 1) = ((k + 1 : Nat) : Int) := w64 (by omega) (by omega)
   have n1 : (0 : Int) <= (k : Int) := by omega
   simp only [hlt, decide_true, cond_true, zh, n1, if_true, Int.toNat_natCast, hx, hv, Option.bind_some, zg, hw, zgw, zbo]
   by_cases c1 : x.Name = v.Name <;> by_cases c2 : jt x.Value = 0 <;> by_cases c3 : x.Value.Kind = v.Type_.Kind <;> by_cases c4 : x.Value.Rank = v.Type_.Rank <;> simp [c1, c2, c3, c4]
 . cases zx (zbo p w) 0 p.Vars.length <;> rfl
theorem zc9 {p : TP} (h : PolIn p) (w : List TW) (hw : w.length <= 1000000) : zhv p w = some (zZ p w) := by
 unfold zhv zZ
 rw [zbp h]
 simp only [Option.bind_some, List.length_map]
 by_cases hk : (ya p).2.2 = 0
 case neg => simp [hk]
 simp only [hk, decide_true, Bool.not_true, cond_true, cond_false, if_true]
 by_cases hl : w.length = p.Vars.length
 case neg =>
  have : ¬ (w.length : Int) = (p.Vars.length : Int) := by omega
  simp [hl, this]
 have hl' : (w.length : Int) = (p.Vars.length : Int) := by omega
 simp only [hl', hl, decide_true, Bool.not_true, cond_false, if_true]
 refine (qu p.Vars.length (fun k => (k : Int)) (zbo p w) () (fun k hk => ?_) (by simp) rfl).trans ?_
 . obtain ⟨v, hv⟩ := zv hk
   obtain ⟨x, hx⟩ := zv (l := w) (i := k) (by omega)
   have hlt : (k : Int) < (p.Vars.length : Int) := by omega
   have hw : IntKind.wrap .i64 ((k : Int) + 1) = ((k + 1 : Nat) : Int) := w64 (by omega) (by omega)
   have n1 : (0 : Int) <= (k : Int) := by omega
   simp only [hlt, decide_true, cond_true, zh, n1, if_true, Int.toNat_natCast, hx, hv, Option.bind_some, zg, hw, zhh, zbo]
   by_cases c1 : x.Name = v.Name <;> by_cases c2 : jt x.Value = 0 <;> by_cases c3 : x.Value.Kind = v.Type_.Kind <;> by_cases c4 : x.Value.Rank = v.Type_.Rank <;> simp [c1, c2, c3, c4]
 . cases zx (zbo p w) 0 p.Vars.length <;> rfl
theorem zpq {p : TP} (h : (ya p).2.2 = 0) : p.Vars.length <= 32 /\ ∀ v ∈ p.Vars, yi p.Lattice v.Type_ = 0 := by
 unfold ya at h
 by_cases h1 : (qy p.Lattice).2 = 0
 case neg => rw [if_neg h1] at h; exact absurd h h1
 rw [if_pos h1] at h
 by_cases h2 : (chC p).2 = 0
 case neg => rw [if_neg h2] at h; exact absurd h h2
 rw [if_pos h2] at h
 by_cases h3 : (vrC (yi p.Lattice) p).2 = 0
 case neg => rw [if_neg h3] at h; exact absurd h h3
 unfold vrC at h3
 by_cases h6 : (32 : Int) < (p.Vars.length : Int)
 . rw [if_pos h6] at h3; exact absurd h3 (by decide)
 rw [if_neg h6] at h3
 refine ⟨by omega, fun v hv => ?_⟩
 cases hs : zx (vrK (yi p.Lattice) p) 0 p.Vars.length with
 | some r =>
   rw [hs] at h3
   have : r.2 ≠ 0 := zi7 (P := fun r => r.2 ≠ 0) (fun i r hr => by
    unfold vrK at hr
    split at hr
    . split at hr
      . cases hr; assumption
      . split at hr
        . cases hr
        . cases hr; assumption
    . cases hr) hs
   exact absurd h3 this
 | none =>
   obtain ⟨i, hi, e⟩ := List.getElem_of_mem hv
   have := scan_none.1 hs i (by omega) (by omega)
   unfold vrK at this
   rw [List.getElem?_eq_getElem hi, e] at this
   simp only at this
   split at this
   . cases this
   . split at this
     . assumption
     . cases this
end Go.Sx.O
end
namespace Go.Sx.O
open Go
theorem za6 (a b : TA) (h : a.Cells.length <= 9223372036854775807) : Tot (zff a b) fun r => (r = true ↔ a = b) := by
 unfold zff zsr
 obtain ⟨k1, r1, ⟨p1, q1⟩, c1⟩ := a
 obtain ⟨k2, r2, ⟨p2, q2⟩, c2⟩ := b
 simp only [TA.mk.injEq, Prod.mk.injEq, List.length_map]
 by_cases e1 : k1 = k2
 case neg => simp [e1, tot_some]
 by_cases e2 : r1 = r2
 case neg => simp [e1, e2, tot_some]
 by_cases e3 : p1 = p2
 case neg => simp [e1, e2, e3, tot_some]
 by_cases e4 : q1 = q2
 case neg => simp [e1, e2, e3, e4, tot_some]
 by_cases e5 : c1.length = c2.length
 case neg =>
  have e6 : ¬ (c1.length : Int) = c2.length := by omega
  have e7 : c1 ≠ c2 := fun e => e5 (by rw [e])
  simp [e1, e2, e3, e4, e6, e7, tot_some]
 simp only [e1, e2, e3, e4, e5, decide_true, Bool.not_true, cond_true, cond_false, Bool.and_true, true_and, Option.bind_some, zu, and_self]
 simp only at h
 refine zcy (l := c1) (m := c2) c2.length (fun x y => decide (x = y)) (bad := fun _ => false) (e := ()) (by omega) (Nat.le_refl _) (fun k x y hx hy hk => ?_) (by simp) (fun hall => ?_) (fun k x y hx hy hk e _ => ?_)
 . simp only [Int.ofNat_lt, hk, decide_true, cond_true, zh, Int.toNat_natCast, hx, hy, Option.bind_some, zg, Int.natCast_nonneg, if_true]
   rw [w64 (by omega) (by omega)]
   by_cases hxy : x = y <;> simp [hxy]
 . have : c1 = c2 := uh e5 fun k x y hx hy hk => by simpa using hall k x y hx hy (by omega)
   simp [this, tot_some]
 . have : c1 ≠ c2 := by
    rintro rfl
    rw [hx] at hy; cases hy
    simp at e
   simp [this, tot_some]
theorem zlv (a b : List TW) (h : a.length <= 1000000) (hv : ∀ v ∈ a, v.Value.Cells.length <= 9223372036854775807) : Tot (zmo a b) fun r => (r = true ↔ a = b) := by
 unfold zmo
 simp only [List.length_map]
 by_cases e5 : a.length = b.length
 case neg =>
  have e6 : ¬ (a.length : Int) = b.length := by omega
  have e7 : a ≠ b := fun e => e5 (by rw [e])
  simp [e6, e7, tot_some]
 simp only [e5, decide_true, Bool.not_true, cond_false, zu]
 open Classical in
 refine zcy (l := a) (m := b) b.length (fun x y => decide (x = y)) (bad := fun _ => false) (e := ()) (by omega) (Nat.le_refl _) (fun k x y hx hy hk => ?_) (by simp) (fun hall => ?_) (fun k x y hx hy hk e _ => ?_)
 . obtain ⟨r, e, hr⟩ := za6 x.Value y.Value (hv x (List.mem_of_getElem? hx))
   simp only [Int.ofNat_lt, hk, decide_true, cond_true, zh, Int.toNat_natCast, hx, hy, Option.bind_some, zg, Int.natCast_nonneg, if_true, e]
   rw [w64 (by omega) (by omega)]
   obtain ⟨nx, vx⟩ := x
   obtain ⟨ny, vy⟩ := y
   simp only [TW.mk.injEq] at hr ⊢
   by_cases h1 : nx = ny
   . by_cases h2 : vx = vy
     . have : r = true := hr.2 h2
       simp [h1, h2, this]
     . have : r = false := by cases r <;> simp_all
       simp [h1, h2, this]
   . simp [h1]
 . have : a = b := uh e5 fun k x y hx hy hk => by simpa using hall k x y hx hy (by omega)
   simp [this, tot_some]
 . have : a ≠ b := by
    rintro rfl
    rw [hx] at hy; cases hy
    simp at e
   simp [this, tot_some]
theorem zCf {l : List Int} (h : jh (inK .u8) l) : U8s l := fun x hx => zC3 (h x hx)
open Go
theorem yr {p : TP} {w : List TW} (h : (zZ p w).2 = 0) : (ya p).2.2 = 0 /\ w.length = p.Vars.length /\ zZ p w = (0, 0) /\ ∀ (k : Nat) x v, w[k]? = some x -> p.Vars[k]? = some v -> x.Name = v.Name /\ jt x.Value = 0 /\ x.Value.Kind = v.Type_.Kind /\ x.Value.Rank = v.Type_.Rank := by
 unfold zZ at h ⊢
 by_cases hk : (ya p).2.2 = 0
 case neg => rw [if_neg hk] at h; exact absurd h hk
 rw [if_pos hk] at h ⊢
 by_cases hl : w.length = p.Vars.length
 case neg => rw [if_neg hl] at h; exact absurd h (by decide)
 rw [if_pos hl] at h ⊢
 cases hs : zx (zbo p w) 0 w.length with
 | some r =>
   rw [hs] at h
   have : r.2 ≠ 0 := zi7 (P := fun r => r.2 ≠ 0) (fun i r hr => by
    unfold zbo at hr
    split at hr
    . split at hr
      . split at hr
        . split at hr
          . split at hr
            . cases hr
            . cases hr; exact (by decide : (22 : Int) ≠ 0)
          . cases hr; exact (by decide : (21 : Int) ≠ 0)
        . cases hr; assumption
      . cases hr; exact (by decide : (24 : Int) ≠ 0)
    . cases hr) hs
   exact absurd h this
 | none =>
   refine ⟨hk, hl, rfl, fun k x v hx hv => ?_⟩
   have hlt : k < w.length := (List.getElem?_eq_some_iff.1 hx).1
   have := scan_none.1 hs k (by omega) (by omega)
   unfold zbo at this
   rw [hx, hv] at this
   simp only at this
   by_cases c1 : x.Name = v.Name
   case neg => rw [if_neg c1] at this; cases this
   rw [if_pos c1] at this
   by_cases c2 : jt x.Value = 0
   case neg => rw [if_neg c2] at this; cases this
   rw [if_pos c2] at this
   by_cases c3 : x.Value.Kind = v.Type_.Kind
   case neg => rw [if_neg c3] at this; cases this
   rw [if_pos c3] at this
   by_cases c4 : x.Value.Rank = v.Type_.Rank
   case neg => rw [if_neg c4] at this; cases this
   exact ⟨c1, c2, c3, c4⟩
open Go
theorem zq6 {x : Int} (h0 : 0 <= x) (h1 : x < 256) {b : Nat} (hb : b <= 8) : decide (bits .and .u8 (Int.fdiv x (2 ^ min b (IntKind.bits .u8))) 1 = 1) = Nat.testBit x.toNat b := by
 have key : ∀ u : Fin 256, ∀ b : Fin 9, decide (bits .and .u8 (Int.fdiv (u.val : Int) (2 ^ min b.val (IntKind.bits .u8))) 1 = 1) = Nat.testBit u b := by decide +kernel
 have := key ⟨x.toNat, by omega⟩ ⟨b, by omega⟩
 simpa only [Int.toNat_of_nonneg h0] using this
theorem labB_iff {l : TL} {a : Int} : zQ l a = true ↔ 0 <= a /\ a < (l.Names.length : Int) := by simp [zQ]
theorem zc5 {l : TL} {t : TY} (h : yi l t = 0) : (qy l).2 = 0 /\ (t.Kind = 1 \/ t.Kind = 2) /\ 0 <= t.Rank /\ t.Rank <= 2 /\ zQ l t.Axes.1 = true /\ zQ l t.Axes.2 = true /\ zQ l t.Data = true /\
 ([t.Axes.1, t.Axes.2].drop t.Rank.toNat).all (fun x => decide (x = (qN l : Int))) = true /\ ([t.Axes.1, t.Axes.2].take t.Rank.toNat).all (fun x => up l x.toNat t.Data.toNat) = true := by
 unfold yi at h
 by_cases hk : (qy l).2 = 0
 case neg => rw [if_neg hk] at h; exact absurd h hk
 rw [if_pos hk] at h
 split at h
 case isFalse => exact absurd h (by decide)
 rename_i h1
 unfold yC at h
 split at h
 . exact absurd h (by decide)
 rename_i h2
 split at h
 case isFalse => exact absurd h (by decide)
 rename_i h3
 split at h
 case isFalse => exact absurd h (by decide)
 rename_i h4
 split at h
 case isFalse => exact absurd h (by decide)
 rename_i h5
 exact ⟨hk, h1, by omega, by omega, h3.1, h3.2.1, h3.2.2, h4, h5⟩
theorem zqq {l : TL} (h : LatIn l) (hk : (qy l).2 = 0) : ztj l = some (TG.mk l (qN l), 0) := by
 unfold ztj
 rw [zaj h, zky h]
 simp [hk]
theorem zbw (l : TL) (b a : Int) : zbf (TG.mk l b) a = some (zQ l a) := by
 unfold zbf zQ
 by_cases h : 0 <= a <;> simp [h]
theorem xu {l : TL} (ok : LatOK l) (b : Int) {a o : Int} (ha : zQ l a = true) (ho : zQ l o = true) : zi6 (TG.mk l b) a o = some (up l a.toNat o.toNat) := by
 obtain ⟨a0, a1⟩ := labB_iff.1 ha
 obtain ⟨o0, o1⟩ := labB_iff.1 ho
 have hle := ok.le
 have hlen := ok.len
 unfold zi6 zh
 obtain ⟨x, hx⟩ := zv (l := l.Up) (i := a.toNat) (by omega)
 have hu := ok.u8 x (List.mem_of_getElem? hx)
 simp only [a0, if_true, hx, Option.bind_some]
 unfold zk
 rw [if_pos o0, zq6 hu.1 hu.2 (by omega), jq hx]
theorem zA2 {l : TL} (ok : LatOK l) (b : Int) (t : TY) (hd : zQ l t.Data = true) (xs : List Int) (hx : xs.length <= 2) (hl : ∀ x ∈ xs, zQ l x = true) (hu : xs.all (fun x => up l x.toNat t.Data.toNat) = true) :
 zbm xs (TG.mk l b, t) = some false := by
 unfold zbm zyh
 have : (Option.bind (lpO (fun (s115 : Int) =>
 cond (decide (s115 < (↑(List.length (List.map (SV.int IntKind.i64) xs)) : Int)))
 (zh (xs) (s115) fun x121 =>
 Option.bind (zse (x121) ((TG.mk l b, t).fst) ((TG.mk l b, t).snd)) fun x122 =>
 cond (x122)
 (some (Sum.inr (Sum.inr (s115))))
 (zg (IntKind.wrap IntKind.i64 (s115 + (1 : Int))) fun x124 =>
 some (Sum.inl (x124))))
 (some (Sum.inr (Sum.inl (()))))) ((0 : Int)))
 (Sum.elim (fun (_ : Unit) =>
 some ((-1 : Int))) some)) = some (-1) := by
  refine (qY xs.length (fun k => (k : Int)) () (fun k hk => ?_) (by simp) rfl).trans rfl
  obtain ⟨x, hx'⟩ := zv hk
  have hm := List.mem_of_getElem? hx'
  have hlt : (k : Int) < (xs.length : Int) := by omega
  have hw : IntKind.wrap .i64 ((k : Int) + 1) = ((k + 1 : Nat) : Int) := w64 (by omega) (by omega)
  have n1 : (0 : Int) <= (k : Int) := by omega
  have hup : up l x.toNat t.Data.toNat = true := by
   have := List.all_eq_true.1 hu x hm
   simpa using this
  simp only [List.length_map, hlt, decide_true, cond_true, zh, n1, if_true, Int.toNat_natCast, hx', zg, hw, zse, xu ok b (hl x hm) hd, Option.bind_some, hup, Bool.not_true, cond_false]
 rw [this]
 rfl
theorem zjp {l : TL} (h : LatIn l) {t : TY} (hg : yi l t = 0) : ztd (TG.mk l (qN l)) t = some 0 := by
 obtain ⟨hk, hkind, hr0, hr2, l1, l2, l3, hbot, hup⟩ := zc5 hg
 have ok := wR h hk
 have c1 : ¬ t.Rank < 0 := by omega
 have c2 : ¬ 2 < t.Rank := by omega
 have tail : (zcz (t.Rank) [
 cond (!(decide ((qN l : Int) = t.Axes.fst) && (decide ((qN l : Int) = t.Axes.snd) && true)))
 (some ((6 : Int)))
 (zk ((0 : Int) <= t.Rank /\ t.Rank <= (↑(2 : Nat) : Int)) (
 Option.bind (zbm (List.drop (Int.toNat (0 : Int)) (List.take (Int.toNat t.Rank) [t.Axes.fst, t.Axes.snd])) ((TG.mk l (qN l), t))) fun x126 =>
 cond (x126)
 (some ((25 : Int)))
 (some ((0 : Int))))),
 cond (!(decide (t.Axes.fst = t.Axes.fst) && (decide ((qN l : Int) = t.Axes.snd) && true)))
 (some ((6 : Int)))
 (zk ((0 : Int) <= t.Rank /\ t.Rank <= (↑(2 : Nat) : Int)) (
 Option.bind (zbm (List.drop (Int.toNat (0 : Int)) (List.take (Int.toNat t.Rank) [t.Axes.fst, t.Axes.snd])) ((TG.mk l (qN l), t))) fun x129 =>
 cond (x129)
 (some ((25 : Int)))
 (some ((0 : Int))))),
 cond (!(decide (t.Axes.fst = t.Axes.fst) && (decide (t.Axes.snd = t.Axes.snd) && true)))
 (some ((6 : Int)))
 (zk ((0 : Int) <= t.Rank /\ t.Rank <= (↑(2 : Nat) : Int)) (
 Option.bind (zbm (List.drop (Int.toNat (0 : Int)) (List.take (Int.toNat t.Rank) [t.Axes.fst, t.Axes.snd])) ((TG.mk l (qN l), t))) fun x132 =>
 cond (x132)
 (some ((25 : Int)))
 (some ((0 : Int)))))]) = some 0 := by
   have hc : zbm (List.drop (Int.toNat (0 : Int)) (List.take (Int.toNat t.Rank) [t.Axes.fst, t.Axes.snd])) ((TG.mk l (qN l), t)) = some false := by
    refine zA2 ok _ t l3 _ (by simp; omega) (fun x hx => ?_) (by simpa using hup)
    have := List.mem_of_mem_take (by simpa using hx)
    simp only [List.mem_cons, List.not_mem_nil, or_false] at this
    rcases this with rfl | rfl
    . exact l1
    . exact l2
   have hs : (0 : Int) <= t.Rank /\ t.Rank <= ((2 : Nat) : Int) := ⟨hr0, by omega⟩
   have hsx : ∀ y : Option Int, zk ((0 : Int) <= t.Rank /\ t.Rank <= ((2 : Nat) : Int)) y = y := fun y => by unfold zk; rw [if_pos hs]
   rw [hc]
   simp only [hsx, Option.bind_some, cond_false, decide_true, Bool.true_and, Bool.and_true, Bool.not_true]
   have hr : t.Rank = 0 \/ t.Rank = 1 \/ t.Rank = 2 := by omega
   rcases hr with hr | hr | hr
   . rw [hr] at hbot ⊢
     simp only [Int.toNat_zero, List.drop_zero, List.all_cons, List.all_nil, Bool.and_true, Bool.and_eq_true, decide_eq_true_eq] at hbot
     simp [zcz, hbot.1, hbot.2]
   . rw [hr] at hbot ⊢
     have e1 : (1 : Int).toNat = 1 := rfl
     simp only [e1, List.drop_succ_cons, List.drop_zero, List.all_cons, List.all_nil, Bool.and_true, decide_eq_true_eq] at hbot
     simp [zcz, hbot]
   . rw [hr]
     simp [zcz]
 unfold ztd
 have sw : ∀ (x y : Option (Unit ⊕ Int)), cond (!decide (t.Kind = 1)) (cond (!decide (t.Kind = 2)) (some (Sum.inr 7)) x) y = if t.Kind = 1 then y else x := fun x y => by
  by_cases k1 : t.Kind = 1
  . simp [k1]
  . have k2 : t.Kind = 2 := by omega
    simp [k2]
 rw [sw]
 simp only [zbw, l1, l2, l3, Option.bind_some, Bool.not_true, cond_false, c1, c2, decide_false, decide_true, Bool.true_and, ite_self, Sum.elim_inl] at tail ⊢
 exact tail
def axC (l : TL) (t : TY) (o : Int) : Bool × Bool := (decide (0 < t.Rank) && up l t.Axes.1.toNat o.toNat, decide (1 < t.Rank) && up l t.Axes.2.toNat o.toNat)
def siC (l : TL) (t : TY) (o : Int) : (Bool × Bool) × Bool := (axC l t o, up l t.Data.toNat o.toNat)
theorem zlh {l : TL} (h : LatIn l) {t : TY} (hg : yi l t = 0) {o : Int} (ho : zQ l o = true) : zun l t o = some (axC l t o, up l t.Data.toNat o.toNat, 0) := by
 obtain ⟨hk, hkind, hr0, hr2, l1, l2, l3, hbot, hup⟩ := zc5 hg
 have ok := wR h hk
 unfold zun
 rw [zqq h hk]
 simp only [Option.bind_some, decide_true, Bool.not_true, cond_false, zjp h hg, zbw, ho]
 have hr : t.Rank = 0 \/ t.Rank = 1 \/ t.Rank = 2 := by omega
 refine (qY t.Rank.toNat (fun k => ((k : Int), (decide (0 < k) && up l t.Axes.1.toNat o.toNat, decide (1 < k) && up l t.Axes.2.toNat o.toNat))) (axC l t o) (fun k hk' => ?_) ?_ (by simp)).trans ?_
 . have hlt : (k : Int) < t.Rank := by omega
   have hw : IntKind.wrap .i64 ((k : Int) + 1) = ((k + 1 : Nat) : Int) := w64 (by omega) (by omega)
   have n1 : (0 : Int) <= (k : Int) := by omega
   have n2 : (0 : Int) <= (k : Int) /\ (k : Int) < ((2 : Nat) : Int) := ⟨n1, by omega⟩
   have hsx : ∀ y : Option ((Int × Bool × Bool) ⊕ ((Bool × Bool) ⊕ ((Bool × Bool) × Bool × Int))), zk ((0 : Int) <= (k : Int) /\ (k : Int) < ((2 : Nat) : Int)) y = y := fun y => by unfold zk; rw [if_pos n2]
   have hk2 : k = 0 \/ k = 1 := by omega
   simp only [hlt, decide_true, cond_true, hsx, zh, n1, if_true, Int.toNat_natCast, zg, hw]
   rcases hk2 with rfl | rfl
   . simp [xu ok _ l1 ho, yS, zk]
   . simp [xu ok _ l2 ho, yS, zk]
 . have e1 : ((t.Rank.toNat : Nat) : Int) = t.Rank := Int.toNat_of_nonneg hr0
   have e2 : ¬ ((t.Rank.toNat : Nat) : Int) < t.Rank := by omega
   simp only [e2, decide_false, cond_false, axC]
   have e3 : decide (0 < t.Rank.toNat) = decide (0 < t.Rank) := decide_eq_decide.2 (by omega)
   have e4 : decide (1 < t.Rank.toNat) = decide (1 < t.Rank) := decide_eq_decide.2 (by omega)
   rw [e3, e4]
 . simp only [xu ok _ l3 ho, Option.bind_some]
theorem zEs {l : TL} (ok : LatOK l) {a b c : Nat} (ha : a < l.Names.length) (hb : b < l.Names.length) (hc : c < l.Names.length) (h1 : up l a b = true) (h2 : up l b c = true) : up l a c = true := (ok.row a ha b hb h1).2 c hc h2
theorem zy8 {l : TL} (h : LatIn l) {t : TY} (hg : yi l t = 0) {o : Int} (ho : zQ l o = true) : zey l t o = some (siC l t o) := by
 obtain ⟨hk, hkind, hr0, hr2, l1, l2, l3, hbot, hup⟩ := zc5 hg
 have ok := wR h hk
 obtain ⟨o0, o1⟩ := labB_iff.1 ho
 obtain ⟨a0, a1⟩ := labB_iff.1 l1
 obtain ⟨b0, b1⟩ := labB_iff.1 l2
 obtain ⟨d0, d1⟩ := labB_iff.1 l3
 have hle := ok.le
 have hlen := ok.len
 have bel : ∀ a : Int, 0 <= a -> a < (l.Names.length : Int) -> js l a o = some (up l a.toNat o.toNat) := fun a h0 h1 => by
  have := yR ok.u8 (a := a.toNat) (b := o.toNat) (by omega) (by omega)
  rwa [Int.toNat_of_nonneg h0, Int.toNat_of_nonneg o0] at this
 unfold zey
 rw [bel _ d0 d1]
 simp only [Option.bind_some]
 have hr : t.Rank = 0 \/ t.Rank = 1 \/ t.Rank = 2 := by omega
 have tr : ∀ a : Int, 0 <= a -> a < (l.Names.length : Int) -> up l a.toNat t.Data.toNat = true -> up l t.Data.toNat o.toNat = true -> up l a.toNat o.toNat = true := fun a h0 h1 h2 h3 => zEs ok (by omega) (by omega) (by omega) h2 h3
 refine (qY t.Rank.toNat (fun k => ((k : Int), (decide (0 < k) && up l t.Axes.1.toNat o.toNat, decide (1 < k) && up l t.Axes.2.toNat o.toNat), up l t.Data.toNat o.toNat)) (siC l t o) (fun k hk' => ?_) ?_ (by simp)).trans rfl
 . have hlt : (k : Int) < t.Rank := by omega
   have hw : IntKind.wrap .i64 ((k : Int) + 1) = ((k + 1 : Nat) : Int) := w64 (by omega) (by omega)
   have n1 : (0 : Int) <= (k : Int) := by omega
   have n2 : (0 : Int) <= (k : Int) /\ (k : Int) < ((2 : Nat) : Int) := ⟨n1, by omega⟩
   have hsx : ∀ y : Option ((Int × (Bool × Bool) × Bool) ⊕ (((Bool × Bool) × Bool) ⊕ ((Bool × Bool) × Bool))), zk ((0 : Int) <= (k : Int) /\ (k : Int) < ((2 : Nat) : Int)) y = y := fun y => by unfold zk; rw [if_pos n2]
   have hk2 : k = 0 \/ k = 1 := by omega
   simp only [hlt, decide_true, cond_true, hsx, zh, n1, if_true, Int.toNat_natCast, zg, hw]
   rcases hk2 with rfl | rfl
   . have hu1 : up l t.Axes.1.toNat t.Data.toNat = true := by
      have : t.Rank.toNat = 1 \/ t.Rank.toNat = 2 := by omega
      rcases this with e | e <;> (rw [e] at hup; simp at hup) <;> first | exact hup | exact hup.1
     have := tr _ a0 a1 hu1
     simp only [List.getElem?_cons_zero, bel _ a0 a1, Option.bind_some]
     cases hd : up l t.Data.toNat o.toNat
     . simp [yS, zk]
     . simp [yS, this hd, zk]
   . have hu1 : up l t.Axes.2.toNat t.Data.toNat = true := by
      have : t.Rank.toNat = 2 := by omega
      rw [this] at hup; simp at hup; exact hup.2
     have := tr _ b0 b1 hu1
     simp only [List.getElem?_cons_zero, List.getElem?_cons_succ, bel _ b0 b1, Option.bind_some]
     cases hd : up l t.Data.toNat o.toNat
     . simp [yS, zk]
     . simp [yS, this hd, zk]
 . have e2 : ¬ ((t.Rank.toNat : Nat) : Int) < t.Rank := by omega
   simp only [e2, decide_false, cond_false, siC, axC]
   have e3 : decide (0 < t.Rank.toNat) = decide (0 < t.Rank) := decide_eq_decide.2 (by omega)
   have e4 : decide (1 < t.Rank.toNat) = decide (1 < t.Rank) := decide_eq_decide.2 (by omega)
   rw [e3, e4]
end Go.Sx.O
noncomputable section
namespace Go.Sx.O
open Go
def xV (a b : TA) : Bool := @decide (a = b) (Classical.propDecidable _)
theorem sameA_iff {a b : TA} : xV a b = true ↔ a = b := by unfold xV; exact @decide_eq_true_iff _ (Classical.propDecidable _)
theorem zpc {a b : TA} {r : Bool} (h : r = true ↔ a = b) : r = xV a b := by
 rw [Bool.eq_iff_iff, h, sameA_iff]
theorem zlr (a b : TA) (h : a.Cells.length <= 9223372036854775807) : zff a b = some (xV a b) := by
 obtain ⟨r, e, q⟩ := za6 a b h
 rw [e, zpc q]
theorem zb0 (a b : TA) (h : a.Cells.length <= 9223372036854775807) : zjh a b = some (xV a b) := by
 have key : Tot (zjh a b) fun r => (r = true ↔ a = b) := by
  unfold zjh zxx zyr
  obtain ⟨k1, r1, ⟨p1, q1⟩, c1⟩ := a
  obtain ⟨k2, r2, ⟨p2, q2⟩, c2⟩ := b
  simp only [TA.mk.injEq, Prod.mk.injEq, List.length_map]
  by_cases e1 : k1 = k2
  case neg => simp [e1, tot_some]
  by_cases e2 : r1 = r2
  case neg => simp [e1, e2, tot_some]
  by_cases e3 : p1 = p2
  case neg => simp [e1, e2, e3, tot_some]
  by_cases e4 : q1 = q2
  case neg => simp [e1, e2, e3, e4, tot_some]
  by_cases e5 : c1.length = c2.length
  case neg =>
   have e6 : ¬ (c1.length : Int) = c2.length := by omega
   have e7 : c1 ≠ c2 := fun e => e5 (by rw [e])
   simp [e1, e2, e3, e4, e6, e7, tot_some]
  simp only [e1, e2, e3, e4, e5, decide_true, Bool.not_true, cond_true, cond_false, Bool.and_true, true_and, Option.bind_some, zu, and_self]
  simp only at h
  refine zcy (l := c1) (m := c2) c2.length (fun x y => decide (x = y)) (bad := fun _ => false) (e := ()) (by omega) (Nat.le_refl _) (fun k x y hx hy hk => ?_) (by simp) (fun hall => ?_) (fun k x y hx hy hk e _ => ?_)
  . simp only [Int.ofNat_lt, hk, decide_true, cond_true, zh, Int.toNat_natCast, hx, hy, Option.bind_some, zg, Int.natCast_nonneg, if_true]
    rw [w64 (by omega) (by omega)]
    by_cases hxy : x = y <;> simp [hxy]
  . have : c1 = c2 := uh e5 fun k x y hx hy hk => by simpa using hall k x y hx hy (by omega)
    simp [this, tot_some]
  . have : c1 ≠ c2 := by
     rintro rfl
     rw [hx] at hy; cases hy
     simp at e
    simp [this, tot_some]
 obtain ⟨r, e, q⟩ := key
 rw [e, zpc q]
def zco (s : (Bool × Bool) × Bool) (a b : TA) : Bool := (!s.1.1 || decide (a.Lens.1 = b.Lens.1)) && ((!s.1.2 || decide (a.Lens.2 = b.Lens.2)) && (!s.2 || xV a b))
def agK (s : (Bool × Bool) × Bool) (a b : TA) (k : Nat) : Option Bool := if k = 0 then (if (s.1.1 && !decide (a.Lens.1 = b.Lens.1)) = true then some false else none) else (if (s.1.2 && !decide (a.Lens.2 = b.Lens.2)) = true then some false else none)
theorem zq5 (s : (Bool × Bool) × Bool) (a b : TA) : (match zx (agK s a b) 0 2 with | some r => some r | none => (cond (!s.2) (some true) (some (xV a b)))) = some (zco s a b) := by
 obtain ⟨⟨s1, s2⟩, s3⟩ := s
 have e : zx (agK ((s1, s2), s3) a b) 0 2 = match agK ((s1, s2), s3) a b 0 with | some r => some r | none => match agK ((s1, s2), s3) a b 1 with | some r => some r | none => none := by
  simp only [zx]
  cases agK ((s1, s2), s3) a b 0 with
  | some r => rfl
  | none => cases agK ((s1, s2), s3) a b (0 + 1) <;> rfl
 rw [e]
 by_cases h1 : a.Lens.1 = b.Lens.1 <;> by_cases h2 : a.Lens.2 = b.Lens.2 <;> cases s1 <;> cases s2 <;> cases s3 <;> simp [agK, zco, h1, h2]
theorem zjn (s : (Bool × Bool) × Bool) (a b : TA) (h : a.Cells.length <= 9223372036854775807) : zsd s a b = some (zco s a b) := by
 unfold zsd
 by_cases h0 : (!s.fst.fst && (!s.fst.snd && true) && (!s.snd && true)) = true
 . rw [h0, cond_true]
   simp only [Bool.and_true, Bool.and_eq_true, Bool.not_eq_true'] at h0
   simp [zco, h0.1.1, h0.1.2, h0.2]
 . rw [Bool.not_eq_true] at h0
   rw [h0, cond_false, zb0 a b h]
   refine (qu 2 (fun k => (k : Int)) (agK s a b) () (fun k hk => ?_) (by simp) rfl).trans ?_
   . have hk2 : k = 0 \/ k = 1 := by omega
     have hw : IntKind.wrap .i64 ((k : Int) + 1) = ((k + 1 : Nat) : Int) := w64 (by omega) (by omega)
     have hlt : (k : Int) < 2 := by omega
     have n1 : (0 : Int) <= (k : Int) := by omega
     simp only [hlt, decide_true, cond_true, zh, n1, if_true, Int.toNat_natCast, zg, hw]
     rcases hk2 with rfl | rfl
     . cases hs : s.1.1 <;> by_cases e : a.Lens.1 = b.Lens.1 <;> simp [agK, hs, e, zk]
     . cases hs : s.1.2 <;> by_cases e : a.Lens.2 = b.Lens.2 <;> simp [agK, hs, e, zk]
   . simp only [Option.bind_some]
     have e := zq5 s a b
     cases hs : zx (agK s a b) 0 2 <;> rw [hs] at e <;> exact e
theorem zji (s : (Bool × Bool) × Bool) (a b : TA) (h : a.Cells.length <= 9223372036854775807) : zez s a b = some (zco s a b) := by
 unfold zez
 rw [zlr a b h]
 refine (qu 2 (fun k => (k : Int)) (agK s a b) () (fun k hk => ?_) (by simp) rfl).trans ?_
 . have hk2 : k = 0 \/ k = 1 := by omega
   have hw : IntKind.wrap .i64 ((k : Int) + 1) = ((k + 1 : Nat) : Int) := w64 (by omega) (by omega)
   have hlt : (k : Int) < 2 := by omega
   have n1 : (0 : Int) <= (k : Int) := by omega
   simp only [hlt, decide_true, cond_true, zh, n1, if_true, Int.toNat_natCast, zg, hw]
   rcases hk2 with rfl | rfl
   . cases hs : s.1.1 <;> by_cases e : a.Lens.1 = b.Lens.1 <;> simp [agK, hs, e, zk]
   . cases hs : s.1.2 <;> by_cases e : a.Lens.2 = b.Lens.2 <;> simp [agK, hs, e, zk]
 . simp only [Option.bind_some]
   have e := zq5 s a b
   cases hs : zx (agK s a b) 0 2 <;> rw [hs] at e <;> exact e
end Go.Sx.O
end
namespace Go.Sx.O
open Go
theorem zC5 {α : Type} {x : Option α} {v : α} (h : Tot x fun r => r = v) : x = some v := by
 obtain ⟨r, e, q⟩ := h
 rw [e, q]
def wV (X : List Int) : List Int := X.filter fun y => decide (0 <= y)
theorem zo1 {X : List Int} (h : ∀ (j : Nat) y, X[j]? = some y -> 0 <= y) : wV X = X := by
 unfold wV
 rw [List.filter_eq_self]
 intro a ha
 obtain ⟨j, hj⟩ := List.mem_iff_getElem?.1 ha
 simpa using h j a hj
theorem zei (X : List Int) (y : Int) : wV (X ++ [y]) = wV X ++ (if 0 <= y then [y] else []) := by
 unfold wV
 rw [List.filter_append]
 by_cases h : 0 <= y <;> simp [h]
theorem zx9 {X : List Int} {k : Nat} (hk : k < X.length) (hl : X.length <= 1000) :
 (Option.bind (
 lpO (fun (s431 : Int × Int × List Int) =>
 cond (decide (s431.fst < (↑(List.length (List.map (SV.int IntKind.i64) s431.snd.snd)) : Int)))
 (zk ((0 : Int) <= s431.fst /\ s431.fst < (↑(List.length (List.map (SV.int IntKind.i64) s431.snd.snd)) : Int)) (
 zh (s431.snd.snd) ((↑(Int.toNat s431.fst) : Int)) fun x441 =>
 Option.bind (zg9 (x441)) fun x442 =>
 cond (!x442)
 (zk ((0 : Int) <= s431.snd.fst /\ s431.snd.fst < (↑(List.length (List.map (SV.int IntKind.i64) s431.snd.snd)) : Int)) (
 zh (s431.snd.snd) ((↑(Int.toNat s431.snd.fst) : Int)) fun _ =>
 zg (IntKind.wrap IntKind.i64 (s431.snd.fst + (1 : Int))) fun x445 =>
 zg (IntKind.wrap IntKind.i64 (s431.fst + (1 : Int))) fun x446 =>
 some (Sum.inl ((x446, x445, List.set s431.snd.snd (Int.toNat s431.snd.fst) x441)))))
 (zg (IntKind.wrap IntKind.i64 (s431.fst + (1 : Int))) fun x447 =>
 some (Sum.inl ((x447, s431.snd))))))
 (some (Sum.inr (Sum.inl ((decide (s431.fst < (↑(List.length (List.map (SV.int IntKind.i64) s431.snd.snd)) : Int)), s431)))))) ((((k + 1 : Nat) : Int), (k : Int), X)))
 (Sum.elim (fun (s429 : Bool × Int × Int × List Int) =>
 zk ((0 : Int) <= s429.snd.snd.fst /\ s429.snd.snd.fst < (↑(List.length (List.map (SV.int IntKind.i64) s429.snd.snd.snd)) : Int)) (
 zk ((1 : Nat) <= List.length (List.map (SV.int IntKind.i64) s429.snd.snd.snd) - Int.toNat s429.snd.snd.fst /\ Int.toNat s429.snd.snd.fst + (List.length (List.map (SV.int IntKind.i64) s429.snd.snd.snd) - Int.toNat s429.snd.snd.fst) <= List.length (List.map (SV.int IntKind.i64) s429.snd.snd.snd)) (
 zk ((0 : Int) <= s429.snd.snd.fst /\ s429.snd.snd.fst <= (↑(List.length (List.take (Int.toNat s429.snd.snd.fst) (List.map (SV.int IntKind.i64) s429.snd.snd.snd) ++ (List.replicate (List.length (List.map (SV.int IntKind.i64) s429.snd.snd.snd) - Int.toNat s429.snd.snd.fst) (SV.int IntKind.i64 (0 : Int)) ++ List.drop (Int.toNat s429.snd.snd.fst + (List.length (List.map (SV.int IntKind.i64) s429.snd.snd.snd) - Int.toNat s429.snd.snd.fst)) (List.map (SV.int IntKind.i64) s429.snd.snd.snd)))) : Int)) (
 some (Sum.inr (Sum.inr ((List.drop (Int.toNat (0 : Int)) (List.take (Int.toNat s429.snd.snd.fst) (List.take (Int.toNat s429.snd.snd.fst) s429.snd.snd.snd ++ (List.replicate (List.length (List.map (SV.int IntKind.i64) s429.snd.snd.snd) - Int.toNat s429.snd.snd.fst) (0 : Int) ++ List.drop (Int.toNat s429.snd.snd.fst + (List.length (List.map (SV.int IntKind.i64) s429.snd.snd.snd) - Int.toNat s429.snd.snd.fst)) s429.snd.snd.snd))), (0 : Int))))))))) some)) = (some (Sum.inr (Sum.inr (X.take k ++ wV (X.drop (k + 1)), 0))) : Option (Int ⊕ ((Bool × Int) ⊕ (List Int × Int)))) := by
 refine zC5 ?_
 rw [zu]
 refine Tot.count (X.length - (k + 1)) (fun m s => s.1 = ((k + 1 + m : Nat) : Int) /\ ∃ i : Nat, s.2.1 = (i : Int) /\ i <= k + m /\ s.2.2.length = X.length /\ s.2.2.take i = X.take k ++ wV ((X.take (k + 1 + m)).drop (k + 1)) /\ s.2.2.drop (k + 1 + m) = X.drop (k + 1 + m)) (fun m s hm hP => ?_) ⟨rfl, k, rfl, Nat.le_refl _, rfl, ?_, rfl⟩
 . obtain ⟨s1, s2, s3⟩ := s
   obtain ⟨rfl, i, rfl, hi, hlen, ht, hd⟩ := hP
   simp only at hlen ht hd
   simp only [List.length_map, hlen]
   by_cases hlt : k + 1 + m < X.length
   . have hlt' : ((k + 1 + m : Nat) : Int) < (X.length : Int) := by omega
     obtain ⟨y, hy⟩ := zv hlt
     have hy3 : s3[k + 1 + m]? = some y := by
      have := congrArg (fun l => l[0]?) hd
      simpa [List.getElem?_drop, hy] using this
     obtain ⟨z, hz⟩ := zv (l := s3) (i := i) (by omega)
     have n1 : (0 : Int) <= ((k + 1 + m : Nat) : Int) := by omega
     have n2 : (0 : Int) <= (i : Int) := by omega
     have n3 : (i : Int) < (X.length : Int) := by omega
     have w1 : IntKind.wrap .i64 (((k + 1 + m : Nat) : Int) + 1) = ((k + 1 + (m + 1) : Nat) : Int) := w64 (by omega) (by omega)
     have w2 : IntKind.wrap .i64 ((i : Int) + 1) = ((i + 1 : Nat) : Int) := w64 (by omega) (by omega)
     have hX : (X.take (k + 1 + (m + 1))).drop (k + 1) = (X.take (k + 1 + m)).drop (k + 1) ++ [y] := by
      rw [show k + 1 + (m + 1) = (k + 1 + m) + 1 by omega, List.take_add_one, hy, List.drop_append_of_le_length (by simp; omega)]; rfl
     have hdd : s3.drop (k + 1 + (m + 1)) = X.drop (k + 1 + (m + 1)) := by
      rw [show k + 1 + (m + 1) = (k + 1 + m) + 1 by omega, <- List.drop_drop (i := 1) (j := k + 1 + m), hd, List.drop_drop]
     simp only [hlt', decide_true, cond_true, zk, n1, n2, n3, and_self, if_true, zh, Int.toNat_natCast, hy3, hz, zg9, Option.bind_some, zg, w1, w2]
     by_cases hn : y < 0
     . simp only [hn, decide_true, Bool.not_true, cond_false, tot_some, Sum.elim_inl]
       refine ⟨by omega, trivial, i, rfl, by omega, hlen, ?_, hdd⟩
       rw [hX, zei, if_neg (by omega), List.append_nil, ht]
     . simp only [hn, decide_false, Bool.not_false, cond_true, tot_some, Sum.elim_inl]
       refine ⟨by omega, trivial, i + 1, rfl, by omega, by simp [hlen], ?_, ?_⟩
       . rw [hX, zei, if_pos (by omega), <- List.append_assoc, <- ht, List.take_add_one, List.take_set_of_le (Nat.le_refl _)]
         simp [show i < s3.length by omega]
       . rw [List.drop_set_of_lt (by omega), hdd]
   . have hlt' : ¬ ((k + 1 + m : Nat) : Int) < (X.length : Int) := by omega
     have he : k + 1 + m = X.length := by omega
     simp only [hlt', decide_false, cond_false, tot_some, Sum.elim_inr, Sum.elim_inl]
     have n2 : (0 : Int) <= (i : Int) := by omega
     have n3 : (i : Int) < (X.length : Int) := by omega
     have hti : (s3.take i).length = i := by simp; omega
     have q : List.take i (List.take i s3 ++ (List.replicate (X.length - i) (0 : Int) ++ List.drop (i + (X.length - i)) s3)) = List.take i s3 := by
      rw [List.take_append_of_le_length (by omega), List.take_of_length_le (by omega)]
     have l1 : (i : Int) <= ((List.length (List.take i (List.map (SV.int IntKind.i64) s3) ++ (List.replicate (X.length - i) (SV.int IntKind.i64 (0 : Int)) ++ List.drop (i + (X.length - i)) (List.map (SV.int IntKind.i64) s3))) : Nat) : Int) := by
      simp; omega
     simp only [List.length_map, hlen, zk, Int.toNat_natCast, n2, n3, l1, and_self, if_true, true_and]
     rw [if_pos (by omega), tot_some, q, ht, he, List.take_of_length_le (Nat.le_refl _)]
     simp
 . simp [wV]
theorem zcq {τ : Type} {f : Nat -> Option τ} {r : τ} : ∀ {n m : Nat}, zx f m n = some r -> ∃ k, m <= k /\ k < m + n /\ f k = some r /\ ∀ j, m <= j -> j < k -> f j = none
 | 0, m, h => by cases h
 | n + 1, m, h => by
   simp only [zx] at h
   cases hf : f m with
   | some q =>
     rw [hf] at h
     cases h
     exact ⟨m, Nat.le_refl _, by omega, hf, fun j a b => by omega⟩
   | none =>
     rw [hf] at h
     obtain ⟨k, k1, k2, k3, k4⟩ := zcq h
     refine ⟨k, by omega, by omega, k3, fun j a b => ?_⟩
     by_cases e : j = m
     . subst e; exact hf
     . exact k4 j (by omega) b
def dlK (X : List Int) (k : Nat) : Option (List Int × Int) := match X[k]? with | some x => if x < 0 then some (X.take k ++ wV (X.drop (k + 1)), 0) else none | none => none
theorem zCb (X : List Int) : (match zx (dlK X) 0 X.length with | some r => some r | none => some (X, (0 : Int))) = some (wV X, 0) := by
 cases hs : zx (dlK X) 0 X.length with
 | none =>
   have := scan_none.1 hs
   show some (X, (0 : Int)) = _
   rw [zo1]
   intro j y hj
   have hlt : j < X.length := (List.getElem?_eq_some_iff.1 hj).1
   have := this j (by omega) (by omega)
   unfold dlK at this
   rw [hj] at this
   simp only at this
   split at this
   . cases this
   . omega
 | some r =>
   obtain ⟨k, _, h2, h3, h4⟩ := zcq hs
   obtain ⟨x, hx⟩ := zv (l := X) (i := k) (by omega)
   unfold dlK at h3
   rw [hx] at h3
   simp only at h3
   split at h3
   case isFalse => cases h3
   rename_i hneg
   cases h3
   have e : X = X.take k ++ (x :: X.drop (k + 1)) := by
    have := List.getElem?_eq_some_iff.1 hx
    obtain ⟨hl, rfl⟩ := this
    rw [List.getElem_cons_drop, List.take_append_drop]
   have hp : wV (X.take k) = X.take k := zo1 fun j y hj => by
    rw [List.getElem?_take] at hj
    split at hj
    case isFalse => cases hj
    rename_i hjk
    have := h4 j (by omega) hjk
    unfold dlK at this
    rw [hj] at this
    simp only at this
    split at this
    . cases this
    . omega
   show some (X.take k ++ wV (X.drop (k + 1)), (0 : Int)) = some (wV X, 0)
   conv => rhs; rw [e]
   unfold wV at hp ⊢
   rw [List.filter_append, hp, List.filter_cons]
   simp [show ¬ 0 <= x by omega]
end Go.Sx.O
noncomputable section
namespace Go.Sx.O
open Go
def ftK (p : TP) (l : List (List TW)) (k : Nat) : Option Int := match l[k]? with | some w => if (zZ p w).2 = 0 then none else some (zZ p w).2 | none => none
theorem zoq {p : TP} (h : PolIn p) (l : List (List TW)) (hl : l.length <= 1000) (hw : ∀ w ∈ l, w.length <= 1000000) :
 zjb p l = some (if (ya p).2.2 = 0 then (match zx (ftK p l) 0 l.length with | some e => e | none => 0) else (ya p).2.2) := by
 unfold zjb
 rw [zbc h]
 simp only [Option.bind_some]
 by_cases hk : (ya p).2.2 = 0
 case neg => simp [hk]
 simp only [hk, decide_true, Bool.not_true, cond_false, if_true]
 refine (qu l.length (fun k => (k : Int)) (ftK p l) () (fun k hk' => ?_) (by simp) rfl).trans ?_
 . obtain ⟨w, hx⟩ := zv hk'
   have hlt : (k : Int) < (l.length : Int) := by omega
   have hwr : IntKind.wrap .i64 ((k : Int) + 1) = ((k + 1 : Nat) : Int) := w64 (by omega) (by omega)
   have n1 : (0 : Int) <= (k : Int) := by omega
   simp only [List.length_map, hlt, decide_true, cond_true, zh, n1, if_true, Int.toNat_natCast, hx, Option.bind_some, zi9 h w (hw w (List.mem_of_getElem? hx)), zg, hwr, ftK]
   by_cases e : (zZ p w).2 = 0 <;> simp [e]
 . cases zx (ftK p l) 0 l.length <;> rfl
theorem zy4 {p : TP} {w : List TW} (h : ¬ (ya p).2.2 = 0) : (zZ p w).2 = (ya p).2.2 := by unfold zZ; rw [if_neg h]
theorem zic {p : TP} (h : PolIn p) {a b : List TW} (ha : a.length <= 1000000) (hb : b.length <= 1000000) : zjb p [a, b] = some (if (zZ p a).2 = 0 then (zZ p b).2 else (zZ p a).2) := by
 rw [zoq h [a, b] (by simp) (by simp [ha, hb])]
 by_cases hk : (ya p).2.2 = 0
 . by_cases e : (zZ p a).2 = 0 <;> by_cases e2 : (zZ p b).2 = 0 <;> simp [hk, zx, ftK, e, e2]
 . simp [hk, zy4 hk]
theorem zd1 {p : TP} (h : PolIn p) {a b : List TW} (ha : a.length <= 1000000) (hb : b.length <= 1000000) : zi1 p a b = some (if (zZ p a).2 = 0 then (zZ p b).2 else (zZ p a).2) := by
 unfold zi1
 rw [zc9 h a ha, zc9 h b hb]
 by_cases e : (zZ p a).2 = 0 <;> simp [e]
theorem zxy {p : TP} (h : PolIn p) (o : Int) : zmp p o = some (if (ya p).2.2 = 0 then (if zQ p.Lattice o = true then 0 else 7) else (ya p).2.2) := by
 unfold zmp
 rw [zbp h]
 by_cases hk : (ya p).2.2 = 0
 case neg => simp [hk]
 by_cases h1 : o < 0
 . have : ¬ zQ p.Lattice o = true := fun e => by have := (labB_iff.1 e).1; omega
   simp [hk, h1, this]
 by_cases h2 : (p.Lattice.Names.length : Int) <= o
 . have : ¬ zQ p.Lattice o = true := fun e => by have := (labB_iff.1 e).2; omega
   simp [hk, h1, h2, this]
 . have : zQ p.Lattice o = true := labB_iff.2 ⟨by omega, by omega⟩
   simp [hk, h1, h2, this]
theorem zti {l : TL} {o : Int} (h : ¬ zQ l o = true) : o < 0 \/ (l.Names.length : Int) <= o := by
 rcases Int.lt_or_le o 0 with g | g
 . exact .inl g
 . rcases Int.lt_or_le o (l.Names.length : Int) with g2 | g2
   . exact absurd (labB_iff.2 ⟨g, g2⟩) h
   . exact .inr g2
end Go.Sx.O
end
noncomputable section
namespace Go.Sx.O
open Go
def vK (p : TP) (a b : List TW) (o : Int) (i : Nat) : Int := match p.Vars[i]?, a[i]?, b[i]? with
 | some v, some x, some y => if zco (siC p.Lattice v.Type_ o) x.Value y.Value = true then -1 else (i : Int)
 | _, _, _ => -1
def vL (p : TP) (a b : List TW) (o : Int) (n : Nat) : List Int := (List.range n).map (vK p a b o)
def xl (p : TP) (a b : List TW) (o : Int) : List Int × Int :=
 if (if (zZ p a).2 = 0 then (zZ p b).2 else (zZ p a).2) = 0 then (if zQ p.Lattice o = true then (wV (vL p a b o p.Vars.length), 0) else ([], 7)) else ([], if (zZ p a).2 = 0 then (zZ p b).2 else (zZ p a).2)
theorem zpr {τ : Type} {r : τ} {k1 : Unit -> Option τ} (h : k1 () = some r) : Option.bind (lpO (fun (_ : Unit) => (some (Sum.inr (Sum.inl (()))) : Option (Unit ⊕ (Unit ⊕ τ)))) (())) (Sum.elim k1 some) = some r := by
 refine (qY 0 (fun _ => ()) () (fun k hk => absurd hk (Nat.not_lt_zero k)) rfl rfl).trans h
theorem zkr {p : TP} {w : List TW} (h : (zZ p w).2 = 0) {x : TW} (hx : x ∈ w) : x.Value.Cells.length <= 400 := by
 obtain ⟨_, hl, _, hf⟩ := yr h
 obtain ⟨k, hk⟩ := List.mem_iff_getElem?.1 hx
 have hlt : k < w.length := (List.getElem?_eq_some_iff.1 hk).1
 obtain ⟨v, hv⟩ := zv (l := p.Vars) (i := k) (by omega)
 exact zx6 (hf k x v hk hv).2.1
theorem zq3 {p : TP} {a b : List TW} {o : Int} {k : Nat} : vL p a b o (k + 1) = vL p a b o k ++ [vK p a b o k] := by
 unfold vL
 rw [List.range_succ, List.map_append]; rfl
theorem zni {p : TP} {a b : List TW} {o : Int} {k : Nat} : (vL p a b o k).length = k := by simp [vL]
theorem zux {p : TP} {a b : List TW} {o : Int} {k : Nat} {v : TV} {x y : TW} (hv : p.Vars[k]? = some v) (hx : a[k]? = some x) (hy : b[k]? = some y) (hc : x.Value.Cells.length <= 9223372036854775807) :
 zuc (k : Int) (siC p.Lattice v.Type_ o) a b = some (vK p a b o k) := by
 unfold zuc vK
 have n1 : (0 : Int) <= (k : Int) := by omega
 simp only [zh, n1, if_true, Int.toNat_natCast, hx, hy, Option.bind_some, zjn _ _ _ hc, hv]
 by_cases e : zco (siC p.Lattice v.Type_ o) x.Value y.Value = true <;> simp [e]
theorem zh8 {p : TP} (h : PolIn p) {a b : List TW} (ha : a.length <= 1000000) (hb : b.length <= 1000000) (o : Int) : zt0 p a b o = some (xl p a b o) := by
 unfold zt0 xl
 rw [zic h ha hb]
 simp only [Option.bind_some]
 by_cases hf : (if (zZ p a).2 = 0 then (zZ p b).2 else (zZ p a).2) = 0
 case neg => simp only [hf, decide_false, Bool.not_false, cond_true, if_false]
 have hfa : (zZ p a).2 = 0 := by
  by_cases e : (zZ p a).2 = 0
  . exact e
  . rw [if_neg e] at hf; exact hf
 have hfb : (zZ p b).2 = 0 := by rwa [if_pos hfa] at hf
 obtain ⟨hk, hla, _, _⟩ := yr hfa
 obtain ⟨_, hlb, _, _⟩ := yr hfb
 obtain ⟨h32, hgood⟩ := zpq hk
 simp only [hf, decide_true, Bool.not_true, cond_false, if_true]
 by_cases ho : zQ p.Lattice o = true
 case neg =>
  rw [if_neg ho]
  rcases zti ho with g | g
  . simp only [g, decide_true, cond_true]
    exact zpr rfl
  . by_cases g2 : o < 0
    . simp only [g2, decide_true, cond_true]
      exact zpr rfl
    . simp only [g2, decide_false, cond_false, List.length_map, g, decide_true, cond_true]
      exact zpr rfl
 obtain ⟨o0, o1⟩ := labB_iff.1 ho
 have c1 : ¬ o < 0 := by omega
 have c2 : ¬ (p.Lattice.Names.length : Int) <= o := by omega
 simp only [List.length_map, c1, c2, ho, decide_false, cond_false, if_true]
 refine (qY p.Vars.length (fun k => ((k : Int), vL p a b o k)) (false, ((p.Vars.length : Int), vL p a b o p.Vars.length)) (fun k hk' => ?_) (by simp) rfl).trans ?_
 . obtain ⟨v, hv⟩ := zv hk'
   obtain ⟨x, hx⟩ := zv (l := a) (i := k) (by omega)
   obtain ⟨y, hy⟩ := zv (l := b) (i := k) (by omega)
   have hcx := zkr hfa (List.mem_of_getElem? hx)
   have hlt : (k : Int) < (p.Vars.length : Int) := by omega
   have hwr : IntKind.wrap .i64 ((k : Int) + 1) = ((k + 1 : Nat) : Int) := w64 (by omega) (by omega)
   have n1 : (0 : Int) <= (k : Int) := by omega
   have hside : (k + 1) * 8 <= 70368744177664 := by omega
   simp only [hlt, decide_true, cond_true, zh, n1, if_true, Int.toNat_natCast, hv, Option.bind_some, zlh h.lat (hgood v (List.mem_of_getElem? hv)) ho, Bool.not_true, cond_false]
   have e1 : ((axC p.Lattice v.Type_ o, up p.Lattice v.Type_.Data.toNat o.toNat) : (Bool × Bool) × Bool) = siC p.Lattice v.Type_ o := rfl
   rw [e1, zux hv hx hy (by omega)]
   simp only [Option.bind_some, zg, hwr, zni, zk, hside, if_true, zq3]
 . simp only
   generalize hX : vL p a b o p.Vars.length = X
   have hXl : X.length <= 1000 := by rw [<- hX, zni]; omega
   refine (qu X.length (fun k => (k : Int)) (dlK X) (false, (X.length : Int)) (fun k hk' => ?_) (by simp) rfl).trans ?_
   . obtain ⟨x, hx⟩ := zv hk'
     have hlt : (k : Int) < (X.length : Int) := by omega
     have hwr : IntKind.wrap .i64 ((k : Int) + 1) = ((k + 1 : Nat) : Int) := w64 (by omega) (by omega)
     have n1 : (0 : Int) <= (k : Int) := by omega
     have n2 : ¬ (k : Int) = -1 := by omega
     have ht := zx9 hk' hXl
     simp only [hlt, decide_true, cond_true, n1, zh, true_and, if_true, Int.toNat_natCast, hx, zg9, Option.bind_some, zg, hwr, n2, decide_false, cond_false, dlK]
     by_cases e : x < 0
     . simp only [e, decide_true, cond_true, if_true]
       simp only [List.length_map] at ht
       unfold zk at ht ⊢
       rw [if_pos (by first | trivial | exact ⟨n1, hlt⟩)]
       exact ht
     . simp only [e, decide_false, cond_false, if_false]
       unfold zk
       rw [if_pos (by first | trivial | exact ⟨n1, hlt⟩)]
   . have := zCb X
     cases hs : zx (dlK X) 0 X.length <;> rw [hs] at this <;> exact this
theorem zBx {p : TP} {a b : List TW} {o : Int} {k : Nat} : wV (vL p a b o (k + 1)) = wV (vL p a b o k) ++ (if 0 <= vK p a b o k then [vK p a b o k] else []) := by rw [zq3, zei]
theorem zxf {X : List Int} : (wV X).length <= X.length := List.length_filter_le _ _
theorem zte {p : TP} (h : PolIn p) {a b : List TW} {o : Int} (hfa : (zZ p a).2 = 0) (hfb : (zZ p b).2 = 0) (ho : zQ p.Lattice o = true) :
 (Option.bind (
 lpO (fun (s536 : Int × List Int) =>
 cond (decide (s536.fst < (↑(List.length (List.map zi a)) : Int)))
 (zh (p.Vars) (s536.fst) fun x545 =>
 Option.bind (zey (p.Lattice) (x545.Type_) (o)) fun x546 =>
 zh (a) (s536.fst) fun x547 =>
 zh (b) (s536.fst) fun x548 =>
 Option.bind (zez (x546) (x547.Value) (x548.Value)) fun x549 =>
 cond (!x549)
 (zk ((List.length (List.map (SV.int IntKind.i64) s536.snd) + (1 : Nat)) * (8 : Nat) <= (70368744177664 : Nat)) (
 zg (IntKind.wrap IntKind.i64 (s536.fst + (1 : Int))) fun x551 =>
 some (Sum.inl ((x551, s536.snd ++ [s536.fst])))))
 (zg (IntKind.wrap IntKind.i64 (s536.fst + (1 : Int))) fun x552 =>
 some (Sum.inl ((x552, s536.snd)))))
 (some (Sum.inr (Sum.inl (s536.snd))))) (((0 : Int), [])))
 (Sum.elim (fun (s534 : List Int) =>
 some ((s534, (0 : Int)))) some)) = (some (wV (vL p a b o p.Vars.length), 0) : Option (List Int × Int)) := by
 obtain ⟨hk, hla, _, _⟩ := yr hfa
 obtain ⟨_, hlb, _, _⟩ := yr hfb
 obtain ⟨h32, hgood⟩ := zpq hk
 simp only [List.length_map, hla]
 refine (qY p.Vars.length (fun k => ((k : Int), wV (vL p a b o k))) (wV (vL p a b o p.Vars.length)) (fun k hk' => ?_) (by simp) rfl).trans rfl
 obtain ⟨v, hv⟩ := zv hk'
 obtain ⟨x, hx⟩ := zv (l := a) (i := k) (by omega)
 obtain ⟨y, hy⟩ := zv (l := b) (i := k) (by omega)
 have hcx := zkr hfa (List.mem_of_getElem? hx)
 have hlt : (k : Int) < (p.Vars.length : Int) := by omega
 have hwr : IntKind.wrap .i64 ((k : Int) + 1) = ((k + 1 : Nat) : Int) := w64 (by omega) (by omega)
 have n1 : (0 : Int) <= (k : Int) := by omega
 have hpl := zxf (X := vL p a b o k)
 rw [zni] at hpl
 have hside : ((wV (vL p a b o k)).length + 1) * 8 <= 70368744177664 := by omega
 have e1 : vK p a b o k = if zco (siC p.Lattice v.Type_ o) x.Value y.Value = true then -1 else (k : Int) := by unfold vK; rw [hv, hx, hy]
 simp only [hlt, decide_true, cond_true, zh, n1, if_true, Int.toNat_natCast, hv, hx, hy, Option.bind_some, zy8 h.lat (hgood v (List.mem_of_getElem? hv)) ho, zji _ _ _ (show x.Value.Cells.length <= 9223372036854775807 by omega), zg, hwr, zk, hside, zBx, e1]
 by_cases e : zco (siC p.Lattice v.Type_ o) x.Value y.Value = true
 . simp [e]
 . simp [e]
theorem zhw {p : TP} (h : PolIn p) {a b : List TW} (ha : a.length <= 1000000) (hb : b.length <= 1000000) (o : Int) : zml p a b o = some (xl p a b o) := by
 unfold zml xl
 rw [zd1 h ha hb]
 simp only [Option.bind_some]
 by_cases hf : (if (zZ p a).2 = 0 then (zZ p b).2 else (zZ p a).2) = 0
 case neg => simp only [hf, decide_false, Bool.not_false, cond_true, cond_false, if_false]
 have hfa : (zZ p a).2 = 0 := by
  by_cases e : (zZ p a).2 = 0
  . exact e
  . rw [if_neg e] at hf; exact hf
 have hfb : (zZ p b).2 = 0 := by rwa [if_pos hfa] at hf
 obtain ⟨hk, hla, _, _⟩ := yr hfa
 simp only [hf, decide_true, cond_true, if_true]
 rw [zxy h]
 simp only [hk, if_true, Option.bind_some]
 by_cases ho : zQ p.Lattice o = true
 case neg => simp [ho]
 simp only [ho, if_true, decide_true, Bool.not_true, cond_false]
 exact zte h hfa hfb ho
theorem zby {p : TP} (h : PolIn p) {a b : List TW} (ha : a.length <= 1000000) (hb : b.length <= 1000000) (o : Int) : zov p a b o = some (decide ((xl p a b o).2 = 0) && decide ((xl p a b o).1.length = 0), (xl p a b o).2) := by
 unfold zov
 rw [zh8 h ha hb]
 by_cases e : (xl p a b o).2 = 0 <;> simp [e]
theorem zkg {p : TP} (h : PolIn p) {a b : List TW} (ha : a.length <= 1000000) (hb : b.length <= 1000000) (o : Int) : zh0 p a b o = some (decide ((xl p a b o).2 = 0) && decide ((xl p a b o).1.length = 0), (xl p a b o).2) := by
 unfold zh0
 rw [zhw h ha hb]
 by_cases e : (xl p a b o).2 = 0 <;> simp [e]
theorem zir (l : List Int) (hl : l.length <= 1000000) : zm1 l l = some true := by
 unfold zm1
 simp only [List.length_map, decide_true, Bool.not_true, cond_false]
 refine (qY l.length (fun k => (k : Int)) () (fun k hk => ?_) (by simp) rfl).trans rfl
 obtain ⟨x, hx⟩ := zv hk
 have hlt : (k : Int) < (l.length : Int) := by omega
 have hw : IntKind.wrap .i64 ((k : Int) + 1) = ((k + 1 : Nat) : Int) := w64 (by omega) (by omega)
 have n1 : (0 : Int) <= (k : Int) := by omega
 simp [hlt, zh, n1, hx, zg, hw]
theorem zsy (p : TP) (a b : List TW) (hu : U8s p.Lattice.Up) : ∃ r, Fz4 p a b = some r /\ (r = false -> PolIn p /\ a.length <= 40 /\ b.length <= 40) := by
 obtain ⟨x, hx, hf⟩ := zxc p hu
 obtain ⟨y, hy, hg⟩ := zkl a
 obtain ⟨z, hz, hh⟩ := zkl b
 unfold Fz4
 rw [hx, hy, hz]
 cases x
 . cases y
   . exact ⟨z, rfl, fun e => ⟨hf rfl, (hg rfl).1, (hh e).1⟩⟩
   . exact ⟨true, rfl, fun e => by cases e⟩
 . exact ⟨true, rfl, fun e => by cases e⟩
end Go.Sx.O
end
noncomputable section
namespace Go.Sx.O
open Go
structure Fit2 (p : TP) (a b : List TW) : Prop where
 fa : (zZ p a).2 = 0
 fb : (zZ p b).2 = 0
def agD (p : TP) (a b : List TW) (o : Int) : Bool := decide ((wV (vL p a b o p.Vars.length)).length = 0)
theorem zkz {p : TP} (h : PolIn p) {a b : List TW} (ha : a.length <= 1000000) (hb : b.length <= 1000000) {o : Int} (f : Fit2 p a b) (ho : zQ p.Lattice o = true) : zov p a b o = some (agD p a b o, 0) := by
 rw [zby h ha hb]
 have : xl p a b o = (wV (vL p a b o p.Vars.length), 0) := by
  unfold xl
  rw [if_pos (by rw [if_pos f.fa]; exact f.fb), if_pos ho]
 rw [this]
 simp [agD]
theorem zkh (x y : TW) (h : x.Value.Cells.length <= 9223372036854775807) : zmg x y = some (decide (x.Name = y.Name) && xV x.Value y.Value) := by
 unfold zmg
 rw [zb0 _ _ h]
 by_cases e : x.Name = y.Name <;> simp [e]
theorem zh4 (a b : List TW) (ha : a.length <= 1000000) (hc : ∀ x ∈ a, x.Value.Cells.length <= 9223372036854775807) : Tot (zmi a b) fun r => (r = true ↔ a = b) := by
 unfold zmi zt4
 simp only [List.length_map]
 by_cases e5 : a.length = b.length
 case neg =>
  have e6 : ¬ (a.length : Int) = b.length := by omega
  have e7 : a ≠ b := fun e => e5 (by rw [e])
  simp [e6, e7, tot_some]
 simp only [e5, decide_true, Bool.not_true, cond_false, zu]
 refine zcy (l := a) (m := b) b.length (fun x y => decide (x.Name = y.Name) && xV x.Value y.Value) (bad := fun _ => false) (e := ()) (by omega) (Nat.le_refl _) (fun k x y hx hy hk => ?_) (by simp) (fun hall => ?_) (fun k x y hx hy hk e _ => ?_)
 . simp only [Int.ofNat_lt, hk, decide_true, cond_true, zh, Int.toNat_natCast, hx, hy, Option.bind_some, zg, Int.natCast_nonneg, if_true, zkh x y (hc x (List.mem_of_getElem? hx))]
   rw [w64 (by omega) (by omega)]
   cases (decide (x.Name = y.Name) && xV x.Value y.Value) <;> simp
 . have : a = b := uh e5 fun k x y hx hy hk => by
    have := hall k x y hx hy (by omega)
    simp only [Bool.and_eq_true, decide_eq_true_eq, sameA_iff] at this
    obtain ⟨xn, xv⟩ := x
    obtain ⟨yn, yv⟩ := y
    simp only at this
    rw [this.1, this.2]
   simp [this, tot_some]
 . have : a ≠ b := by
    rintro rfl
    rw [hx] at hy; cases hy
    simp [sameA_iff.2 (rfl : x.Value = x.Value)] at e
   simp [this, tot_some]
end Go.Sx.O
end
namespace Go.Sx.O
open Go
def jn (l : TL) (b k : Nat) : Nat := ((List.range k).filter fun a => up l a b).length
theorem za5 {l : TL} {b k : Nat} : jn l b (k + 1) = jn l b k + if up l k b = true then 1 else 0 := by
 unfold jn
 rw [List.range_succ, List.filter_append, List.length_append]
 cases h : up l k b <;> simp [h]
theorem zjy {l : TL} {b k : Nat} : jn l b k <= k := by
 have := List.length_filter_le (fun a => up l a b) (List.range k)
 simpa [jn] using this
def lvl (l : TL) (b : Nat) : Nat := jn l b l.Names.length
theorem zBc {l : TL} (ok : LatOK l) {b : Nat} (hb : b < l.Names.length) : 1 <= lvl l b := by
 unfold lvl jn
 have : b ∈ (List.range l.Names.length).filter fun a => up l a b := by
  rw [List.mem_filter]; exact ⟨List.mem_range.2 hb, ok.self b hb⟩
 exact List.length_pos_of_mem this
def yx (n : Nat) (f : Nat -> Nat) : List Int := (List.range n).map fun i => (f i : Int)
theorem jR {n : Nat} {f : Nat -> Nat} : (yx n f).length = n := by simp [yx]
theorem jY {n : Nat} {f : Nat -> Nat} {i : Nat} (h : i < n) : (yx n f)[i]? = some (f i : Int) := by
 unfold yx
 rw [List.getElem?_map, List.getElem?_range h]; rfl
theorem zzv {n : Nat} {f : Nat -> Nat} {i v : Nat} : (yx n f).set i (v : Int) = yx n fun j => if j = i then v else f j := by
 refine List.ext_getElem? fun j => ?_
 rw [List.getElem?_set]
 by_cases e : i = j
 . subst e
   rw [if_pos rfl]
   by_cases hi : i < n
   . rw [if_pos (by rw [jR]; exact hi), jY hi, if_pos rfl]
   . rw [if_neg (by rw [jR]; exact hi), List.getElem?_eq_none (by rw [jR]; omega)]
 . rw [if_neg e]
   by_cases hj : j < n
   . rw [jY hj, jY hj, if_neg (fun h => e h.symm)]
   . rw [List.getElem?_eq_none (by rw [jR]; omega), List.getElem?_eq_none (by rw [jR]; omega)]
theorem uO {n : Nat} {f g : Nat -> Nat} (h : ∀ i, i < n -> f i = g i) : yx n f = yx n g := by
 unfold yx
 exact List.map_congr_left fun i hi => by rw [h i (List.mem_range.1 hi)]
def lvS (l : TL) (b k : Nat) (i : Nat) : Nat := if i < b then lvl l i else if i = b then jn l b k else 0
theorem zyg {l : TL} (ok : LatOK l) {a b : Nat} (ha : a < l.Names.length) (hb : b < l.Names.length) : zdw l (a : Int) (b : Int) = some (up l a b) := by
 have hle := ok.le
 have hlen := ok.len
 unfold zdw zh
 obtain ⟨x, hx⟩ := zv (l := l.Up) (i := a) (by omega)
 have hu := ok.u8 x (List.mem_of_getElem? hx)
 have n1 : (0 : Int) <= (a : Int) := by omega
 have n2 : (0 : Int) <= (b : Int) := by omega
 simp only [n1, if_true, Int.toNat_natCast, hx, Option.bind_some]
 unfold zk
 rw [if_pos n2, zq6 hu.1 hu.2 (by omega), jq hx]
def ltL (l : TL) (x y : Int) : Prop := lvl l x.toNat < lvl l y.toNat \/ (lvl l x.toNat = lvl l y.toNat /\ x < y)
theorem zr7 {l : TL} {x : Int} : ¬ ltL l x x := by unfold ltL; omega
theorem zkw {l : TL} {x y z : Int} (h : ltL l x y) (k : ltL l y z) : ltL l x z := by unfold ltL at *; omega
theorem zA0 {l : TL} {x y : Int} (h : x ≠ y) : ltL l x y \/ ltL l y x := by unfold ltL; omega
def lvT (l : TL) : List Int := yx l.Names.length (lvl l)
theorem zrn {l : TL} {x y : Int} (hx : zQ l x = true) (hy : zQ l y = true) : Tot (zo9 (lvT l) x y) fun r => (r = true ↔ ltL l x y) := by
 obtain ⟨x0, x1⟩ := labB_iff.1 hx
 obtain ⟨y0, y1⟩ := labB_iff.1 hy
 unfold zo9 zh
 have e1 : (lvT l)[x.toNat]? = some (lvl l x.toNat : Int) := jY (by omega)
 have e2 : (lvT l)[y.toNat]? = some (lvl l y.toNat : Int) := jY (by omega)
 simp only [x0, y0, if_true, e1, e2, Option.bind_some]
 by_cases e : (lvl l x.toNat : Int) = (lvl l y.toNat : Int)
 . simp only [e, decide_true, Bool.not_true, cond_false, tot_some, decide_eq_true_eq]
   unfold ltL; omega
 . simp only [e, decide_false, Bool.not_false, cond_true, tot_some, decide_eq_true_eq]
   unfold ltL; omega
theorem zDo {l : TL} {x y : Int} (hx : zQ l x = true) (hy : zQ l y = true) : Tot (ztc x y (lvT l)) fun c => (c < 0 ↔ ltL l x y) := by
 unfold ztc
 obtain ⟨r, e, q⟩ := zrn hx hy
 obtain ⟨r2, e2, q2⟩ := zrn hy hx
 rw [e, e2]
 cases r
 . cases r2
   . simp only [Option.bind_some, cond_false, tot_some]
     simpa using q
   . simp only [Option.bind_some, cond_false, cond_true, tot_some]
     simpa using q
 . simp only [Option.bind_some, cond_true, tot_some]
   simpa using q
open Go
theorem zem {α : Type} {x y : Option α} {Q : α -> Prop} (h : x = y) (k : Tot y Q) : Tot x Q := h ▸ k
theorem zx3 {σ τ ε : Type} {step : σ -> Option (σ ⊕ (ε ⊕ τ))} {k1 : ε -> Option τ} {s0 : σ} {Q : τ -> Prop} (h : Tot (step s0) fun z => ∃ r, z = .inr (.inr r) /\ Q r) : Tot ((lpO step s0).bind (Sum.elim k1 some)) Q := by
 obtain ⟨z, e, r, rfl, q⟩ := h
 refine zem ?_ (tot_some.2 q)
 have := zb1 (step := step) 1 (fun k => s0) (fun _ => some (.inr r : ε ⊕ τ)) (.inr r) (fun k hk => by rw [e]) 
 rw [this (by rw [e])]
 rfl
theorem zzf {l : TL} {A1 A2 : List Int} {x : Int} (hs : (A1 ++ A2).Pairwise (ltL l)) (h2 : ∀ a ∈ A2, ltL l x a) (h1 : A1 = [] \/ ∃ A0 y, A1 = A0 ++ [y] /\ ltL l y x) : (A1 ++ x :: A2).Pairwise (ltL l) := by
 rw [List.pairwise_append] at hs ⊢
 obtain ⟨p1, p2, p3⟩ := hs
 refine ⟨p1, List.pairwise_cons.2 ⟨h2, p2⟩, fun a ha b hb => ?_⟩
 rcases List.mem_cons.1 hb with rfl | hb
 . rcases h1 with rfl | ⟨A0, y, rfl, hy⟩
   . cases ha
   . rcases List.mem_append.1 ha with ha | ha
     . rw [List.pairwise_append] at p1
       exact zkw (p1.2.2 a ha y (by simp)) hy
     . simp only [List.mem_cons, List.not_mem_nil, or_false] at ha
       subst ha; exact hy
 . exact p3 a ha b hb
theorem zkd {A B : List Int} {x : Int} : (A ++ x :: B)[A.length]? = some x := by simp
theorem zkb {A B : List Int} {x y : Int} : (A ++ x :: B).set A.length y = A ++ y :: B := by simp
theorem zv3 {n : Nat} (h : n <= 12) : ∃ v, yw (n : Int) = some v := by
 unfold yw
 rw [if_pos (by omega), Int.toNat_natCast]
 exact ⟨zyi[n]'(by simp [zyi]; omega), List.getElem?_eq_getElem _⟩
set_option maxHeartbeats 1000000 in
theorem zqg {l : TL} (h : LatIn l) (hk : (qy l).2 = 0) {X : List Int} (hX : ∀ x ∈ X, zQ l x = true) (hn : X.Nodup) (hl : X.length <= 12) : Tot (zpz l X) fun Y => Y.Perm X /\ Y.Pairwise (ltL l) := by
 have ok := wR h hk
 have hle := ok.le
 have hlen := ok.len
 unfold zpz
 simp only [List.length_map]
 rw [qF]
 refine ⟨⟨by omega, trivial, by omega, by omega⟩, ?_⟩
 refine zem (qY l.Names.length (fun b => ((b : Int), yx l.Names.length (lvS l b 0))) (lvT l) (fun b hb => ?_) ?_ ?_) ?_
 . have hbt : (b : Int) < (l.Names.length : Int) := by omega
   have hwb : IntKind.wrap .i64 ((b : Int) + 1) = ((b + 1 : Nat) : Int) := w64 (by omega) (by omega)
   have n1 : (0 : Int) <= (b : Int) := by omega
   simp only [hbt, decide_true, cond_true]
   refine (qY l.Names.length (fun a => ((a : Int), yx l.Names.length (lvS l b a))) (yx l.Names.length (lvS l b l.Names.length)) (fun a ha => ?_) (by simp) rfl).trans ?_
   . have hat : (a : Int) < (l.Names.length : Int) := by omega
     have hwa : IntKind.wrap .i64 ((a : Int) + 1) = ((a + 1 : Nat) : Int) := w64 (by omega) (by omega)
     have hg := jY (f := lvS l b a) hb
     have hv : lvS l b a b = jn l b a := by simp [lvS]
     have hc := zjy (l := l) (b := b) (k := a)
     have hwc : IntKind.wrap .i64 ((jn l b a : Int) + 1) = ((jn l b a + 1 : Nat) : Int) := w64 (by omega) (by omega)
     rw [hv] at hg
     simp only [hat, decide_true, cond_true, zyg ok ha hb, Option.bind_some]
     cases u : up l a b
     . simp only [cond_false, zg, hwa]
       have : yx l.Names.length (lvS l b a) = yx l.Names.length (lvS l b (a + 1)) := uO fun i _ => by
        unfold lvS
        rw [za5, u]; simp
       rw [this]
     . simp only [cond_true, jR, zk, n1, hbt, and_self, if_true, zh, Int.toNat_natCast, hg, Option.bind_some, zg, hwc, hwa, zzv]
       have : (yx l.Names.length fun j => if j = b then jn l b a + 1 else lvS l b a j) = yx l.Names.length (lvS l b (a + 1)) := uO fun i _ => by
        unfold lvS
        rw [za5, u]
        by_cases e : i = b
        . subst e; simp
        . simp [e]
       rw [this]
   . simp only [zg, hwb]
     have : yx l.Names.length (lvS l b l.Names.length) = yx l.Names.length (lvS l (b + 1) 0) := uO fun i _ => by
      unfold lvS
      by_cases e : i = b
      . subst e; simp [lvl]
      . have : (i < b + 1) = (i < b) := by simp; omega
        by_cases e2 : i = b + 1
        . subst e2; simp [jn]; omega
        . simp [e, e2, this]
     rw [this]
 . simp only [Int.lt_irrefl, decide_false, cond_false]
   have : yx l.Names.length (lvS l l.Names.length 0) = lvT l := uO fun i hi => by simp [lvS, hi]
   rw [this]
 . have : yx l.Names.length (lvS l 0 0) = List.replicate l.Names.length (0 : Int) := by
    refine List.ext_getElem? fun i => ?_
    by_cases hi : i < l.Names.length
    . rw [jY hi, List.getElem?_replicate, if_pos hi]
      have : lvS l 0 0 i = 0 := by unfold lvS; split <;> (try split) <;> simp_all [jn]
      rw [this]; rfl
    . rw [List.getElem?_eq_none (by rw [jR]; omega), List.getElem?_eq_none (by simp; omega)]
   simp [this]
 . rw [qF]
   refine ⟨by omega, ?_⟩
   have hw : IntKind.wrap .u64 (X.length : Int) = (X.length : Int) := by
    have : ∀ k : Fin 13, IntKind.wrap .u64 ((k.val : Nat) : Int) = (k.val : Int) := by decide +kernel
    exact this ⟨X.length, by omega⟩
   obtain ⟨v, hv⟩ := zv3 hl
   rw [zN, hw, hv]
   simp only [Option.bind_some]
   refine zx3 ?_
   have hw2 : IntKind.wrap .i64 ((X.length : Int) - 0) = (X.length : Int) := by rw [Int.sub_zero]; exact w64 (by omega) (by omega)
   have hl2 : (X.length : Int) <= 12 := by omega
   rw [zN, hw2]
   simp only [hl2, decide_true, cond_true, zu]
   refine Tot.count (X.length - 1) (fun k s => s.1 = ((k + 1 : Nat) : Int) /\ ∃ A, s.2 = A ++ X.drop (k + 1) /\ A.Perm (X.take (k + 1)) /\ A.Pairwise (ltL l)) (fun k s hkk hP => ?_) ⟨rfl, X.take 1, (List.take_append_drop 1 X).symm, List.Perm.refl _, ?_⟩
   . obtain ⟨s1, s2⟩ := s
     obtain ⟨rfl, A, rfl, hperm, hpw⟩ := hP
     by_cases hlt : k + 1 < X.length
     . have hlt' : ((k + 1 : Nat) : Int) < (X.length : Int) := by omega
       obtain ⟨x, hx⟩ := zv hlt
       have hwk : IntKind.wrap .i64 (((k + 1 : Nat) : Int) + 1) = ((k + 1 + 1 : Nat) : Int) := w64 (by omega) (by omega)
       have hAl : A.length = k + 1 := by rw [hperm.length_eq]; simp; omega
       have hdrop : X.drop (k + 1) = x :: X.drop (k + 1 + 1) := by
        have := List.getElem?_eq_some_iff.1 hx
        obtain ⟨q, rfl⟩ := this
        exact List.drop_eq_getElem_cons q
       have htake : X.take (k + 1 + 1) = X.take (k + 1) ++ [x] := by rw [List.take_add_one, hx]; rfl
       have hxl := hX x (List.mem_of_getElem? hx)
       have hAm : ∀ a ∈ A, zQ l a = true /\ a ≠ x := fun a ha => by
        have hm := hperm.mem_iff.1 ha
        refine ⟨hX a (List.mem_of_mem_take hm), fun e => ?_⟩
        have hnd : (X.take (k + 1 + 1)).Nodup := hn.sublist (List.take_sublist _ _)
        rw [htake, List.nodup_append] at hnd
        exact hnd.2.2 a hm x (by simp) e
       simp only [hlt', decide_true, cond_true]
       rw [zu]
       rw [hdrop]
       refine Tot.count (k + 1) (fun m s => s.1 = ((k + 1 : Nat) : Int) - (m : Int) /\ ∃ A1 A2, s.2 = A1 ++ x :: (A2 ++ X.drop (k + 1 + 1)) /\ A1.length + m = k + 1 /\ A1 ++ A2 = A /\ ∀ a ∈ A2, ltL l x a) (fun m s hmm hQ => ?_) ⟨by simp, A, [], by simp, by omega, by simp, by simp⟩
       obtain ⟨s1, s2⟩ := s
       obtain ⟨rfl, A1, A2, rfl, hA1, hA, hA2⟩ := hQ
       have fin : (A1 = [] \/ ∃ A0 y, A1 = A0 ++ [y] /\ ltL l y x) -> ∀ {τ2 : Type} (Q2 : τ2 -> Prop), Tot (zg (IntKind.wrap .i64 (((k + 1 : Nat) : Int) + 1)) fun x962 => (some (Sum.inl (x962, A1 ++ x :: (A2 ++ X.drop (k + 1 + 1)))) : Option ((Int × List Int) ⊕ τ2))) (Sum.elim (fun s' => k < X.length - 1 /\ s'.fst = ((k + 1 + 1 : Nat) : Int) /\ ∃ A, s'.snd = A ++ X.drop (k + 1 + 1) /\ A.Perm (X.take (k + 1 + 1)) /\ A.Pairwise (ltL l)) Q2) := by
        intro h1 τ2 Q2
        rw [zN, hwk, tot_some]
        refine ⟨by omega, rfl, A1 ++ x :: A2, by simp, ?_, zzf (by rw [hA]; exact hpw) hA2 h1⟩
        rw [htake]
        have p1 : (A1 ++ x :: A2).Perm (x :: (A1 ++ A2)) := List.perm_middle
        have p2 : (x :: (A1 ++ A2)).Perm ((A1 ++ A2) ++ [x]) := (List.perm_append_singleton _ _).symm
        exact p1.trans (p2.trans (by rw [hA]; exact hperm.append_right _))
       have hj : ((k + 1 : Nat) : Int) - (m : Int) = (A1.length : Int) := by omega
       have hA1m : ∀ a ∈ A1, zQ l a = true /\ a ≠ x := fun a ha => hAm a (by rw [<- hA]; exact List.mem_append_left _ ha)
       rw [hj]
       rcases List.eq_nil_or_concat A1 with rfl | ⟨A0, y, rfl⟩
       . simp only [List.length_nil, Int.ofNat_eq_natCast, Int.natCast_zero, Int.lt_irrefl, decide_false, cond_false, tot_some, Sum.elim_inr, Sum.elim_inl]
         exact fin (.inl rfl) _
       . rw [List.concat_eq_append] at *
         have hyl := hA1m y (by simp)
         have hlen1 : (A0 ++ [y]).length = A0.length + 1 := by simp
         have q0 : (0 : Int) < (((A0 ++ [y]).length : Nat) : Int) := by omega
         have hL : (A0 ++ [y] ++ x :: (A2 ++ X.drop (k + 1 + 1))).length = A0.length + 1 + 1 + (A2.length + (X.drop (k + 1 + 1)).length) := by simp; omega
         have hXb : A0.length + 1 + 1 + (A2.length + (X.drop (k + 1 + 1)).length) <= 100 := by
          have h1 : A0.length + 1 + A2.length = k + 1 := by
           have := congrArg List.length hA
           simp at this; omega
          have h2 : (X.drop (k + 1 + 1)).length <= 12 := by simp; omega
          omega
         have s1 : (0 : Int) <= (((A0 ++ [y]).length : Nat) : Int) /\ (((A0 ++ [y]).length : Nat) : Int) < (((A0 ++ [y] ++ x :: (A2 ++ X.drop (k + 1 + 1))).length : Nat) : Int) := by rw [hL, hlen1]; omega
         have hwj : IntKind.wrap .i64 ((((A0 ++ [y]).length : Nat) : Int) - 1) = (A0.length : Int) := by
          have : (((A0 ++ [y]).length : Nat) : Int) - 1 = (A0.length : Int) := by omega
          rw [this]; exact w64 (by omega) (by omega)
         have s2 : (0 : Int) <= (A0.length : Int) /\ (A0.length : Int) < (((A0 ++ [y] ++ x :: (A2 ++ X.drop (k + 1 + 1))).length : Nat) : Int) := by rw [hL]; omega
         have g1 : (A0 ++ [y] ++ x :: (A2 ++ X.drop (k + 1 + 1)))[(A0 ++ [y]).length]? = some x := zkd
         have g2 : (A0 ++ [y] ++ x :: (A2 ++ X.drop (k + 1 + 1)))[A0.length]? = some y := by
          rw [List.append_assoc]; exact zkd
         have p1 : (0 : Int) <= (((A0 ++ [y]).length : Nat) : Int) := s1.1
         have p2 : (0 : Int) <= (A0.length : Int) := s2.1
         obtain ⟨c, hc, qc⟩ := zDo hxl hyl.1
         simp only [q0, decide_true, cond_true, zk, s1, s2, if_true, and_self, zh, p1, p2, Int.toNat_natCast, g1, g2, Option.bind_some, zg, hwj, hc]
         by_cases hneg : c < 0
         . have hlt2 := qc.1 hneg
           have l3 : (((A0 ++ [y] ++ x :: (A2 ++ X.drop (k + 1 + 1))).map (SV.int IntKind.i64)).set (A0 ++ [y]).length (SV.int IntKind.i64 y)).length = A0.length + 1 + 1 + (A2.length + (X.drop (k + 1 + 1)).length) := by rw [List.length_set, List.length_map, hL]
           have s3 : (0 : Int) <= (A0.length : Int) /\ (A0.length : Int) < (((((A0 ++ [y] ++ x :: (A2 ++ X.drop (k + 1 + 1))).map (SV.int IntKind.i64)).set (A0 ++ [y]).length (SV.int IntKind.i64 y)).length : Nat) : Int) := by rw [l3]; omega
           have g3 : ((A0 ++ [y] ++ x :: (A2 ++ X.drop (k + 1 + 1))).set (A0 ++ [y]).length y)[A0.length]? = some y := by
            rw [zkb, List.append_assoc]; exact zkd
           have sw : ((A0 ++ [y] ++ x :: (A2 ++ X.drop (k + 1 + 1))).set (A0 ++ [y]).length y).set A0.length x = A0 ++ x :: ((y :: A2) ++ X.drop (k + 1 + 1)) := by
            rw [zkb, List.append_assoc]; exact zkb
           simp only [hneg, decide_true, cond_true, s3, if_true, and_self, g3, Option.bind_some, sw, tot_some, Sum.elim_inl]
           refine ⟨by omega, by omega, A0, y :: A2, rfl, by omega, by rw [<- hA]; simp, fun a ha => ?_⟩
           rcases List.mem_cons.1 ha with rfl | ha
           . exact hlt2
           . exact hA2 a ha
         . simp only [hneg, decide_false, cond_false, tot_some, Sum.elim_inr, Sum.elim_inl]
           have gy : ltL l y x := by
            rcases zA0 (l := l) hyl.2 with g | g
            . exact g
            . exact absurd (qc.2 g) hneg
           have fx := fin (τ2 := Unit) (.inr ⟨A0, y, rfl, gy⟩) (fun _ => True)
           rw [zN, tot_some] at fx
           exact fx
     . have hlt' : ¬ ((k + 1 : Nat) : Int) < (X.length : Int) := by omega
       have hd : X.drop (k + 1) = [] := List.drop_eq_nil_of_le (by omega)
       have ht : X.take (k + 1) = X := List.take_of_length_le (by omega)
       rw [hd, List.append_nil]
       rw [ht] at hperm
       have hAl := hperm.length_eq
       simp only [hlt', decide_false, cond_false, tot_some, Sum.elim_inr, Sum.elim_inl]
       by_cases h2 : (A.length : Int) < 2
       . simp only [h2, decide_true, cond_true, tot_some]
         exact ⟨A, rfl, hperm, hpw⟩
       . simp only [h2, decide_false, cond_false]
         refine zem (qY (A.length - 1) (fun i => ((i + 1 : Nat) : Int)) (false, (A.length : Int)) (fun i hi => ?_) ?_ rfl) ?_
         . have hit : ((i + 1 : Nat) : Int) < (A.length : Int) := by omega
           obtain ⟨u, hu⟩ := zv (l := A) (i := i + 1) (by omega)
           obtain ⟨w, hw'⟩ := zv (l := A) (i := i) (by omega)
           have n1 : (0 : Int) <= ((i + 1 : Nat) : Int) := by omega
           have n2 : (0 : Int) <= (i : Int) := by omega
           have n3 : (i : Int) < (A.length : Int) := by omega
           have w1 : IntKind.wrap .i64 (((i + 1 : Nat) : Int) - 1) = (i : Int) := by
            have : ((i + 1 : Nat) : Int) - 1 = (i : Int) := by omega
            rw [this]; exact w64 (by omega) (by omega)
           have w2 : IntKind.wrap .i64 (((i + 1 : Nat) : Int) + 1) = ((i + 1 + 1 : Nat) : Int) := w64 (by omega) (by omega)
           have hne : ¬ u = w := fun e => by
            have h3 := List.pairwise_iff_getElem.1 hpw i (i + 1) (by omega) (by omega) (by omega)
            rw [(List.getElem?_eq_some_iff.1 hu).2, (List.getElem?_eq_some_iff.1 hw').2, e] at h3
            exact zr7 h3
           simp only [hit, decide_true, cond_true, zk, n1, n2, n3, and_self, if_true, zh, Int.toNat_natCast, hu, hw', Option.bind_some, zg, w1, w2, hne, decide_false, cond_false]
         . have e : ((A.length - 1 + 1 : Nat) : Int) = (A.length : Int) := by omega
           simp only [e, Int.lt_irrefl, decide_false, cond_false]
         . exact tot_some.2 ⟨A, rfl, hperm, hpw⟩
   . rcases X with _ | ⟨x, X'⟩
     . simp
     . simp
open Go
theorem zzm {l : TL} (ok : LatOK l) {a : Nat} (ha : a < l.Names.length) : zmr l (a : Int) = some (lvl l a : Int) := by
 have hle := ok.le
 have hlen := ok.len
 unfold zmr
 simp only [List.length_map]
 refine (qY l.Names.length (fun k => ((k : Int), (jn l a k : Int))) (lvl l a : Int) (fun k hk => ?_) (by simp [lvl]) rfl).trans rfl
 have hlt : (k : Int) < (l.Names.length : Int) := by omega
 have hw : IntKind.wrap .i64 ((k : Int) + 1) = ((k + 1 : Nat) : Int) := w64 (by omega) (by omega)
 have hc := zjy (l := l) (b := a) (k := k)
 have hwc : IntKind.wrap .i64 ((jn l a k : Int) + 1) = ((jn l a k + 1 : Nat) : Int) := w64 (by omega) (by omega)
 have hb := yR ok.u8 (a := k) (b := a) (by omega) (by omega)
 simp only [hlt, decide_true, cond_true, hb, Option.bind_some]
 cases u : up l k a
 . simp only [cond_false, zg, hw, za5, u]; simp
 . simp only [cond_true, zg, hw, hwc, za5, u]; simp
theorem zDw (X : List Int) (hX : X.length <= 1000) (a : Int) : zm2 X a = some (decide (a ∈ X)) := by
 unfold zm2
 simp only [List.length_map]
 refine (qu X.length (fun k => (k : Int)) (fun k => match X[k]? with | some x => if x = a then some true else none | none => none) () (fun k hk => ?_) (by simp) rfl).trans ?_
 . obtain ⟨x, hx⟩ := zv hk
   have hlt : (k : Int) < (X.length : Int) := by omega
   have hw : IntKind.wrap .i64 ((k : Int) + 1) = ((k + 1 : Nat) : Int) := w64 (by omega) (by omega)
   have n1 : (0 : Int) <= (k : Int) := by omega
   simp only [hlt, decide_true, cond_true, zh, n1, if_true, Int.toNat_natCast, hx, Option.bind_some, zg, hw]
   by_cases e : x = a <;> simp [e]
 . cases hs : zx (fun k => match X[k]? with | some x => if x = a then some true else none | none => none) 0 X.length with
   | some r =>
     obtain ⟨k, _, h2, h3, _⟩ := zcq hs
     obtain ⟨x, hx⟩ := zv (l := X) (i := k) (by omega)
     rw [hx] at h3
     simp only at h3
     by_cases e : x = a
     . rw [if_pos e] at h3
       cases h3
       have : a ∈ X := e ▸ List.mem_of_getElem? hx
       simp [this]
     . rw [if_neg e] at h3; cases h3
   | none =>
     have : ¬ a ∈ X := fun hm => by
      obtain ⟨k, hk⟩ := List.mem_iff_getElem?.1 hm
      have hlt : k < X.length := (List.getElem?_eq_some_iff.1 hk).1
      have := scan_none.1 hs k (by omega) (by omega)
      rw [hk] at this
      simp at this
     simp [this]
def xE (l : TL) (X : List Int) (m a : Nat) : List Int := ((List.range a).filter fun i => decide (lvl l i = m) && decide ((i : Int) ∈ X)).map fun (i : Nat) => (i : Int)
def yG (l : TL) (X : List Int) : Nat -> List Int
 | 0 => []
 | m + 1 => yG l X m ++ xE l X (m + 1) l.Names.length
theorem zlg {l : TL} {X : List Int} {m a : Nat} : xE l X m (a + 1) = xE l X m a ++ if lvl l a = m /\ (a : Int) ∈ X then [(a : Int)] else [] := by
 unfold xE
 rw [List.range_succ, List.filter_append, List.map_append]
 by_cases h : lvl l a = m /\ (a : Int) ∈ X
 . simp [h]
 . rw [if_neg h]
   have : (decide (lvl l a = m) && decide ((a : Int) ∈ X)) = false := by
    simp only [Bool.and_eq_false_iff, decide_eq_false_iff_not]
    by_cases h1 : lvl l a = m
    . exact .inr fun h2 => h ⟨h1, h2⟩
    . exact .inl h1
   simp [this]
theorem zok {l : TL} {X : List Int} {m a : Nat} : (xE l X m a).length <= a := by
 have := List.length_filter_le (fun i => decide (lvl l i = m) && decide ((i : Int) ∈ X)) (List.range a)
 simpa [xE] using this
theorem zf5 {l : TL} {X : List Int} : ∀ m, (yG l X m).length <= m * l.Names.length
 | 0 => by simp [yG]
 | m + 1 => by
   have h1 := zf5 (l := l) (X := X) m
   have h2 := zok (l := l) (X := X) (m := m + 1) (a := l.Names.length)
   simp only [yG, List.length_append, Nat.add_mul, Nat.one_mul]
   omega
theorem mem_layL {l : TL} {X : List Int} {m a : Nat} {x : Int} : x ∈ xE l X m a ↔ ∃ i : Nat, x = (i : Int) /\ i < a /\ lvl l i = m /\ x ∈ X := by
 unfold xE
 rw [List.mem_map]
 constructor
 . rintro ⟨i, hi, rfl⟩
   rw [List.mem_filter, List.mem_range, Bool.and_eq_true, decide_eq_true_iff, decide_eq_true_iff] at hi
   exact ⟨i, rfl, hi.1, hi.2.1, hi.2.2⟩
 . rintro ⟨i, rfl, h1, h2, h3⟩
   exact ⟨i, by rw [List.mem_filter, List.mem_range, Bool.and_eq_true, decide_eq_true_iff, decide_eq_true_iff]; exact ⟨h1, h2, h3⟩, rfl⟩
theorem mem_accL {l : TL} {X : List Int} {x : Int} : ∀ {m : Nat}, x ∈ yG l X m ↔ ∃ i : Nat, x = (i : Int) /\ i < l.Names.length /\ 1 <= lvl l i /\ lvl l i <= m /\ x ∈ X
 | 0 => by
   constructor
   . intro h; cases h
   . rintro ⟨i, _, _, h1, h2, _⟩; omega
 | m + 1 => by
   rw [yG, List.mem_append, mem_accL (m := m), mem_layL]
   constructor
   . rintro (⟨i, h1, h2, h3, h4, h5⟩ | ⟨i, h1, h2, h3, h4⟩)
     . exact ⟨i, h1, h2, h3, by omega, h5⟩
     . exact ⟨i, h1, h2, by omega, by omega, h4⟩
   . rintro ⟨i, h1, h2, h3, h4, h5⟩
     by_cases e : lvl l i = m + 1
     . exact .inr ⟨i, h1, h2, e, h5⟩
     . exact .inl ⟨i, h1, h2, h3, by omega, h5⟩
theorem zA8 {l : TL} {X : List Int} {m a : Nat} : (xE l X m a).Pairwise (ltL l) := by
 induction a with
 | zero => simp [xE]
 | succ a ih =>
   rw [zlg, List.pairwise_append]
   refine ⟨ih, by split <;> simp, fun x hx y hy => ?_⟩
   obtain ⟨i, rfl, h1, h2, _⟩ := mem_layL.1 hx
   split at hy
   . rename_i h
     simp only [List.mem_cons, List.not_mem_nil, or_false] at hy
     subst hy
     unfold ltL
     simp only [Int.toNat_natCast]
     omega
   . cases hy
theorem zri {l : TL} {X : List Int} : ∀ m, (yG l X m).Pairwise (ltL l)
 | 0 => by simp [yG]
 | m + 1 => by
   rw [yG, List.pairwise_append]
   refine ⟨zri m, zA8, fun x hx y hy => ?_⟩
   obtain ⟨i, rfl, _, _, h1, _⟩ := mem_accL.1 hx
   obtain ⟨j, rfl, _, h2, _⟩ := mem_layL.1 hy
   unfold ltL
   simp only [Int.toNat_natCast]
   omega
theorem zlt {l : TL} (ok : LatOK l) (X : List Int) (hX : X.length <= 1000) : zmk l X = some (yG l X l.Names.length) := by
 have hle := ok.le
 unfold zmk
 simp only [List.length_map]
 refine (qY l.Names.length (fun k => (((k + 1 : Nat) : Int), yG l X k)) (yG l X l.Names.length) (fun k hk => ?_) ?_ rfl).trans rfl
 . have hlt : ((k + 1 : Nat) : Int) <= (l.Names.length : Int) := by omega
   have hw : IntKind.wrap .i64 (((k + 1 : Nat) : Int) + 1) = ((k + 1 + 1 : Nat) : Int) := w64 (by omega) (by omega)
   simp only [hlt, decide_true, cond_true]
   refine (qY l.Names.length (fun a => ((a : Int), yG l X k ++ xE l X (k + 1) a)) (yG l X (k + 1)) (fun a ha => ?_) (by simp [yG]) (by simp [xE])).trans ?_
   . have hat : (a : Int) < (l.Names.length : Int) := by omega
     have hwa : IntKind.wrap .i64 ((a : Int) + 1) = ((a + 1 : Nat) : Int) := w64 (by omega) (by omega)
     have h1 := zf5 (l := l) (X := X) k
     have h2 := zok (l := l) (X := X) (m := k + 1) (a := a)
     have h3 : k * l.Names.length <= 8 * 8 := Nat.mul_le_mul (by omega) (by omega)
     have hside : ((yG l X k ++ xE l X (k + 1) a).length + 1) * 8 <= 70368744177664 := by rw [List.length_append]; omega
     simp only [hat, decide_true, cond_true, zzm ok ha, zDw X hX, Option.bind_some, zlg]
     by_cases e1 : lvl l a = k + 1
     . have e1' : (lvl l a : Int) = ((k + 1 : Nat) : Int) := by omega
       by_cases e2 : (a : Int) ∈ X
       . simp only [e1', e1, e2, decide_true, cond_true, zk, hside, if_true, zg, hwa, and_self, List.append_assoc]
       . simp only [e1', e1, e2, decide_true, decide_false, cond_true, cond_false, zg, hwa, and_false, if_false, List.append_nil]
     . have e1' : ¬ (lvl l a : Int) = ((k + 1 : Nat) : Int) := by omega
       simp only [e1', e1, decide_false, cond_false, zg, hwa, false_and, if_false, List.append_nil]
   . simp only [zg, hw]
 . have : ¬ ((l.Names.length + 1 : Nat) : Int) <= (l.Names.length : Int) := by omega
   simp only [this, decide_false, cond_false]
theorem znq {α : Type} {R : α -> α -> Prop} (irr : ∀ a, ¬ R a a) (tr : ∀ a b c, R a b -> R b c -> R a c) : ∀ {l m : List α}, l.Pairwise R -> m.Pairwise R -> (∀ x, x ∈ l ↔ x ∈ m) -> l = m
 | [], [], _, _, _ => rfl
 | [], y :: m, _, _, h => by have := (h y).2 (by simp); cases this
 | x :: l, [], _, _, h => by have := (h x).1 (by simp); cases this
 | x :: l, y :: m, hl, hm, h => by
   obtain ⟨hx, hl'⟩ := List.pairwise_cons.1 hl
   obtain ⟨hy, hm'⟩ := List.pairwise_cons.1 hm
   have exy : x = y := by
    have h1 := (h x).1 (by simp)
    have h2 := (h y).2 (by simp)
    rcases List.mem_cons.1 h1 with e | e
    . exact e
    . rcases List.mem_cons.1 h2 with e2 | e2
      . exact e2.symm
      . exact absurd (tr _ _ _ (hx y e2) (hy x e)) (irr x)
   subst exy
   have : l = m := znq irr tr hl' hm' fun z => by
    constructor
    . intro hz
      have := (h z).1 (by simp [hz])
      rcases List.mem_cons.1 this with e | e
      . subst e; exact absurd (hx z hz) (irr z)
      . exact e
    . intro hz
      have := (h z).2 (by simp [hz])
      rcases List.mem_cons.1 this with e | e
      . subst e; exact absurd (hy z hz) (irr z)
      . exact e
   rw [this]
theorem zu9 {l : TL} (h : LatIn l) (hk : (qy l).2 = 0) {X : List Int} (hX : ∀ x ∈ X, zQ l x = true) (hn : X.Nodup) (hl : X.length <= 12) : zpz l X = some (yG l X l.Names.length) := by
 obtain ⟨Y, e, hp, hw⟩ := zqg h hk hX hn hl
 rw [e]
 congr 1
 refine znq (R := ltL l) (fun _ => zr7) (fun _ _ _ => zkw) hw (zri _) fun x => ?_
 rw [mem_accL]
 constructor
 . intro hx
   have hx := hp.mem_iff.1 hx
   obtain ⟨x0, x1⟩ := labB_iff.1 (hX x hx)
   refine ⟨x.toNat, (Int.toNat_of_nonneg x0).symm, by omega, zBc (wR h hk) (by omega), zjy, hx⟩
 . rintro ⟨i, rfl, _, _, _, hx⟩
   exact hp.mem_iff.2 hx
open Go
theorem zjk {l : TL} (h : LatIn l) (hk : (qy l).2 = 0) {X : List Int} (hX : ∀ x ∈ X, zQ l x = true) (hn : X.Nodup) (hl : X.length <= 12) : zs4 l X = some (yG l X l.Names.length, 0) := by
 unfold zs4
 rw [za8 h hk X (by omega) (fun x hx => hX x hx)]
 simp only [Option.bind_some, decide_true, Bool.not_true, cond_false, zu9 h hk hX hn hl]
theorem zjd {l : TL} (h : LatIn l) (hk : (qy l).2 = 0) {X : List Int} (hX : ∀ x ∈ X, zQ l x = true) (hl : X.length <= 12) : zmf l X = some (0, 0) := by
 unfold zmf
 rw [xA l h.u8 h.names h.name, <- zbu h]
 have h64 : ¬ (64 : Int) < (X.length : Int) := by omega
 simp only [Option.bind_some, hk, decide_true, Bool.not_true, cond_false, List.length_map, h64, decide_false]
 refine (qY X.length (fun k => (k : Int)) () (fun k hk' => ?_) (by simp) rfl).trans rfl
 obtain ⟨x, hx⟩ := zv hk'
 obtain ⟨x0, x1⟩ := labB_iff.1 (hX x (List.mem_of_getElem? hx))
 have hlt : (k : Int) < (X.length : Int) := by omega
 have hw : IntKind.wrap .i64 ((k : Int) + 1) = ((k + 1 : Nat) : Int) := w64 (by omega) (by omega)
 have n1 : (0 : Int) <= (k : Int) := by omega
 have c1 : ¬ x < 0 := by omega
 have c2 : ¬ (l.Names.length : Int) <= x := by omega
 simp only [hlt, decide_true, cond_true, zh, n1, if_true, Int.toNat_natCast, hx, Option.bind_some, c1, c2, decide_false, cond_false, zg, hw]
theorem zlk {l : TL} (h : LatIn l) (hk : (qy l).2 = 0) {X : List Int} (hX : ∀ x ∈ X, zQ l x = true) (hl : X.length <= 12) : zl7 l X = some (yG l X l.Names.length, 0) := by
 unfold zl7
 rw [zjd h hk hX hl]
 simp only [Option.bind_some, decide_true, Bool.not_true, cond_false, zlt (wR h hk) X (by omega)]
end Go.Sx.O
noncomputable section
namespace Go.Sx.O
open Go
def jk (p : TP) (a b : List TW) (n : Nat) : List Int := ((List.range n).filter fun (k : Nat) => agD p a b (k : Int)).map fun (k : Nat) => (k : Int)
theorem zk9 {p : TP} {a b : List TW} {k : Nat} : jk p a b (k + 1) = jk p a b k ++ if agD p a b (k : Int) = true then [(k : Int)] else [] := by
 unfold jk
 rw [List.range_succ, List.filter_append, List.map_append]
 cases h : agD p a b (k : Int) <;> simp [h]
theorem zb9 {p : TP} {a b : List TW} {n : Nat} : (jk p a b n).length <= n := by
 unfold jk
 rw [List.length_map]
 exact Nat.le_trans (List.length_filter_le _ _) (by simp)
theorem znp {p : TP} {a b : List TW} {n : Nat} {x : Int} (h : x ∈ jk p a b n) : 0 <= x /\ x < (n : Int) := by
 unfold jk at h
 simp only [List.mem_map, List.mem_filter, List.mem_range] at h
 obtain ⟨k, ⟨h1, _⟩, rfl⟩ := h
 omega
theorem ztg {p : TP} {a b : List TW} {n : Nat} : (jk p a b n).Nodup := by
 unfold jk
 rw [List.nodup_iff_pairwise_ne, List.pairwise_map]
 refine List.Pairwise.imp ?_ (List.Pairwise.filter _ List.nodup_range)
 intro x y hne e
 omega
def zj2 (p : TP) (a b : List TW) : List Int × Int :=
 if (if (zZ p a).2 = 0 then (zZ p b).2 else (zZ p a).2) = 0 then (yG p.Lattice (jk p a b p.Lattice.Names.length) p.Lattice.Names.length, 0) else ([], if (zZ p a).2 = 0 then (zZ p b).2 else (zZ p a).2)
theorem zjl {p : TP} {a b : List TW} (h : (if (zZ p a).2 = 0 then (zZ p b).2 else (zZ p a).2) = 0) : Fit2 p a b := by
 by_cases e : (zZ p a).2 = 0
 . rw [if_pos e] at h; exact ⟨e, h⟩
 . rw [if_neg e] at h; exact absurd h e
theorem zo5 {p : TP} (h : PolIn p) {a b : List TW} (ha : a.length <= 1000000) (hb : b.length <= 1000000) : zs6 p a b = some (zj2 p a b) := by
 unfold zs6 zj2
 rw [zic h ha hb]
 simp only [Option.bind_some]
 by_cases hf : (if (zZ p a).2 = 0 then (zZ p b).2 else (zZ p a).2) = 0
 case neg => simp only [hf, decide_false, Bool.not_false, cond_true, if_false]
 have f := zjl hf
 obtain ⟨hk, _⟩ := yr f.fa
 have hlat := zj1 hk
 have ok := wR h.lat hlat
 have hle := ok.le
 simp only [hf, decide_true, Bool.not_true, cond_false, if_true, List.length_map]
 refine (qY p.Lattice.Names.length (fun k => ((k : Int), jk p a b k)) (jk p a b p.Lattice.Names.length) (fun k hk' => ?_) (by simp) rfl).trans ?_
 . have ho : zQ p.Lattice (k : Int) = true := labB_iff.2 ⟨by omega, by omega⟩
   have hlt : (k : Int) < (p.Lattice.Names.length : Int) := by omega
   have hwr : IntKind.wrap .i64 ((k : Int) + 1) = ((k + 1 : Nat) : Int) := w64 (by omega) (by omega)
   have hl := zb9 (p := p) (a := a) (b := b) (n := k)
   have hside : ((jk p a b k).length + 1) * 8 <= 70368744177664 := by omega
   simp only [hlt, decide_true, cond_true, zkz h ha hb f ho, Option.bind_some, zk, hside, if_true, zg, hwr, zk9]
   cases agD p a b (k : Int) <;> simp
 . rw [zjk h.lat hlat (fun x hx => by have := znp hx; exact labB_iff.2 ⟨this.1, this.2⟩) ztg (Nat.le_trans zb9 (by omega))]
   rfl
theorem zm3 {p : TP} (h : PolIn p) {a b : List TW} (ha : a.length <= 1000000) (hb : b.length <= 1000000) : zmu p a b = some (zj2 p a b) := by
 unfold zmu zj2
 rw [zd1 h ha hb]
 simp only [Option.bind_some]
 by_cases hf : (if (zZ p a).2 = 0 then (zZ p b).2 else (zZ p a).2) = 0
 case neg => simp only [hf, decide_false, Bool.not_false, cond_true, if_false]
 have f := zjl hf
 obtain ⟨hk, _⟩ := yr f.fa
 have hlat := zj1 hk
 have ok := wR h.lat hlat
 have hle := ok.le
 simp only [hf, decide_true, Bool.not_true, cond_false, if_true, List.length_map]
 refine (qY p.Lattice.Names.length (fun k => ((k : Int), jk p a b k)) (jk p a b p.Lattice.Names.length) (fun k hk' => ?_) (by simp) rfl).trans ?_
 . have ho : zQ p.Lattice (k : Int) = true := labB_iff.2 ⟨by omega, by omega⟩
   have hlt : (k : Int) < (p.Lattice.Names.length : Int) := by omega
   have hwr : IntKind.wrap .i64 ((k : Int) + 1) = ((k + 1 : Nat) : Int) := w64 (by omega) (by omega)
   have hl := zb9 (p := p) (a := a) (b := b) (n := k)
   have hside : ((jk p a b k).length + 1) * 8 <= 70368744177664 := by omega
   have hag : zh0 p a b (k : Int) = some (agD p a b (k : Int), 0) := (zkg h ha hb (k : Int)).trans ((zby h ha hb (k : Int)).symm.trans (zkz h ha hb f ho))
   simp only [hlt, decide_true, cond_true, hag, Option.bind_some, zk, hside, if_true, zg, hwr, zk9]
   cases agD p a b (k : Int) <;> simp
 . rw [zlk h.lat hlat (fun x hx => by have := znp hx; exact labB_iff.2 ⟨this.1, this.2⟩) (Nat.le_trans zb9 (by omega))]
   rfl
theorem zw6 {p : TP} (h : PolIn p) {a b : List TW} : (zj2 p a b).1.length <= 1000000 := by
 unfold zj2
 by_cases hf : (if (zZ p a).2 = 0 then (zZ p b).2 else (zZ p a).2) = 0
 . rw [if_pos hf]
   have f := zjl hf
   obtain ⟨hk, _⟩ := yr f.fa
   have hle := (wR h.lat (zj1 hk)).le
   have := zf5 (l := p.Lattice) (X := jk p a b p.Lattice.Names.length) p.Lattice.Names.length
   have h2 : p.Lattice.Names.length * p.Lattice.Names.length <= 8 * 8 := Nat.mul_le_mul hle hle
   simp only
   omega
 . rw [if_neg hf]; simp
theorem zqv (p : TP) (a b : List TW) (w1 : W_TP p) (w2 : jh W_TW a) (_ : jh W_TW b) : zty p a b = some true := by
 unfold zty
 obtain ⟨r, hr, hf⟩ := zsy p a b (zCf w1.Lattice.Up)
 rw [hr]
 cases r
 case true => rfl
 obtain ⟨h, ha, hb⟩ := hf rfl
 have hc : ∀ x ∈ a, x.Value.Cells.length <= 9223372036854775807 := fun x hx => (w2 x hx).Value.Cells.2
 obtain ⟨s, es, qs⟩ := zh4 a b (by omega) hc
 obtain ⟨t, et, qt⟩ := zlv a b (by omega) hc
 have e : s = t := by rw [Bool.eq_iff_iff, qs, qt]
 rw [zo5 h (by omega) (by omega), zm3 h (by omega) (by omega), es, et, e]
 simp only [Option.bind_some, cond_false, zir _ (zw6 h), decide_true, cond_true, beq_self_eq_true]
end Go.Sx.O
end
