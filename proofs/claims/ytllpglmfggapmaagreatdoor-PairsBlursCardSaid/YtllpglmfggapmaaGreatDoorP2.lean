/-
  An own text of this claim.
-/
import Derived.Test.YtllpglmfggapmaaGreatDoorP1
namespace Go.Sx.O
open Go
def zah (ns : List (List UInt8)) (i : Nat) : Option (Int × Int) :=
 if zb0 (ns.getD i []) = true then (if ns.getD i [] ∈ ns.take i then some ((i : Int), 8) else none) else some ((i : Int), 6)
def jt (ns : List (List UInt8)) : Int × Int := if ns.length < 1 \/ 8 < ns.length then (-1, 3) else (zw (zah ns) 0 ns.length).getD (0, 0)
theorem ji {α : Type} {l : List α} {i : Nat} {d x : α} (h : l[i]? = some x) : l.getD i d = x := by rw [List.getD_eq_getElem?_getD, h]; rfl
theorem zxc (ns : List (List UInt8)) (h : ns.length <= 20) (hn : ∀ s ∈ ns, s.length <= 1000) : zja ns = some (jt ns) := by
 unfold zja jt
 simp only [List.length_map]
 by_cases h1 : ns.length < 1
 . have : (ns.length : Int) < 1 := by omega
   simp [h1, this]
 by_cases h2 : 8 < ns.length
 . have : (8 : Int) < ns.length := by omega
   have g1 : ¬ (ns.length : Int) < 1 := by omega
   simp [h2, this, g1]
 have g1 : ¬ (ns.length : Int) < 1 := by omega
 have g2 : ¬ (8 : Int) < ns.length := by omega
 simp only [g1, g2, h1, h2, decide_false, cond_false, or_self, if_false]
 rw [ww ns.length (zah ns) () (fun k hk => ?_) (by simp)]
 . cases zw (zah ns) 0 ns.length <;> rfl
 . obtain ⟨x, hx⟩ := zv (l := ns) (i := k) hk
   have hxl := hn x (List.mem_of_getElem? hx)
   simp only [Int.ofNat_lt, hk, decide_true, cond_true, zh, Int.toNat_natCast, hx, Option.bind_some, zg, Int.natCast_nonneg, if_true]
   rw [zkd x (by omega), jR _ _ (by simp; omega)]
   unfold zah
   rw [ji hx, w64 (by omega) (by omega)]
   cases e : zb0 x with
   | false => simp
   | true =>
     have hk' : k <= ns.length := by omega
     simp only [Option.bind_some, Bool.not_true, cond_false, Int.toNat_zero, List.drop_zero, if_true]
     by_cases hm : x ∈ ns.take k
     . simp [hm, zk, hk']
     . simp [hm, zk, hk']
theorem zht (c : UInt8) : Fz5 (c.toNat : Int) = some (decide (97 <= c.toNat) && decide (c.toNat <= 122)) := by
 unfold Fz5
 by_cases h : (97 : Int) <= c.toNat
 . have : 97 <= c.toNat := by omega
   simp only [h, this, decide_true, cond_true, Bool.true_and]
   congr 1
   rw [Bool.eq_iff_iff]; simp; omega
 . have : ¬ 97 <= c.toNat := by omega
   simp only [h, this, decide_false, cond_false, Bool.false_and]
theorem ztl (c : UInt8) : Fz6 (c.toNat : Int) = some (decide (48 <= c.toNat) && decide (c.toNat <= 57)) := by
 unfold Fz6
 by_cases h : (48 : Int) <= c.toNat
 . have : 48 <= c.toNat := by omega
   simp only [h, this, decide_true, cond_true, Bool.true_and]
   congr 1
   rw [Bool.eq_iff_iff]; simp; omega
 . have : ¬ 48 <= c.toNat := by omega
   simp only [h, this, decide_false, cond_false, Bool.false_and]
theorem zv3 (c : UInt8) : decide (c ∈ jj) = (decide (97 <= c.toNat) && decide (c.toNat <= 122) || (decide (48 <= c.toNat) && decide (c.toNat <= 57)) || decide (c.toNat = 45)) := by
 have key : ∀ n : Fin 256, decide (UInt8.ofNat n ∈ jj) = (decide (97 <= n.val) && decide (n.val <= 122) || (decide (48 <= n.val) && decide (n.val <= 57)) || decide (n.val = 45)) := by decide +kernel
 have := key ⟨c.toNat, c.toNat_lt⟩
 simpa using this
theorem zk2 (s : List UInt8) (h : s.length <= 1000000000) : Fz7 s = some (zb0 s) := by
 unfold Fz7
 cases s with
 | nil => rfl
 | cons a r =>
   have g1 : ¬ ((a :: r).length : Int) < 1 := by simp; omega
   simp only [g1, decide_false, cond_false]
   unfold zb0
   by_cases h1 : (16 : Int) < ((a :: r).length : Int)
   . have : ¬ (a :: r).length <= 16 := by omega
     simp only [h1, decide_true, cond_true, this, decide_false, Bool.false_and]
   have h1' : (a :: r).length <= 16 := by omega
   have e5 : zh (a :: r) 0 = fun f => (f a : Option Bool) := rfl
   simp only [h1, decide_false, cond_false, h1', decide_true, Bool.true_and, e5, zht, Option.bind_some]
   cases e : (decide (97 <= a.toNat) && decide (a.toNat <= 122)) with
   | false => rfl
   | true =>
     simp only [Bool.not_true, cond_false, Bool.true_and]
     generalize a :: r = s at *
     rw [ww s.length (fun k => if decide (s.getD k 0 ∈ jj) = true then none else some false) () (fun k hk => ?_) (by simp)]
     . cases hs : zw (fun k => if decide (s.getD k 0 ∈ jj) = true then none else some false) 0 s.length with
       | none =>
         have := scan_none.1 hs
         simp only
         congr 1
         symm
         rw [List.all_eq_true]
         intro c hc
         obtain ⟨i, hi, rfl⟩ := List.getElem_of_mem hc
         have := this i (by omega) (by omega)
         rw [ji (List.getElem?_eq_getElem hi)] at this
         split at this
         . assumption
         . cases this
       | some b =>
         simp only
         congr 1
         have hall : ¬ s.all (fun c => decide (c ∈ jj)) = true := by
          intro hall
          rw [List.all_eq_true] at hall
          have : zw (fun k => if decide (s.getD k 0 ∈ jj) = true then none else some false) 0 s.length = none := scan_none.2 fun i _ hi => by
           have hi' : i < s.length := by omega
           rw [ji (List.getElem?_eq_getElem hi'), if_pos (hall _ (List.getElem_mem hi'))]
          rw [this] at hs; cases hs
         have hb : b = false := by
          have key : ∀ {j k : Nat}, zw (fun k => if decide (s.getD k 0 ∈ jj) = true then none else some false) k j = some b -> b = false := by
           intro j
           induction j with
           | zero => intro k h; cases h
           | succ j ih =>
             intro k h
             simp only [zw] at h
             split at h
             . rename_i r hr
               cases h
               split at hr
               . cases hr
               . cases hr; rfl
             . exact ih h
          exact key hs
         rw [hb]
         cases e : s.all (fun c => decide (c ∈ jj)) with
         | false => rfl
         | true => exact absurd e hall
     . obtain ⟨x, hx⟩ := zv (l := s) (i := k) hk
       simp only [Int.ofNat_lt, hk, decide_true, cond_true, zh, Int.toNat_natCast, hx, Option.bind_some, zg, Int.natCast_nonneg, if_true, zht, ztl]
       rw [ji hx, w64 (by omega) (by omega), zv3]
       cases (decide (97 <= x.toNat) && decide (x.toNat <= 122)) with
       | true => simp
       | false =>
         cases (decide (48 <= x.toNat) && decide (x.toNat <= 57)) with
         | true => simp
         | false =>
           by_cases h45 : x.toNat = 45
           . simp [h45]
           . have : ¬ (x.toNat : Int) = 45 := by omega
             simp [h45, this]
theorem zon (ns : List (List UInt8)) (h : ns.length <= 20) (hn : ∀ s ∈ ns, s.length <= 1000) : Fz8 ns = some (jt ns) := by
 unfold Fz8 jt
 simp only [List.length_map]
 by_cases h1 : ns.length < 1
 . have : (ns.length : Int) < 1 := by omega
   simp [h1, this]
 by_cases h2 : 8 < ns.length
 . have : (8 : Int) < ns.length := by omega
   have g1 : ¬ (ns.length : Int) < 1 := by omega
   simp [h2, this, g1]
 have g1 : ¬ (ns.length : Int) < 1 := by omega
 have g2 : ¬ (8 : Int) < ns.length := by omega
 simp only [g1, g2, h1, h2, decide_false, cond_false, or_self, if_false]
 rw [ww ns.length (zah ns) () (fun k hk => ?_) (by simp)]
 . cases zw (zah ns) 0 ns.length <;> rfl
 . obtain ⟨x, hx⟩ := zv (l := ns) (i := k) hk
   have hxl := hn x (List.mem_of_getElem? hx)
   simp only [Int.ofNat_lt, hk, decide_true, cond_true, zh, Int.toNat_natCast, hx, Option.bind_some, Int.natCast_nonneg, if_true]
   rw [zk2 x (by omega)]
   unfold zah
   rw [ji hx]
   cases e : zb0 x with
   | false => simp
   | true =>
     simp only [Option.bind_some, Bool.not_true, cond_false, if_true]
     rw [ww k (fun j => if ns.getD j [] = x then some (.inr (.inr ((k : Int), (8 : Int)))) else none) () (fun j hj => ?_) (by simp)]
     . by_cases hm : x ∈ ns.take k
       . obtain ⟨j, hj, rfl⟩ := List.getElem_of_mem hm
         have hj' : j < k /\ j < ns.length := by simp at hj; omega
         cases hs : zw (fun i => if ns.getD i [] = (ns.take k)[j] then some ((.inr (.inr ((k : Int), (8 : Int)))) : Int ⊕ (Unit ⊕ (Int × Int))) else none) 0 k with
         | none =>
           have := scan_none.1 hs j (by omega) (by omega)
           rw [ji (List.getElem?_eq_getElem hj'.2)] at this
           simp at this
         | some b =>
           have : b = .inr (.inr ((k : Int), (8 : Int))) := uW (fun i => by split <;> simp) hs
           rw [this, if_pos hm]
       . have : zw (fun j => if ns.getD j [] = x then some ((.inr (.inr ((k : Int), (8 : Int)))) : Int ⊕ (Unit ⊕ (Int × Int))) else none) 0 k = none := scan_none.2 fun i _ hi => by
          have hi' : i < ns.length := by omega
          rw [ji (List.getElem?_eq_getElem hi'), if_neg]
          rintro rfl
          exact hm (List.mem_iff_getElem.2 ⟨i, by simp; omega, by simp⟩)
         rw [this]
         simp only [hm, if_false, zg]
         rw [w64 (by omega) (by omega)]
     . obtain ⟨y, hy⟩ := zv (l := ns) (i := j) (by omega)
       simp only [Int.ofNat_lt, hj, decide_true, cond_true, zh, Int.toNat_natCast, hy, Option.bind_some, zg, Int.natCast_nonneg, if_true, hx]
       rw [ji hy, w64 (by omega) (by omega)]
       by_cases hxy : y = x
       . simp [hxy]
       . simp [hxy]
open Go
def dn (l : TL) (b : Nat) : Nat -> Nat
 | 0 => 0
 | k + 1 => dn l b k ||| (if up l k b = true then 2 ^ k else 0)
theorem zno (l : TL) (b : Nat) : ∀ (k i : Nat), (dn l b k).testBit i = (decide (i < k) && up l i b)
 | 0, i => by simp [dn]
 | k + 1, i => by
   simp only [dn, Nat.testBit_or, zno l b k i]
   by_cases h : up l k b = true
   . simp only [h, if_true, Nat.testBit_two_pow]
     by_cases hik : i = k
     . subst hik; simp [h]
     . have h1 : ¬ k = i := fun e => hik e.symm
       have h2 : (i < k + 1) = (i < k) := by simp; omega
       simp [h1, h2]
   . simp only [h, if_false, Nat.zero_testBit, Bool.or_false]
     by_cases hik : i = k
     . subst hik; simp [h]
     . have h2 : (i < k + 1) = (i < k) := by simp; omega
       simp [h2]
theorem zzg (l : TL) (b : Nat) : ∀ k : Nat, dn l b k < 2 ^ k
 | 0 => by simp [dn]
 | k + 1 => by
   simp only [dn]
   refine Nat.or_lt_two_pow (Nat.lt_of_lt_of_le (zzg l b k) (Nat.pow_le_pow_right (by omega) (by omega))) ?_
   split
   . exact Nat.pow_lt_pow_right (by omega) (by omega)
   . exact Nat.two_pow_pos _
theorem zhx (l : TL) (b : Nat) {k : Nat} (h : k <= 8) : dn l b k < 256 := Nat.lt_of_lt_of_le (zzg l b k) (Nat.pow_le_pow_right (n := 2) (by omega) h)
theorem zq4 {c : Bool} {k : Nat} (h : k < 8) : IntKind.wrap .u8 ((if c = true then (1 : Int) else 0) * 2 ^ min k (IntKind.bits .u8)) = ((if c = true then 2 ^ k else 0 : Nat) : Int) := by
 have key : ∀ (c : Bool) (k : Fin 8), IntKind.wrap .u8 ((if c = true then (1 : Int) else 0) * 2 ^ min k.val (IntKind.bits .u8)) = ((if c = true then 2 ^ k.val else 0 : Nat) : Int) := by decide +kernel
 exact key c ⟨k, h⟩
theorem zum {a b : Nat} (ha : a < 256) (hb : b < 256) : bits .or .u8 (a : Int) (b : Int) = ((a ||| b : Nat) : Int) := by
 rw [zp6 (by omega) (by omega) (by omega) (by omega)]; rfl
theorem zq3 {a b : Nat} (ha : a < 256) (hb : b < 256) : bits .and .u8 (a : Int) (b : Int) = ((a &&& b : Nat) : Int) := by
 rw [zb4 (by omega) (by omega) (by omega) (by omega)]; rfl
theorem zEe {c : Bool} {k : Nat} (h : k < 8) : (if c = true then 2 ^ k else 0) < 256 := by
 split
 . exact Nat.lt_of_lt_of_le (Nat.pow_lt_pow_right (a := 2) (by omega) h) (by omega)
 . omega
theorem zjw {α : Type} {l : List α} {i j : Nat} {x : α} (h : i < l.length) : (l.set i x)[j]? = if i = j then some x else l[j]? := by
 rw [List.getElem?_set]
 split
 . simp [h]
 . rfl
theorem zn2 (l : TL) (hu : U8s l.Up) (hn : l.Names.length <= 8) (hl : l.Up.length = l.Names.length) :
 Tot (zf1 l) fun o => o.n_ = l.Names.length /\ o.up_.length = 8 /\ o.down_.length = 8 /\ (∀ j, j < l.Names.length -> o.up_[j]? = l.Up[j]?) /\ ∀ b, b < l.Names.length -> o.down_[b]? = some (dn l b l.Names.length : Int) := by
 unfold zf1
 simp only [zx, List.length_map]
 refine Tot.count l.Up.length (fun k s => s.1 = (k : Int) /\ s.2.1.length = 8 /\ s.2.2.length = 8 /\ (∀ j, j < k -> s.2.1[j]? = l.Up[j]?) /\ ∀ b, b < l.Names.length -> s.2.2[b]? = some (dn l b k : Int)) ?_ ⟨rfl, rfl, rfl, fun j hj => absurd hj (by omega), fun b hb => ?_⟩
 . rintro k ⟨i, up', down⟩ hk ⟨h0, h1, h2, h3, h4⟩
   simp only at h0 h1 h2 h3 h4
   subst h0
   simp only [zr, zG, qa, qo, qI, zx, Sum.elim_inl, Sum.elim_inr, decide_eq_true_eq, decide_eq_false_iff_not, Int.toNat_natCast]
   refine ⟨fun hlt => ?_, fun hlt => ?_⟩
   . obtain ⟨x, hx⟩ := zv (l := l.Up) (i := k) (by omega)
     obtain ⟨y, hy⟩ := zv (l := up') (i := k) (by omega)
     refine ⟨by omega, x, hx, ⟨by omega, by omega⟩, by omega, y, hy, ?_⟩
     have hx' := hu.get hx
     refine Tot.count l.Names.length (fun j s => s.1 = (j : Int) /\ s.2.length = 8 /\ ∀ b, b < l.Names.length -> s.2[b]? = some (dn l b (if b < j then k + 1 else k) : Int)) ?_ ⟨rfl, h2, fun b hb => by simpa using h4 b hb⟩
     rintro j ⟨i', d⟩ hj ⟨g0, g1, g2⟩
     simp only at g0 g1 g2
     subst g0
     simp only [zr, zG, qa, qo, qI, zx, Sum.elim_inl, Sum.elim_inr, decide_eq_true_eq, decide_eq_false_iff_not, Int.toNat_natCast]
     refine ⟨fun hlt' => ?_, fun hlt' => ?_⟩
     . have hz := g2 j (by omega)
       rw [if_neg (by omega)] at hz
       rw [w64 (by omega) (by omega)]
       refine ⟨⟨by omega, by omega⟩, by omega, _, hz, by omega, by omega, ⟨by omega, by omega⟩, by omega, _, hz, by omega, by omega, by simpa using g1, fun b hb => ?_⟩
       rw [zjw (by omega)]
       by_cases hjb : j = b
       . subst hjb
         rw [if_pos rfl, if_pos (by omega), zbr hx'.1 hx'.2 (by omega), <- jE hx, zq4 (by omega), zum (zhx l j (by omega)) (zEe (by omega))]
         rfl
       . rw [if_neg hjb, g2 b hb]
         have : (b < j + 1) = (b < j) := by simp; omega
         simp only [this]
     . rw [w64 (by omega) (by omega)]
       refine ⟨by omega, by omega, by simpa using h1, g1, fun q hq => ?_, fun b hb => ?_⟩
       . rw [zjw (by omega)]
         by_cases hkq : k = q
         . subst hkq; rw [if_pos rfl, hx]
         . rw [if_neg hkq]; exact h3 q (by omega)
       . rw [g2 b hb, if_pos (by omega)]
   . have hkn : k = l.Names.length := by omega
     subst hkn
     exact ⟨trivial, h1, h2, h3, h4⟩
 . have h8 : ∀ b : Fin 8, ([0, 0, 0, 0, 0, 0, 0, 0] : List Int)[b.val]? = some 0 := by decide
   exact h8 ⟨b, by omega⟩
theorem yl {ρ : Type} {p : Prop} [Decidable p] {x : Option ρ} (h : p) : zk p x = x := by unfold zk; rw [if_pos h]
def bnd (g : Nat -> Nat) (n a b : Nat) : Option Nat := zw (fun c => if g c = g a &&& g b then some c else none) 0 n
def zc7 (g : Nat -> Nat) (n a b : Nat) : Int := match bnd g n a b with | some c => c | none => -1
theorem zfg (m : List Int) (g : Nat -> Nat) (n a b : Nat) (hn : n <= 8) (hg : ∀ c, c < n -> m[c]? = some (g c : Int)) (hg8 : ∀ c, c < n -> g c < 256) (hs : ∀ c, c < n -> (g c).testBit c = true) (ha : a < n) (hb : b < n) :
 zis m n a b = some (zc7 g n a b) := by
 unfold zis zc7 bnd
 have s1 : ((0 : Int) <= (a : Int) /\ (a : Int) < ((8 : Nat) : Int)) := by omega
 have s2 : ((0 : Int) <= (b : Int) /\ (b : Int) < ((8 : Nat) : Int)) := by omega
 simp only [yl s1, yl s2]
 simp only [zh, Int.toNat_natCast, Int.natCast_nonneg, if_true, hg a ha, hg b hb, Option.bind_some, zq3 (hg8 a ha) (hg8 b hb)]
 have h8 : g a &&& g b < 256 := zdo (hg8 a ha)
 generalize g a &&& g b = both at *
 rw [ww n (fun c => if g c = both then some (c : Int) else none) () (fun c hc => ?_) (by simp)]
 . have e : (fun c => if g c = both then some (c : Int) else none) = fun c => (if g c = both then some c else none).map (fun c : Nat => (c : Int)) := by
    funext c; split <;> rfl
   rw [e, jK]
   cases zw (fun c => if g c = both then some c else none) 0 n <;> rfl
 . have s3 : ((0 : Int) <= (c : Int) /\ (c : Int) < ((8 : Nat) : Int)) := by omega
   simp only [yl s3]
   simp only [Int.ofNat_lt, hc, decide_true, cond_true, zk, Int.natCast_nonneg, if_true, hg c hc, Option.bind_some, zg]
   rw [w64 (by omega) (by omega), zbr (by omega) (by omega) (by omega)]
   simp only [Int.toNat_natCast]
   by_cases hbc : both.testBit c = true
   . simp only [hbc, if_true, decide_true, cond_true]
     rw [hg c hc]
     by_cases hgc : g c = both
     . simp [hgc]
     . have : ¬ (g c : Int) = (both : Int) := by omega
       simp [hgc, this]
   . have : g c ≠ both := fun e => hbc (e ▸ hs c hc)
     simp [hbc, this]
theorem uw (m : List Int) (g : Nat -> Nat) (a b : Nat) (hn : m.length <= 8) (hg : ∀ c, c < m.length -> m[c]? = some (g c : Int)) (hg8 : ∀ c, c < m.length -> g c < 256) (ha : a < m.length) (hb : b < m.length) :
 zji m a b = some (zc7 g m.length a b) := by
 unfold zji zc7 bnd
 simp only [zh, Int.toNat_natCast, Int.natCast_nonneg, if_true, hg a ha, hg b hb, Option.bind_some, zq3 (hg8 a ha) (hg8 b hb), List.length_map]
 have h8 : g a &&& g b < 256 := zdo (hg8 a ha)
 generalize g a &&& g b = both at *
 rw [ww m.length (fun c => if g c = both then some (c : Int) else none) () (fun c hc => ?_) (by simp)]
 . have e : (fun c => if g c = both then some (c : Int) else none) = fun c => (if g c = both then some c else none).map (fun c : Nat => (c : Int)) := by
    funext c; split <;> rfl
   rw [e, jK]
   cases zw (fun c => if g c = both then some c else none) 0 m.length <;> rfl
 . simp only [Int.ofNat_lt, hc, decide_true, cond_true, hg c hc, Option.bind_some, zg]
   rw [w64 (by omega) (by omega), Int.toNat_natCast, if_pos (by omega), hg c hc]
   by_cases hgc : g c = both
   . simp [hgc]
   . have : ¬ (g c : Int) = (both : Int) := by omega
     simp [hgc, this]
open Go
def upN (l : TL) (a : Nat) : Nat := (l.Up.getD a 0).toNat
def zg9 (l : TL) (a b : Nat) : Bool := !up l a b || ((decide (b = a) || !up l b a) && (List.range l.Names.length).all fun i => !up l b i || up l a i)
def jX (l : TL) (a : Nat) : Bool := decide (upN l a < 2 ^ l.Names.length) && up l a a && (List.range l.Names.length).all fun b => zg9 l a b
def dnN (l : TL) (b : Nat) : Nat := dn l b l.Names.length
def wL (l : TL) (a b : Nat) : Bool := (bnd (upN l) l.Names.length a b).isNone || (bnd (dnN l) l.Names.length a b).isNone
def zga (l : TL) : Int × Int :=
 if (jt l.Names).2 = 0 then
  if l.Up.length = l.Names.length then
   match zw (fun a => if jX l a = true then none else some ((a : Int), (6 : Int))) 0 l.Names.length with
   | some r => r
   | none => (zw (fun a => zw (fun b => if wL l a b = true then some ((a : Int), (4 : Int)) else none) 0 l.Names.length) 0 l.Names.length).getD (0, 0)
  else (-1, 6)
 else jt l.Names
theorem zqp {α : Type} {p : Nat -> Bool} {v : α} : ∀ {j k : Nat}, zw (fun i => if p i = true then none else some v) k j = if (List.range j).all (fun i => p (k + i)) = true then none else some v
 | 0, _ => by simp [zw]
 | j + 1, k => by
   simp only [zw, zqp (j := j) (k := k + 1)]
   have e : (List.range (j + 1)).all (fun i => p (k + i)) = (p k && (List.range j).all fun i => p (k + 1 + i)) := by
    rw [List.range_succ_eq_map, List.all_cons, List.all_map]
    congr 1
    congr 1
    funext i
    simp only [Function.comp]
    congr 1; omega
   rw [e]
   cases p k <;> simp
theorem zj9 {α : Type} {p : Nat -> Bool} {u v : α} {n : Nat} : ∀ {j k : Nat}, k + j = n -> 0 < j -> zw (fun i => if p i = true then (if i + 1 = n then some u else none) else some v) k j = some (if (List.range j).all (fun i => p (k + i)) = true then u else v)
 | 0, _, _, h => by omega
 | j + 1, k, hk, _ => by
   have e : (List.range (j + 1)).all (fun i => p (k + i)) = (p k && (List.range j).all fun i => p (k + 1 + i)) := by
    rw [List.range_succ_eq_map, List.all_cons, List.all_map]
    congr 1
    congr 1
    funext i
    simp only [Function.comp]
    congr 1; omega
   rw [e]
   simp only [zw]
   cases hp : p k with
   | false => simp
   | true =>
     simp only [if_true, Bool.true_and]
     by_cases hj : j = 0
     . subst hj
       have : k + 1 = n := by omega
       simp [this]
     . have : ¬ k + 1 = n := by omega
       simp only [this, if_false]
       exact zj9 (by omega) (by omega)
theorem zs4 (x : Int) (h0 : 0 <= x) (h1 : x < 256) : Tot (ziz x) fun y => ∀ n : Nat, n <= 8 -> decide ((n : Int) < y) = !decide (x.toNat < 2 ^ n) := by
 unfold ziz
 rw [qo]
 refine ⟨h0, ?_⟩
 have key : ∀ l : List UInt8, (∀ x : Fin 256, ∀ n : Fin 9, (l[x.val]?.map fun y => decide ((n.val : Int) < IntKind.wrap .i64 (y.toNat : Int))) = some (!decide (x.val < 2 ^ n.val))) ->
  ∃ y, l[x.toNat]? = some y /\ Tot (zg (IntKind.wrap .i64 (y.toNat : Int)) fun z => some z) fun y => ∀ n : Nat, n <= 8 -> decide ((n : Int) < y) = !decide (x.toNat < 2 ^ n) := by
  intro l hl
  cases e : l[x.toNat]? with
  | none =>
    have := hl ⟨x.toNat, by omega⟩ ⟨0, by omega⟩
    simp only [e] at this
    cases this
  | some y =>
    refine ⟨y, rfl, .mk fun n hn => ?_⟩
    have := hl ⟨x.toNat, by omega⟩ ⟨n, by omega⟩
    simp only [e] at this
    exact Option.some.inj this
 exact key _ (by decide +kernel)
theorem jk {l : TL} (hu : U8s l.Up) {a b : Nat} (ha : a < l.Up.length) (hb : b <= 8) : Fz9 l a b = some (up l a b) := by
 unfold Fz9
 obtain ⟨x, hx⟩ := zv ha
 have hx' := hu.get hx
 have key : ∀ u : Fin 256, ∀ b : Fin 9, decide (Int.tmod (Int.fdiv (u.val : Int) (2 ^ min b.val (IntKind.bits .u8))) 2 = 1) = Nat.testBit u b := by decide +kernel
 have := key ⟨x.toNat, by omega⟩ ⟨b, by omega⟩
 simp only [Int.toNat_of_nonneg hx'.1] at this
 simp only [List.length_map, Int.natCast_nonneg, decide_true, cond_true, Int.ofNat_lt, ha, zh, Int.toNat_natCast, if_true, hx, Option.bind_some, zk, this, jE hx]
theorem zd4 {n : Nat} (h : n < 1000000) : IntKind.wrap .i64 (n : Int) = n := w64 (by omega) (by omega)
theorem zqr (n : Nat) : BitVec.ofInt 64 (n : Int) = BitVec.ofNat 64 n := BitVec.ofInt_natCast 64 n
theorem zp7 {a b : Nat} (ha : a < 1000000) (hb : b < 1000000) : bits .and .i64 (a : Int) (b : Int) = ((a &&& b : Nat) : Int) := by
 have e : bits .and .i64 (a : Int) (b : Int) = IntKind.wrap .i64 ((BitVec.ofInt 64 (a : Int) &&& BitVec.ofInt 64 (b : Int)).toNat : Int) := rfl
 rw [e, zqr, zqr, BitVec.toNat_and, BitVec.toNat_ofNat, BitVec.toNat_ofNat, Nat.mod_eq_of_lt (by omega), Nat.mod_eq_of_lt (by omega)]
 exact zd4 (Nat.lt_of_le_of_lt Nat.and_le_left ha)
theorem zwy {x y n : Nat} : ((y &&& (2 ^ n - 1)) &&& x = y &&& (2 ^ n - 1)) ↔ ((List.range n).all fun i => !y.testBit i || x.testBit i) = true := by
 rw [List.all_eq_true]
 constructor
 . intro h i hi
   have hi' : i < n := by simpa using hi
   have := congrArg (fun z => z.testBit i) h
   simp only [Nat.testBit_and, Nat.testBit_two_pow_sub_one, hi', decide_true, Bool.and_true] at this
   cases e : y.testBit i with
   | false => rfl
   | true => rw [e] at this; simpa using this
 . intro h
   apply Nat.eq_of_testBit_eq
   intro i
   simp only [Nat.testBit_and, Nat.testBit_two_pow_sub_one]
   by_cases hi : i < n
   . have := h i (by simpa using hi)
     simp only [hi, decide_true, Bool.and_true]
     cases e : y.testBit i with
     | false => rfl
     | true => rw [e] at this; simpa using this
   . simp [hi]
open Go
theorem zwa {l : TL} {a : Nat} {x : Int} (h : l.Up[a]? = some x) : upN l a = x.toNat := by unfold upN; rw [ji h]
theorem zer {l : TL} {a b : Nat} : (upN l a).testBit b = up l a b := rfl
theorem uV {l : TL} (hu : U8s l.Up) {a : Nat} (ha : a < l.Up.length) : upN l a < 256 := by
 obtain ⟨x, hx⟩ := zv ha
 have := hu.get hx
 rw [zwa hx]; omega
theorem xr {l : TL} (hu : U8s l.Up) {a : Nat} (ha : a < l.Up.length) : l.Up[a]? = some (upN l a : Int) := by
 obtain ⟨x, hx⟩ := zv ha
 have := hu.get hx
 rw [hx, zwa hx, Int.toNat_of_nonneg this.1]
theorem zmz {l : TL} (hu : U8s l.Up) (h8 : l.Names.length <= 8) (hl : l.Up.length = l.Names.length) {a : Nat} (ha : a < l.Names.length) : zr2 l a = some (jX l a) := by
 unfold zr2 jX
 have g0 : ((0 : Int) <= (l.Names.length : Int)) := by omega
 have hb := fun b (hb : b < l.Names.length) => jk hu (a := a) (b := b) (by omega) (by omega)
 have hxa := xr hu (a := a) (by omega)
 have hlt := uV hu (a := a) (by omega)
 have sh : decide ((0 : Int) < Int.fdiv (upN l a : Int) (2 ^ min l.Names.length (IntKind.bits .i64))) = !decide (upN l a < 2 ^ l.Names.length) := by
  have key : ∀ u : Fin 256, ∀ n : Fin 9, decide ((0 : Int) < Int.fdiv (u.val : Int) (2 ^ min n.val (IntKind.bits .i64))) = !decide (u.val < 2 ^ n.val) := by decide +kernel
  exact key ⟨upN l a, hlt⟩ ⟨l.Names.length, by omega⟩
 have mk : IntKind.wrap .i64 (IntKind.wrap .i64 (1 * 2 ^ min l.Names.length (IntKind.bits .i64)) - 1) = ((2 ^ l.Names.length - 1 : Nat) : Int) := by
  have key : ∀ n : Fin 9, IntKind.wrap .i64 (IntKind.wrap .i64 (1 * 2 ^ min n.val (IntKind.bits .i64)) - 1) = ((2 ^ n.val - 1 : Nat) : Int) := by decide +kernel
  exact key ⟨l.Names.length, by omega⟩
 have mk' : 2 ^ l.Names.length - 1 < 1000000 := by
  have : 2 ^ l.Names.length <= 2 ^ 8 := Nat.pow_le_pow_right (by omega) h8
  omega
 simp only [List.length_map, yl g0, Int.toNat_natCast]
 simp only [zh, Int.toNat_natCast, Int.natCast_nonneg, if_true, hxa, Option.bind_some, zg]
 rw [zd4 (by omega), sh, hb a ha, mk]
 cases e1 : decide (upN l a < 2 ^ l.Names.length) with
 | false => simp
 | true =>
   simp only [Bool.not_true, cond_false, Bool.true_and, Option.bind_some]
   cases e2 : up l a a with
   | false => simp
   | true =>
     simp only [Bool.not_true, cond_false, Bool.true_and]
     rw [ww l.Names.length (fun b => if zg9 l a b = true then none else some false) () (fun b hbn => ?_) (by simp)]
     . rw [zqp]
       simp only [Nat.zero_add]
       cases (List.range l.Names.length).all fun b => zg9 l a b <;> rfl
     . have hxb := xr hu (a := b) (by omega)
       have hltb := uV hu (a := b) (by omega)
       simp only [Int.ofNat_lt, hbn, decide_true, cond_true, Option.bind_some, Int.toNat_natCast, hxb]
       rw [hb b hbn, zd4 (n := upN l b) (by omega), zp7 (by omega) mk', w64 (by omega) (by omega), jk hu (by omega) (by omega)]
       have hand : upN l b &&& (2 ^ l.Names.length - 1) < 1000000 := Nat.lt_of_le_of_lt Nat.and_le_left (by omega)
       rw [zp7 hand (by omega)]
       have hsub := zwy (x := upN l a) (y := upN l b) (n := l.Names.length)
       simp only [zer] at hsub
       have hsub' : decide ((((upN l b &&& (2 ^ l.Names.length - 1)) &&& upN l a : Nat) : Int) = ((upN l b &&& (2 ^ l.Names.length - 1) : Nat) : Int)) = (List.range l.Names.length).all fun i => !up l b i || up l a i := by
        rw [Bool.eq_iff_iff, <- hsub, decide_eq_true_eq]; omega
       rw [hsub']
       unfold zg9
       cases e3 : up l a b with
       | false => simp
       | true =>
         simp only [Option.bind_some, Bool.not_true, cond_false, Bool.false_or]
         by_cases hba : b = a
         . subst hba
           simp only [decide_true, Bool.not_true, cond_false, Bool.true_or, Bool.true_and]
           cases (List.range l.Names.length).all fun i => !up l b i || up l b i <;> simp
         . have : ¬ (b : Int) = (a : Int) := by omega
           simp only [this, hba, decide_false, Bool.not_false, cond_true, Bool.false_or]
           cases up l b a with
           | true => simp
           | false =>
             cases (List.range l.Names.length).all fun i => !up l b i || up l a i <;> simp
theorem zhj {l : TL} (hu : U8s l.Up) (h8 : l.Names.length <= 8) (hl : l.Up.length = l.Names.length) : Tot (zo8 l) fun d => d.length = l.Names.length /\ ∀ b, b < l.Names.length -> d[b]? = some (dnN l b : Int) := by
 unfold zo8
 simp only [zx, qI, List.length_map, Int.toNat_natCast]
 refine ⟨⟨by omega, trivial, by omega, by omega⟩, ?_⟩
 refine Tot.count l.Names.length (fun k s => s.1 = (k : Int) /\ s.2.length = l.Names.length /\ ∀ b, b < l.Names.length -> s.2[b]? = some (dn l b k : Int)) ?_ ⟨rfl, by simp, fun b hb => ?_⟩
 . rintro k ⟨i, down⟩ hk ⟨h0, h2, h4⟩
   simp only at h0 h2 h4
   subst h0
   simp only [zr, zG, qa, qo, qI, zx, Sum.elim_inl, Sum.elim_inr, decide_eq_true_eq, decide_eq_false_iff_not, Int.toNat_natCast]
   refine ⟨fun hlt => ?_, fun hlt => ?_⟩
   . refine Tot.count l.Names.length (fun j s => s.1 = (j : Int) /\ s.2.length = l.Names.length /\ ∀ b, b < l.Names.length -> s.2[b]? = some (dn l b (if b < j then k + 1 else k) : Int)) ?_ ⟨rfl, h2, fun b hb => by simpa using h4 b hb⟩
     rintro j ⟨i', d⟩ hj ⟨g0, g1, g2⟩
     simp only at g0 g1 g2
     subst g0
     simp only [zr, zG, qa, qo, qI, zx, Sum.elim_inl, Sum.elim_inr, decide_eq_true_eq, decide_eq_false_iff_not, Int.toNat_natCast]
     refine ⟨fun hlt' => ?_, fun hlt' => ?_⟩
     . rw [jk hu (by omega) (by omega), zr]
       have hz := g2 j (by omega)
       rw [if_neg (by omega)] at hz
       rw [w64 (by omega) (by omega)]
       refine ⟨fun hup => ⟨⟨by omega, by simp; omega⟩, by omega, _, hz, by omega, ⟨by omega, by simp; omega⟩, by omega, _, hz, by omega, by omega, by simpa using g1, fun b hb => ?_⟩, fun hup => ⟨by omega, by omega, g1, fun b hb => ?_⟩⟩
       . have hsh := zq4 (c := true) (k := k) (by omega)
         simp only [if_true] at hsh
         rw [zjw (by omega), hsh]
         by_cases hjb : j = b
         . subst hjb
           have hp : 2 ^ k < 256 := Nat.lt_of_lt_of_le (Nat.pow_lt_pow_right (a := 2) (by omega) (show k < 8 by omega)) (by omega)
           rw [if_pos rfl, if_pos (by omega), zum (zhx l j (by omega)) hp]
           simp [dn, hup]
         . rw [if_neg hjb, g2 b hb]
           have : (b < j + 1) = (b < j) := by simp; omega
           simp only [this]
       . rw [g2 b hb]
         by_cases hjb : j = b
         . subst hjb
           rw [if_neg (by omega), if_pos (by omega)]
           simp [dn, hup]
         . have : (b < j + 1) = (b < j) := by simp; omega
           simp only [this]
     . rw [w64 (by omega) (by omega)]
       refine ⟨by omega, by omega, g1, fun b hb => ?_⟩
       rw [g2 b hb, if_pos (by omega)]
   . have hkn : k = l.Names.length := by omega
     subst hkn
     exact ⟨h2, h4⟩
 . rw [List.getElem?_replicate, if_pos hb]; rfl
open Go
theorem znp (g : Nat -> Nat) (n a b : Nat) : decide (zc7 g n a b < 0) = (bnd g n a b).isNone := by
 unfold zc7
 cases bnd g n a b with
 | none => rfl
 | some c => simp
theorem zv9 {l : TL} (h8 : l.Names.length <= 8) (b : Nat) : dnN l b < 256 := zhx l b h8
theorem xp (l : TL) (hu : U8s l.Up) (hn : l.Names.length <= 20) (hs : ∀ s ∈ l.Names, s.length <= 1000) : zfx l = some (zga l) := by
 unfold zfx zga
 rw [zon _ hn hs]
 simp only [Option.bind_some, List.length_map]
 by_cases h0 : (jt l.Names).2 = 0
 case neg => simp [h0]
 simp only [h0, decide_true, Bool.not_true, cond_false, if_true]
 by_cases hlen : l.Up.length = l.Names.length
 case neg =>
  have : ¬ (l.Up.length : Int) = l.Names.length := by omega
  simp [hlen, this]
 have h8 : l.Names.length <= 8 := by
  unfold jt at h0
  split at h0
  . cases h0
  . omega
 simp only [hlen, decide_true, Bool.not_true, cond_false, if_true]
 rw [ww l.Names.length (fun a => if jX l a = true then none else some ((a : Int), (6 : Int))) () (fun a ha => ?_) (by simp)]
 . cases h1 : zw (fun a => if jX l a = true then none else some ((a : Int), (6 : Int))) 0 l.Names.length with
   | some r => rfl
   | none =>
     simp only
     obtain ⟨d, ed, hdl, hd⟩ := zhj hu h8 hlen
     rw [ed, Option.bind_some]
     rw [ww l.Names.length (fun a => zw (fun b => if wL l a b = true then some ((a : Int), (4 : Int)) else none) 0 l.Names.length) () (fun a ha => ?_) (by simp)]
     . cases zw (fun a => zw (fun b => if wL l a b = true then some ((a : Int), (4 : Int)) else none) 0 l.Names.length) 0 l.Names.length <;> rfl
     . simp only [Int.ofNat_lt, ha, decide_true, cond_true]
       rw [ww l.Names.length (fun b => if wL l a b = true then some (.inr (.inr ((a : Int), (4 : Int)))) else none) () (fun b hb => ?_) (by simp)]
       . have e : (fun b => if wL l a b = true then some (Sum.inr (Sum.inr ((a : Int), (4 : Int))) : Int ⊕ (Unit ⊕ (Int × Int))) else none) = fun b => (if wL l a b = true then some ((a : Int), (4 : Int)) else none).map fun v => .inr (.inr v) := by
          funext b; split <;> rfl
         rw [e, jK]
         cases zw (fun b => if wL l a b = true then some ((a : Int), (4 : Int)) else none) 0 l.Names.length with
         | some r => rfl
         | none =>
           simp only [Option.map_none, zg]
           rw [w64 (by omega) (by omega)]
       . simp only [Int.ofNat_lt, hb, decide_true, cond_true]
         have n1 := uw l.Up (upN l) a b (by omega) (fun c hc => xr hu hc) (fun c hc => uV hu hc) (by omega) (by omega)
         have n2 := uw d (dnN l) a b (by omega) (fun c hc => hd c (by omega)) (fun c hc => zv9 h8 c) (by omega) (by omega)
         rw [hlen] at n1
         rw [hdl] at n2
         rw [n1, n2]
         simp only [Option.bind_some, znp, zg]
         rw [w64 (by omega) (by omega)]
         unfold wL
         cases (bnd (upN l) l.Names.length a b).isNone with
         | true => simp
         | false => cases (bnd (dnN l) l.Names.length a b).isNone <;> simp
 . simp only [Int.ofNat_lt, ha, decide_true, cond_true]
   rw [zmz hu h8 hlen ha]
   simp only [Option.bind_some, zg]
   rw [w64 (by omega) (by omega)]
   cases jX l a <;> simp
open Go
theorem zpg (l : TL) (hu : U8s l.Up) (hn : l.Names.length <= 20) (hs : ∀ s ∈ l.Names, s.length <= 1000) : zag l = some (zga l) := by
 unfold zag zga
 rw [zxc _ hn hs]
 simp only [Option.bind_some, List.length_map]
 by_cases h0 : (jt l.Names).2 = 0
 case neg => simp [h0]
 simp only [h0, decide_true, Bool.not_true, cond_false, if_true]
 by_cases hlen : l.Up.length = l.Names.length
 case neg =>
  have : ¬ (l.Up.length : Int) = l.Names.length := by omega
  simp [hlen, this]
 have h8 : 1 <= l.Names.length /\ l.Names.length <= 8 := by
  unfold jt at h0
  split at h0
  . cases h0
  . omega
 obtain ⟨h1, h8⟩ := h8
 have g0 : ((0 : Int) <= (l.Names.length : Int)) := by omega
 simp only [hlen, decide_true, Bool.not_true, cond_false, if_true, yl g0, zg, Int.toNat_natCast]
 have hmask := zo6 l.Names.length h8
 have hm0 := zoo (e := IntKind.wrap .u8 (1 * 2 ^ min l.Names.length (IntKind.bits .u8)) - 1)
 rw [ww l.Names.length (fun a => if jX l a = true then none else some ((a : Int), (6 : Int))) () (fun a ha => ?_) (by simp)]
 . cases h1 : zw (fun a => if jX l a = true then none else some ((a : Int), (6 : Int))) 0 l.Names.length with
   | some r => rfl
   | none =>
     simp only
     have hself : ∀ a, a < l.Names.length -> up l a a = true := by
      intro a ha
      have := scan_none.1 h1 a (by omega) (by omega)
      split at this
      . rename_i h
        unfold jX at h
        simp only [Bool.and_eq_true] at h
        exact h.1.2
      . cases this
     obtain ⟨o, eo, _, o1, o2, o3, o4⟩ := zn2 l hu h8 hlen
     rw [eo, Option.bind_some]
     rw [ww l.Names.length (fun a => zw (fun b => if wL l a b = true then some ((a : Int), (4 : Int)) else none) 0 l.Names.length) () (fun a ha => ?_) (by simp)]
     . cases zw (fun a => zw (fun b => if wL l a b = true then some ((a : Int), (4 : Int)) else none) 0 l.Names.length) 0 l.Names.length <;> rfl
     . simp only [Int.ofNat_lt, ha, decide_true, cond_true]
       rw [ww l.Names.length (fun b => if wL l a b = true then some (.inr (.inr ((a : Int), (4 : Int)))) else none) () (fun b hb => ?_) (by simp)]
       . have e : (fun b => if wL l a b = true then some (Sum.inr (Sum.inr ((a : Int), (4 : Int))) : Int ⊕ (Unit ⊕ (Int × Int))) else none) = fun b => (if wL l a b = true then some ((a : Int), (4 : Int)) else none).map fun v => .inr (.inr v) := by
          funext b; split <;> rfl
         rw [e, jK]
         cases zw (fun b => if wL l a b = true then some ((a : Int), (4 : Int)) else none) 0 l.Names.length with
         | some r => rfl
         | none =>
           simp only [Option.map_none]
           rw [w64 (by omega) (by omega)]
       . simp only [Int.ofNat_lt, hb, decide_true, cond_true]
         have n1 := zfg o.up_ (upN l) l.Names.length a b h8 (fun c hc => by rw [o3 c hc]; exact xr hu (by omega)) (fun c hc => uV hu (by omega)) (fun c hc => hself c hc) ha hb
         have n2 : zs6 o.down_ l.Names.length a b = some (zc7 (dnN l) l.Names.length a b) := zfg o.down_ (dnN l) l.Names.length a b h8 (fun c hc => o4 c hc) (fun c hc => zv9 h8 c) (fun c hc => by unfold dnN; rw [zno, hself c hc]; simp [hc]) ha hb
         rw [n1, n2]
         simp only [Option.bind_some, znp]
         rw [w64 (by omega) (by omega)]
         unfold wL
         cases (bnd (upN l) l.Names.length a b).isNone with
         | true => simp
         | false => cases (bnd (dnN l) l.Names.length a b).isNone <;> simp
 . -- one label's row
   have hxa := xr hu (a := a) (by omega)
   have hlt := uV hu (a := a) (by omega)
   obtain ⟨y, ey, hy⟩ := zs4 (upN l a : Int) (by omega) (by omega)
   have hy := hy l.Names.length h8
   rw [Int.toNat_natCast] at hy
   have ga : ((0 : Int) <= (a : Int)) := by omega
   have hbit : ∀ b, b < l.Names.length -> bits .and .u8 (Int.fdiv (upN l a : Int) (2 ^ min b (IntKind.bits .u8))) 1 = if up l a b = true then 1 else 0 := fun b hb => by
    rw [zbr (by omega) (by omega) (by omega), Int.toNat_natCast]; rfl
   simp only [Int.ofNat_lt, ha, decide_true, cond_true, zh, Int.toNat_natCast, if_pos ga, hxa, Option.bind_some, ey, hy, yl ga]
   simp only [hbit a ha]
   unfold jX
   cases e1 : decide (upN l a < 2 ^ l.Names.length) with
   | false => simp
   | true =>
     simp only [Bool.not_true, cond_false, Bool.true_and]
     cases e2 : up l a a with
     | false => simp
     | true =>
       simp only [if_true, Int.reduceEq, decide_false, cond_false, Bool.true_and]
       rw [ww l.Names.length (fun b => if zg9 l a b = true then (if b + 1 = l.Names.length then some (.inl ((a : Int) + 1)) else none) else some (.inr (.inr ((a : Int), (6 : Int))))) () (fun b hb => ?_) (by simp)]
       . rw [zj9 (by omega) (by omega)]
         simp only [Nat.zero_add]
         cases (List.range l.Names.length).all fun b => zg9 l a b <;> rfl
       . have hxb := xr hu (a := b) (by omega)
         have hltb := uV hu (a := b) (by omega)
         have gb : ((0 : Int) <= (b : Int)) := by omega
         have hbit' : bits .and .u8 (Int.fdiv (upN l b : Int) (2 ^ min a (IntKind.bits .u8))) 1 = if up l b a = true then 1 else 0 := by
          rw [zbr (by omega) (by omega) (by omega), Int.toNat_natCast]; rfl
         simp only [Int.ofNat_lt, hb, decide_true, cond_true, Option.bind_some, Int.toNat_natCast, hxb, if_pos gb, yl gb]
         simp only [hbit b hb, hbit', w64 (e := (l.Names.length : Int) - 1) (by omega) (by omega), w64 (e := (a : Int) + 1) (by omega) (by omega), w64 (e := (b : Int) + 1) (by omega) (by omega)]
         have hnot : decide (bits .andNot .u8 (bits .and .u8 (upN l b : Int) (IntKind.wrap .u8 (IntKind.wrap .u8 (1 * 2 ^ min l.Names.length (IntKind.bits .u8)) - 1))) (upN l a : Int) = 0) = (List.range l.Names.length).all fun i => !up l b i || up l a i := by
          revert hmask hm0
          generalize IntKind.wrap .u8 (IntKind.wrap .u8 (1 * 2 ^ min l.Names.length (IntKind.bits .u8)) - 1) = mask
          intro hmask hm0
          have hand : bits .and .u8 (upN l b : Int) mask = ((upN l b &&& mask.toNat : Nat) : Int) := by
           rw [zb4 (by omega) (by omega) hm0.1 hm0.2, Int.toNat_natCast]
          have hlt2 : upN l b &&& mask.toNat < 256 := zdo hltb
          rw [hand, Bool.eq_iff_iff, decide_eq_true_eq, zbe (by omega) (by omega) (by omega) (by omega), List.all_eq_true]
          simp only [Int.toNat_natCast, Nat.testBit_and, hmask, zer]
          constructor
          . intro h i hi
            have := h i
            have hi' : i < l.Names.length := by simpa using hi
            cases e : up l b i with
            | false => rfl
            | true => rw [e] at this; simpa [hi'] using this
          . intro h i hi
            simp only [Bool.and_eq_true, decide_eq_true_eq] at hi
            have := h i (by simpa using hi.2)
            rw [hi.1] at this; simpa using this
         simp only [hnot]
         have hlast : decide ((b : Int) = (l.Names.length : Int) - 1) = decide (b + 1 = l.Names.length) := by
          rw [Bool.eq_iff_iff, decide_eq_true_eq, decide_eq_true_eq]; omega
         simp only [hlast]
         unfold zg9
         cases e3 : up l a b with
         | false => by_cases hl : b + 1 = l.Names.length <;> simp [hl]
         | true =>
           by_cases hba : b = a
           . subst hba
             have d2 : decide ((b : Int) = (b : Int)) = true := by simp
             cases (List.range l.Names.length).all fun i => !up l b i || up l b i with
             | false => by_cases hl : b + 1 = l.Names.length <;> simp [hl]
             | true => by_cases hl : b + 1 = l.Names.length <;> simp [hl]
           . have d2 : decide ((b : Int) = (a : Int)) = false := by simp; omega
             have d3 : decide (b = a) = false := by simp [hba]
             simp only [d2, d3]
             cases up l b a with
             | true => by_cases hl : b + 1 = l.Names.length <;> simp [hl]
             | false =>
               cases (List.range l.Names.length).all fun i => !up l b i || up l a i with
               | false => by_cases hl : b + 1 = l.Names.length <;> simp [hl]
               | true => by_cases hl : b + 1 = l.Names.length <;> simp [hl]
theorem zbn {l : TL} (h : LatIn l) : qD l = zga l := by
 unfold qD; rw [zpg l h.u8 h.names h.name]; rfl
open Go
theorem ziw {l : TL} (h : LatIn l) (a b : Int) : zs5 l a b = some (zco l [a, b]) := by
 unfold zs5 zco
 rw [xp l h.u8 h.names h.name, zbn h]
 simp only [Option.bind_some, List.length_map, List.all_cons, List.all_nil, Bool.and_true]
 by_cases h0 : (zga l).2 = 0
 . simp only [h0, decide_true, cond_true, if_true]
   unfold wq
   by_cases a1 : a < 0
   . have : ¬ 0 <= a := by omega
     simp [a1, this]
   by_cases a2 : (l.Names.length : Int) <= a
   . have : ¬ a < (l.Names.length : Int) := by omega
     simp [a1, a2, this]
   by_cases b1 : b < 0
   . have : ¬ 0 <= b := by omega
     simp [a1, a2, b1, this]
   by_cases b2 : (l.Names.length : Int) <= b
   . have : ¬ b < (l.Names.length : Int) := by omega
     simp [a1, a2, b1, b2, this]
   have a1' : 0 <= a := by omega
   have a2' : a < (l.Names.length : Int) := by omega
   have b1' : 0 <= b := by omega
   have b2' : b < (l.Names.length : Int) := by omega
   simp [a1, a2, b1, b2, a1', a2', b1', b2']
 . simp [h0]
open Go
theorem zw5 {g : Nat -> Nat} {n a b c : Nat} (h : bnd g n a b = some c) : c < n /\ g c = g a &&& g b := by
 have key : ∀ {j k : Nat}, zw (fun c => if g c = g a &&& g b then some c else none) k j = some c -> c < k + j /\ g c = g a &&& g b := by
  intro j
  induction j with
  | zero => intro k h; cases h
  | succ j ih =>
    intro k h
    simp only [zw] at h
    split at h
    . rename_i r hr
      cases h
      split at hr
      . rename_i hh; cases hr; exact ⟨by omega, hh⟩
      . cases hr
    . have := ih h
      exact ⟨by omega, this.2⟩
 have := key h
 simpa using this
theorem zec {l : TL} (h : LatIn l) (k : (qD l).2 = 0) : (∀ a, a < l.Names.length -> jX l a = true) /\ ∀ a b, a < l.Names.length -> b < l.Names.length -> wL l a b = false := by
 rw [zbn h] at k
 unfold zga at k
 split at k
 case isFalse h0 => exact absurd k h0
 split at k
 case isFalse => cases k
 split at k
 case h_1 r hr =>
  exfalso
  have key : ∀ {j k : Nat}, zw (fun a => if jX l a = true then none else some ((a : Int), (6 : Int))) k j = some r -> r.2 = 6 := by
   intro j
   induction j with
   | zero => intro k h; cases h
   | succ j ih =>
     intro k h
     simp only [zw] at h
     split at h
     . rename_i r' hr'
       cases h
       split at hr'
       . cases hr'
       . cases hr'; rfl
     . exact ih h
  rw [key hr] at k; cases k
 case h_2 hord =>
  have key2 : ∀ {a j k : Nat} {r : Int × Int}, zw (fun b => if wL l a b = true then some ((a : Int), (4 : Int)) else none) k j = some r -> r.2 = 4 := by
   intro a j
   induction j with
   | zero => intro k r h; cases h
   | succ j ih =>
     intro k r h
     simp only [zw] at h
     split at h
     . rename_i r' hr'
       cases h
       split at hr'
       . cases hr'; rfl
       . cases hr'
     . exact ih h
  have key : ∀ {j k : Nat} {r : Int × Int}, zw (fun a => zw (fun b => if wL l a b = true then some ((a : Int), (4 : Int)) else none) 0 l.Names.length) k j = some r -> r.2 = 4 := by
   intro j
   induction j with
   | zero => intro k r h; cases h
   | succ j ih =>
     intro k r h
     simp only [zw] at h
     split at h
     . rename_i r' hr'
       cases h
       exact key2 hr'
     . exact ih h
  cases hs : zw (fun a => zw (fun b => if wL l a b = true then some ((a : Int), (4 : Int)) else none) 0 l.Names.length) 0 l.Names.length with
  | some r =>
    rw [hs] at k
    have := key hs
    simp only [Option.getD_some] at k
    rw [this] at k; cases k
  | none =>
    refine ⟨fun a ha => ?_, fun a b ha hb => ?_⟩
    . have h1 := scan_none.1 hord a (by omega) (by omega)
      split at h1
      . assumption
      . cases h1
    . have h1 := scan_none.1 (scan_none.1 hs a (by omega) (by omega)) b (by omega) (by omega)
      split at h1
      . cases h1
      . rename_i h2; simpa using h2
theorem zn8 {l : TL} (h : LatIn l) (k : (qD l).2 = 0) {a b : Nat} (ha : a < l.Names.length) (hb : b < l.Names.length) : ∃ c, bnd (dnN l) l.Names.length a b = some c /\ c < l.Names.length /\ dnN l c = dnN l a &&& dnN l b := by
 have h2 := (zec h k).2 a b ha hb
 unfold wL at h2
 cases e : bnd (dnN l) l.Names.length a b with
 | none => rw [e] at h2; simp at h2
 | some c => exact ⟨c, rfl, zw5 e⟩
theorem zwh {l : TL} (ok : LatOK l) {a b c : Nat} (ha : a < l.Names.length) (hb : b < l.Names.length) (hc : c < l.Names.length) (h1 : up l a b = true) (h2 : up l b c = true) : up l a c = true := (ok.row a ha b hb h1).2 c hc h2
theorem zAy {l : TL} {b i : Nat} : (dnN l b).testBit i = (decide (i < l.Names.length) && up l i b) := zno l b l.Names.length i
theorem zh9 {l : TL} {a b c i : Nat} (hi : i < l.Names.length) (hg : dnN l c = dnN l a &&& dnN l b) : up l i c = (up l i a && up l i b) := by
 have h1 := congrArg (fun x => x.testBit i) hg
 simp only [Nat.testBit_and, zAy, hi, decide_true, Bool.true_and] at h1
 exact h1
theorem zAv {l : TL} (ok : LatOK l) {a b : Nat} (ha : a < l.Names.length) (hb : b < l.Names.length) (h1 : up l a b = true) (h2 : up l b a = true) : a = b := by
 by_cases e : b = a
 . exact e.symm
 . have := (ok.row a ha b hb h1).1 e
   rw [h2] at this; cases this
theorem zAu {l : TL} (h : LatIn l) (k : (qD l).2 = 0) : ∃ t, t < l.Names.length /\ ∀ a, a < l.Names.length -> up l t a = true := by
 have ok := wZ h k
 have key : ∀ j, j <= l.Names.length -> ∃ t, t < l.Names.length /\ ∀ a, a < j -> up l t a = true := by
  intro j
  induction j with
  | zero => intro _; exact ⟨0, ok.pos, fun a ha => absurd ha (by omega)⟩
  | succ j ih =>
    intro hj
    obtain ⟨t, ht, hall⟩ := ih (by omega)
    obtain ⟨c, _, hc, hg⟩ := zn8 h k ht (show j < l.Names.length by omega)
    have hcc := ok.self c hc
    rw [zh9 hc hg, Bool.and_eq_true] at hcc
    refine ⟨c, hc, fun a ha => ?_⟩
    rcases Nat.lt_or_ge a j with g | g
    . exact zwh ok hc ht (by omega) hcc.1 (hall a g)
    . have : a = j := by omega
      subst this; exact hcc.2
 exact key _ (Nat.le_refl _)
def qx (l : TL) : Nat := ((List.range l.Names.length).find? fun b => (List.range l.Names.length).all fun a => up l b a).getD 0
theorem zbu {l : TL} (h : LatIn l) (k : (qD l).2 = 0) : qx l < l.Names.length /\ ∀ a, a < l.Names.length -> up l (qx l) a = true := by
 obtain ⟨t, ht, hall⟩ := zAu h k
 unfold qx
 cases e : (List.range l.Names.length).find? fun b => (List.range l.Names.length).all fun a => up l b a with
 | none =>
   have := List.find?_eq_none.1 e t (by simpa using ht)
   exact absurd (by simp only [List.all_eq_true, List.mem_range]; exact hall) this
 | some b =>
   have h1 := List.find?_some e
   have h2 := List.mem_of_find?_eq_some e
   simp only [List.all_eq_true, List.mem_range] at h1 h2
   exact ⟨h2, h1⟩
theorem zu6 {l : TL} (h : LatIn l) (k : (qD l).2 = 0) {b : Nat} (hb : b < l.Names.length) (hall : ∀ a, a < l.Names.length -> up l b a = true) : b = qx l := by
 obtain ⟨h1, h2⟩ := zbu h k
 exact zAv (wZ h k) hb h1 (hall _ h1) (h2 _ hb)
theorem zol {l : TL} (h : LatIn l) (k : (qD l).2 = 0) {b : Nat} (hb : b < l.Names.length) : upN l b = 2 ^ l.Names.length - 1 ↔ b = qx l := by
 have h1 := (zec h k).1 b hb
 unfold jX at h1
 simp only [Bool.and_eq_true, decide_eq_true_eq] at h1
 constructor
 . intro e
   refine zu6 h k hb fun a ha => ?_
   rw [<- zer, e, Nat.testBit_two_pow_sub_one]
   simpa using ha
 . rintro rfl
   have h2 := (zbu h k).2
   refine Nat.eq_of_testBit_eq fun i => ?_
   rw [Nat.testBit_two_pow_sub_one]
   rcases Nat.lt_or_ge i l.Names.length with g | g
   . rw [zer, h2 i g]; simp [g]
   . rw [Nat.testBit_lt_two_pow (Nat.lt_of_lt_of_le h1.1.1 (Nat.pow_le_pow_right (by omega) g))]
     simp; omega
open Go
theorem zl6 (s : List UInt8) (c : Int) : zd7 s c = some (Go.Lib.indexByte s c.toNat.toUInt8) := by
 unfold zd7 qm
 rfl
theorem zam (r : Int) (h0 : 0 <= r) (h1 : r < 256) : xE [] r = some false := by
 unfold xE
 have key : Tot (zjd [] r) fun x => x < 0 := by
  unfold zjd
  have e0 : decide (0 <= r) = true := by simp [h0]
  simp only [e0, cond_true]
  rw [zG]
  refine ⟨fun _ => ?_, fun h2 => ?_⟩
  . rw [qa, zx, zl6]
    simp only [zr]
    simp [Go.Lib.indexByte]
  . simp only [decide_eq_false_iff_not] at h2
    obtain ⟨x, y, exy, hy⟩ := zv8 (r := r) (by omega) h1
    have e1 : decide (r = 65533) = false := by simp; omega
    simp only [e1, cond_false, exy]
    rw [zx]
    refine (za3 r).mono fun v _ => ?_
    rw [zG]
    refine ⟨fun _ => .mk (by decide), fun _ => ?_⟩
    rw [qa]
    have e2 : IntKind.wrap .i64 (((List.length [x, y] : Nat) : Int) - 1) = 1 := rfl
    rw [e2, zx]
    refine Tot.loop (fun _ => 0) (fun _ => True) (fun _ _ => ?_) trivial
    rw [zG]
    refine ⟨fun h3 => ?_, fun _ => ?_⟩
    . simp only [decide_eq_true_eq, List.length_nil] at h3
      exact absurd h3 (by decide)
    . simp only [zr, Sum.elim_inr, Sum.elim_inl]
      decide
 obtain ⟨x, e, hx⟩ := key
 rw [e]
 have : decide (0 <= x) = false := by simp; omega
 simp [this]
theorem zni (r : Int) (h0 : 0 <= r) (h1 : r < 256) : zaj r = some true := by
 unfold zaj
 have e0 : decide (0 <= r) = true := by simp [h0]
 have e1 : decide (r < 55296) = true := by simp; omega
 simp only [e0, e1, cond_true]
theorem zpl (r : Int) (h0 : 0 <= r) (h1 : r < 256) : zua r = some true := by
 unfold zua
 simp only [zg, zn7 h0 h1]
 rw [w64 (by omega) (by omega)]
 simp [zni r h0 h1]
def yB (c : UInt8) : Bool := decide (97 <= c.toNat) && decide (c.toNat <= 122)
def jZ (c : UInt8) : Bool := decide (48 <= c.toNat) && decide (c.toNat <= 57)
theorem zpv {cs : List (List UInt8)} (hcs : cs.length = 10) (h : ∀ s ∈ cs, s.length <= 1000 /\ ∀ c ∈ s, c.toNat < 128) (h6 : cs[6]? = some []) (h8 : cs[8]? = some []) (r : Int) (h0 : 0 <= r) (h1 : r < 256) {Q : Unit ⊕ (Int × Int) -> Prop} (hQ : Q (.inl ())) (hQ' : ∀ x, x ≠ 6 -> x ≠ 8 -> Q (.inr (x, 0))) :
 Tot (lpO (fun (s : Int) => cond (decide (s < 10)) (zh cs s fun x => zg (IntKind.wrap IntKind.i32 r) fun y => Option.bind (xE x y) fun z => cond z (some (Sum.inr (Sum.inr (s, (0 : Int))))) (zg (IntKind.wrap IntKind.i64 (s + 1)) fun u => some (Sum.inl u))) (some (Sum.inr (Sum.inl ())))) 0) Q := by
 refine Tot.count 10 (fun k s => s = (k : Int)) ?_ rfl
 rintro k _ hk rfl
 simp only [zG, zr, qa, qo, zx, Sum.elim_inl, Sum.elim_inr, decide_eq_true_eq, decide_eq_false_iff_not, Int.toNat_natCast]
 refine ⟨fun hlt => ?_, fun _ => hQ⟩
 obtain ⟨x, hx⟩ := zv (l := cs) (i := k) (by omega)
 have hx' := h x (List.mem_of_getElem? hx)
 refine ⟨by omega, x, hx, ?_⟩
 rw [zn7 h0 h1]
 have nx : k < 10 /\ IntKind.wrap .i64 ((k : Int) + 1) = ((k + 1 : Nat) : Int) := by
  rw [w64 (by omega) (by omega)]; exact ⟨by omega, by omega⟩
 by_cases g6 : k = 6
 . subst g6
   rw [h6] at hx; cases hx
   rw [zam r h0 h1, zr]
   exact ⟨fun e => (by cases e), fun _ => nx⟩
 by_cases g8 : k = 8
 . subst g8
   rw [h8] at hx; cases hx
   rw [zam r h0 h1, zr]
   exact ⟨fun e => (by cases e), fun _ => nx⟩
 refine (zdn x r hx'.2 hx'.1 h0 h1).mono fun _ _ => ⟨fun _ => hQ' _ (by omega) (by omega), fun _ => nx⟩
theorem zb2 (c : UInt8) : Tot (zc6 (IntKind.wrap .i64 (c.toNat : Int))) fun x => (decide (x.1 = 8) = yB c) /\ (decide (x.1 = 6) = jZ c) := by
 have hc := c.toNat_lt
 rw [w64 (by omega) (by omega)]
 have h0 : (0 : Int) <= c.toNat := by omega
 have h1 : (c.toNat : Int) < 256 := by omega
 unfold zc6 zgp yB jZ
 rw [zpl _ h0 h1]
 simp only [Option.bind_some, Bool.not_true, cond_false]
 have L : ¬ (48 <= c.toNat /\ c.toNat <= 57) -> ¬ (97 <= c.toNat /\ c.toNat <= 122) -> _ := fun d1 d2 => zpv (cs := [[], [32], [10], [40, 91], [41, 93], [34], [], [45], [], [60, 61]]) rfl (by decide) rfl rfl c.toNat h0 h1 (Q := fun a => Tot (Sum.elim (fun _ => some ((10 : Int), (0 : Int))) some a) fun (x : Int × Int) => (decide (x.1 = 8) = (decide (97 <= c.toNat) && decide (c.toNat <= 122))) /\ (decide (x.1 = 6) = (decide (48 <= c.toNat) && decide (c.toNat <= 57))))
  (.mk (by
    have a1 : (decide (97 <= c.toNat) && decide (c.toNat <= 122)) = false := by simp; omega
    have a2 : (decide (48 <= c.toNat) && decide (c.toNat <= 57)) = false := by simp; omega
    rw [a1, a2]; exact ⟨rfl, rfl⟩)) (fun x e6 e8 => .mk (by
    have a1 : (decide (97 <= c.toNat) && decide (c.toNat <= 122)) = false := by simp; omega
    have a2 : (decide (48 <= c.toNat) && decide (c.toNat <= 57)) = false := by simp; omega
    rw [a1, a2]; simp [e6, e8]))
 simp only [zG, zr, zx, decide_eq_true_eq, decide_eq_false_iff_not]
 have six : 48 <= c.toNat -> c.toNat <= 57 -> decide ((6 : Int) = 8) = (decide (97 <= c.toNat) && decide (c.toNat <= 122)) /\ decide ((6 : Int) = 6) = (decide (48 <= c.toNat) && decide (c.toNat <= 57)) := by
  intro d1 d2
  have a1 : (decide (97 <= c.toNat) && decide (c.toNat <= 122)) = false := by simp; omega
  have a2 : (decide (48 <= c.toNat) && decide (c.toNat <= 57)) = true := by simp; omega
  rw [a1, a2]; exact ⟨rfl, rfl⟩
 have eight : 97 <= c.toNat -> c.toNat <= 122 -> decide ((8 : Int) = 8) = (decide (97 <= c.toNat) && decide (c.toNat <= 122)) /\ decide ((8 : Int) = 6) = (decide (48 <= c.toNat) && decide (c.toNat <= 57)) := by
  intro d1 d2
  have a1 : (decide (97 <= c.toNat) && decide (c.toNat <= 122)) = true := by simp; omega
  have a2 : (decide (48 <= c.toNat) && decide (c.toNat <= 57)) = false := by simp; omega
  rw [a1, a2]; exact ⟨rfl, rfl⟩
 refine ⟨fun d1 => ⟨fun d2 => six (by omega) (by omega), fun d2 => ⟨fun d3 => ⟨fun d4 => eight (by omega) (by omega), fun d4 => L (by omega) (by omega)⟩, fun d3 => L (by omega) (by omega)⟩⟩, fun d1 => ⟨fun d3 => ⟨fun d4 => eight (by omega) (by omega), fun d4 => L (by omega) (by omega)⟩, fun d3 => L (by omega) (by omega)⟩⟩
def wW (s : List UInt8) : Bool := (match s with | [] => false | c :: _ => yB c) && s.all fun c => yB c || jZ c
theorem zfo {s : List UInt8} {p : UInt8 -> Bool} {k : Nat} {c : UInt8} (h : (s.take k).all p = true) (hc : s[k]? = some c) (hp : p c = true) : (s.take (k + 1)).all p = true := by
 rw [List.take_add_one, hc, List.all_append, h]
 simp [hp]
theorem zho (s : List UInt8) (h : s.length <= 1000000) : Tot (zrn (TK.mk 1 0 0 0 s)) fun x => decide (x = 0) = (wW s && decide (s.length <= 16)) := by
 unfold zrn
 dsimp only
 have e2 : decide ((1 : Int) < 1) = false := rfl
 have e3 : decide ((9 : Int) < 1) = false := rfl
 simp only [e2, e3, decide_true, cond_true, cond_false, Option.bind_some, Sum.elim_inl, Bool.and_self, Bool.not_true]
 rw [zx]
 have Qn : ∀ x : Int, wW s = false -> Tot (Sum.elim (fun (n : Int) => cond (decide (n < (s.length : Int))) (some (3 : Int)) (some (0 : Int))) some (Sum.inr 6 : Int ⊕ Int)) fun x => decide (x = 0) = (wW s && decide (s.length <= 16)) := by
  intro _ e
  rw [e]; exact .mk rfl
 have Qy : wW s = true -> Tot (Sum.elim (fun (n : Int) => cond (decide (n < (s.length : Int))) (some (3 : Int)) (some (0 : Int))) some (Sum.inl 16 : Int ⊕ Int)) fun x => decide (x = 0) = (wW s && decide (s.length <= 16)) := by
  intro e
  rw [e]
  simp only [Sum.elim_inl, zG, zr, decide_eq_true_eq, decide_eq_false_iff_not]
  refine ⟨fun g => ?_, fun g => ?_⟩
  . have : decide (s.length <= 16) = false := by simp; omega
    rw [this]; rfl
  . have : decide (s.length <= 16) = true := by simp; omega
    rw [this]; rfl
 rw [zG]
 refine ⟨fun h1 => ?_, fun h1 => ?_⟩
 . simp only [zr]
   refine Qn 0 ?_
   have : s = [] := List.length_eq_zero_iff.1 (by simpa using h1)
   rw [this]; rfl
 simp only [decide_eq_false_iff_not] at h1
 obtain ⟨c, hc⟩ := zv (l := s) (i := 0) (by omega)
 have hs0 : ∃ r, s = c :: r := by
  cases s with
  | nil => simp at hc
  | cons a r => simp at hc; exact ⟨r, by rw [hc]⟩
 have e0 : (0 : Int).toNat = 0 := rfl
 simp only [qo, qa, zx, e0]
 refine ⟨by omega, c, hc, (zb2 c).mono fun x hx => ?_⟩
 rw [zG]
 refine ⟨fun g => ?_, fun g => ?_⟩
 . simp only [zr]
   refine Qn 0 ?_
   obtain ⟨r, rfl⟩ := hs0
   have : yB c = false := by rw [<- hx.1]; simpa using g
   unfold wW; simp [this]
 have hlow : yB c = true := by rw [<- hx.1]; simpa using g
 simp only [qo, qa, zx, e0]
 refine ⟨by omega, c, hc, (zb2 c).mono fun y hy => ?_⟩
 refine Tot.loop (fun (p : Int × Int) => s.length - p.2.toNat) (fun (p : Int × Int) => 0 <= p.2 /\ p.2 <= (s.length : Int) /\ (s.take p.2.toNat).all (fun c => yB c || jZ c) = true /\ ((p.2 = (s.length : Int) /\ p.1 = 10) \/ ∃ d, s[p.2.toNat]? = some d /\ decide (p.1 = 8) = yB d /\ decide (p.1 = 6) = jZ d)) ?_ ⟨by simp, by simp, by simp, .inr ⟨c, by simpa using hc, hy⟩⟩
 rintro ⟨k, a⟩ ⟨h2, h3, hall, h4⟩
 simp only at h2 h3 hall h4
 have round : (k = 8 \/ k = 6) -> ∀ {Q : (Bool × Int × Int) ⊕ (Int ⊕ Int) -> Prop}, Tot (zg (IntKind.wrap .i64 (a + 1)) fun (u : Int) => cond (decide ((s.length : Int) <= u)) (some (Sum.inl ((10 : Int), u))) (zh s u fun (v : UInt8) => zg (IntKind.wrap .i64 (v.toNat : Int)) fun (z : Int) => Option.bind (zc6 z) fun r => some (Sum.inl (r.1, u)))) (Sum.elim (fun (s' : Int × Int) => (0 <= s'.2 /\ s'.2 <= (s.length : Int) /\ (s.take s'.2.toNat).all (fun c => yB c || jZ c) = true /\ ((s'.2 = (s.length : Int) /\ s'.1 = 10) \/ ∃ d, s[s'.2.toNat]? = some d /\ decide (s'.1 = 8) = yB d /\ decide (s'.1 = 6) = jZ d)) /\ s.length - s'.2.toNat < s.length - a.toNat) Q) := by
  intro hk Q
  rcases h4 with ⟨g1, g2⟩ | ⟨d, hd, d1, d2⟩
  . omega
  have hlt : a.toNat < s.length := by
   rcases Nat.lt_or_ge a.toNat s.length with g | g
   . exact g
   . rw [List.getElem?_eq_none g] at hd; cases hd
  have hp : (yB d || jZ d) = true := by
   rw [<- d1, <- d2]
   rcases hk with rfl | rfl <;> rfl
  have e1 : (a + 1).toNat = a.toNat + 1 := by omega
  have hall' : (s.take (a + 1).toNat).all (fun c => yB c || jZ c) = true := by rw [e1]; exact zfo hall hd hp
  rw [qa, w64 (by omega) (by omega), zG]
  refine ⟨fun g => ?_, fun g => ?_⟩
  . simp only [decide_eq_true_eq] at g
    simp only [zr, Sum.elim_inl]
    exact ⟨⟨by omega, by omega, hall', .inl ⟨by omega, trivial⟩⟩, by omega⟩
  . simp only [decide_eq_false_iff_not] at g
    obtain ⟨d', hd'⟩ := zv (l := s) (i := (a + 1).toNat) (by omega)
    simp only [qo, qa, zx]
    refine ⟨by omega, d', hd', (zb2 d').mono fun z hz => ?_⟩
    simp only [zr, Sum.elim_inl]
    exact ⟨⟨by omega, by omega, hall', .inr ⟨d', hd', hz⟩⟩, by omega⟩
 rw [zG]
 refine ⟨fun g => round (.inl (by simpa using g)), fun g => ?_⟩
 rw [zG]
 refine ⟨fun g' => round (.inr (by simpa using g')), fun g' => ?_⟩
 simp only [zr, Sum.elim_inr, Sum.elim_inl, qI, zG, e0, List.drop_zero]
 refine ⟨by omega, fun hne => ?_, fun heq => ?_⟩
 . refine (zr (Q := fun x => decide (x = 0) = (wW s && decide (s.length <= 16)))).1 (Qn 0 ?_)
   rcases h4 with ⟨g1, _⟩ | ⟨d, hd, d1, d2⟩
   . exfalso
     have : a.toNat = s.length := by omega
     rw [this, List.take_length] at hne
     simp at hne
   . unfold wW
     have : (s.all fun c => yB c || jZ c) = false := by
      rw [List.all_eq_false]
      refine ⟨d, List.mem_of_getElem? hd, ?_⟩
      rw [<- d1, <- d2, g, g']
      simp
     rw [this, Bool.and_false]
 . have ht : s.take a.toNat = s := by simpa using heq
   rw [ht] at hall
   have hw : wW s = true := by
    unfold wW
    obtain ⟨r, rfl⟩ := hs0
    simp only [hall, hlow, Bool.and_self]
   rw [hw]
   refine ⟨fun g => ?_, fun g => ?_⟩
   . have : decide (s.length <= 16) = false := by simp at g ⊢; omega
     rw [this]; rfl
   . have : decide (s.length <= 16) = true := by simp at g ⊢; omega
     rw [this]; rfl
open Go
theorem zoc (c : UInt8) : zox (c.toNat : Int) = some (yB c) := by
 unfold zox yB
 by_cases h : 97 <= c.toNat
 . have : decide ((97 : Int) <= (c.toNat : Int)) = true := by simp; omega
   rw [this]
   simp only [cond_true, h, decide_true, Bool.true_and, Option.some.injEq]
   rw [Bool.eq_iff_iff]; simp; omega
 . have : decide ((97 : Int) <= (c.toNat : Int)) = false := by simp; omega
   rw [this]
   simp [h]
theorem zA2 (c : UInt8) : ztu (c.toNat : Int) = some (jZ c) := by
 unfold ztu jZ
 by_cases h : 48 <= c.toNat
 . have : decide ((48 : Int) <= (c.toNat : Int)) = true := by simp; omega
   rw [this]
   simp only [cond_true, h, decide_true, Bool.true_and, Option.some.injEq]
   rw [Bool.eq_iff_iff]; simp; omega
 . have : decide ((48 : Int) <= (c.toNat : Int)) = false := by simp; omega
   rw [this]
   simp [h]
theorem zzy (s : List UInt8) (h : s.length <= 1000000) : zb9 s = some (wW s) := by
 unfold zb9
 cases s with
 | nil => rfl
 | cons c r =>
   have e1 : decide (c :: r = (ByteArray.mk #[]).data.toList) = false := by
    exact decide_eq_false (fun e => by cases (show c :: r = [] from e))
   rw [e1]
   apply Tot.eq
   have e0 : (0 : Int).toNat = 0 := rfl
   simp only [cond_false, qo, e0, zx]
   refine ⟨by omega, c, rfl, ?_⟩
   rw [zoc, zr, zG]
   refine ⟨fun g => ?_, fun g => ?_⟩
   . have : yB c = false := by simpa using g
     simp [zr, wW, this]
   have hl : yB c = true := by simpa using g
   rw [zx]
   refine Tot.count (c :: r).length (fun k s => s = (k : Int) /\ ((c :: r).take k).all (fun c => yB c || jZ c) = true) ?_ ⟨rfl, by simp⟩
   rintro k _ hk ⟨rfl, hall⟩
   simp only [zG, zr, qa, qo, zx, Sum.elim_inl, Sum.elim_inr, decide_eq_true_eq, decide_eq_false_iff_not, Int.toNat_natCast]
   refine ⟨fun hlt => ?_, fun hge => ?_⟩
   . obtain ⟨d, hd⟩ := zv (l := c :: r) (i := k) (by omega)
     refine ⟨by omega, d, hd, ?_⟩
     rw [zoc, zr]
     have nx : k < (c :: r).length /\ IntKind.wrap .i64 ((k : Int) + 1) = ((k + 1 : Nat) : Int) := by
      rw [w64 (by omega) (by omega)]; exact ⟨by omega, by omega⟩
     refine ⟨fun g1 => ⟨by omega, d, hd, ?_⟩, fun g1 => ⟨nx.1, nx.2, zfo hall hd (by simp at g1; simp [g1])⟩⟩
     rw [zA2, zr]
     refine ⟨fun g2 => ?_, fun g2 => ⟨nx.1, nx.2, zfo hall hd (by simp at g2; simp [g2])⟩⟩
     have : ((c :: r).all fun c => yB c || jZ c) = false := by
      rw [List.all_eq_false]
      refine ⟨d, List.mem_of_getElem? hd, ?_⟩
      simp at g1 g2
      simp [g1, g2]
     unfold wW
     rw [this, Bool.and_false]
   . rw [List.take_of_length_le (by omega)] at hall
     unfold wW
     rw [hall]
     show true = (yB c && true)
     rw [hl]; rfl
theorem zCd (s : List UInt8) (h : s.length <= 1000000) : Tot (zry (TK.mk 1 0 0 0 s)) fun x => decide (x = 0) = (wW s && decide (s.length <= 16)) := by
 unfold zry
 dsimp only
 have e2 : decide ((1 : Int) < 1) = false := rfl
 have e3 : decide ((9 : Int) < 1) = false := rfl
 have e4 : decide ((1 : Int) = 2) = false := rfl
 simp only [e2, e3, e4, decide_true, cond_true, cond_false, Bool.not_true, Bool.not_false, zzy s h, Option.bind_some, zG, zr]
 refine ⟨fun g => ?_, fun g => ?_⟩
 . have : wW s = false := by simpa using g
   rw [this]; rfl
 . have : wW s = true := by simpa using g
   rw [this]
   refine ⟨fun g => ?_, fun g => ?_⟩
   . have : decide (s.length <= 16) = false := by simp at g ⊢; omega
     rw [this]; rfl
   . have : decide (s.length <= 16) = true := by simp at g ⊢; omega
     rw [this]; rfl
def primN : List (List UInt8) := [[110, 101, 103], [97, 98, 115], [110, 111, 116], [115, 104, 97, 112, 101], [114, 97, 118, 101, 108], [114, 101, 118, 101, 114, 115, 101], [102, 108, 105, 112], [105, 111, 116, 97], [115, 117, 109], [108, 101, 97, 115, 116], [109, 111, 115, 116], [99, 111, 117, 110, 116], [115, 99, 97, 110], [103, 114, 97, 100, 101], [97, 100, 100], [115, 117, 98], [109, 117, 108], [100, 105, 118], [109, 111, 100], [112, 108, 117, 115], [109, 105, 110, 117, 115], [116, 105, 109, 101, 115], [101, 113], [110, 101], [108, 116], [108, 101], [103, 116], [103, 101], [97, 110, 100], [111, 114], [109, 105, 110], [109, 97, 120], [116, 97, 107, 101], [100, 114, 111, 112], [102, 105, 108, 108], [103, 114, 105, 100], [99, 97, 116], [97, 116], [105, 110], [112, 105, 99, 107]]
theorem zhy (s : List UInt8) : Tot (zot s) fun x => decide (x.2 = 0) = decide (s ∈ primN) := by
 by_cases hm : s ∈ primN
 . have h2 : ∀ t ∈ primN, ∃ x, zot t = some x /\ decide (x.2 = 0) = true := by
    unfold primN
    simp only [List.forall_mem_cons]
    repeat' constructor
    intro t ht; cases ht
   obtain ⟨x, e, hx⟩ := h2 s hm
   exact ⟨x, e, by show decide (x.2 = 0) = _; rw [hx]; simp [hm]⟩
 . have hd : decide (s ∈ primN) = false := by simp [hm]
   rw [hd]
   unfold zot
   unfold primN at hm
   simp only [List.mem_cons, List.not_mem_nil, or_false, not_or] at hm
   have sw : ∀ n : List UInt8, (n = s) = (s = n) := fun n => propext eq_comm
   simp only [sw, hm, decide_false, cond_false, Option.bind_some, Sum.elim_inl, zr]
   rfl
theorem zk8 (s : List UInt8) : Tot (zsf s) fun x => decide (x.2 = 0) = decide (s ∈ primN) := by
 unfold zsf ztp
 simp only [Option.bind_some]
 change Tot (Option.bind (lpO (fun (k : Int) => cond (decide (k < ((List.length (List.map SV.str primN) : Nat) : Int))) (zh primN k _) _) 0) _) _
 rw [zx]
 have hn : (List.map SV.str primN).length = 40 := rfl
 have hn' : primN.length = 40 := rfl
 rw [hn]
 refine Tot.count 40 (fun k x => x = (k : Int) /\ s ∉ primN.take k) ?_ ⟨rfl, by simp⟩
 rintro k _ hk ⟨rfl, hmem⟩
 simp only [zG, zr, qa, qo, zx, Sum.elim_inl, Sum.elim_inr, decide_eq_true_eq, decide_eq_false_iff_not, Int.toNat_natCast]
 refine ⟨fun hlt => ?_, fun hge => ?_⟩
 . obtain ⟨x, hx⟩ := zv (l := primN) (i := k) (by omega)
   refine ⟨by omega, x, hx, fun g => ?_, fun g => ?_⟩
   . subst g
     have := List.mem_of_getElem? hx
     simp [this]
   . rw [w64 (by omega) (by omega), List.take_add_one, hx]
     refine ⟨by omega, by omega, fun hm => ?_⟩
     rcases List.mem_append.1 hm with hm | hm
     . exact hmem hm
     . simp at hm; exact g hm.symm
 . rw [List.take_of_length_le (by omega)] at hmem
   simp [hmem]
def resN : List (List UInt8) := [[118, 97, 114], [100, 101, 102], [111, 117, 116], [105, 102], [101, 108, 115, 101], [119, 104, 105, 108, 101], [101, 110, 100], [114, 101, 108, 101, 97, 115, 101], [105, 110, 116], [99, 104, 97, 114]]
def exN (s : List UInt8) : Bool := !decide (s ∈ resN) && !decide (s ∈ primN) && (wW s && decide (s.length <= 16))
theorem zbm (s : List UInt8) (h : s.length <= 1000000) : zje s = some (exN s) := by
 apply Tot.eq
 unfold exN
 by_cases hm : s ∈ resN
 . have h2 : ∀ t ∈ resN, zje t = some false := by
    unfold resN
    simp only [List.forall_mem_cons]
    repeat' constructor
    intro t ht; cases ht
   rw [h2 s hm, zr]
   simp [hm]
 . have hd : decide (s ∈ resN) = false := by simp [hm]
   rw [hd]
   unfold zje
   unfold resN at hm
   simp only [List.mem_cons, List.not_mem_nil, or_false, not_or] at hm
   change Tot (cond (decide (s = [118, 97, 114])) _ (cond (decide (s = [100, 101, 102])) _ (cond (decide (s = [111, 117, 116])) _ (cond (decide (s = [105, 102])) _ (cond (decide (s = [101, 108, 115, 101])) _ (cond (decide (s = [119, 104, 105, 108, 101])) _ (cond (decide (s = [101, 110, 100])) _ (cond (decide (s = [114, 101, 108, 101, 97, 115, 101])) _ (cond (decide (s = [105, 110, 116])) _ (cond (decide (s = [99, 104, 97, 114])) _ _)))))))))) _
   simp only [hm, decide_false, cond_false, zx]
   refine (zhy s).mono fun x hx => ?_
   rw [hx, zG]
   refine ⟨fun g => ?_, fun g => ?_⟩
   . rw [g]; exact .mk rfl
   . rw [g, zx]
     refine (zho s h).mono fun y hy => .mk ?_
     rw [hy]; rfl
theorem zk1 (s : List UInt8) : zub s = some (decide (s ∈ resN)) := by
 unfold zub
 apply Tot.eq
 change Tot (Option.bind (lpO (fun (k : Int) => cond (decide (k < ((10 : Nat) : Int))) (zk (0 <= k /\ k < ((10 : Nat) : Int)) (zh resN ((k.toNat : Nat) : Int) _)) _) 0) _) _
 rw [zx]
 have hn' : resN.length = 10 := rfl
 refine Tot.count 10 (fun k x => x = (k : Int) /\ s ∉ resN.take k) ?_ ⟨rfl, by simp⟩
 rintro k _ hk ⟨rfl, hmem⟩
 simp only [zG, zr, qa, qo, qI, zx, Sum.elim_inl, Sum.elim_inr, decide_eq_true_eq, decide_eq_false_iff_not, Int.toNat_natCast]
 refine ⟨fun hlt => ?_, fun hge => ?_⟩
 . obtain ⟨x, hx⟩ := zv (l := resN) (i := k) (by omega)
   refine ⟨⟨by omega, by omega⟩, by omega, x, hx, fun g => ?_, fun g => ?_⟩
   . subst g
     have := List.mem_of_getElem? hx
     simp [this]
   . rw [w64 (by omega) (by omega), List.take_add_one, hx]
     refine ⟨by omega, by omega, fun hm => ?_⟩
     rcases List.mem_append.1 hm with hm | hm
     . exact hmem hm
     . simp at hm; exact g hm.symm
 . rw [List.take_of_length_le (by omega)] at hmem
   simp [hmem]
theorem zh7 (s : List UInt8) (h : s.length <= 1000000) : zrm s = some (exN s) := by
 unfold zrm exN
 apply Tot.eq
 rw [zx]
 refine (zk8 s).mono fun x hx => ?_
 rw [zx]
 refine (zCd s h).mono fun y hy => ?_
 rw [hx, hy, zk1]
 cases wW s && decide (s.length <= 16) <;> cases decide (s ∈ primN) <;> cases decide (s ∈ resN) <;> exact .mk rfl
open Go
def qO (r : Int) (l : Int × Int) : Int := if r = 2 then l.1 * l.2 else if r = 1 then l.1 else 1
def shC (r : Int) (l : Int × Int) : Int :=
 if r = 0 then (if l.1 = 0 then (if l.2 = 0 then 0 else 6) else 6)
 else if r = 1 then (if l.1 < 0 then 7 else if l.2 = 0 then (if 400 < l.1 then 15 else 0) else 6)
 else if r = 2 then (if l.1 < 0 then 7 else if l.2 < 0 then 7 else if 400 < l.1 then 15 else if 400 < l.2 then 15 else if 400 < l.1 * l.2 then 15 else 0)
 else 7
theorem zmg {a b : Int} (h0 : 0 <= a) (h1 : a <= 400) (h2 : 0 <= b) (h3 : b <= 400) : 0 <= a * b /\ a * b <= 160000 :=
 ⟨Int.mul_nonneg h0 h2, by have := Int.mul_le_mul h1 h3 h2 (by omega : (0 : Int) <= 400); omega⟩
theorem zof : IntKind.wrap .i64 1 = 1 := by decide
theorem zte : IntKind.wrap .i64 2 = 2 := by decide
theorem m1 : max (1 : Int) 0 = 1 := by decide
theorem zdk (r : Int) (l : Int × Int) (h : shC r l = 0) : zeh r l = some (qO r l) := by
 unfold zeh qO
 unfold shC at h
 by_cases h2 : r = 2
 . subst h2
   simp only [decide_true, cond_true, zg, if_true]
   simp (config := { decide := true }) only [if_false, if_true] at h
   split at h
   . cases h
   split at h
   . cases h
   split at h
   . cases h
   split at h
   . cases h
   have hm := zmg (a := l.1) (b := l.2) (by omega) (by omega) (by omega) (by omega)
   rw [w64 (e := 1 * l.2) (by omega) (by omega), Int.one_mul, Int.mul_comm l.2 l.1, w64 (by omega) (by omega)]
 by_cases h1 : r = 1
 . subst h1
   simp (config := { decide := true }) only [if_false, if_true] at h ⊢
   split at h
   . cases h
   split at h
   case isFalse => cases h
   split at h
   . cases h
   simp only [decide_true, cond_true, decide_false, cond_false, zg]
   rw [w64 (e := 1 * l.1) (by omega) (by omega), Int.one_mul]
 . simp [h1, h2]
theorem ze7 (r : Int) (l : Int × Int) : zsa r l = some (shC r l) := by
 unfold zsa
 by_cases hr : r < 0
 . have : shC r l = 7 := by unfold shC; rw [if_neg (by omega), if_neg (by omega), if_neg (by omega)]
   simp [hr, this]
 by_cases hr2 : 2 < r
 . have : shC r l = 7 := by unfold shC; rw [if_neg (by omega), if_neg (by omega), if_neg (by omega)]
   simp [hr, hr2, this]
 have e1 : decide (r < 0) = false := by simp; omega
 have e2 : decide (2 < r) = false := by simp; omega
 simp only [e1, e2, cond_false]
 rw [yl ⟨by omega, by omega⟩, yl ⟨by omega, by omega⟩]
 rw [zkt _ (by simp; omega), zk4 _ (by simp; omega), zla _ (by simp; omega)]
 obtain ⟨a, b⟩ := l
 have hp := zdk r (a, b)
 rcases (by omega : r = 0 \/ r = 1 \/ r = 2) with rfl | rfl | rfl
 . by_cases ha : a = 0 <;> by_cases hb : b = 0 <;> simp [shC, ha, hb, zeh]
 . by_cases ha : a < 0
   . simp [shC, ha]
   by_cases hb : b = 0
   case neg => simp [shC, ha, hb]
   by_cases h4 : 400 < a
   . simp [shC, ha, hb, h4]
   have hs : shC 1 (a, b) = 0 := by simp [shC, ha, hb, h4]
   have hp' := hp hs
   rw [hb] at hp' hs
   simp [hp', hs, ha, hb, h4, qO]
 . by_cases ha : a < 0
   . simp [shC, ha]
   by_cases hb : b < 0
   . simp [shC, ha, hb]
   by_cases h4 : 400 < a
   . simp [shC, ha, hb, h4]
   by_cases h5 : 400 < b
   . simp [shC, ha, hb, h4, h5]
   have hm := zmg (a := a) (b := b) (by omega) (by omega) (by omega) (by omega)
   have hq : zeh 2 (a, b) = some (a * b) := by
    unfold zeh
    simp only [decide_true, cond_true, zg]
    rw [w64 (e := 1 * b) (by omega) (by omega), Int.one_mul, Int.mul_comm b a, w64 (by omega) (by omega)]
   by_cases h6 : 400 < a * b
   . simp [shC, ha, hb, h4, h5, h6, hq]
   . simp [shC, ha, hb, h4, h5, h6, hq]
theorem yA (r : Int) (l : Int × Int) : zg0 r l = some (if shC r l = 0 then qO r l else 0, shC r l) := by
 unfold zg0
 rw [ze7, Option.bind_some]
 by_cases h : shC r l = 0
 . simp [h, zdk r l h]
 . simp [h]
theorem zkr (r : Int) (l : Int × Int) (h : shC r l = 0 \/ (r = 2 /\ 0 <= l.1 /\ l.1 <= 400 /\ 0 <= l.2 /\ l.2 <= 400)) : zmh r l = some (qO r l) := by
 unfold zmh
 obtain ⟨a, b⟩ := l
 by_cases h2 : r = 2
 . subst h2
   have hb : 0 <= a /\ a <= 400 /\ 0 <= b /\ b <= 400 := by
    rcases h with h | ⟨_, h⟩
    . unfold shC at h
      simp (config := { decide := true }) only [if_false, if_true] at h
      split at h
      . cases h
      split at h
      . cases h
      split at h
      . cases h
      split at h
      . cases h
      omega
    . exact h
   have hm := zmg (a := a) (b := b) hb.1 hb.2.1 hb.2.2.1 hb.2.2.2
   have w1 : IntKind.wrap .i64 a = a := w64 (by omega) (by omega)
   have w2 : IntKind.wrap .i64 (a * b) = a * b := w64 (by omega) (by omega)
   rw [qy]
   simp [zk, zh, zg, m1, zof, w1]
   rw [qy]
   simp [zk, zh, zg, m1, zte, w2]
   rw [qy]
   simp [qO]
 by_cases h1 : r = 1
 . subst h1
   have hb : 0 <= a /\ a <= 400 := by
    rcases h with h | ⟨h, _⟩
    . unfold shC at h
      simp (config := { decide := true }) only [if_false, if_true] at h
      split at h
      . cases h
      split at h
      case isFalse => cases h
      split at h
      . cases h
      omega
    . cases h
   have w1 : IntKind.wrap .i64 a = a := w64 (by omega) (by omega)
   rw [qy]
   simp [zk, zh, zg, m1, zof, w1]
   rw [qy]
   simp [qO]
 . have h0 : r <= 0 := by
    rcases h with h | ⟨h, _⟩
    . unfold shC at h
      rw [if_neg h1, if_neg h2] at h
      split at h
      . omega
      . cases h
    . exact absurd h h2
   have : ¬ 0 < r := by omega
   rw [qy]
   simp [qO, h1, h2, this]
theorem zha (r : Int) (l : Int × Int) : zss r l = some (shC r l) := by
 unfold zss
 by_cases hr : r < 0
 . have : shC r l = 7 := by unfold shC; rw [if_neg (by omega), if_neg (by omega), if_neg (by omega)]
   simp [hr, this]
 by_cases hr2 : 2 < r
 . have : shC r l = 7 := by unfold shC; rw [if_neg (by omega), if_neg (by omega), if_neg (by omega)]
   simp [hr, hr2, this]
 have e1 : decide (r < 0) = false := by simp; omega
 have e2 : decide (2 < r) = false := by simp; omega
 simp only [e1, e2, cond_false]
 obtain ⟨a, b⟩ := l
 have hp := zkr r (a, b)
 rcases (by omega : r = 0 \/ r = 1 \/ r = 2) with rfl | rfl | rfl
 . rw [qy]
   simp only [decide_false, Int.lt_irrefl, cond_false, Option.bind_some, Sum.elim_inr, Sum.elim_inl]
   rw [qy]
   by_cases ha : a = 0
   case neg => simp [zk, zh, zg, m1, shC, ha]
   simp [zk, zh, zg, m1, ha, zof]
   rw [qy]
   by_cases hb : b = 0
   case neg => simp [zk, zh, zg, m1, shC, ha, hb]
   have hs : shC 0 (a, b) = 0 := by simp [shC, ha, hb]
   have hp' := hp (.inl hs)
   rw [ha, hb] at hp' hs
   simp [zk, zh, zg, m1, hb, zte]
   rw [qy]
   simp [hp', hs, qO]
 . rw [qy]
   by_cases ha : a < 0
   . simp [zk, zh, zg, m1, shC, ha]
   simp [zk, zh, zg, m1, ha, zof]
   rw [qy]
   simp
   rw [qy]
   by_cases hb : b = 0
   case neg => simp [zk, zh, zg, m1, shC, ha, hb]
   simp [zk, zh, zg, m1, hb, zte]
   rw [qy]
   by_cases h4 : 400 < a
   . simp [shC, ha, h4]
   have hs : shC 1 (a, b) = 0 := by simp [shC, ha, hb, h4]
   have hp' := hp (.inl hs)
   rw [hb] at hp' hs
   simp [hp', hs, qO, h4]
 . rw [qy]
   by_cases ha : a < 0
   . simp [zk, zh, zg, m1, shC, ha]
   simp [zk, zh, zg, m1, ha, zof]
   rw [qy]
   by_cases hb : b < 0
   . simp [zk, zh, zg, m1, shC, ha, hb]
   simp [zk, zh, zg, m1, hb, zte]
   rw [qy]
   simp
   rw [qy]
   by_cases h4 : 400 < a
   . simp [shC, ha, hb, h4]
   by_cases h5 : 400 < b
   . simp [shC, ha, hb, h4, h5]
   have hp' := hp (.inr ⟨rfl, by simp; omega, by simp; omega, by simp; omega, by simp; omega⟩)
   by_cases h6 : 400 < a * b
   . simp [shC, ha, hb, h4, h5, h6, hp', qO]
   . simp [shC, ha, hb, h4, h5, h6, hp', qO]
theorem zab (r : Int) (l : Int × Int) : znc r l = some (if shC r l = 0 then qO r l else 0, shC r l) := by
 unfold znc
 rw [zha, Option.bind_some]
 by_cases h : shC r l = 0
 . simp [h, zkr r l (.inl h)]
 . simp [h]
open Go
def wv (c : Int) : Bool := decide (0 <= c) && decide (c <= 1114111) && (decide (c < 55296) || decide (57343 < c))
def yi (a : TA) : Int :=
 if a.Kind = 1 \/ a.Kind = 2 then
  if shC a.Rank a.Lens = 0 then
   if (a.Cells.length : Int) = qO a.Rank a.Lens then
    if a.Kind = 2 /\ (a.Cells.any fun c => !wv c) = true then 7 else 0
   else 6
  else shC a.Rank a.Lens
 else 2
theorem zvs {r : Int} (h0 : 0 <= r) (h1 : r <= 1114111) : IntKind.wrap .i32 r = r := by
 simp only [IntKind.wrap, IntKind.signed, IntKind.bits]
 have h3 : (2 : Int) ^ 32 = 4294967296 := by decide
 have h4 : (2 : Int) ^ (32 - 1) = 2147483648 := by decide
 simp only [h3, h4, Bool.true_and, decide_eq_true_eq, ge_iff_le]
 split <;> omega
theorem zjn (c : Int) : zaj c = some (wv c) := by
 unfold zaj wv
 by_cases h0 : 0 <= c <;> by_cases h1 : c < 55296 <;> by_cases h2 : 57343 < c <;> by_cases h3 : c <= 1114111 <;> simp [h0, h1, h2, h3] <;> omega
theorem zsi (k c : Int) : zlk k c = some (decide (k = 1) || wv c) := by
 unfold zlk
 by_cases hk : k = 1
 . simp [hk]
 by_cases h0 : 0 <= c
 case neg => simp [hk, h0, wv]
 by_cases h1 : c <= 1114111
 case neg => simp [hk, h0, h1, wv]
 simp only [hk, h0, h1, decide_true, decide_false, cond_true, cond_false, zg, zvs h0 h1, zjn, Option.bind_some, Bool.false_or]
theorem zpo (c : Int) : zjc c = some (wv c) := by
 unfold zjc wv
 by_cases h0 : 0 <= c <;> by_cases h1 : c < 55296 <;> by_cases h2 : 57343 < c <;> by_cases h3 : c <= 1114111 <;> simp [h0, h1, h2, h3]
theorem zed (l : List Int) (a : TA) (h : l.length <= 1000000000) : zig l a = some (l.any fun c => !(decide (a.Kind = 1) || wv c)) := by
 unfold zig zsp
 refine zb6 (l := l) (fun c => !(decide (a.Kind = 1) || wv c)) (e := ()) rfl (fun k x hx hlt => ?_) (by simp)
 simp only [List.length_map, Int.ofNat_lt, hlt, decide_true, cond_true, zh, Int.toNat_natCast, hx, Option.bind_some, zg, Int.natCast_nonneg, if_true, zt6, zsi]
 rw [w64 (by omega) (by omega)]
 cases decide (a.Kind = 1) || wv x <;> rfl
theorem zfb (a : TA) (h : a.Cells.length <= 1000000000) : zeq a = some (yi a) := by
 unfold zeq yi
 rw [yA, zed _ _ h]
 simp only [Option.bind_some, List.length_map]
 have key : cond (!decide (shC a.Rank a.Lens = 0)) (some (shC a.Rank a.Lens)) (cond (!decide ((a.Cells.length : Int) = if shC a.Rank a.Lens = 0 then qO a.Rank a.Lens else 0)) (some 6) (cond (a.Cells.any fun c => !(decide (a.Kind = 1) || wv c)) (some 7) (some (0 : Int)))) = some (if shC a.Rank a.Lens = 0 then if (a.Cells.length : Int) = qO a.Rank a.Lens then if (a.Cells.any fun c => !(decide (a.Kind = 1) || wv c)) = true then 7 else 0 else 6 else shC a.Rank a.Lens) := by
  by_cases h1 : shC a.Rank a.Lens = 0
  case neg => simp [h1]
  by_cases h2 : (a.Cells.length : Int) = qO a.Rank a.Lens
  case neg => simp [h1, h2]
  simp only [h1, h2, if_true, decide_true, Bool.not_true, cond_false]
  cases (a.Cells.any fun c => !(decide (a.Kind = 1) || wv c)) <;> rfl
 rw [key]
 by_cases k1 : a.Kind = 1
 . have : (a.Cells.any fun c => !(decide (a.Kind = 1) || wv c)) = false := by
    rw [List.any_eq_false]; intro c _; simp [k1]
   rw [this]
   simp [k1]
 by_cases k2 : a.Kind = 2
 . have : (a.Cells.any fun c => !(decide (a.Kind = 1) || wv c)) = a.Cells.any fun c => !wv c := by
    congr 1; funext c; simp [k1]
   rw [this]
   simp [k2]
 . simp [k1, k2]
theorem zg1 (a : TA) (h : a.Cells.length <= 1000000000) : zbv a = some (yi a) := by
 unfold zbv yi
 rw [zab]
 simp only [Option.bind_some, List.length_map]
 have lp0 : ∀ (v : Int), Option.bind (lpO (fun (_ : Unit) => cond (decide ((0 : Int) < (a.Cells.length : Int))) (some (Sum.inr (Sum.inl ()) : Unit ⊕ (Unit ⊕ Int))) (some (Sum.inr (Sum.inl ())))) ()) (Sum.elim (fun _ => some v) some) = some v := by
  intro v
  rw [qy]
  cases decide ((0 : Int) < (a.Cells.length : Int)) <;> rfl
 have lp1 : Option.bind (lpO (fun (s : Int × Int) => cond (decide (s.1 < (a.Cells.length : Int))) (cond (decide (s.2 = 0)) (cond (decide (a.Kind = 2)) (zh a.Cells s.1 fun x => Option.bind (zjc x) fun y => cond (!y) (zg (IntKind.wrap .i64 (s.1 + 1)) fun z => some (Sum.inl (z, (7 : Int)))) (zg (IntKind.wrap .i64 (s.1 + 1)) fun z => some (Sum.inl (z, s.2)))) (zg (IntKind.wrap .i64 (s.1 + 1)) fun z => some (Sum.inl (z, s.2)))) (some (Sum.inr (Sum.inl s.2 : Int ⊕ Int)))) (some (Sum.inr (Sum.inl s.2)))) ((0 : Int), (0 : Int))) (Sum.elim (fun v => some v) some) = some (if a.Kind = 2 /\ (a.Cells.any fun c => !wv c) = true then 7 else 0) := by
  apply Tot.eq
  rw [zx]
  refine Tot.count a.Cells.length (fun k s => s.1 = (k : Int) /\ s.2 = if a.Kind = 2 /\ ((a.Cells.take k).any fun c => !wv c) = true then 7 else 0) ?_ ⟨rfl, by simp⟩
  rintro k ⟨i, e⟩ hk ⟨rfl, he⟩
  simp only at he
  simp only [zG, zr, qa, qo, zx, Sum.elim_inl, Sum.elim_inr, decide_eq_true_eq, decide_eq_false_iff_not, Int.toNat_natCast, zpo]
  refine ⟨fun hlt => ⟨fun e0 => ⟨fun k2 => ?_, fun k2 => ?_⟩, fun e0 => ?_⟩, fun hge => ?_⟩
  . obtain ⟨x, hx⟩ := zv (l := a.Cells) (i := k) (by omega)
    refine ⟨by omega, x, hx, ?_⟩
    have hp : ((a.Cells.take k).any fun c => !wv c) = false := by
     rw [e0] at he
     cases hh : (a.Cells.take k).any fun c => !wv c with
     | false => rfl
     | true => rw [if_pos ⟨k2, hh⟩] at he; cases he
    rw [w64 (by omega) (by omega), List.take_add_one, hx, List.any_append, hp]
    refine ⟨fun g => ⟨by omega, by omega, ?_⟩, fun g => ⟨by omega, by omega, ?_⟩⟩
    . simp at g; simp [k2, g]
    . simp at g; simp [g, e0]
  . rw [w64 (by omega) (by omega)]
    refine ⟨by omega, by omega, ?_⟩
    rw [if_neg (fun h => k2 h.1)]; exact e0
  . have k2 : a.Kind = 2 /\ ((a.Cells.take k).any fun c => !wv c) = true := by
     by_cases hh : a.Kind = 2 /\ ((a.Cells.take k).any fun c => !wv c) = true
     . exact hh
     . rw [if_neg hh] at he; exact absurd he e0
    rw [if_pos k2] at he
    rw [he, if_pos]
    refine ⟨k2.1, ?_⟩
    obtain ⟨x, hx, hb⟩ := List.any_eq_true.1 k2.2
    exact List.any_eq_true.2 ⟨x, List.mem_of_mem_take hx, hb⟩
  . rw [List.take_of_length_le (by omega)] at he
    exact he
 by_cases h1 : shC a.Rank a.Lens = 0
 case neg =>
  simp only [h1, decide_false, cond_false, if_false, lp0]
  by_cases k1 : a.Kind = 1
  . simp [k1]
  by_cases k2 : a.Kind = 2
  . simp [k2]
  . simp [k1, k2]
 simp only [h1, decide_true, cond_true, if_true]
 by_cases h2 : (a.Cells.length : Int) = qO a.Rank a.Lens
 case neg =>
  simp only [h2, decide_false, Bool.not_false, cond_true, if_false, lp0]
  by_cases k1 : a.Kind = 1
  . simp [k1]
  by_cases k2 : a.Kind = 2
  . simp [k2]
  . simp [k1, k2]
 rw [lp1]
 simp only [h2, decide_true, Bool.not_true, cond_false, if_true]
 by_cases k1 : a.Kind = 1
 . simp [k1]
 by_cases k2 : a.Kind = 2
 . simp [k2]
 . simp [k1, k2]
open Go
theorem qq {σ τ ε : Type} {step : σ -> Option (σ ⊕ (ε ⊕ τ))} {k1 : ε -> Option τ} (n : Nat) (S : Nat -> σ) (f : Nat -> Option τ) (e : ε)
 (h1 : ∀ k : Nat, k < n -> step (S k) = some (match f k with | some r => .inr (.inr r) | none => .inl (S (k + 1))))
 (h2 : step (S n) = some (.inr (.inl e))) {s0 : σ} (h0 : S 0 = s0) : (lpO step s0).bind (Sum.elim k1 some) = match zw f 0 n with | some r => some r | none => k1 e := by
 subst h0
 rw [zf9 n S (fun k => (f k).map Sum.inr) (.inl e) (fun k hk => by rw [h1 k hk]; cases f k <;> rfl) h2, jK]
 cases zw f 0 n <;> rfl
theorem wK {σ τ ε : Type} {step : σ -> Option (σ ⊕ (ε ⊕ τ))} {k1 : ε -> Option τ} (n : Nat) (S : Nat -> σ) (e : ε)
 (h1 : ∀ k : Nat, k < n -> step (S k) = some (.inl (S (k + 1)))) (h2 : step (S n) = some (.inr (.inl e))) {s0 : σ} (h0 : S 0 = s0) : (lpO step s0).bind (Sum.elim k1 some) = k1 e := by
 subst h0
 rw [zAg n S (.inl e) h1 h2]; rfl
def i64 (n : Int) : Prop := -9223372036854775808 <= n /\ n <= 9223372036854775807
open Go
open Go
open Go
theorem zB7 {n : Int} (h : inK .u8 n) : 0 <= n /\ n < 256 := by
 have e1 : IntKind.u8.min = 0 := by decide
 have e2 : IntKind.u8.max = 255 := by decide
 unfold inK at h
 omega
open Go
def qe (l : TL) (a : Int) : Bool := decide (0 <= a) && decide (a < (l.Names.length : Int))
theorem uu (l : TL) (a : Int) : xz l a = some (qe l a) := by
 unfold xz qe
 by_cases h : 0 <= a <;> simp [h]
theorem xy (l : TL) (a : Int) : ur l a = some (qe l a) := by
 unfold ur qe
 by_cases h : 0 <= a <;> simp [h]
def nmE (s : List UInt8) (before : List (List UInt8)) : Int := if exN s = true then (if s ∈ before then 8 else 0) else 24
theorem inL_iff {α : Type} [DecidableEq α] {a : α} {l : List α} : inL a l = true ↔ a ∈ l := by
 unfold inL; simp
theorem zbj (s : List UInt8) (b : List (List UInt8)) (h : s.length <= 1000000) (hb : b.length <= 1000000) : zl5 s b = some (nmE s b) := by
 unfold zl5 nmE
 rw [zh7 s h]
 simp only [Option.bind_some, List.length_map]
 cases exN s with
 | false => simp
 | true =>
   simp only [Bool.not_true, cond_false, if_true]
   refine (qq b.length (fun k => (k : Int)) (fun k => match b[k]? with | some x => if x = s then some (8 : Int) else none | none => none) () (fun k hk => ?_) ?_ rfl).trans ?_
   . obtain ⟨x, hx⟩ := zv hk
     have hlt : (k : Int) < (b.length : Int) := by omega
     have hw : IntKind.wrap .i64 ((k : Int) + 1) = ((k + 1 : Nat) : Int) := w64 (by omega) (by omega)
     have n1 : (0 : Int) <= (k : Int) := by omega
     simp only [hlt, decide_true, cond_true, zh, n1, if_true, Int.toNat_natCast, hx, Option.bind_some, zg, hw]
     by_cases he : x = s <;> simp [he]
   . simp
   . cases hr : zw (fun k => match b[k]? with | some x => if x = s then some (8 : Int) else none | none => none) 0 b.length with
     | some r =>
       have h8 : r = 8 := uW (v := (8 : Int)) (fun i => by
        cases b[i]? with
        | none => exact .inr rfl
        | some x => by_cases hx : x = s <;> simp [hx]) hr
       have hm : s ∈ b := by
        by_cases hm : s ∈ b
        . exact hm
        have : zw (fun k => match b[k]? with | some x => if x = s then some (8 : Int) else none | none => none) 0 b.length = none := by
         rw [scan_none]
         intro i _ hi
         obtain ⟨x, hx⟩ := zv (l := b) (i := i) (by omega)
         rw [hx]
         have : x ≠ s := fun e => hm (e ▸ List.mem_of_getElem? hx)
         simp [this]
        rw [this] at hr; cases hr
       simp [hm, h8]
     | none =>
       have hm : ¬ s ∈ b := by
        intro hm
        obtain ⟨i, hi, e⟩ := List.getElem_of_mem hm
        have := scan_none.1 hr i (by omega) (by omega)
        rw [List.getElem?_eq_getElem hi, e] at this
        simp at this
       simp [hm]
def chK (p : TP) (k : Nat) : Option (Int × Int) := match p.Channels[k]? with
 | some c => if nmE c.s_ ((p.Channels.take k).map (·.s_)) ≠ 0 then some ((k : Int), nmE c.s_ ((p.Channels.take k).map (·.s_))) else if qe p.Lattice c.at_ = true then none else some ((k : Int), 7)
 | none => none
def chC (p : TP) : Int × Int := if (16 : Int) < (p.Channels.length : Int) then (-1, 3) else match zw (chK p) 0 p.Channels.length with | some r => r | none => (0, 0)
theorem zdb (p : TP) (hs : ∀ c ∈ p.Channels, c.s_.length <= 1000000) : ztf p = some (chC p) := by
 unfold ztf chC
 simp only [List.length_map]
 by_cases h : (16 : Int) < (p.Channels.length : Int)
 . simp [h]
 simp only [h, decide_false, cond_false, if_false]
 refine (qq p.Channels.length (fun k => ((k : Int), (p.Channels.take k).map (·.s_))) (chK p) () (fun k hk => ?_) ?_ rfl).trans ?_
 . obtain ⟨x, hx⟩ := zv hk
   have hlt : (k : Int) < (p.Channels.length : Int) := by omega
   have hw : IntKind.wrap .i64 ((k : Int) + 1) = ((k + 1 : Nat) : Int) := w64 (by omega) (by omega)
   have n1 : (0 : Int) <= (k : Int) := by omega
   have e : (p.Channels.take (k + 1)).map (·.s_) = (p.Channels.take k).map (·.s_) ++ [x.s_] := by rw [List.take_add_one, hx]; simp
   simp only [hlt, decide_true, cond_true, zh, n1, if_true, Int.toNat_natCast, hx, Option.bind_some, zg, hw, zbm x.s_ (hs x (List.mem_of_getElem? hx)), uu, chK, e]
   unfold nmE
   cases exN x.s_ with
   | false => simp
   | true =>
     cases hi : inL x.s_ ((p.Channels.take k).map (·.s_)) with
     | true =>
       have := inL_iff.1 hi
       simp only [Bool.not_true, cond_false, cond_true, if_true, if_pos this]
       simp
     | false =>
       have : ¬ x.s_ ∈ (p.Channels.take k).map (·.s_) := fun h => by rw [inL_iff.2 h] at hi; cases hi
       simp only [Bool.not_true, cond_false, if_true, if_neg this]
       cases qe p.Lattice x.at_ <;> simp
 . simp
 . cases zw (chK p) 0 p.Channels.length <;> rfl
theorem ze6 (p : TP) (hs : ∀ c ∈ p.Channels, c.s_.length <= 1000000) : ztn p = some (chC p) := by
 unfold ztn chC
 simp only [List.length_map]
 by_cases h : (16 : Int) < (p.Channels.length : Int)
 . simp [h]
 simp only [h, decide_false, cond_false, if_false]
 refine (qq p.Channels.length (fun k => ((k : Int), (p.Channels.take k).map (·.s_))) (chK p) () (fun k hk => ?_) ?_ rfl).trans ?_
 . obtain ⟨x, hx⟩ := zv hk
   have hlt : (k : Int) < (p.Channels.length : Int) := by omega
   have hw : IntKind.wrap .i64 ((k : Int) + 1) = ((k + 1 : Nat) : Int) := w64 (by omega) (by omega)
   have n1 : (0 : Int) <= (k : Int) := by omega
   have e : (p.Channels.take (k + 1)).map (·.s_) = (p.Channels.take k).map (·.s_) ++ [x.s_] := by rw [List.take_add_one, hx]; simp
   have hl : ((p.Channels.take k).map (·.s_)).length <= 16 := by rw [List.length_map, List.length_take]; omega
   simp only [hlt, decide_true, cond_true, zh, n1, if_true, Int.toNat_natCast, hx, Option.bind_some, zg, hw, zbj x.s_ _ (hs x (List.mem_of_getElem? hx)) (Nat.le_trans hl (by omega)), xy, chK, e, zk, List.length_map]
   rw [if_pos (by rw [List.length_map] at hl; omega)]
   by_cases h0 : nmE x.s_ ((p.Channels.take k).map (·.s_)) = 0
   . simp only [h0]
     cases qe p.Lattice x.at_ <;> simp
   . generalize nmE x.s_ ((p.Channels.take k).map (·.s_)) = z at h0 ⊢
     simp [h0]
 . simp
 . cases zw (chK p) 0 p.Channels.length <;> rfl
open Go
def vrK (g : TY -> Int) (p : TP) (k : Nat) : Option (Int × Int) := match p.Vars[k]? with
 | some c => if nmE c.Name ((p.Vars.take k).map (·.Name)) ≠ 0 then some ((k : Int), nmE c.Name ((p.Vars.take k).map (·.Name))) else if g c.Type_ = 0 then none else some ((k : Int), g c.Type_)
 | none => none
def vrC (g : TY -> Int) (p : TP) : Int × Int := if (32 : Int) < (p.Vars.length : Int) then (-1, 3) else match zw (vrK g p) 0 p.Vars.length with | some r => r | none => (0, 0)
theorem zix (g : TY -> Int) (p : TP) (hs : ∀ c ∈ p.Vars, c.Name.length <= 1000000) (hg : ∀ c ∈ p.Vars, zjm p.Lattice c.Type_ = some (g c.Type_)) : zsn p = some (vrC g p) := by
 unfold zsn vrC
 simp only [List.length_map]
 by_cases h : (32 : Int) < (p.Vars.length : Int)
 . simp [h]
 simp only [h, decide_false, cond_false, if_false]
 refine (qq p.Vars.length (fun k => ((k : Int), (p.Vars.take k).map (·.Name))) (vrK g p) () (fun k hk => ?_) ?_ rfl).trans ?_
 . obtain ⟨x, hx⟩ := zv hk
   have hlt : (k : Int) < (p.Vars.length : Int) := by omega
   have hw : IntKind.wrap .i64 ((k : Int) + 1) = ((k + 1 : Nat) : Int) := w64 (by omega) (by omega)
   have n1 : (0 : Int) <= (k : Int) := by omega
   have e : (p.Vars.take (k + 1)).map (·.Name) = (p.Vars.take k).map (·.Name) ++ [x.Name] := by rw [List.take_add_one, hx]; simp
   simp only [hlt, decide_true, cond_true, zh, n1, if_true, Int.toNat_natCast, hx, Option.bind_some, zg, hw, zbm x.Name (hs x (List.mem_of_getElem? hx)), hg x (List.mem_of_getElem? hx), vrK, e]
   unfold nmE
   cases exN x.Name with
   | false => simp
   | true =>
     cases hi : inL x.Name ((p.Vars.take k).map (·.Name)) with
     | true =>
       have := inL_iff.1 hi
       simp only [Bool.not_true, cond_false, cond_true, if_true, if_pos this]
       simp
     | false =>
       have : ¬ x.Name ∈ (p.Vars.take k).map (·.Name) := fun h => by rw [inL_iff.2 h] at hi; cases hi
       simp only [Bool.not_true, cond_false, if_true, if_neg this]
       by_cases hz : g x.Type_ = 0 <;> simp [hz]
 . simp
 . cases zw (vrK g p) 0 p.Vars.length <;> rfl
theorem zkw (g : TY -> Int) (p : TP) (hs : ∀ c ∈ p.Vars, c.Name.length <= 1000000) (hg : ∀ c ∈ p.Vars, znz p.Lattice c.Type_ = some (g c.Type_)) : zrh p = some (vrC g p) := by
 unfold zrh vrC
 simp only [List.length_map]
 by_cases h : (32 : Int) < (p.Vars.length : Int)
 . simp [h]
 simp only [h, decide_false, cond_false, if_false]
 refine (qq p.Vars.length (fun k => ((k : Int), (p.Vars.take k).map (·.Name))) (vrK g p) () (fun k hk => ?_) ?_ rfl).trans ?_
 . obtain ⟨x, hx⟩ := zv hk
   have hlt : (k : Int) < (p.Vars.length : Int) := by omega
   have hw : IntKind.wrap .i64 ((k : Int) + 1) = ((k + 1 : Nat) : Int) := w64 (by omega) (by omega)
   have n1 : (0 : Int) <= (k : Int) := by omega
   have e : (p.Vars.take (k + 1)).map (·.Name) = (p.Vars.take k).map (·.Name) ++ [x.Name] := by rw [List.take_add_one, hx]; simp
   have hl : ((p.Vars.take k).map (·.Name)).length <= 32 := by rw [List.length_map, List.length_take]; omega
   simp only [hlt, decide_true, cond_true, zh, n1, if_true, Int.toNat_natCast, hx, Option.bind_some, zg, hw, zbj x.Name _ (hs x (List.mem_of_getElem? hx)) (Nat.le_trans hl (by omega)), hg x (List.mem_of_getElem? hx), vrK, e, zk, List.length_map]
   rw [if_pos (by rw [List.length_map] at hl; omega)]
   by_cases h0 : nmE x.Name ((p.Vars.take k).map (·.Name)) = 0
   . simp only [h0]
     by_cases hz : g x.Type_ = 0 <;> simp [hz]
   . generalize nmE x.Name ((p.Vars.take k).map (·.Name)) = z at h0 ⊢
     simp [h0]
 . simp
 . cases zw (vrK g p) 0 p.Vars.length <;> rfl
open Go
theorem zpu (x : Int) (h0 : 0 <= x) (h1 : x < 256) : Tot (zoq x) fun y => ∀ n : Nat, n <= 8 -> x.toNat < 2 ^ n -> decide (y < (n : Int)) = !decide (x.toNat = 2 ^ n - 1) := by
 unfold zoq
 rw [qo]
 refine ⟨h0, ?_⟩
 have key : ∀ l : List UInt8, (∀ x : Fin 256, ∀ n : Fin 9, (l[x.val]?.map fun y => decide (x.val < 2 ^ n.val -> decide (IntKind.wrap .i64 (y.toNat : Int) < (n.val : Int)) = !decide (x.val = 2 ^ n.val - 1))) = some true) ->
  ∃ y, l[x.toNat]? = some y /\ Tot (zg (IntKind.wrap .i64 (y.toNat : Int)) fun z => some z) fun y => ∀ n : Nat, n <= 8 -> x.toNat < 2 ^ n -> decide (y < (n : Int)) = !decide (x.toNat = 2 ^ n - 1) := by
  intro l hl
  cases e : l[x.toNat]? with
  | none =>
    have := hl ⟨x.toNat, by omega⟩ ⟨0, by omega⟩
    simp only [e] at this
    cases this
  | some y =>
    refine ⟨y, rfl, .mk fun n hn hx => ?_⟩
    have := hl ⟨x.toNat, by omega⟩ ⟨n, by omega⟩
    simp only [e, Option.map_some, Option.some.injEq, decide_eq_true_eq] at this
    exact this hx
 exact key _ (by decide +kernel)
theorem zkg {l : TL} (h : LatIn l) : zm9 l = some (if (qD l).2 = 0 then ((qx l : Int), 0) else (0, (qD l).2)) := by
 unfold zm9
 rw [zpi h [] (by simp)]
 simp only [Option.bind_some, zco, List.all_nil, if_true]
 by_cases hk : (qD l).2 = 0
 case neg => simp [hk]
 have ok := wZ h hk
 simp only [hk, if_true, decide_true, Bool.not_true, cond_false]
 obtain ⟨o, e1, on, ol, _, ou, _⟩ := zn2 l ok.u8 ok.le ok.len
 rw [e1]
 simp only [Option.bind_some]
 have hb := (zbu h hk).1
 have hend : ztj o.up_ o.n_ = some (qx l : Int) := by
  unfold ztj
  rw [on]
  have hw : IntKind.wrap .i64 ((l.Names.length : Int) - 1) = ((l.Names.length - 1 : Nat) : Int) := by
   have := ok.pos; have := ok.le
   rw [w64 (by omega) (by omega)]; omega
  have hle := ok.le
  have hpos := ok.pos
  have hrun := zf9 (step := fun (s585 : Int) =>
   zg (IntKind.wrap IntKind.i64 ((l.Names.length : Int) - (1 : Int))) fun x591 =>
   cond (decide (s585 < x591))
   (zk ((0 : Int) <= s585 /\ s585 < (↑(8 : Nat) : Int)) (
   zh (o.up_) ((↑(Int.toNat s585) : Int)) fun x593 =>
   Option.bind (zoq (x593)) fun x594 =>
   cond (decide (x594 < (l.Names.length : Int)))
   (zg (IntKind.wrap IntKind.i64 (s585 + (1 : Int))) fun x596 =>
   some (Sum.inl (x596)))
   (some (Sum.inr (Sum.inl (β := Int) s585)))))
   (some (Sum.inr (Sum.inl s585)))) (l.Names.length - 1) (fun k => (k : Int)) (fun k => if k = qx l then some (Sum.inl (k : Int)) else none) (Sum.inl ((l.Names.length - 1 : Nat) : Int)) (fun k hk2 => by
     have hlt : (k : Int) < ((l.Names.length - 1 : Nat) : Int) := by omega
     have n1 : (0 : Int) <= (k : Int) := by omega
     have n2 : (k : Int) < ((8 : Nat) : Int) := by omega
     have hw2 : IntKind.wrap .i64 ((k : Int) + 1) = ((k + 1 : Nat) : Int) := w64 (by omega) (by omega)
     obtain ⟨x, hx⟩ := zv (l := l.Up) (i := k) (by have := ok.len; omega)
     have hx' := ok.u8.get hx
     have hox : o.up_[k]? = some x := by rw [ou k (by omega)]; exact hx
     obtain ⟨y, ey, hy⟩ := zpu x hx'.1 hx'.2
     have hux : x.toNat = upN l k := by unfold upN; rw [List.getD_eq_getElem?_getD, hx]; rfl
     have hf := zol h hk (b := k) (by omega)
     have hlt2 : x.toNat < 2 ^ l.Names.length := by
      have h1 := (zec h hk).1 k (by omega)
      unfold jX at h1
      simp only [Bool.and_eq_true, decide_eq_true_eq] at h1
      rw [hux]; exact h1.1.1
     have hd := hy l.Names.length hle hlt2
     rw [hux] at hd
     simp only [zg, hw, hlt, decide_true, cond_true, zk, n1, n2, and_self, if_true, zh, Int.toNat_natCast, hox, Option.bind_some, ey, hw2, hd]
     by_cases hq : k = qx l
     . have := hf.2 hq
       simp only [this, if_pos hq, decide_true, Bool.not_true, cond_false]
     . have : ¬ upN l k = 2 ^ l.Names.length - 1 := fun e => hq (hf.1 e)
       simp only [this, if_neg hq, decide_false, Bool.not_false, cond_true]) (by
     simp only [zg, hw]
     simp)
  have hs0 : ((0 : Nat) : Int) = 0 := rfl
  simp only [hs0] at hrun
  rw [hrun]
  have hsc : (zw (fun k => if k = qx l then some (Sum.inl (α := Int) (β := Int) (k : Int)) else none) 0 (l.Names.length - 1)).getD (Sum.inl ((l.Names.length - 1 : Nat) : Int)) = Sum.inl (qx l : Int) := by
   cases e : zw (fun k => if k = qx l then some (Sum.inl (α := Int) (β := Int) (k : Int)) else none) 0 (l.Names.length - 1) with
   | some r =>
     have : r = Sum.inl (qx l : Int) := uW (v := Sum.inl (qx l : Int)) (fun i => by
      by_cases hi : i = qx l
      . exact .inl (by rw [if_pos hi, hi])
      . exact .inr (by rw [if_neg hi])) e
     rw [this]; rfl
   | none =>
     have hn := scan_none.1 e
     rcases Nat.lt_or_ge (qx l) (l.Names.length - 1) with g | g
     . have := hn (qx l) (by omega) (by omega)
       simp at this
     . have : qx l = l.Names.length - 1 := by omega
       rw [this]; rfl
  rw [hsc]
  rfl
 rw [hend]
 rfl
open Go
theorem zk5 {l : TL} (h : LatIn l) : zov l = some (if (qD l).2 = 0 then ((qx l : Int), 0) else (0, (qD l).2)) := by
 apply Tot.eq
 unfold zov
 rw [ziw h]
 simp only [Option.bind_some]
 by_cases hk : (qD l).2 = 0
 case neg =>
  have : zco l [0, 0] = (qD l).2 := by unfold zco; rw [if_neg hk]
  simp only [this, hk, decide_false, Bool.not_false, cond_true, if_false]
  exact .mk rfl
 have ok := wZ h hk
 have hpos := ok.pos
 have hle := ok.le
 have h0n : (0 : Int) < (l.Names.length : Int) := by omega
 have hl0 : wq l 0 = true := by unfold wq; rw [decide_eq_true (Int.le_refl 0), decide_eq_true h0n]; rfl
 have ha : zco l [0, 0] = 0 := by unfold zco; rw [if_pos hk, List.all_cons, List.all_cons, hl0]; rfl
 simp only [ha, hk, decide_true, Bool.not_true, cond_false, if_true]
 obtain ⟨d, e1, dl, dd⟩ := zhj ok.u8 ok.le ok.len
 rw [e1]
 simp only [Option.bind_some, zx, List.length_map]
 refine Tot.count l.Names.length (fun k s => s.1 = (k : Int) /\ ∃ v : Nat, s.2 = (v : Int) /\ v < l.Names.length /\ ∀ i, i < l.Names.length -> up l i v = true -> ∀ j, j < k -> up l i j = true) ?_ ⟨rfl, 0, rfl, by omega, fun i _ _ j hj => by omega⟩
 rintro k ⟨i, w⟩ hkn ⟨h0, v, h1, h2, h3⟩
 simp only at h0 h1
 subst h0 h1
 simp only [zG, decide_eq_true_eq, decide_eq_false_iff_not]
 refine ⟨fun hlt => ?_, fun hlt => ?_⟩
 . obtain ⟨c, hc, hcn, hg⟩ := zn8 h hk (a := k) (b := v) (by omega) h2
   rw [uw d (dnN l) k v (by omega) (fun c hc => dd c (by omega)) (fun c hc2 => zhx l c hle) (by omega) (by omega)]
   unfold zc7
   rw [dl, hc]
   simp only [Option.bind_some, zg, zr, Sum.elim_inl]
   refine ⟨by omega, w64 (by omega) (by omega), c, rfl, hcn, fun i hi hu j hj => ?_⟩
   rw [zh9 hi hg] at hu
   simp only [Bool.and_eq_true] at hu
   rcases Nat.lt_or_ge j k with g | g
   . exact h3 i hi hu.2 j g
   . have : j = k := by omega
     rw [this]; exact hu.1
 . have hke : k = l.Names.length := by omega
   simp only [zr, Sum.elim_inl, Sum.elim_inr]
   have := zu6 h hk h2 fun a ha => h3 v h2 (ok.self v h2) a (by omega)
   rw [<- this]
open Go
theorem zv1 {l : TL} (hu : U8s l.Up) {a b : Nat} (ha : a < l.Up.length) (hb : b <= 8) : zm6 l a b = some (up l a b) := by
 unfold zm6
 obtain ⟨x, hx⟩ := zv ha
 have hx' := hu.get hx
 have key : ∀ u : Fin 256, ∀ b : Fin 9, decide (bits .and .u8 (Int.fdiv (u.val : Int) (2 ^ min b.val (IntKind.bits .u8))) 1 = 1) = Nat.testBit u b := by decide +kernel
 have := key ⟨x.toNat, by omega⟩ ⟨b, by omega⟩
 simp only [Int.toNat_of_nonneg hx'.1] at this
 simp only [Int.natCast_nonneg, zh, Int.toNat_natCast, if_true, hx, Option.bind_some, zk, this, jE hx]
theorem zii {l : TL} (h : LatIn l) (hk : (qD l).2 = 0) (xs : List Int) (hx : xs.length <= 64) (hl : ∀ x ∈ xs, wq l x = true) : zr9 l xs = some (0, 0) := by
 unfold zr9
 rw [zas h]
 have h64 : ¬ (64 : Int) < (xs.length : Int) := by omega
 simp only [Option.bind_some, hk, decide_true, Bool.not_true, cond_false, List.length_map, h64, decide_false]
 refine (wK xs.length (fun k => (k : Int)) () (fun k hk => ?_) (by simp) rfl).trans rfl
 obtain ⟨x, hx⟩ := zv hk
 have hq := hl x (List.mem_of_getElem? hx)
 unfold wq at hq
 simp only [Bool.and_eq_true, decide_eq_true_eq] at hq
 have hlt : (k : Int) < (xs.length : Int) := by omega
 have hw : IntKind.wrap .i64 ((k : Int) + 1) = ((k + 1 : Nat) : Int) := w64 (by omega) (by omega)
 have n1 : (0 : Int) <= (k : Int) := by omega
 have n2 : ¬ x < 0 := by omega
 have n3 : ¬ (l.Names.length : Int) <= x := by omega
 simp only [hlt, decide_true, cond_true, zh, n1, if_true, Int.toNat_natCast, hx, Option.bind_some, zg, hw, n2, n3, decide_false, cond_false]
def flK (l : TL) (xs : List Int) (a : Int) (k : Nat) : Option Int := match xs[k]? with
 | some x => if up l x.toNat a.toNat = true then none else some (k : Int)
 | none => none
def flV (l : TL) (xs : List Int) (a : Int) : Int × Int := match zw (flK l xs a) 0 xs.length with | some r => (r, 25) | none => (0, 0)
theorem zw7 {l : TL} (h : LatIn l) (hk : (qD l).2 = 0) (xs : List Int) (hx : xs.length <= 64) (hl : ∀ x ∈ xs, wq l x = true) (a : Int) (ha : wq l a = true) :
 zjl l xs a = some (flV l xs a) := by
 have ok := wZ h hk
 have hle := ok.le
 have hlen := ok.len
 unfold zjl
 rw [zii h hk xs hx hl]
 unfold wq at ha
 simp only [Bool.and_eq_true, decide_eq_true_eq] at ha
 have n2 : ¬ a < 0 := by omega
 have n3 : ¬ (l.Names.length : Int) <= a := by omega
 simp only [Option.bind_some, decide_true, Bool.not_true, cond_false, n2, n3, decide_false, List.length_map]
 have hi : zs0 xs (l, a) = some (match zw (flK l xs a) 0 xs.length with | some r => r | none => -1) := by
  unfold zs0
  simp only [List.length_map]
  refine (qq xs.length (fun k => (k : Int)) (flK l xs a) () (fun k hk => ?_) (by simp) rfl).trans ?_
  . obtain ⟨x, hx⟩ := zv hk
    have hq := hl x (List.mem_of_getElem? hx)
    unfold wq at hq
    simp only [Bool.and_eq_true, decide_eq_true_eq] at hq
    have hlt : (k : Int) < (xs.length : Int) := by omega
    have hw : IntKind.wrap .i64 ((k : Int) + 1) = ((k + 1 : Nat) : Int) := w64 (by omega) (by omega)
    have n1 : (0 : Int) <= (k : Int) := by omega
    have hb : zm6 l x a = some (up l x.toNat a.toNat) := by
     have := zv1 ok.u8 (a := x.toNat) (b := a.toNat) (by omega) (by omega)
     rwa [Int.toNat_of_nonneg hq.1, Int.toNat_of_nonneg ha.1] at this
    simp only [hlt, decide_true, cond_true, zh, n1, if_true, Int.toNat_natCast, hx, Option.bind_some, zg, hw, zwu, hb, flK]
    cases up l x.toNat a.toNat <;> simp
  . cases zw (flK l xs a) 0 xs.length <;> rfl
 rw [hi]
 unfold flV
 cases e : zw (flK l xs a) 0 xs.length with
 | none => simp
 | some r =>
   have : 0 <= r := by
    have key : ∀ {j k : Nat} {b : Int}, zw (flK l xs a) k j = some b -> 0 <= b := by
     intro j
     induction j with
     | zero => intro k b h; cases h
     | succ j ih =>
       intro k b h
       simp only [zw] at h
       cases hf : flK l xs a k with
       | none => rw [hf] at h; exact ih h
       | some z =>
         rw [hf] at h
         cases h
         unfold flK at hf
         split at hf
         . split at hf
           . cases hf
           . cases hf; omega
         . cases hf
    exact key e
   simp [this]
end Go.Sx.O
noncomputable section
namespace Go.Sx.O
open Go
def yz (l : TL) (t : TY) : Int :=
 if t.Rank < 0 \/ 2 < t.Rank then 7
 else if qe l t.Axes.1 = true /\ qe l t.Axes.2 = true /\ qe l t.Data = true then
  if ([t.Axes.1, t.Axes.2].drop t.Rank.toNat).all (fun x => decide (x = (qx l : Int))) = true then
   if ([t.Axes.1, t.Axes.2].take t.Rank.toNat).all (fun x => up l x.toNat t.Data.toNat) = true then 0 else 25
  else 6
 else 7
def wM (l : TL) (t : TY) : Int := if (qD l).2 = 0 then (if t.Kind = 1 \/ t.Kind = 2 then yz l t else 7) else (qD l).2
theorem zvh {β : Type} (v : β) (b : Int) (xs : List Int) (hx : xs.length <= 2) : zw (fun k => match xs[k]? with | some x => if x = b then none else some v | none => none) 0 xs.length = if xs.all (fun x => decide (x = b)) = true then none else some v := by
 match xs, hx with
 | [], _ => rfl
 | [x], _ => by_cases h : x = b <;> simp [zw, h]
 | [x, y], _ => by_cases h : x = b <;> by_cases g : y = b <;> simp [zw, h, g]
theorem zx3 (l : TL) (a : Int) (xs : List Int) (hx : xs.length <= 2) : (flV l xs a).2 = if xs.all (fun x => up l x.toNat a.toNat) = true then 0 else 25 := by
 match xs, hx with
 | [], _ => rfl
 | [x], _ => cases h : up l x.toNat a.toNat <;> simp [flV, zw, flK, h]
 | [x, y], _ => cases h : up l x.toNat a.toNat <;> cases g : up l y.toNat a.toNat <;> simp [flV, zw, flK, h, g]
theorem zv5 {l : TL} (h : LatIn l) (hk : (qD l).2 = 0) (t : TY) (hr : ¬ (t.Rank < 0 \/ 2 < t.Rank)) (l1 : qe l t.Axes.1 = true) (l2 : qe l t.Axes.2 = true) (l3 : qe l t.Data = true) :
 (Option.bind (lpO (fun (s612 : Int) =>
 cond (decide (s612 < (↑(List.length (List.drop (Int.toNat t.Rank) (List.take (Int.toNat (↑(2 : Nat) : Int)) [SV.int IntKind.i64 t.Axes.fst, SV.int IntKind.i64 t.Axes.snd]))) : Int)))
 (zh (List.drop (Int.toNat t.Rank) (List.take (Int.toNat (↑(2 : Nat) : Int)) [t.Axes.fst, t.Axes.snd])) (s612) fun x617 =>
 cond (!decide (x617 = (qx l : Int)))
 (some (Sum.inr (Sum.inr ((6 : Int)))))
 (zg (IntKind.wrap IntKind.i64 (s612 + (1 : Int))) fun x619 =>
 some (Sum.inl (x619))))
 (some (Sum.inr (Sum.inl (()))))) ((0 : Int)))
 (Sum.elim (fun (_ : Unit) =>
 zk ((0 : Int) <= t.Rank /\ t.Rank <= (↑(2 : Nat) : Int)) (
 Option.bind (zjl l (List.drop (Int.toNat (0 : Int)) (List.take (Int.toNat t.Rank) [t.Axes.fst, t.Axes.snd])) (t.Data)) fun x653 =>
 cond (!decide (x653.snd = (0 : Int)))
 (some (x653.snd))
 (some ((0 : Int))))) some)) = some (yz l t) := by
 have e0 : List.take (Int.toNat ((2 : Nat) : Int)) [t.Axes.fst, t.Axes.snd] = [t.Axes.fst, t.Axes.snd] := rfl
 have e1 : List.take (Int.toNat ((2 : Nat) : Int)) [SV.int IntKind.i64 t.Axes.fst, SV.int IntKind.i64 t.Axes.snd] = [SV.int IntKind.i64 t.Axes.fst, SV.int IntKind.i64 t.Axes.snd] := rfl
 have e2 : List.drop (Int.toNat 0) (List.take (Int.toNat t.Rank) [t.Axes.fst, t.Axes.snd]) = List.take (Int.toNat t.Rank) [t.Axes.fst, t.Axes.snd] := rfl
 rw [e0, e1, e2]
 have hlen : (List.drop (Int.toNat t.Rank) [SV.int IntKind.i64 t.Axes.fst, SV.int IntKind.i64 t.Axes.snd]).length = (List.drop (Int.toNat t.Rank) [t.Axes.fst, t.Axes.snd]).length := by simp
 rw [hlen]
 have hd2 : (List.drop (Int.toNat t.Rank) [t.Axes.fst, t.Axes.snd]).length <= 2 := by simp
 have ht2 : (List.take (Int.toNat t.Rank) [t.Axes.fst, t.Axes.snd]).length <= 2 := by simp; omega
 have htl : ∀ x ∈ List.take (Int.toNat t.Rank) [t.Axes.fst, t.Axes.snd], wq l x = true := fun x hx => by
  have := List.mem_of_mem_take hx
  simp only [List.mem_cons, List.not_mem_nil, or_false] at this
  rcases this with rfl | rfl
  . exact l1
  . exact l2
 unfold yz
 rw [if_neg hr, if_pos ⟨l1, l2, l3⟩]
 generalize hD : List.drop (Int.toNat t.Rank) [t.Axes.fst, t.Axes.snd] = D at hd2 ⊢
 generalize hT : List.take (Int.toNat t.Rank) [t.Axes.fst, t.Axes.snd] = T at ht2 htl ⊢
 refine (qq D.length (fun k => (k : Int)) (fun k => match D[k]? with | some x => if x = (qx l : Int) then none else some (6 : Int) | none => none) () (fun k hk => ?_) (by simp) rfl).trans ?_
 . obtain ⟨x, hx⟩ := zv hk
   have hlt : (k : Int) < (D.length : Int) := by omega
   have hw : IntKind.wrap .i64 ((k : Int) + 1) = ((k + 1 : Nat) : Int) := w64 (by omega) (by omega)
   have n1 : (0 : Int) <= (k : Int) := by omega
   simp only [hlt, decide_true, cond_true, zh, n1, if_true, Int.toNat_natCast, hx, Option.bind_some, zg, hw]
   by_cases hb : x = (qx l : Int) <;> simp [hb]
 . rw [zvh (6 : Int) (qx l : Int) D hd2]
   by_cases hall : D.all (fun x => decide (x = (qx l : Int))) = true
   . simp only [hall, if_true]
     unfold zk
     rw [if_pos (by omega), zw7 h hk T (by omega) htl t.Data l3]
     have := zx3 l t.Data T ht2
     simp only [Option.bind_some]
     rw [this]
     split <;> rfl
   . rw [if_neg hall, if_neg hall]
end Go.Sx.O
end
namespace Go.Sx.O
open Go
theorem zjf {l : TL} (h : LatIn l) (t : TY) : zjm l t = some (wM l t) := by
 unfold zjm wM
 rw [zkg h]
 by_cases hk : (qD l).2 = 0
 case neg => simp [hk]
 simp only [hk, if_true, Option.bind_some, decide_true, Bool.not_true, cond_false, uu]
 by_cases r1 : t.Rank < 0
 . by_cases k1 : t.Kind = 1 <;> by_cases k2 : t.Kind = 2 <;> simp [k1, k2, r1, yz]
 by_cases r2 : 2 < t.Rank
 . by_cases k1 : t.Kind = 1 <;> by_cases k2 : t.Kind = 2 <;> simp [k1, k2, r1, r2, yz]
 have hr : ¬ (t.Rank < 0 \/ 2 < t.Rank) := by omega
 have hside : (0 : Int) <= t.Rank /\ t.Rank <= ((2 : Nat) : Int) := by omega
 cases l1 : qe l t.Axes.fst with
 | false => by_cases k1 : t.Kind = 1 <;> by_cases k2 : t.Kind = 2 <;> simp [k1, k2, r1, r2, yz, l1]
 | true =>
   cases l2 : qe l t.Axes.snd with
   | false => by_cases k1 : t.Kind = 1 <;> by_cases k2 : t.Kind = 2 <;> simp [k1, k2, r1, r2, yz, l1, l2]
   | true =>
     cases l3 : qe l t.Data with
     | false => by_cases k1 : t.Kind = 1 <;> by_cases k2 : t.Kind = 2 <;> simp [k1, k2, r1, r2, yz, l1, l2, l3]
     | true =>
       have key := zv5 h hk t hr l1 l2 l3
       simp only [Bool.not_true, cond_false, r1, r2, decide_false]
       by_cases k1 : t.Kind = 1
       . simp only [k1, decide_true, Bool.not_true, cond_false, true_or, if_true]
         rw [zk, if_pos hside]
         exact key
       . by_cases k2 : t.Kind = 2
         . simp only [k1, k2, decide_true, decide_false, Bool.not_true, Bool.not_false, cond_true, cond_false, or_true, if_true]
           rw [zk, if_pos hside]
           exact key
         . simp [k1, k2]
open Go
def bK {β : Type} (v : β) (b : Int) (xs : List Int) (k : Nat) : Option β := match xs[k]? with | some x => if x = b then none else some v | none => none
theorem zAw {β : Type} (v : β) (b : Int) (xs : List Int) (hx : xs.length <= 2) : zw (bK v b xs) 0 xs.length = if xs.all (fun x => decide (x = b)) = true then none else some v := by
 match xs, hx with
 | [], _ => rfl
 | [x], _ => by_cases h : x = b <;> simp [zw, bK, h]
 | [x, y], _ => by_cases h : x = b <;> by_cases g : y = b <;> simp [zw, bK, h, g]
def uK {β : Type} (v : β) (l : TL) (a : Int) (xs : List Int) (k : Nat) : Option β := match xs[k]? with | some x => if up l x.toNat a.toNat = true then none else some v | none => none
theorem zAj {β : Type} (v : β) (l : TL) (a : Int) (xs : List Int) (hx : xs.length <= 2) : zw (uK v l a xs) 0 xs.length = if xs.all (fun x => up l x.toNat a.toNat) = true then none else some v := by
 match xs, hx with
 | [], _ => rfl
 | [x], _ => cases h : up l x.toNat a.toNat <;> simp [zw, uK, h]
 | [x, y], _ => cases h : up l x.toNat a.toNat <;> cases g : up l y.toNat a.toNat <;> simp [zw, uK, h, g]
theorem zky {l : TL} (h : LatIn l) (hk : (qD l).2 = 0) (t : TY) (hr : ¬ (t.Rank < 0 \/ 2 < t.Rank)) (l1 : qe l t.Axes.1 = true) (l2 : qe l t.Axes.2 = true) (l3 : qe l t.Data = true) :
 (Option.bind (lpO (fun (s598 : Int) =>
 cond (decide (s598 < (2 : Int)))
 (zk ((0 : Int) <= s598 /\ s598 < (↑(2 : Nat) : Int)) (
 zh ([t.Axes.fst, t.Axes.snd]) ((↑(Int.toNat s598) : Int)) fun x604 =>
 cond (!decide (x604 = (qx l : Int)))
 (some (Sum.inr (Sum.inr ((6 : Int)))))
 (zg (IntKind.wrap IntKind.i64 (s598 + (1 : Int))) fun x606 =>
 some (Sum.inl (x606)))))
 (some (Sum.inr (Sum.inl (()))))) (t.Rank))
 (Sum.elim (fun (_ : Unit) =>
 Option.bind (
 lpO (fun (s609 : Int) =>
 cond (decide (s609 < t.Rank))
 (zk ((0 : Int) <= s609 /\ s609 < (↑(2 : Nat) : Int)) (
 zh ([t.Axes.fst, t.Axes.snd]) ((↑(Int.toNat s609) : Int)) fun x614 =>
 Option.bind (Fz9 l (x614) (t.Data)) fun x615 =>
 cond (!x615)
 (some (Sum.inr (Sum.inr ((25 : Int)))))
 (zg (IntKind.wrap IntKind.i64 (s609 + (1 : Int))) fun x617 =>
 some (Sum.inl (x617)))))
 (some (Sum.inr (Sum.inl (()))))) ((0 : Int)))
 (Sum.elim (fun (_ : Unit) =>
 some ((0 : Int))) some)) some)) = some (yz l t) := by
 have ok := wZ h hk
 have hle := ok.le
 have hlen := ok.len
 unfold yz
 rw [if_neg hr, if_pos ⟨l1, l2, l3⟩]
 have l1' : wq l t.Axes.1 = true := l1
 have l2' : wq l t.Axes.2 = true := l2
 unfold qe at l1 l2 l3
 simp only [Bool.and_eq_true, decide_eq_true_eq] at l1 l2 l3
 have hB : ∀ x : Int, 0 <= x /\ x < (l.Names.length : Int) -> Fz9 l x t.Data = some (up l x.toNat t.Data.toNat) := fun x hx => by
  have := jk ok.u8 (a := x.toNat) (b := t.Data.toNat) (by omega) (by omega)
  rwa [Int.toNat_of_nonneg hx.1, Int.toNat_of_nonneg l3.1] at this
 have hdl : (2 - t.Rank).toNat = ([t.Axes.1, t.Axes.2].drop t.Rank.toNat).length := by simp; omega
 have htl : t.Rank.toNat = ([t.Axes.1, t.Axes.2].take t.Rank.toNat).length := by simp; omega
 refine (qq (2 - t.Rank).toNat (fun k => t.Rank + (k : Int)) (bK (6 : Int) (qx l : Int) ([t.Axes.1, t.Axes.2].drop t.Rank.toNat)) () (fun k hk2 => ?_) ?_ (by simp)).trans ?_
 . have hkk : t.Rank.toNat + k < 2 := by omega
   have hw : IntKind.wrap .i64 (t.Rank + (k : Int) + 1) = t.Rank + ((k + 1 : Nat) : Int) := by rw [w64 (by omega) (by omega)]; omega
   have hlt : t.Rank + (k : Int) < 2 := by omega
   have n1 : (0 : Int) <= t.Rank + (k : Int) /\ t.Rank + (k : Int) < ((2 : Nat) : Int) := by omega
   have hn : (t.Rank + (k : Int)).toNat = t.Rank.toNat + k := by omega
   obtain ⟨x, hx⟩ := zv (l := [t.Axes.1, t.Axes.2]) (i := t.Rank.toNat + k) (by simpa using hkk)
   have n0 : (0 : Int) <= ((t.Rank.toNat + k : Nat) : Int) := by omega
   simp only [hlt, decide_true, cond_true, zk, n1, and_self, if_true, zh, hn, n0, Int.toNat_natCast, hx, Option.bind_some, zg, hw, bK, List.getElem?_drop]
   by_cases hb : x = (qx l : Int) <;> simp [hb]
 . have : ¬ t.Rank + ((2 - t.Rank).toNat : Int) < 2 := by omega
   simp only [this, decide_false, cond_false]
 . rw [hdl, zAw (6 : Int) (qx l : Int) _ (by simp)]
   by_cases hall : ([t.Axes.1, t.Axes.2].drop t.Rank.toNat).all (fun x => decide (x = (qx l : Int))) = true
   . simp only [hall, if_true]
     refine (qq t.Rank.toNat (fun k => (k : Int)) (uK (25 : Int) l t.Data ([t.Axes.1, t.Axes.2].take t.Rank.toNat)) () (fun k hk2 => ?_) ?_ rfl).trans ?_
     . have hkk : k < 2 := by omega
       have hw : IntKind.wrap .i64 ((k : Int) + 1) = ((k + 1 : Nat) : Int) := w64 (by omega) (by omega)
       have hlt : (k : Int) < t.Rank := by omega
       have n1 : (0 : Int) <= (k : Int) /\ (k : Int) < ((2 : Nat) : Int) := by omega
       obtain ⟨x, hx⟩ := zv (l := [t.Axes.1, t.Axes.2]) (i := k) (by simpa using hkk)
       have hxl : wq l x = true := by
        have := List.mem_of_getElem? hx
        simp only [List.mem_cons, List.not_mem_nil, or_false] at this
        rcases this with rfl | rfl
        . exact l1'
        . exact l2'
       have hxb : 0 <= x /\ x < (l.Names.length : Int) := by unfold wq at hxl; simpa using hxl
       simp only [hlt, decide_true, cond_true, zk, n1, and_self, if_true, zh, Int.toNat_natCast, hx, Option.bind_some, zg, hw, uK, hB x hxb, List.getElem?_take, hk2]
       cases up l x.toNat t.Data.toNat <;> simp
     . have : ¬ (t.Rank.toNat : Int) < t.Rank := by omega
       simp only [this, decide_false, cond_false]
     . rw (occs := .pos [2]) [htl]
       rw [zAj (25 : Int) l t.Data _ (by simp; omega)]
       cases (List.take t.Rank.toNat [t.Axes.fst, t.Axes.snd]).all fun x => up l x.toNat t.Data.toNat <;> rfl
   . rw [if_neg hall, if_neg hall]
open Go
theorem zkx {l : TL} (h : LatIn l) (t : TY) : znz l t = some (wM l t) := by
 unfold znz wM
 rw [xp l h.u8 h.names h.name, <- zbn h]
 by_cases hk : (qD l).2 = 0
 case neg => simp [hk]
 simp only [hk, if_true, Option.bind_some, decide_true, Bool.not_true, cond_false, xy]
 by_cases r1 : t.Rank < 0
 . by_cases k1 : t.Kind = 1 <;> by_cases k2 : t.Kind = 2 <;> simp [k1, k2, r1, yz]
 by_cases r2 : 2 < t.Rank
 . by_cases k1 : t.Kind = 1 <;> by_cases k2 : t.Kind = 2 <;> simp [k1, k2, r1, r2, yz]
 have hr : ¬ (t.Rank < 0 \/ 2 < t.Rank) := by omega
 cases l1 : qe l t.Axes.fst with
 | false => by_cases k1 : t.Kind = 1 <;> by_cases k2 : t.Kind = 2 <;> simp [k1, k2, r1, r2, yz, l1]
 | true =>
   cases l2 : qe l t.Axes.snd with
   | false => by_cases k1 : t.Kind = 1 <;> by_cases k2 : t.Kind = 2 <;> simp [k1, k2, r1, r2, yz, l1, l2]
   | true =>
     cases l3 : qe l t.Data with
     | false => by_cases k1 : t.Kind = 1 <;> by_cases k2 : t.Kind = 2 <;> simp [k1, k2, r1, r2, yz, l1, l2, l3]
     | true =>
       have key := zky h hk t hr l1 l2 l3
       simp only [Bool.not_true, cond_false, r1, r2, decide_false, zk5 h, hk, if_true, Option.bind_some]
       by_cases k1 : t.Kind = 1
       . simp only [k1, decide_true, Bool.not_true, cond_false, true_or, if_true]
         exact key
       . by_cases k2 : t.Kind = 2
         . simp only [k1, k2, decide_true, decide_false, Bool.not_true, Bool.not_false, cond_true, cond_false, or_true, if_true]
           exact key
         . simp [k1, k2]
def ckK {α τ : Type} (c : α -> Bool) (v : τ) (L : List α) (j : Nat) : Option τ := match L[j]? with | some y => if c y = true then some v else none | none => none
theorem zcs {α τ : Type} (c : α -> Bool) (v : τ) (L : List α) (n : Nat) (hn : n <= L.length) : zw (ckK c v L) 0 n = if (L.take n).any c = true then some v else none := by
 by_cases h : (L.take n).any c = true
 . rw [if_pos h]
   cases e : zw (ckK c v L) 0 n with
   | some r =>
     have : r = v := uW (v := v) (fun i => by
      unfold ckK
      cases L[i]? with
      | none => exact .inr rfl
      | some x => by_cases hx : c x = true <;> simp [hx]) e
     rw [this]
   | none =>
     exfalso
     rw [List.any_eq_true] at h
     obtain ⟨x, hx, hc⟩ := h
     obtain ⟨i, hi, hxi⟩ := List.getElem_of_mem hx
     rw [List.length_take] at hi
     have := scan_none.1 e i (by omega) (by omega)
     rw [List.getElem_take] at hxi
     unfold ckK at this
     rw [List.getElem?_eq_getElem (by omega), hxi] at this
     simp [hc] at this
 . rw [if_neg h, scan_none]
   intro i _ hi
   unfold ckK
   obtain ⟨x, hx⟩ := zv (l := L) (i := i) (by omega)
   rw [hx]
   have : ¬ c x = true := fun hc => h (by
    rw [List.any_eq_true]
    exact ⟨x, List.mem_take_iff_getElem.2 ⟨i, by omega, by rw [List.getElem?_eq_getElem (by omega)] at hx; exact Option.some.inj hx⟩, hc⟩)
   simp [this]
def zcd (x y : TU) : Bool := decide (y.From = x.From) && decide (y.Goal = x.Goal)
def rlK (p : TP) (k : Nat) : Option (Int × Int) := match p.Rules[k]? with
 | some x => if qe p.Lattice x.From = true then (if qe p.Lattice x.Goal = true then (if x.From = x.Goal then some ((k : Int), 25) else if up p.Lattice x.Goal.toNat x.From.toNat = true then (if (p.Rules.take k).any (zcd x) = true then some ((k : Int), 8) else if x.K < 2 then some ((k : Int), 3) else if 400 < x.K then some ((k : Int), 3) else none) else some ((k : Int), 25)) else some ((k : Int), 7)) else some ((k : Int), 7)
 | none => none
def rlC (p : TP) : Int × Int := if (64 : Int) < (p.Rules.length : Int) then (-1, 3) else match zw (rlK p) 0 p.Rules.length with | some r => r | none => (0, 0)
theorem zA1 (x : TU) (L : List TU) : inL (x.From, x.Goal) (L.map fun y => (y.From, y.Goal)) = L.any (zcd x) := by
 rw [Bool.eq_iff_iff, inL_iff, List.any_eq_true]
 simp only [List.mem_map, Prod.mk.injEq, zcd, Bool.and_eq_true, decide_eq_true_eq]
theorem zAm {x : Int} (h0 : 0 <= x) (h1 : x < 256) {b : Nat} (hb : b <= 8) : decide (bits .and .u8 (Int.fdiv x (2 ^ min b (IntKind.bits .u8))) 1 = 0) = !Nat.testBit x.toNat b := by
 have key : ∀ u : Fin 256, ∀ b : Fin 9, decide (bits .and .u8 (Int.fdiv (u.val : Int) (2 ^ min b.val (IntKind.bits .u8))) 1 = 0) = !Nat.testBit u b := by decide +kernel
 have := key ⟨x.toNat, by omega⟩ ⟨b, by omega⟩
 simpa only [Int.toNat_of_nonneg h0] using this
theorem zhm (p : TP) (h : LatIn p.Lattice) (hk : (qD p.Lattice).2 = 0) : zsw p = some (rlC p) := by
 have ok := wZ h hk
 have hle := ok.le
 have hlen := ok.len
 unfold zsw rlC
 simp only [List.length_map]
 by_cases h6 : (64 : Int) < (p.Rules.length : Int)
 . simp [h6]
 simp only [h6, decide_false, cond_false, if_false]
 refine (qq p.Rules.length (fun k => ((k : Int), (p.Rules.take k).map fun y => (y.From, y.Goal))) (rlK p) () (fun k hk => ?_) ?_ rfl).trans ?_
 . obtain ⟨x, hx⟩ := zv hk
   have hlt : (k : Int) < (p.Rules.length : Int) := by omega
   have hw : IntKind.wrap .i64 ((k : Int) + 1) = ((k + 1 : Nat) : Int) := w64 (by omega) (by omega)
   have n1 : (0 : Int) <= (k : Int) := by omega
   have e : (p.Rules.take (k + 1)).map (fun y => (y.From, y.Goal)) = (p.Rules.take k).map (fun y => (y.From, y.Goal)) ++ [(x.From, x.Goal)] := by rw [List.take_add_one, hx]; simp
   simp only [hlt, decide_true, cond_true, zh, n1, if_true, Int.toNat_natCast, hx, Option.bind_some, zg, hw, uu, rlK, e, zA1]
   cases l1 : qe p.Lattice x.From with
   | false => simp
   | true =>
     cases l2 : qe p.Lattice x.Goal with
     | false => simp
     | true =>
       unfold qe at l1 l2
       simp only [Bool.and_eq_true, decide_eq_true_eq] at l1 l2
       obtain ⟨u, hu⟩ := zv (l := p.Lattice.Up) (i := x.Goal.toNat) (by omega)
       have hu' := ok.u8.get hu
       have hb := zAm hu'.1 hu'.2 (b := x.From.toNat) (by omega)
       have n2 : (0 : Int) <= x.Goal := l2.1
       have n3 : (0 : Int) <= x.From := l1.1
       simp only [Bool.not_true, cond_false, n2, if_true, hu, Option.bind_some, zk, n3, hb, jE hu]
       by_cases hfg : x.From = x.Goal
       . simp [hfg]
       cases hbt : Nat.testBit u.toNat x.From.toNat with
       | false => simp [hfg]
       | true =>
         cases (p.Rules.take k).any (zcd x) with
         | true => simp [hfg]
         | false =>
           by_cases k2 : x.K < 2
           . simp [hfg, k2]
           . by_cases k4 : 400 < x.K <;> simp [hfg, k2, k4]
 . simp
 . cases zw (rlK p) 0 p.Rules.length <;> rfl
theorem zi3 (p : TP) (h : LatIn p.Lattice) (hk : (qD p.Lattice).2 = 0) : zrl p = some (rlC p) := by
 have ok := wZ h hk
 have hle := ok.le
 have hlen := ok.len
 unfold zrl rlC
 simp only [List.length_map]
 by_cases h6 : (64 : Int) < (p.Rules.length : Int)
 . simp [h6]
 simp only [h6, decide_false, cond_false, if_false]
 refine (qq p.Rules.length (fun k => (k : Int)) (rlK p) () (fun k hk => ?_) ?_ rfl).trans ?_
 . obtain ⟨x, hx⟩ := zv hk
   have hlt : (k : Int) < (p.Rules.length : Int) := by omega
   have hw : IntKind.wrap .i64 ((k : Int) + 1) = ((k + 1 : Nat) : Int) := w64 (by omega) (by omega)
   have n1 : (0 : Int) <= (k : Int) := by omega
   simp only [hlt, decide_true, cond_true, zh, n1, if_true, Int.toNat_natCast, hx, Option.bind_some, zg, hw, xy, rlK]
   cases l1 : qe p.Lattice x.From with
   | false => simp
   | true =>
     cases l2 : qe p.Lattice x.Goal with
     | false => simp
     | true =>
       unfold qe at l1 l2
       simp only [Bool.and_eq_true, decide_eq_true_eq] at l1 l2
       have hB := jk ok.u8 (a := x.Goal.toNat) (b := x.From.toNat) (by omega) (by omega)
       rw [Int.toNat_of_nonneg l2.1, Int.toNat_of_nonneg l1.1] at hB
       simp only [Bool.not_true, cond_false, if_true, hB, Option.bind_some]
       by_cases hfg : x.From = x.Goal
       . simp [hfg]
       cases hbt : up p.Lattice x.Goal.toNat x.From.toNat with
       | false => simp [hfg]
       | true =>
         simp only [hfg, decide_false, cond_false, Bool.not_true, if_true, if_false]
         refine (qq k (fun j => (j : Int)) (ckK (zcd x) (Sum.inr (Sum.inr ((k : Int), (8 : Int)))) p.Rules) () (fun j hj => ?_) ?_ rfl).trans ?_
         . obtain ⟨y, hy⟩ := zv (l := p.Rules) (i := j) (by omega)
           have hlt2 : (j : Int) < (k : Int) := by omega
           have hw2 : IntKind.wrap .i64 ((j : Int) + 1) = ((j + 1 : Nat) : Int) := w64 (by omega) (by omega)
           have n2 : (0 : Int) <= (j : Int) := by omega
           simp only [hlt2, decide_true, cond_true, n2, if_true, Int.toNat_natCast, hy, Option.bind_some, hw2, ckK, zcd]
           by_cases c1 : y.From = x.From <;> by_cases c2 : y.Goal = x.Goal <;> simp [c1, c2]
         . simp
         . rw [zcs _ _ _ k (by omega)]
           cases (p.Rules.take k).any (zcd x) with
           | true => simp
           | false =>
             by_cases k2 : x.K < 2
             . simp [k2]
             . by_cases k4 : 400 < x.K <;> simp [k2, k4]
 . simp
 . cases zw (rlK p) 0 p.Rules.length <;> rfl
end Go.Sx.O
noncomputable section
namespace Go.Sx.O
open Go
structure PolIn (p : TP) : Prop where
 lat : LatIn p.Lattice
 chan : ∀ c ∈ p.Channels, c.s_.length <= 1000000
 var : ∀ c ∈ p.Vars, c.Name.length <= 1000000
def yt (p : TP) : Int × Int × Int :=
 if (qD p.Lattice).2 = 0 then (if (chC p).2 = 0 then (if (vrC (wM p.Lattice) p).2 = 0 then (if (rlC p).2 = 0 then (0, 0, 0) else (4, rlC p)) else (3, vrC (wM p.Lattice) p)) else (2, chC p)) else (1, qD p.Lattice)
theorem zev {τ : Type} {P : τ -> Prop} {f : Nat -> Option τ} (hf : ∀ i r, f i = some r -> P r) : ∀ {n k r}, zw f k n = some r -> P r := by
 intro n
 induction n with
 | zero => intro k r h; cases h
 | succ n ih =>
   intro k r h
   simp only [zw] at h
   split at h
   . rename_i b hb; cases h; exact hf _ _ hb
   . exact ih h
theorem zw8 {p : TP} (h : (rlC p).2 = 0) : rlC p = (0, 0) := by
 unfold rlC at h ⊢
 split at h
 . simp at h
 . rename_i h6
   rw [if_neg h6]
   cases e : zw (rlK p) 0 p.Rules.length with
   | none => rfl
   | some r =>
     exfalso
     rw [e] at h
     have := zev (P := fun r : Int × Int => r.2 ≠ 0) (fun i r hr => by
      unfold rlK at hr
      revert hr
      repeat' split
      all_goals (intro hr; cases hr <;> simp)) e
     exact this h
theorem za6 {p : TP} (h : PolIn p) : zmo p = some (yt p) := by
 unfold zmo yt zwp
 rw [zas h.lat, zdb p h.chan, zix (wM p.Lattice) p h.var (fun c _ => zjf h.lat _)]
 by_cases hk : (qD p.Lattice).2 = 0
 case neg => simp [hk]
 rw [zhm p h.lat hk]
 by_cases h2 : (chC p).2 = 0
 case neg => simp [hk, h2]
 by_cases h3 : (vrC (wM p.Lattice) p).2 = 0
 case neg => simp [hk, h2, h3]
 by_cases h4 : (rlC p).2 = 0
 case neg => simp [hk, h2, h3, h4]
 simp [hk, h2, h3, zw8 h4]
theorem zi1 {p : TP} (h : PolIn p) : zt1 p = some (yt p) := by
 unfold zt1 yt
 rw [xp p.Lattice h.lat.u8 h.lat.names h.lat.name, <- zbn h.lat, ze6 p h.chan, zkw (wM p.Lattice) p h.var (fun c _ => zkx h.lat _)]
 by_cases hk : (qD p.Lattice).2 = 0
 case neg => simp [hk]
 rw [zi3 p h.lat hk]
 by_cases h2 : (chC p).2 = 0
 case neg => simp [hk, h2]
 by_cases h3 : (vrC (wM p.Lattice) p).2 = 0
 case neg => simp [hk, h2, h3]
 by_cases h4 : (rlC p).2 = 0
 case neg => simp [hk, h2, h3, h4]
 simp [hk, h2, h3, h4]
theorem zzt {p : TP} (h : (yt p).2.2 = 0) : (qD p.Lattice).2 = 0 := by
 unfold yt at h
 by_cases hk : (qD p.Lattice).2 = 0
 . exact hk
 . rw [if_neg hk] at h; exact absurd h hk
theorem zjq {α : Type} {L : List α} {N : Nat} {c : α -> Bool} (h : (L.take (min L.length N)).any c = false) (hn : L.length <= N) : ∀ x ∈ L, c x = false := by
 rw [Nat.min_eq_left hn, List.take_length] at h
 simpa using h
theorem zpn (L : List (List UInt8)) : ∃ b, Fz0 L = some b /\ (b = false -> L.length <= 12 /\ ∀ s ∈ L, s.length <= 100) := by
 unfold Fz0
 simp only [List.length_map]
 rw [qq (s0 := (0 : Int)) (min L.length 20) (fun k => (k : Int)) (ckK (fun s : List UInt8 => decide ((100 : Int) < (s.length : Int))) true L) () ?_ ?_ rfl, zcs _ _ _ _ (by omega)]
 . cases h : (L.take (min L.length 20)).any (fun s => decide ((100 : Int) < (s.length : Int))) with
   | true => exact ⟨true, rfl, fun h => by cases h⟩
   | false =>
     refine ⟨_, rfl, fun h12 => ?_⟩
     have h12 : L.length <= 12 := by simp at h12; omega
     exact ⟨h12, fun s hs => by have := zjq h (by omega) s hs; simp at this; omega⟩
 . intro k hk
   obtain ⟨x, hx⟩ := zv (l := L) (i := k) (by omega)
   have hlt : (k : Int) < (L.length : Int) := by omega
   have hlt2 : (k : Int) < 20 := by omega
   have hw : IntKind.wrap .i64 ((k : Int) + 1) = ((k + 1 : Nat) : Int) := w64 (by omega) (by omega)
   have n1 : (0 : Int) <= (k : Int) := by omega
   simp only [hlt, hlt2, decide_true, cond_true, zh, n1, if_true, Int.toNat_natCast, hx, zg, hw, ckK]
   by_cases c1 : (100 : Int) < (x.length : Int) <;> simp [c1]
 . by_cases c1 : ((min L.length 20 : Nat) : Int) < (L.length : Int)
   . have c2 : ¬ ((min L.length 20 : Nat) : Int) < 20 := by omega
     simp only [c1, c2, decide_true, decide_false, cond_true, cond_false]
   . simp only [c1, decide_false, cond_false]
theorem zwv (p : TP) (hu : U8s p.Lattice.Up) : ∃ b, Fz2 p = some b /\ (b = false -> PolIn p) := by
 unfold Fz2
 simp only [List.length_map]
 rw [qq (s0 := (0 : Int)) (min p.Channels.length 25) (fun k => (k : Int)) (ckK (fun s : TR => decide ((100 : Int) < (s.s_.length : Int))) true p.Channels) () ?_ ?_ rfl, zcs _ _ _ _ (by omega)]
 rotate_left
 . intro k hk
   obtain ⟨x, hx⟩ := zv (l := p.Channels) (i := k) (by omega)
   have hlt : (k : Int) < (p.Channels.length : Int) := by omega
   have hlt2 : (k : Int) < 25 := by omega
   have hw : IntKind.wrap .i64 ((k : Int) + 1) = ((k + 1 : Nat) : Int) := w64 (by omega) (by omega)
   have n1 : (0 : Int) <= (k : Int) := by omega
   simp only [hlt, hlt2, decide_true, cond_true, zh, n1, if_true, Int.toNat_natCast, hx, zg, hw, ckK]
   by_cases c1 : (100 : Int) < (x.s_.length : Int) <;> simp [c1]
 . by_cases c1 : ((min p.Channels.length 25 : Nat) : Int) < (p.Channels.length : Int)
   . have c2 : ¬ ((min p.Channels.length 25 : Nat) : Int) < 25 := by omega
     simp only [c1, c2, decide_true, decide_false, cond_true, cond_false]
   . simp only [c1, decide_false, cond_false]
 cases hc : (p.Channels.take (min p.Channels.length 25)).any (fun s => decide ((100 : Int) < (s.s_.length : Int))) with
 | true => exact ⟨true, rfl, fun h => by cases h⟩
 | false =>
   simp only [Bool.false_eq_true, if_false]
   rw [qq (s0 := (0 : Int)) (min p.Vars.length 45) (fun k => (k : Int)) (ckK (fun s : TV => decide ((100 : Int) < (s.Name.length : Int))) true p.Vars) () ?_ ?_ rfl, zcs _ _ _ _ (by omega)]
   rotate_left
   . intro k hk
     obtain ⟨x, hx⟩ := zv (l := p.Vars) (i := k) (by omega)
     have hlt : (k : Int) < (p.Vars.length : Int) := by omega
     have hlt2 : (k : Int) < 45 := by omega
     have hw : IntKind.wrap .i64 ((k : Int) + 1) = ((k + 1 : Nat) : Int) := w64 (by omega) (by omega)
     have n1 : (0 : Int) <= (k : Int) := by omega
     simp only [hlt, hlt2, decide_true, cond_true, zh, n1, if_true, Int.toNat_natCast, hx, zg, hw, ckK]
     by_cases c1 : (100 : Int) < (x.Name.length : Int) <;> simp [c1]
   . by_cases c1 : ((min p.Vars.length 45 : Nat) : Int) < (p.Vars.length : Int)
     . have c2 : ¬ ((min p.Vars.length 45 : Nat) : Int) < 45 := by omega
       simp only [c1, c2, decide_true, decide_false, cond_true, cond_false]
     . simp only [c1, decide_false, cond_false]
   cases hv : (p.Vars.take (min p.Vars.length 45)).any (fun s => decide ((100 : Int) < (s.Name.length : Int))) with
   | true => exact ⟨true, rfl, fun h => by cases h⟩
   | false =>
     simp only [Bool.false_eq_true, if_false]
     unfold Fz1
     obtain ⟨b, e, hb⟩ := zpn p.Lattice.Names
     rw [e]
     simp only [Option.bind_some, List.length_map]
     cases b with
     | true => exact ⟨true, rfl, fun h => by cases h⟩
     | false =>
       obtain ⟨hb1, hb2⟩ := hb rfl
       simp only [cond_false, Option.bind_some]
       by_cases h12 : (12 : Int) < (p.Lattice.Up.length : Int)
       . exact ⟨true, by simp [h12], fun h => by cases h⟩
       by_cases h20 : (20 : Int) < (p.Channels.length : Int)
       . exact ⟨true, by simp [h12, h20], fun h => by cases h⟩
       by_cases h40 : (40 : Int) < (p.Vars.length : Int)
       . exact ⟨true, by simp [h12, h20, h40], fun h => by cases h⟩
       simp only [h12, h20, h40, decide_false, cond_false]
       refine ⟨_, rfl, fun _ => ⟨⟨hu, by omega, fun s hs => by have := hb2 s hs; omega⟩, fun c h => ?_, fun c h => ?_⟩⟩
       . have := zjq hc (by omega) c h; simp at this; omega
       . have := zjq hv (by omega) c h; simp at this; omega
end Go.Sx.O
end
noncomputable section
namespace Go.Sx.O
open Go
theorem zbh {r : Int} {l : Int × Int} (h : shC r l = 0) : 0 <= qO r l /\ qO r l <= 400 := by
 unfold shC at h
 unfold qO
 by_cases r0 : r = 0
 . simp [r0]
 by_cases r1 : r = 1
 . rw [if_neg r0, if_pos r1] at h
   rw [if_neg (by omega), if_pos r1]
   by_cases c1 : l.1 < 0
   . rw [if_pos c1] at h; omega
   rw [if_neg c1] at h
   by_cases c2 : l.2 = 0
   . rw [if_pos c2] at h
     by_cases c3 : 400 < l.1
     . rw [if_pos c3] at h; omega
     . omega
   . rw [if_neg c2] at h; omega
 by_cases r2 : r = 2
 . rw [if_neg r0, if_neg r1, if_pos r2] at h
   rw [if_pos r2]
   by_cases c1 : l.1 < 0
   . rw [if_pos c1] at h; omega
   by_cases c2 : l.2 < 0
   . rw [if_neg c1, if_pos c2] at h; omega
   rw [if_neg c1, if_neg c2] at h
   have := Int.mul_nonneg (a := l.1) (b := l.2) (by omega) (by omega)
   by_cases c3 : 400 < l.1
   . rw [if_pos c3] at h; omega
   by_cases c4 : 400 < l.2
   . rw [if_neg c3, if_pos c4] at h; omega
   by_cases c5 : 400 < l.1 * l.2
   . rw [if_neg c3, if_neg c4, if_pos c5] at h; omega
   . omega
 . rw [if_neg r0, if_neg r1, if_neg r2] at h; omega
theorem zf0 {a : TA} (h : yi a = 0) : a.Cells.length <= 400 := by
 unfold yi at h
 split at h
 . split at h
   . rename_i hs
     have := zbh hs
     split at h
     . omega
     . omega
   . omega
 . omega
theorem zgo (a : TA) : zeq a = some (yi a) := by
 by_cases hl : a.Cells.length <= 1000000000
 . exact zfb a hl
 unfold zeq yi
 rw [yA]
 simp only [Option.bind_some, List.length_map]
 by_cases hs : shC a.Rank a.Lens = 0
 . have hm := zbh hs
   have hne : ¬ (a.Cells.length : Int) = qO a.Rank a.Lens := by omega
   simp only [hs, if_true, decide_true, Bool.not_true, cond_false, hne, decide_false, Bool.not_false, cond_true, if_false]
   by_cases k1 : a.Kind = 1 <;> by_cases k2 : a.Kind = 2 <;> simp [k1, k2]
 . simp only [hs, if_false, decide_false, Bool.not_false, cond_true]
   by_cases k1 : a.Kind = 1 <;> by_cases k2 : a.Kind = 2 <;> simp [k1, k2]
theorem xk (a : TA) : zbv a = some (yi a) := by
 by_cases hl : a.Cells.length <= 1000000000
 . exact zg1 a hl
 unfold zbv yi
 rw [zab]
 simp only [Option.bind_some, List.length_map]
 have lp0 : ∀ (v : Int), Option.bind (lpO (fun (_ : Unit) => cond (decide ((0 : Int) < (a.Cells.length : Int))) (some (Sum.inr (Sum.inl ()) : Unit ⊕ (Unit ⊕ Int))) (some (Sum.inr (Sum.inl ())))) ()) (Sum.elim (fun _ => some v) some) = some v := by
  intro v
  rw [qy]
  cases decide ((0 : Int) < (a.Cells.length : Int)) <;> rfl
 by_cases hs : shC a.Rank a.Lens = 0
 . have hm := zbh hs
   have hne : ¬ (a.Cells.length : Int) = qO a.Rank a.Lens := by omega
   simp only [hs, if_true, decide_true, Bool.not_true, cond_false, hne, decide_false, Bool.not_false, cond_true, if_false, lp0]
   by_cases k1 : a.Kind = 1 <;> by_cases k2 : a.Kind = 2 <;> simp [k1, k2]
 . simp only [hs, if_false, decide_false, Bool.not_false, cond_true, cond_false, lp0]
   by_cases k1 : a.Kind = 1 <;> by_cases k2 : a.Kind = 2 <;> simp [k1, k2]
theorem zkj (w : List TW) : ∃ b, Fz3 w = some b /\ (b = false -> w.length <= 40 /\ ∀ x ∈ w, x.Name.length <= 100) := by
 have key : Tot (Fz3 w) fun b => b = false -> w.length <= 40 /\ ∀ x ∈ w, x.Name.length <= 100 := by
  unfold Fz3
  rw [zx]
  refine Tot.count (min w.length 50) (fun k s => s.1 = (k : Int) /\ ∀ x ∈ w.take k, x.Name.length <= 100) ?_ ⟨rfl, by simp⟩
  rintro k ⟨i, n⟩ hk ⟨h0, h1⟩
  simp only at h0
  subst h0
  simp only [zG, zr, qa, qo, Sum.elim_inl, Sum.elim_inr, decide_eq_true_eq, decide_eq_false_iff_not, Int.toNat_natCast, List.length_map]
  refine ⟨fun hlt => ⟨fun h5 => ?_, fun h5 => ?_⟩, fun hge => ?_⟩
  . obtain ⟨x, hx⟩ := zv (l := w) (i := k) (by omega)
    refine ⟨by omega, x, hx, by omega, x, hx, fun hc => ?_, fun hc => ?_⟩
    . intro h; cases h
    . rw [w64 (by omega) (by omega)]
      refine ⟨by omega, by omega, ?_⟩
      rw [List.take_add_one, hx]
      intro y hy
      simp only [List.mem_append, Option.toList_some, List.mem_singleton] at hy
      rcases hy with hy | rfl
      . exact h1 y hy
      . omega
  . refine ⟨fun _ => (fun h => by cases h), fun _ h4 => ?_⟩
    simp at h4
    omega
  . refine ⟨fun _ => (fun h => by cases h), fun _ h4 => ?_⟩
    simp at h4
    have : w.take k = w := List.take_of_length_le (by omega)
    rw [this] at h1
    exact ⟨by omega, h1⟩
 obtain ⟨b, e, h⟩ := key
 exact ⟨b, e, h⟩
def zbb (p : TP) (w : List TW) (k : Nat) : Option (Int × Int) := match w[k]?, p.Vars[k]? with
 | some x, some v => if x.Name = v.Name then (if yi x.Value = 0 then (if x.Value.Kind = v.Type_.Kind then (if x.Value.Rank = v.Type_.Rank then none else some ((k : Int), 22)) else some ((k : Int), 21)) else some ((k : Int), yi x.Value)) else some ((k : Int), 24)
 | _, _ => none
def qK (p : TP) (w : List TW) : Int × Int := if (yt p).2.2 = 0 then (if w.length = p.Vars.length then (match zw (zbb p w) 0 w.length with | some r => r | none => (0, 0)) else (-1, 3)) else (-1, (yt p).2.2)
theorem zjb {p : TP} (h : PolIn p) (w : List TW) (hw : w.length <= 1000000) : zlz p w = some (qK p w) := by
 unfold zlz qK
 rw [za6 h]
 simp only [Option.bind_some, List.length_map]
 by_cases hk : (yt p).2.2 = 0
 case neg => simp [hk]
 simp only [hk, decide_true, Bool.not_true, cond_false, if_true]
 by_cases hl : w.length = p.Vars.length
 case neg =>
  have : ¬ (w.length : Int) = (p.Vars.length : Int) := by omega
  simp [hl, this]
 have hl' : (w.length : Int) = (p.Vars.length : Int) := by omega
 simp only [hl', hl, decide_true, Bool.not_true, cond_false, if_true]
 refine (qq p.Vars.length (fun k => (k : Int)) (zbb p w) () (fun k hk => ?_) (by simp) rfl).trans ?_
 . obtain ⟨v, hv⟩ := zv hk
   obtain ⟨x, hx⟩ := zv (l := w) (i := k) (by omega)
   have hlt : (k : Int) < (p.Vars.length : Int) := by omega
   have hw : IntKind.wrap .i64 ((k : Int) + 1) = ((k + 1 : Nat) : Int) := w64 (by omega) (by omega)
   have n1 : (0 : Int) <= (k : Int) := by omega
   simp only [hlt, decide_true, cond_true, zh, n1, if_true, Int.toNat_natCast, hx, hv, Option.bind_some, zg, hw, zgo, zbb]
   by_cases c1 : x.Name = v.Name <;> by_cases c2 : yi x.Value = 0 <;> by_cases c3 : x.Value.Kind = v.Type_.Kind <;> by_cases c4 : x.Value.Rank = v.Type_.Rank <;> simp [c1, c2, c3, c4]
 . cases zw (zbb p w) 0 p.Vars.length <;> rfl
theorem zcx {p : TP} (h : PolIn p) (w : List TW) (hw : w.length <= 1000000) : zog p w = some (qK p w) := by
 unfold zog qK
 rw [zi1 h]
 simp only [Option.bind_some, List.length_map]
 by_cases hk : (yt p).2.2 = 0
 case neg => simp [hk]
 simp only [hk, decide_true, Bool.not_true, cond_true, cond_false, if_true]
 by_cases hl : w.length = p.Vars.length
 case neg =>
  have : ¬ (w.length : Int) = (p.Vars.length : Int) := by omega
  simp [hl, this]
 have hl' : (w.length : Int) = (p.Vars.length : Int) := by omega
 simp only [hl', hl, decide_true, Bool.not_true, cond_false, if_true]
 refine (qq p.Vars.length (fun k => (k : Int)) (zbb p w) () (fun k hk => ?_) (by simp) rfl).trans ?_
 . obtain ⟨v, hv⟩ := zv hk
   obtain ⟨x, hx⟩ := zv (l := w) (i := k) (by omega)
   have hlt : (k : Int) < (p.Vars.length : Int) := by omega
   have hw : IntKind.wrap .i64 ((k : Int) + 1) = ((k + 1 : Nat) : Int) := w64 (by omega) (by omega)
   have n1 : (0 : Int) <= (k : Int) := by omega
   simp only [hlt, decide_true, cond_true, zh, n1, if_true, Int.toNat_natCast, hx, hv, Option.bind_some, zg, hw, xk, zbb]
   by_cases c1 : x.Name = v.Name <;> by_cases c2 : yi x.Value = 0 <;> by_cases c3 : x.Value.Kind = v.Type_.Kind <;> by_cases c4 : x.Value.Rank = v.Type_.Rank <;> simp [c1, c2, c3, c4]
 . cases zw (zbb p w) 0 p.Vars.length <;> rfl
theorem zbt {p : TP} (h : (yt p).2.2 = 0) : p.Vars.length <= 32 /\ ∀ v ∈ p.Vars, wM p.Lattice v.Type_ = 0 := by
 unfold yt at h
 by_cases h1 : (qD p.Lattice).2 = 0
 case neg => rw [if_neg h1] at h; exact absurd h h1
 rw [if_pos h1] at h
 by_cases h2 : (chC p).2 = 0
 case neg => rw [if_neg h2] at h; exact absurd h h2
 rw [if_pos h2] at h
 by_cases h3 : (vrC (wM p.Lattice) p).2 = 0
 case neg => rw [if_neg h3] at h; exact absurd h h3
 unfold vrC at h3
 by_cases h6 : (32 : Int) < (p.Vars.length : Int)
 . rw [if_pos h6] at h3; exact absurd h3 (by decide)
 rw [if_neg h6] at h3
 refine ⟨by omega, fun v hv => ?_⟩
 cases hs : zw (vrK (wM p.Lattice) p) 0 p.Vars.length with
 | some r =>
   rw [hs] at h3
   have : r.2 ≠ 0 := zev (P := fun r => r.2 ≠ 0) (fun i r hr => by
    unfold vrK at hr
    split at hr
    . split at hr
      . cases hr; assumption
      . split at hr
        . cases hr
        . cases hr; assumption
    . cases hr) hs
   exact absurd h3 this
 | none =>
   obtain ⟨i, hi, e⟩ := List.getElem_of_mem hv
   have := scan_none.1 hs i (by omega) (by omega)
   unfold vrK at this
   rw [List.getElem?_eq_getElem hi, e] at this
   simp only at this
   split at this
   . cases this
   . split at this
     . assumption
     . cases this
end Go.Sx.O
end
namespace Go.Sx.O
open Go
theorem zC0 {l : List Int} (h : yS (inK .u8) l) : U8s l := fun x hx => zB7 (h x hx)
open Go
theorem zqk {τ : Type} {f : Nat -> Option τ} {r : τ} : ∀ {n m k : Nat}, m <= k -> k < m + n -> (∀ j, m <= j -> j < k -> f j = none) -> f k = some r -> zw f m n = some r
 | 0, m, k, h1, h2, _, _ => by omega
 | n + 1, m, k, h1, h2, h3, h4 => by
   unfold zw
   rcases Nat.lt_or_ge m k with g | g
   . rw [h3 m (Nat.le_refl _) g]
     exact zqk (by omega) (by omega) (fun j a b => h3 j (by omega) b) h4
   . have : m = k := by omega
     subst this
     rw [h4]
theorem wO {p : TP} {w : List TW} (h : (qK p w).2 = 0) : (yt p).2.2 = 0 /\ w.length = p.Vars.length /\ qK p w = (0, 0) /\ ∀ (k : Nat) x v, w[k]? = some x -> p.Vars[k]? = some v -> x.Name = v.Name /\ yi x.Value = 0 /\ x.Value.Kind = v.Type_.Kind /\ x.Value.Rank = v.Type_.Rank := by
 unfold qK at h ⊢
 by_cases hk : (yt p).2.2 = 0
 case neg => rw [if_neg hk] at h; exact absurd h hk
 rw [if_pos hk] at h ⊢
 by_cases hl : w.length = p.Vars.length
 case neg => rw [if_neg hl] at h; exact absurd h (by decide)
 rw [if_pos hl] at h ⊢
 cases hs : zw (zbb p w) 0 w.length with
 | some r =>
   rw [hs] at h
   have : r.2 ≠ 0 := zev (P := fun r => r.2 ≠ 0) (fun i r hr => by
    unfold zbb at hr
    split at hr
    . split at hr
      . split at hr
        . split at hr
          . split at hr
            . cases hr
            . cases hr; exact (by decide : (22 : Int) ≠ 0)
          . cases hr; exact (by decide : (21 : Int) ≠ 0)
        . cases hr; assumption
      . cases hr; exact (by decide : (24 : Int) ≠ 0)
    . cases hr) hs
   exact absurd h this
 | none =>
   refine ⟨hk, hl, rfl, fun k x v hx hv => ?_⟩
   have hlt : k < w.length := (List.getElem?_eq_some_iff.1 hx).1
   have := scan_none.1 hs k (by omega) (by omega)
   unfold zbb at this
   rw [hx, hv] at this
   simp only at this
   by_cases c1 : x.Name = v.Name
   case neg => rw [if_neg c1] at this; cases this
   rw [if_pos c1] at this
   by_cases c2 : yi x.Value = 0
   case neg => rw [if_neg c2] at this; cases this
   rw [if_pos c2] at this
   by_cases c3 : x.Value.Kind = v.Type_.Kind
   case neg => rw [if_neg c3] at this; cases this
   rw [if_pos c3] at this
   by_cases c4 : x.Value.Rank = v.Type_.Rank
   case neg => rw [if_neg c4] at this; cases this
   exact ⟨c1, c2, c3, c4⟩
open Go
theorem zAt {x : Int} (h0 : 0 <= x) (h1 : x < 256) {b : Nat} (hb : b <= 8) : decide (bits .and .u8 (Int.fdiv x (2 ^ min b (IntKind.bits .u8))) 1 = 1) = Nat.testBit x.toNat b := by
 have key : ∀ u : Fin 256, ∀ b : Fin 9, decide (bits .and .u8 (Int.fdiv (u.val : Int) (2 ^ min b.val (IntKind.bits .u8))) 1 = 1) = Nat.testBit u b := by decide +kernel
 have := key ⟨x.toNat, by omega⟩ ⟨b, by omega⟩
 simpa only [Int.toNat_of_nonneg h0] using this
theorem labB_iff {l : TL} {a : Int} : qe l a = true ↔ 0 <= a /\ a < (l.Names.length : Int) := by simp [qe]
theorem xh {l : TL} {t : TY} (h : wM l t = 0) : (qD l).2 = 0 /\ (t.Kind = 1 \/ t.Kind = 2) /\ 0 <= t.Rank /\ t.Rank <= 2 /\ qe l t.Axes.1 = true /\ qe l t.Axes.2 = true /\ qe l t.Data = true /\
 ([t.Axes.1, t.Axes.2].drop t.Rank.toNat).all (fun x => decide (x = (qx l : Int))) = true /\ ([t.Axes.1, t.Axes.2].take t.Rank.toNat).all (fun x => up l x.toNat t.Data.toNat) = true := by
 unfold wM at h
 by_cases hk : (qD l).2 = 0
 case neg => rw [if_neg hk] at h; exact absurd h hk
 rw [if_pos hk] at h
 split at h
 case isFalse => exact absurd h (by decide)
 rename_i h1
 unfold yz at h
 split at h
 . exact absurd h (by decide)
 rename_i h2
 split at h
 case isFalse => exact absurd h (by decide)
 rename_i h3
 split at h
 case isFalse => exact absurd h (by decide)
 rename_i h4
 split at h
 case isFalse => exact absurd h (by decide)
 rename_i h5
 exact ⟨hk, h1, by omega, by omega, h3.1, h3.2.1, h3.2.2, h4, h5⟩
theorem zpm {l : TL} (h : LatIn l) (hk : (qD l).2 = 0) : zlf l = some (TG.mk l (qx l), 0) := by
 unfold zlf
 rw [zas h, zkg h]
 simp [hk]
theorem zbf (l : TL) (b a : Int) : xR (TG.mk l b) a = some (qe l a) := by
 unfold xR qe
 by_cases h : 0 <= a <;> simp [h]
theorem jW {l : TL} (ok : LatOK l) (b : Int) {a o : Int} (ha : qe l a = true) (ho : qe l o = true) : zez (TG.mk l b) a o = some (up l a.toNat o.toNat) := by
 obtain ⟨a0, a1⟩ := labB_iff.1 ha
 obtain ⟨o0, o1⟩ := labB_iff.1 ho
 have hle := ok.le
 have hlen := ok.len
 unfold zez zh
 obtain ⟨x, hx⟩ := zv (l := l.Up) (i := a.toNat) (by omega)
 have hu := ok.u8 x (List.mem_of_getElem? hx)
 simp only [a0, if_true, hx, Option.bind_some]
 unfold zk
 rw [if_pos o0, zAt hu.1 hu.2 (by omega), jE hx]
theorem zA3 {l : TL} (ok : LatOK l) (b : Int) (t : TY) (hd : qe l t.Data = true) (xs : List Int) (hx : xs.length <= 2) (hl : ∀ x ∈ xs, qe l x = true) (hu : xs.all (fun x => up l x.toNat t.Data.toNat) = true) :
 xT xs (TG.mk l b, t) = some false := by
 unfold xT zta
 have : (Option.bind (lpO (fun (s115 : Int) =>
 cond (decide (s115 < (↑(List.length (List.map (SV.int IntKind.i64) xs)) : Int)))
 (zh (xs) (s115) fun x121 =>
 Option.bind (zly (x121) ((TG.mk l b, t).fst) ((TG.mk l b, t).snd)) fun x122 =>
 cond (x122)
 (some (Sum.inr (Sum.inr (s115))))
 (zg (IntKind.wrap IntKind.i64 (s115 + (1 : Int))) fun x124 =>
 some (Sum.inl (x124))))
 (some (Sum.inr (Sum.inl (()))))) ((0 : Int)))
 (Sum.elim (fun (_ : Unit) =>
 some ((-1 : Int))) some)) = some (-1) := by
  refine (wK xs.length (fun k => (k : Int)) () (fun k hk => ?_) (by simp) rfl).trans rfl
  obtain ⟨x, hx'⟩ := zv hk
  have hm := List.mem_of_getElem? hx'
  have hlt : (k : Int) < (xs.length : Int) := by omega
  have hw : IntKind.wrap .i64 ((k : Int) + 1) = ((k + 1 : Nat) : Int) := w64 (by omega) (by omega)
  have n1 : (0 : Int) <= (k : Int) := by omega
  have hup : up l x.toNat t.Data.toNat = true := by
   have := List.all_eq_true.1 hu x hm
   simpa using this
  simp only [List.length_map, hlt, decide_true, cond_true, zh, n1, if_true, Int.toNat_natCast, hx', zg, hw, zly, jW ok b (hl x hm) hd, Option.bind_some, hup, Bool.not_true, cond_false]
 rw [this]
 rfl
theorem zjk {l : TL} (h : LatIn l) {t : TY} (hg : wM l t = 0) : zlr (TG.mk l (qx l)) t = some 0 := by
 obtain ⟨hk, hkind, hr0, hr2, l1, l2, l3, hbot, hup⟩ := xh hg
 have ok := wZ h hk
 have c1 : ¬ t.Rank < 0 := by omega
 have c2 : ¬ 2 < t.Rank := by omega
 have tail : (zcc (t.Rank) [
 cond (!(decide ((qx l : Int) = t.Axes.fst) && (decide ((qx l : Int) = t.Axes.snd) && true)))
 (some ((6 : Int)))
 (zk ((0 : Int) <= t.Rank /\ t.Rank <= (↑(2 : Nat) : Int)) (
 Option.bind (xT (List.drop (Int.toNat (0 : Int)) (List.take (Int.toNat t.Rank) [t.Axes.fst, t.Axes.snd])) ((TG.mk l (qx l), t))) fun x126 =>
 cond (x126)
 (some ((25 : Int)))
 (some ((0 : Int))))),
 cond (!(decide (t.Axes.fst = t.Axes.fst) && (decide ((qx l : Int) = t.Axes.snd) && true)))
 (some ((6 : Int)))
 (zk ((0 : Int) <= t.Rank /\ t.Rank <= (↑(2 : Nat) : Int)) (
 Option.bind (xT (List.drop (Int.toNat (0 : Int)) (List.take (Int.toNat t.Rank) [t.Axes.fst, t.Axes.snd])) ((TG.mk l (qx l), t))) fun x129 =>
 cond (x129)
 (some ((25 : Int)))
 (some ((0 : Int))))),
 cond (!(decide (t.Axes.fst = t.Axes.fst) && (decide (t.Axes.snd = t.Axes.snd) && true)))
 (some ((6 : Int)))
 (zk ((0 : Int) <= t.Rank /\ t.Rank <= (↑(2 : Nat) : Int)) (
 Option.bind (xT (List.drop (Int.toNat (0 : Int)) (List.take (Int.toNat t.Rank) [t.Axes.fst, t.Axes.snd])) ((TG.mk l (qx l), t))) fun x132 =>
 cond (x132)
 (some ((25 : Int)))
 (some ((0 : Int)))))]) = some 0 := by
   have hc : xT (List.drop (Int.toNat (0 : Int)) (List.take (Int.toNat t.Rank) [t.Axes.fst, t.Axes.snd])) ((TG.mk l (qx l), t)) = some false := by
    refine zA3 ok _ t l3 _ (by simp; omega) (fun x hx => ?_) (by simpa using hup)
    have := List.mem_of_mem_take (by simpa using hx)
    simp only [List.mem_cons, List.not_mem_nil, or_false] at this
    rcases this with rfl | rfl
    . exact l1
    . exact l2
   have hs : (0 : Int) <= t.Rank /\ t.Rank <= ((2 : Nat) : Int) := ⟨hr0, by omega⟩
   have hsx : ∀ y : Option Int, zk ((0 : Int) <= t.Rank /\ t.Rank <= ((2 : Nat) : Int)) y = y := fun y => by unfold zk; rw [if_pos hs]
   rw [hc]
   simp only [hsx, Option.bind_some, cond_false, decide_true, Bool.true_and, Bool.and_true, Bool.not_true]
   have hr : t.Rank = 0 \/ t.Rank = 1 \/ t.Rank = 2 := by omega
   rcases hr with hr | hr | hr
   . rw [hr] at hbot ⊢
     simp only [Int.toNat_zero, List.drop_zero, List.all_cons, List.all_nil, Bool.and_true, Bool.and_eq_true, decide_eq_true_eq] at hbot
     simp [zcc, hbot.1, hbot.2]
   . rw [hr] at hbot ⊢
     have e1 : (1 : Int).toNat = 1 := rfl
     simp only [e1, List.drop_succ_cons, List.drop_zero, List.all_cons, List.all_nil, Bool.and_true, decide_eq_true_eq] at hbot
     simp [zcc, hbot]
   . rw [hr]
     simp [zcc]
 unfold zlr
 have sw : ∀ (x y : Option (Unit ⊕ Int)), cond (!decide (t.Kind = 1)) (cond (!decide (t.Kind = 2)) (some (Sum.inr 7)) x) y = if t.Kind = 1 then y else x := fun x y => by
  by_cases k1 : t.Kind = 1
  . simp [k1]
  . have k2 : t.Kind = 2 := by omega
    simp [k2]
 rw [sw]
 simp only [zbf, l1, l2, l3, Option.bind_some, Bool.not_true, cond_false, c1, c2, decide_false, decide_true, Bool.true_and, ite_self, Sum.elim_inl] at tail ⊢
 exact tail
def axC (l : TL) (t : TY) (o : Int) : Bool × Bool := (decide (0 < t.Rank) && up l t.Axes.1.toNat o.toNat, decide (1 < t.Rank) && up l t.Axes.2.toNat o.toNat)
def siC (l : TL) (t : TY) (o : Int) : (Bool × Bool) × Bool := (axC l t o, up l t.Data.toNat o.toNat)
theorem zcz {l : TL} (h : LatIn l) {t : TY} (hg : wM l t = 0) {o : Int} (ho : qe l o = true) : zhf l t o = some (axC l t o, up l t.Data.toNat o.toNat, 0) := by
 obtain ⟨hk, hkind, hr0, hr2, l1, l2, l3, hbot, hup⟩ := xh hg
 have ok := wZ h hk
 unfold zhf
 rw [zpm h hk]
 simp only [Option.bind_some, decide_true, Bool.not_true, cond_false, zjk h hg, zbf, ho]
 have hr : t.Rank = 0 \/ t.Rank = 1 \/ t.Rank = 2 := by omega
 refine (wK t.Rank.toNat (fun k => ((k : Int), (decide (0 < k) && up l t.Axes.1.toNat o.toNat, decide (1 < k) && up l t.Axes.2.toNat o.toNat))) (axC l t o) (fun k hk' => ?_) ?_ (by simp)).trans ?_
 . have hlt : (k : Int) < t.Rank := by omega
   have hw : IntKind.wrap .i64 ((k : Int) + 1) = ((k + 1 : Nat) : Int) := w64 (by omega) (by omega)
   have n1 : (0 : Int) <= (k : Int) := by omega
   have n2 : (0 : Int) <= (k : Int) /\ (k : Int) < ((2 : Nat) : Int) := ⟨n1, by omega⟩
   have hsx : ∀ y : Option ((Int × Bool × Bool) ⊕ ((Bool × Bool) ⊕ ((Bool × Bool) × Bool × Int))), zk ((0 : Int) <= (k : Int) /\ (k : Int) < ((2 : Nat) : Int)) y = y := fun y => by unfold zk; rw [if_pos n2]
   have hk2 : k = 0 \/ k = 1 := by omega
   simp only [hlt, decide_true, cond_true, hsx, zh, n1, if_true, Int.toNat_natCast, zg, hw]
   rcases hk2 with rfl | rfl
   . simp [jW ok _ l1 ho, qZ, zk]
   . simp [jW ok _ l2 ho, qZ, zk]
 . have e1 : ((t.Rank.toNat : Nat) : Int) = t.Rank := Int.toNat_of_nonneg hr0
   have e2 : ¬ ((t.Rank.toNat : Nat) : Int) < t.Rank := by omega
   simp only [e2, decide_false, cond_false, axC]
   have e3 : decide (0 < t.Rank.toNat) = decide (0 < t.Rank) := decide_eq_decide.2 (by omega)
   have e4 : decide (1 < t.Rank.toNat) = decide (1 < t.Rank) := decide_eq_decide.2 (by omega)
   rw [e3, e4]
 . simp only [jW ok _ l3 ho, Option.bind_some]
theorem zrr {l : TL} (ok : LatOK l) {a b c : Nat} (ha : a < l.Names.length) (hb : b < l.Names.length) (hc : c < l.Names.length) (h1 : up l a b = true) (h2 : up l b c = true) : up l a c = true := (ok.row a ha b hb h1).2 c hc h2
end Go.Sx.O
noncomputable section
namespace Go.Sx.O
open Go
def xU (a b : TA) : Bool := @decide (a = b) (Classical.propDecidable _)
theorem sameA_iff {a b : TA} : xU a b = true ↔ a = b := by unfold xU; exact @decide_eq_true_iff _ (Classical.propDecidable _)
theorem znk {a b : TA} {r : Bool} (h : r = true ↔ a = b) : r = xU a b := by
 rw [Bool.eq_iff_iff, h, sameA_iff]
theorem zbg (a b : TA) (h : a.Cells.length <= 9223372036854775807) : zem a b = some (xU a b) := by
 have key : Tot (zem a b) fun r => (r = true ↔ a = b) := by
  unfold zem zse zth
  obtain ⟨k1, r1, ⟨p1, q1⟩, c1⟩ := a
  obtain ⟨k2, r2, ⟨p2, q2⟩, c2⟩ := b
  simp only [TA.mk.injEq, Prod.mk.injEq, List.length_map]
  by_cases e1 : k1 = k2
  case neg => simp [e1, zr]
  by_cases e2 : r1 = r2
  case neg => simp [e1, e2, zr]
  by_cases e3 : p1 = p2
  case neg => simp [e1, e2, e3, zr]
  by_cases e4 : q1 = q2
  case neg => simp [e1, e2, e3, e4, zr]
  by_cases e5 : c1.length = c2.length
  case neg =>
   have e6 : ¬ (c1.length : Int) = c2.length := by omega
   have e7 : c1 ≠ c2 := fun e => e5 (by rw [e])
   simp [e1, e2, e3, e4, e6, e7, zr]
  simp only [e1, e2, e3, e4, e5, decide_true, Bool.not_true, cond_true, cond_false, Bool.and_true, true_and, Option.bind_some, zx, and_self]
  simp only at h
  refine zmm (l := c1) (m := c2) c2.length (fun x y => decide (x = y)) (bad := fun _ => false) (e := ()) (by omega) (Nat.le_refl _) (fun k x y hx hy hk => ?_) (by simp) (fun hall => ?_) (fun k x y hx hy hk e _ => ?_)
  . simp only [Int.ofNat_lt, hk, decide_true, cond_true, zh, Int.toNat_natCast, hx, hy, Option.bind_some, zg, Int.natCast_nonneg, if_true]
    rw [w64 (by omega) (by omega)]
    by_cases hxy : x = y <;> simp [hxy]
  . have : c1 = c2 := ue e5 fun k x y hx hy hk => by simpa using hall k x y hx hy (by omega)
    simp [this, zr]
  . have : c1 ≠ c2 := by
     rintro rfl
     rw [hx] at hy; cases hy
     simp at e
    simp [this, zr]
 obtain ⟨r, e, q⟩ := key
 rw [e, znk q]
def jh (s : (Bool × Bool) × Bool) (a b : TA) : Bool := (!s.1.1 || decide (a.Lens.1 = b.Lens.1)) && ((!s.1.2 || decide (a.Lens.2 = b.Lens.2)) && (!s.2 || xU a b))
def agK (s : (Bool × Bool) × Bool) (a b : TA) (k : Nat) : Option Bool := if k = 0 then (if (s.1.1 && !decide (a.Lens.1 = b.Lens.1)) = true then some false else none) else (if (s.1.2 && !decide (a.Lens.2 = b.Lens.2)) = true then some false else none)
theorem zAo (s : (Bool × Bool) × Bool) (a b : TA) : (match zw (agK s a b) 0 2 with | some r => some r | none => (cond (!s.2) (some true) (some (xU a b)))) = some (jh s a b) := by
 obtain ⟨⟨s1, s2⟩, s3⟩ := s
 have e : zw (agK ((s1, s2), s3) a b) 0 2 = match agK ((s1, s2), s3) a b 0 with | some r => some r | none => match agK ((s1, s2), s3) a b 1 with | some r => some r | none => none := by
  simp only [zw]
  cases agK ((s1, s2), s3) a b 0 with
  | some r => rfl
  | none => cases agK ((s1, s2), s3) a b (0 + 1) <;> rfl
 rw [e]
 by_cases h1 : a.Lens.1 = b.Lens.1 <;> by_cases h2 : a.Lens.2 = b.Lens.2 <;> cases s1 <;> cases s2 <;> cases s3 <;> simp [agK, jh, h1, h2]
theorem ziy (s : (Bool × Bool) × Bool) (a b : TA) (h : a.Cells.length <= 9223372036854775807) : zln s a b = some (jh s a b) := by
 unfold zln
 by_cases h0 : (!s.fst.fst && (!s.fst.snd && true) && (!s.snd && true)) = true
 . rw [h0, cond_true]
   simp only [Bool.and_true, Bool.and_eq_true, Bool.not_eq_true'] at h0
   simp [jh, h0.1.1, h0.1.2, h0.2]
 . rw [Bool.not_eq_true] at h0
   rw [h0, cond_false, zbg a b h]
   refine (qq 2 (fun k => (k : Int)) (agK s a b) () (fun k hk => ?_) (by simp) rfl).trans ?_
   . have hk2 : k = 0 \/ k = 1 := by omega
     have hw : IntKind.wrap .i64 ((k : Int) + 1) = ((k + 1 : Nat) : Int) := w64 (by omega) (by omega)
     have hlt : (k : Int) < 2 := by omega
     have n1 : (0 : Int) <= (k : Int) := by omega
     simp only [hlt, decide_true, cond_true, zh, n1, if_true, Int.toNat_natCast, zg, hw]
     rcases hk2 with rfl | rfl
     . cases hs : s.1.1 <;> by_cases e : a.Lens.1 = b.Lens.1 <;> simp [agK, hs, e, zk]
     . cases hs : s.1.2 <;> by_cases e : a.Lens.2 = b.Lens.2 <;> simp [agK, hs, e, zk]
   . simp only [Option.bind_some]
     have e := zAo s a b
     cases hs : zw (agK s a b) 0 2 <;> rw [hs] at e <;> exact e
end Go.Sx.O
end
namespace Go.Sx.O
open Go
theorem zBt {α : Type} {x : Option α} {v : α} (h : Tot x fun r => r = v) : x = some v := by
 obtain ⟨r, e, q⟩ := h
 rw [e, q]
def yE (X : List Int) : List Int := X.filter fun y => decide (0 <= y)
theorem znt {X : List Int} (h : ∀ (j : Nat) y, X[j]? = some y -> 0 <= y) : yE X = X := by
 unfold yE
 rw [List.filter_eq_self]
 intro a ha
 obtain ⟨j, hj⟩ := List.mem_iff_getElem?.1 ha
 simpa using h j a hj
theorem zj0 (X : List Int) (y : Int) : yE (X ++ [y]) = yE X ++ (if 0 <= y then [y] else []) := by
 unfold yE
 rw [List.filter_append]
 by_cases h : 0 <= y <;> simp [h]
theorem zys {X : List Int} {k : Nat} (hk : k < X.length) (hl : X.length <= 1000) :
 (Option.bind (
 lpO (fun (s431 : Int × Int × List Int) =>
 cond (decide (s431.fst < (↑(List.length (List.map (SV.int IntKind.i64) s431.snd.snd)) : Int)))
 (zk ((0 : Int) <= s431.fst /\ s431.fst < (↑(List.length (List.map (SV.int IntKind.i64) s431.snd.snd)) : Int)) (
 zh (s431.snd.snd) ((↑(Int.toNat s431.fst) : Int)) fun x441 =>
 Option.bind (zcn (x441)) fun x442 =>
 cond (!x442)
 (zk ((0 : Int) <= s431.snd.fst /\ s431.snd.fst < (↑(List.length (List.map (SV.int IntKind.i64) s431.snd.snd)) : Int)) (
 zh (s431.snd.snd) ((↑(Int.toNat s431.snd.fst) : Int)) fun _ =>
 zg (IntKind.wrap IntKind.i64 (s431.snd.fst + (1 : Int))) fun x445 =>
 zg (IntKind.wrap IntKind.i64 (s431.fst + (1 : Int))) fun x446 =>
 some (Sum.inl ((x446, x445, List.set s431.snd.snd (Int.toNat s431.snd.fst) x441)))))
 (zg (IntKind.wrap IntKind.i64 (s431.fst + (1 : Int))) fun x447 =>
 some (Sum.inl ((x447, s431.snd))))))
 (some (Sum.inr (Sum.inl ((decide (s431.fst < (↑(List.length (List.map (SV.int IntKind.i64) s431.snd.snd)) : Int)), s431)))))) ((((k + 1 : Nat) : Int), (k : Int), X)))
 (Sum.elim (fun (s429 : Bool × Int × Int × List Int) =>
 zk ((0 : Int) <= s429.snd.snd.fst /\ s429.snd.snd.fst < (↑(List.length (List.map (SV.int IntKind.i64) s429.snd.snd.snd)) : Int)) (
 zk ((1 : Nat) <= List.length (List.map (SV.int IntKind.i64) s429.snd.snd.snd) - Int.toNat s429.snd.snd.fst /\ Int.toNat s429.snd.snd.fst + (List.length (List.map (SV.int IntKind.i64) s429.snd.snd.snd) - Int.toNat s429.snd.snd.fst) <= List.length (List.map (SV.int IntKind.i64) s429.snd.snd.snd)) (
 zk ((0 : Int) <= s429.snd.snd.fst /\ s429.snd.snd.fst <= (↑(List.length (List.take (Int.toNat s429.snd.snd.fst) (List.map (SV.int IntKind.i64) s429.snd.snd.snd) ++ (List.replicate (List.length (List.map (SV.int IntKind.i64) s429.snd.snd.snd) - Int.toNat s429.snd.snd.fst) (SV.int IntKind.i64 (0 : Int)) ++ List.drop (Int.toNat s429.snd.snd.fst + (List.length (List.map (SV.int IntKind.i64) s429.snd.snd.snd) - Int.toNat s429.snd.snd.fst)) (List.map (SV.int IntKind.i64) s429.snd.snd.snd)))) : Int)) (
 some (Sum.inr (Sum.inr ((List.drop (Int.toNat (0 : Int)) (List.take (Int.toNat s429.snd.snd.fst) (List.take (Int.toNat s429.snd.snd.fst) s429.snd.snd.snd ++ (List.replicate (List.length (List.map (SV.int IntKind.i64) s429.snd.snd.snd) - Int.toNat s429.snd.snd.fst) (0 : Int) ++ List.drop (Int.toNat s429.snd.snd.fst + (List.length (List.map (SV.int IntKind.i64) s429.snd.snd.snd) - Int.toNat s429.snd.snd.fst)) s429.snd.snd.snd))), (0 : Int))))))))) some)) = (some (Sum.inr (Sum.inr (X.take k ++ yE (X.drop (k + 1)), 0))) : Option (Int ⊕ ((Bool × Int) ⊕ (List Int × Int)))) := by
 refine zBt ?_
 rw [zx]
 refine Tot.count (X.length - (k + 1)) (fun m s => s.1 = ((k + 1 + m : Nat) : Int) /\ ∃ i : Nat, s.2.1 = (i : Int) /\ i <= k + m /\ s.2.2.length = X.length /\ s.2.2.take i = X.take k ++ yE ((X.take (k + 1 + m)).drop (k + 1)) /\ s.2.2.drop (k + 1 + m) = X.drop (k + 1 + m)) (fun m s hm hP => ?_) ⟨rfl, k, rfl, Nat.le_refl _, rfl, ?_, rfl⟩
 . obtain ⟨s1, s2, s3⟩ := s
   obtain ⟨rfl, i, rfl, hi, hlen, ht, hd⟩ := hP
   simp only at hlen ht hd
   simp only [List.length_map, hlen]
   by_cases hlt : k + 1 + m < X.length
   . have hlt' : ((k + 1 + m : Nat) : Int) < (X.length : Int) := by omega
     obtain ⟨y, hy⟩ := zv hlt
     have hy3 : s3[k + 1 + m]? = some y := by
      have := congrArg (fun l => l[0]?) hd
      simpa [List.getElem?_drop, hy] using this
     obtain ⟨z, hz⟩ := zv (l := s3) (i := i) (by omega)
     have n1 : (0 : Int) <= ((k + 1 + m : Nat) : Int) := by omega
     have n2 : (0 : Int) <= (i : Int) := by omega
     have n3 : (i : Int) < (X.length : Int) := by omega
     have w1 : IntKind.wrap .i64 (((k + 1 + m : Nat) : Int) + 1) = ((k + 1 + (m + 1) : Nat) : Int) := w64 (by omega) (by omega)
     have w2 : IntKind.wrap .i64 ((i : Int) + 1) = ((i + 1 : Nat) : Int) := w64 (by omega) (by omega)
     have hX : (X.take (k + 1 + (m + 1))).drop (k + 1) = (X.take (k + 1 + m)).drop (k + 1) ++ [y] := by
      rw [show k + 1 + (m + 1) = (k + 1 + m) + 1 by omega, List.take_add_one, hy, List.drop_append_of_le_length (by simp; omega)]; rfl
     have hdd : s3.drop (k + 1 + (m + 1)) = X.drop (k + 1 + (m + 1)) := by
      rw [show k + 1 + (m + 1) = (k + 1 + m) + 1 by omega, <- List.drop_drop (i := 1) (j := k + 1 + m), hd, List.drop_drop]
     simp only [hlt', decide_true, cond_true, zk, n1, n2, n3, and_self, if_true, zh, Int.toNat_natCast, hy3, hz, zcn, Option.bind_some, zg, w1, w2]
     by_cases hn : y < 0
     . simp only [hn, decide_true, Bool.not_true, cond_false, zr, Sum.elim_inl]
       refine ⟨by omega, trivial, i, rfl, by omega, hlen, ?_, hdd⟩
       rw [hX, zj0, if_neg (by omega), List.append_nil, ht]
     . simp only [hn, decide_false, Bool.not_false, cond_true, zr, Sum.elim_inl]
       refine ⟨by omega, trivial, i + 1, rfl, by omega, by simp [hlen], ?_, ?_⟩
       . rw [hX, zj0, if_pos (by omega), <- List.append_assoc, <- ht, List.take_add_one, List.take_set_of_le (Nat.le_refl _)]
         simp [show i < s3.length by omega]
       . rw [List.drop_set_of_lt (by omega), hdd]
   . have hlt' : ¬ ((k + 1 + m : Nat) : Int) < (X.length : Int) := by omega
     have he : k + 1 + m = X.length := by omega
     simp only [hlt', decide_false, cond_false, zr, Sum.elim_inr, Sum.elim_inl]
     have n2 : (0 : Int) <= (i : Int) := by omega
     have n3 : (i : Int) < (X.length : Int) := by omega
     have hti : (s3.take i).length = i := by simp; omega
     have q : List.take i (List.take i s3 ++ (List.replicate (X.length - i) (0 : Int) ++ List.drop (i + (X.length - i)) s3)) = List.take i s3 := by
      rw [List.take_append_of_le_length (by omega), List.take_of_length_le (by omega)]
     have l1 : (i : Int) <= ((List.length (List.take i (List.map (SV.int IntKind.i64) s3) ++ (List.replicate (X.length - i) (SV.int IntKind.i64 (0 : Int)) ++ List.drop (i + (X.length - i)) (List.map (SV.int IntKind.i64) s3))) : Nat) : Int) := by
      simp; omega
     simp only [List.length_map, hlen, zk, Int.toNat_natCast, n2, n3, l1, and_self, if_true, true_and]
     rw [if_pos (by omega), zr, q, ht, he, List.take_of_length_le (Nat.le_refl _)]
     simp
 . simp [yE]
theorem zh8 {τ : Type} {f : Nat -> Option τ} {r : τ} : ∀ {n m : Nat}, zw f m n = some r -> ∃ k, m <= k /\ k < m + n /\ f k = some r /\ ∀ j, m <= j -> j < k -> f j = none
 | 0, m, h => by cases h
 | n + 1, m, h => by
   simp only [zw] at h
   cases hf : f m with
   | some q =>
     rw [hf] at h
     cases h
     exact ⟨m, Nat.le_refl _, by omega, hf, fun j a b => by omega⟩
   | none =>
     rw [hf] at h
     obtain ⟨k, k1, k2, k3, k4⟩ := zh8 h
     refine ⟨k, by omega, by omega, k3, fun j a b => ?_⟩
     by_cases e : j = m
     . subst e; exact hf
     . exact k4 j (by omega) b
def dlK (X : List Int) (k : Nat) : Option (List Int × Int) := match X[k]? with | some x => if x < 0 then some (X.take k ++ yE (X.drop (k + 1)), 0) else none | none => none
theorem zB2 (X : List Int) : (match zw (dlK X) 0 X.length with | some r => some r | none => some (X, (0 : Int))) = some (yE X, 0) := by
 cases hs : zw (dlK X) 0 X.length with
 | none =>
   have := scan_none.1 hs
   show some (X, (0 : Int)) = _
   rw [znt]
   intro j y hj
   have hlt : j < X.length := (List.getElem?_eq_some_iff.1 hj).1
   have := this j (by omega) (by omega)
   unfold dlK at this
   rw [hj] at this
   simp only at this
   split at this
   . cases this
   . omega
 | some r =>
   obtain ⟨k, _, h2, h3, h4⟩ := zh8 hs
   obtain ⟨x, hx⟩ := zv (l := X) (i := k) (by omega)
   unfold dlK at h3
   rw [hx] at h3
   simp only at h3
   split at h3
   case isFalse => cases h3
   rename_i hneg
   cases h3
   have e : X = X.take k ++ (x :: X.drop (k + 1)) := by
    have := List.getElem?_eq_some_iff.1 hx
    obtain ⟨hl, rfl⟩ := this
    rw [List.getElem_cons_drop, List.take_append_drop]
   have hp : yE (X.take k) = X.take k := znt fun j y hj => by
    rw [List.getElem?_take] at hj
    split at hj
    case isFalse => cases hj
    rename_i hjk
    have := h4 j (by omega) hjk
    unfold dlK at this
    rw [hj] at this
    simp only at this
    split at this
    . cases this
    . omega
   show some (X.take k ++ yE (X.drop (k + 1)), (0 : Int)) = some (yE X, 0)
   conv => rhs; rw [e]
   unfold yE at hp ⊢
   rw [List.filter_append, hp, List.filter_cons]
   simp [show ¬ 0 <= x by omega]
end Go.Sx.O
noncomputable section
namespace Go.Sx.O
open Go
def ftK (p : TP) (l : List (List TW)) (k : Nat) : Option Int := match l[k]? with | some w => if (qK p w).2 = 0 then none else some (qK p w).2 | none => none
theorem zeg {p : TP} (h : PolIn p) (l : List (List TW)) (hl : l.length <= 1000) (hw : ∀ w ∈ l, w.length <= 1000000) :
 zcp p l = some (if (yt p).2.2 = 0 then (match zw (ftK p l) 0 l.length with | some e => e | none => 0) else (yt p).2.2) := by
 unfold zcp
 rw [za6 h]
 simp only [Option.bind_some]
 by_cases hk : (yt p).2.2 = 0
 case neg => simp [hk]
 simp only [hk, decide_true, Bool.not_true, cond_false, if_true]
 refine (qq l.length (fun k => (k : Int)) (ftK p l) () (fun k hk' => ?_) (by simp) rfl).trans ?_
 . obtain ⟨w, hx⟩ := zv hk'
   have hlt : (k : Int) < (l.length : Int) := by omega
   have hwr : IntKind.wrap .i64 ((k : Int) + 1) = ((k + 1 : Nat) : Int) := w64 (by omega) (by omega)
   have n1 : (0 : Int) <= (k : Int) := by omega
   simp only [List.length_map, hlt, decide_true, cond_true, zh, n1, if_true, Int.toNat_natCast, hx, Option.bind_some, zjb h w (hw w (List.mem_of_getElem? hx)), zg, hwr, ftK]
   by_cases e : (qK p w).2 = 0 <;> simp [e]
 . cases zw (ftK p l) 0 l.length <;> rfl
theorem zmx {p : TP} {w : List TW} (h : ¬ (yt p).2.2 = 0) : (qK p w).2 = (yt p).2.2 := by unfold qK; rw [if_neg h]
theorem zsy {p : TP} (h : PolIn p) {a : List TW} (ha : a.length <= 1000000) : zcp p [a] = some (qK p a).2 := by
 rw [zeg h [a] (by simp) (by simpa using ha)]
 by_cases hk : (yt p).2.2 = 0
 . by_cases e : (qK p a).2 = 0 <;> simp [hk, zw, ftK, e]
 . simp [hk, zmx hk]
theorem zr8 {p : TP} (h : PolIn p) {a b : List TW} (ha : a.length <= 1000000) (hb : b.length <= 1000000) : zcp p [a, b] = some (if (qK p a).2 = 0 then (qK p b).2 else (qK p a).2) := by
 rw [zeg h [a, b] (by simp) (by simp [ha, hb])]
 by_cases hk : (yt p).2.2 = 0
 . by_cases e : (qK p a).2 = 0 <;> by_cases e2 : (qK p b).2 = 0 <;> simp [hk, zw, ftK, e, e2]
 . simp [hk, zmx hk]
theorem zhg {l : TL} {o : Int} (h : ¬ qe l o = true) : o < 0 \/ (l.Names.length : Int) <= o := by
 rcases Int.lt_or_le o 0 with g | g
 . exact .inl g
 . rcases Int.lt_or_le o (l.Names.length : Int) with g2 | g2
   . exact absurd (labB_iff.2 ⟨g, g2⟩) h
   . exact .inr g2
end Go.Sx.O
end
noncomputable section
namespace Go.Sx.O
open Go
def vK (p : TP) (a b : List TW) (o : Int) (i : Nat) : Int := match p.Vars[i]?, a[i]?, b[i]? with
 | some v, some x, some y => if jh (siC p.Lattice v.Type_ o) x.Value y.Value = true then -1 else (i : Int)
 | _, _, _ => -1
def vL (p : TP) (a b : List TW) (o : Int) (n : Nat) : List Int := (List.range n).map (vK p a b o)
def zdc (p : TP) (a b : List TW) (o : Int) : List Int × Int :=
 if (if (qK p a).2 = 0 then (qK p b).2 else (qK p a).2) = 0 then (if qe p.Lattice o = true then (yE (vL p a b o p.Vars.length), 0) else ([], 7)) else ([], if (qK p a).2 = 0 then (qK p b).2 else (qK p a).2)
theorem znr {τ : Type} {r : τ} {k1 : Unit -> Option τ} (h : k1 () = some r) : Option.bind (lpO (fun (_ : Unit) => (some (Sum.inr (Sum.inl (()))) : Option (Unit ⊕ (Unit ⊕ τ)))) (())) (Sum.elim k1 some) = some r := by
 refine (wK 0 (fun _ => ()) () (fun k hk => absurd hk (Nat.not_lt_zero k)) rfl rfl).trans h
theorem zvo {p : TP} {w : List TW} (h : (qK p w).2 = 0) {x : TW} (hx : x ∈ w) : x.Value.Cells.length <= 400 := by
 obtain ⟨_, hl, _, hf⟩ := wO h
 obtain ⟨k, hk⟩ := List.mem_iff_getElem?.1 hx
 have hlt : k < w.length := (List.getElem?_eq_some_iff.1 hk).1
 obtain ⟨v, hv⟩ := zv (l := p.Vars) (i := k) (by omega)
 exact zf0 (hf k x v hk hv).2.1
theorem zzz {p : TP} {a b : List TW} {o : Int} {k : Nat} : vL p a b o (k + 1) = vL p a b o k ++ [vK p a b o k] := by
 unfold vL
 rw [List.range_succ, List.map_append]; rfl
theorem zu8 {p : TP} {a b : List TW} {o : Int} {k : Nat} : (vL p a b o k).length = k := by simp [vL]
theorem ztx {p : TP} {a b : List TW} {o : Int} {k : Nat} {v : TV} {x y : TW} (hv : p.Vars[k]? = some v) (hx : a[k]? = some x) (hy : b[k]? = some y) (hc : x.Value.Cells.length <= 9223372036854775807) :
 zlj (k : Int) (siC p.Lattice v.Type_ o) a b = some (vK p a b o k) := by
 unfold zlj vK
 have n1 : (0 : Int) <= (k : Int) := by omega
 simp only [zh, n1, if_true, Int.toNat_natCast, hx, hy, Option.bind_some, ziy _ _ _ hc, hv]
 by_cases e : jh (siC p.Lattice v.Type_ o) x.Value y.Value = true <;> simp [e]
theorem zhs {p : TP} (h : PolIn p) {a b : List TW} (ha : a.length <= 1000000) (hb : b.length <= 1000000) (o : Int) : zlu p a b o = some (zdc p a b o) := by
 unfold zlu zdc
 rw [zr8 h ha hb]
 simp only [Option.bind_some]
 by_cases hf : (if (qK p a).2 = 0 then (qK p b).2 else (qK p a).2) = 0
 case neg => simp only [hf, decide_false, Bool.not_false, cond_true, if_false]
 have hfa : (qK p a).2 = 0 := by
  by_cases e : (qK p a).2 = 0
  . exact e
  . rw [if_neg e] at hf; exact hf
 have hfb : (qK p b).2 = 0 := by rwa [if_pos hfa] at hf
 obtain ⟨hk, hla, _, _⟩ := wO hfa
 obtain ⟨_, hlb, _, _⟩ := wO hfb
 obtain ⟨h32, hgood⟩ := zbt hk
 simp only [hf, decide_true, Bool.not_true, cond_false, if_true]
 by_cases ho : qe p.Lattice o = true
 case neg =>
  rw [if_neg ho]
  rcases zhg ho with g | g
  . simp only [g, decide_true, cond_true]
    exact znr rfl
  . by_cases g2 : o < 0
    . simp only [g2, decide_true, cond_true]
      exact znr rfl
    . simp only [g2, decide_false, cond_false, List.length_map, g, decide_true, cond_true]
      exact znr rfl
 obtain ⟨o0, o1⟩ := labB_iff.1 ho
 have c1 : ¬ o < 0 := by omega
 have c2 : ¬ (p.Lattice.Names.length : Int) <= o := by omega
 simp only [List.length_map, c1, c2, ho, decide_false, cond_false, if_true]
 refine (wK p.Vars.length (fun k => ((k : Int), vL p a b o k)) (false, ((p.Vars.length : Int), vL p a b o p.Vars.length)) (fun k hk' => ?_) (by simp) rfl).trans ?_
 . obtain ⟨v, hv⟩ := zv hk'
   obtain ⟨x, hx⟩ := zv (l := a) (i := k) (by omega)
   obtain ⟨y, hy⟩ := zv (l := b) (i := k) (by omega)
   have hcx := zvo hfa (List.mem_of_getElem? hx)
   have hlt : (k : Int) < (p.Vars.length : Int) := by omega
   have hwr : IntKind.wrap .i64 ((k : Int) + 1) = ((k + 1 : Nat) : Int) := w64 (by omega) (by omega)
   have n1 : (0 : Int) <= (k : Int) := by omega
   have hside : (k + 1) * 8 <= 70368744177664 := by omega
   simp only [hlt, decide_true, cond_true, zh, n1, if_true, Int.toNat_natCast, hv, Option.bind_some, zcz h.lat (hgood v (List.mem_of_getElem? hv)) ho, Bool.not_true, cond_false]
   have e1 : ((axC p.Lattice v.Type_ o, up p.Lattice v.Type_.Data.toNat o.toNat) : (Bool × Bool) × Bool) = siC p.Lattice v.Type_ o := rfl
   rw [e1, ztx hv hx hy (by omega)]
   simp only [Option.bind_some, zg, hwr, zu8, zk, hside, if_true, zzz]
 . simp only
   generalize hX : vL p a b o p.Vars.length = X
   have hXl : X.length <= 1000 := by rw [<- hX, zu8]; omega
   refine (qq X.length (fun k => (k : Int)) (dlK X) (false, (X.length : Int)) (fun k hk' => ?_) (by simp) rfl).trans ?_
   . obtain ⟨x, hx⟩ := zv hk'
     have hlt : (k : Int) < (X.length : Int) := by omega
     have hwr : IntKind.wrap .i64 ((k : Int) + 1) = ((k + 1 : Nat) : Int) := w64 (by omega) (by omega)
     have n1 : (0 : Int) <= (k : Int) := by omega
     have n2 : ¬ (k : Int) = -1 := by omega
     have ht := zys hk' hXl
     simp only [hlt, decide_true, cond_true, n1, zh, true_and, if_true, Int.toNat_natCast, hx, zcn, Option.bind_some, zg, hwr, n2, decide_false, cond_false, dlK]
     by_cases e : x < 0
     . simp only [e, decide_true, cond_true, if_true]
       simp only [List.length_map] at ht
       unfold zk at ht ⊢
       rw [if_pos (by first | trivial | exact ⟨n1, hlt⟩)]
       exact ht
     . simp only [e, decide_false, cond_false, if_false]
       unfold zk
       rw [if_pos (by first | trivial | exact ⟨n1, hlt⟩)]
   . have := zB2 X
     cases hs : zw (dlK X) 0 X.length <;> rw [hs] at this <;> exact this
theorem zjg {p : TP} (h : PolIn p) {a b : List TW} (ha : a.length <= 1000000) (hb : b.length <= 1000000) (o : Int) : zh2 p a b o = some (decide ((zdc p a b o).2 = 0) && decide ((zdc p a b o).1.length = 0), (zdc p a b o).2) := by
 unfold zh2
 rw [zhs h ha hb]
 by_cases e : (zdc p a b o).2 = 0 <;> simp [e]
theorem zso (p : TP) (a b : List TW) (hu : U8s p.Lattice.Up) : ∃ r, Fz4 p a b = some r /\ (r = false -> PolIn p /\ a.length <= 40 /\ b.length <= 40) := by
 obtain ⟨x, hx, hf⟩ := zwv p hu
 obtain ⟨y, hy, hg⟩ := zkj a
 obtain ⟨z, hz, hh⟩ := zkj b
 unfold Fz4
 rw [hx, hy, hz]
 cases x
 . cases y
   . exact ⟨z, rfl, fun e => ⟨hf rfl, (hg rfl).1, (hh e).1⟩⟩
   . exact ⟨true, rfl, fun e => by cases e⟩
 . exact ⟨true, rfl, fun e => by cases e⟩
end Go.Sx.O
end
noncomputable section
namespace Go.Sx.O
open Go
def AgW (p : TP) (a b : List TW) (o : Int) : Prop := ∀ (k : Nat) v x y, p.Vars[k]? = some v -> a[k]? = some x -> b[k]? = some y -> jh (siC p.Lattice v.Type_ o) x.Value y.Value = true
theorem zxk {X : List Int} : yE X = [] ↔ ∀ x ∈ X, x < 0 := by
 unfold yE
 rw [List.filter_eq_nil_iff]
 constructor
 . intro h x hx
   have := h x hx
   simp only [decide_eq_true_eq] at this
   omega
 . intro h x hx
   have := h x hx
   simp only [decide_eq_true_eq]
   omega
structure Fit2 (p : TP) (a b : List TW) : Prop where
 fa : (qK p a).2 = 0
 fb : (qK p b).2 = 0
theorem zB0 {p : TP} {a b : List TW} {o : Int} (f : Fit2 p a b) : (yE (vL p a b o p.Vars.length)).length = 0 ↔ AgW p a b o := by
 obtain ⟨_, hla, _, _⟩ := wO f.fa
 obtain ⟨_, hlb, _, _⟩ := wO f.fb
 rw [List.length_eq_zero_iff, zxk]
 constructor
 . intro h k v x y hv hx hy
   have hk : k < p.Vars.length := (List.getElem?_eq_some_iff.1 hv).1
   have := h (vK p a b o k) (by unfold vL; rw [List.mem_map]; exact ⟨k, List.mem_range.2 hk, rfl⟩)
   unfold vK at this
   rw [hv, hx, hy] at this
   simp only at this
   by_cases e : jh (siC p.Lattice v.Type_ o) x.Value y.Value = true
   . exact e
   . rw [if_neg e] at this; omega
 . intro h x hx
   unfold vL at hx
   rw [List.mem_map] at hx
   obtain ⟨k, hk, rfl⟩ := hx
   have hk := List.mem_range.1 hk
   obtain ⟨v, hv⟩ := zv hk
   obtain ⟨x, hx⟩ := zv (l := a) (i := k) (by omega)
   obtain ⟨y, hy⟩ := zv (l := b) (i := k) (by omega)
   unfold vK
   rw [hv, hx, hy]
   simp only [h k v x y hv hx hy, if_true]
   decide
def agD (p : TP) (a b : List TW) (o : Int) : Bool := decide ((yE (vL p a b o p.Vars.length)).length = 0)
theorem zqm {p : TP} {a b : List TW} {o : Int} (f : Fit2 p a b) : agD p a b o = true ↔ AgW p a b o := by
 unfold agD; rw [decide_eq_true_iff]; exact zB0 f
theorem zwf {p : TP} (h : PolIn p) {a b : List TW} (ha : a.length <= 1000000) (hb : b.length <= 1000000) {o : Int} (f : Fit2 p a b) (ho : qe p.Lattice o = true) : zh2 p a b o = some (agD p a b o, 0) := by
 rw [zjg h ha hb]
 have : zdc p a b o = (yE (vL p a b o p.Vars.length), 0) := by
  unfold zdc
  rw [if_pos (by rw [if_pos f.fa]; exact f.fb), if_pos ho]
 rw [this]
 simp [agD]
theorem zir (x y : TW) (h : x.Value.Cells.length <= 9223372036854775807) : zli x y = some (decide (x.Name = y.Name) && xU x.Value y.Value) := by
 unfold zli
 rw [zbg _ _ h]
 by_cases e : x.Name = y.Name <;> simp [e]
theorem zhz (a b : List TW) (ha : a.length <= 1000000) (hc : ∀ x ∈ a, x.Value.Cells.length <= 9223372036854775807) : Tot (zhd a b) fun r => (r = true ↔ a = b) := by
 unfold zhd zrq
 simp only [List.length_map]
 by_cases e5 : a.length = b.length
 case neg =>
  have e6 : ¬ (a.length : Int) = b.length := by omega
  have e7 : a ≠ b := fun e => e5 (by rw [e])
  simp [e6, e7, zr]
 simp only [e5, decide_true, Bool.not_true, cond_false, zx]
 refine zmm (l := a) (m := b) b.length (fun x y => decide (x.Name = y.Name) && xU x.Value y.Value) (bad := fun _ => false) (e := ()) (by omega) (Nat.le_refl _) (fun k x y hx hy hk => ?_) (by simp) (fun hall => ?_) (fun k x y hx hy hk e _ => ?_)
 . simp only [Int.ofNat_lt, hk, decide_true, cond_true, zh, Int.toNat_natCast, hx, hy, Option.bind_some, zg, Int.natCast_nonneg, if_true, zir x y (hc x (List.mem_of_getElem? hx))]
   rw [w64 (by omega) (by omega)]
   cases (decide (x.Name = y.Name) && xU x.Value y.Value) <;> simp
 . have : a = b := ue e5 fun k x y hx hy hk => by
    have := hall k x y hx hy (by omega)
    simp only [Bool.and_eq_true, decide_eq_true_eq, sameA_iff] at this
    obtain ⟨xn, xv⟩ := x
    obtain ⟨yn, yv⟩ := y
    simp only at this
    rw [this.1, this.2]
   simp [this, zr]
 . have : a ≠ b := by
    rintro rfl
    rw [hx] at hy; cases hy
    simp [sameA_iff.2 (rfl : x.Value = x.Value)] at e
   simp [this, zr]
end Go.Sx.O
end
namespace Go.Sx.O
open Go
end Go.Sx.O
noncomputable section
namespace Go.Sx.O
open Go
def xC (s : (Bool × Bool) × Bool) (l m : Int × Int) : Int × Int := (if s.1.1 = true then l.1 else m.1, if s.1.2 = true then l.2 else m.2)
theorem zvx {σ : Type} (s : (Bool × Bool) × Bool) (l m : Int × Int) {k1 : Int × Int -> Option σ} :
 (Option.bind (lpO (fun (s612 : Int × Int × Int) =>
 cond (decide (s612.fst < (2 : Int)))
 (zh ([s.fst.fst, s.fst.snd]) (s612.fst) fun x615 =>
 cond (!x615)
 (zk ((0 : Int) <= s612.fst /\ s612.fst < (↑(2 : Nat) : Int)) (
 zh ([m.fst, m.snd]) ((↑(Int.toNat s612.fst) : Int)) fun x617 =>
 zk ((0 : Int) <= s612.fst /\ s612.fst < (↑(2 : Nat) : Int)) (
 zh ([s612.snd.fst, s612.snd.snd]) ((↑(Int.toNat s612.fst) : Int)) fun _ =>
 zg (IntKind.wrap IntKind.i64 (s612.fst + (1 : Int))) fun x619 =>
 some (Sum.inl ((x619, qZ s612.snd (Int.toNat s612.fst) x617))))))
 (zg (IntKind.wrap IntKind.i64 (s612.fst + (1 : Int))) fun x620 =>
 some (Sum.inl ((x620, s612.snd)))))
 (some (Sum.inr (Sum.inl (s612.snd) : (Int × Int) ⊕ σ)))) (((0 : Int), l)))
 (Sum.elim k1 some)) = k1 (xC s l m) := by
 obtain ⟨⟨s1, s2⟩, s3⟩ := s
 obtain ⟨l1, l2⟩ := l
 obtain ⟨m1, m2⟩ := m
 refine wK 2 (fun k => ((k : Int), (if k = 0 then l1 else if s1 = true then l1 else m1, if k < 2 then l2 else if s2 = true then l2 else m2))) (xC ((s1, s2), s3) (l1, l2) (m1, m2)) (fun k hk => ?_) (by simp [xC]) rfl
 have hk2 : k = 0 \/ k = 1 := by omega
 rcases hk2 with rfl | rfl
 . cases s1 <;> simp [zh, zk, zg, qZ, show IntKind.wrap .i64 1 = 1 by decide]
 . cases s2 <;> simp [zh, zk, zg, qZ, show IntKind.wrap .i64 2 = 2 by decide] <;> cases s1 <;> simp
def zbc (s : (Bool × Bool) × Bool) (a : TA) : TA := if s.2 = true then a else ⟨a.Kind, a.Rank, xC s a.Lens (0, 0), List.replicate (qO a.Rank (xC s a.Lens (0, 0))).toNat 0⟩
theorem zqt {r : Int} {l : Int × Int} (h : shC r l = 0) : 0 <= l.1 /\ l.1 <= 400 /\ 0 <= l.2 /\ l.2 <= 400 := by
 unfold shC at h
 repeat' split at h
 all_goals omega
theorem zn1 {r : Int} {l : Int × Int} (s : (Bool × Bool) × Bool) (h : shC r l = 0) : shC r (xC s l (0, 0)) = 0 := by
 obtain ⟨a0, a1, b0, b1⟩ := zqt h
 obtain ⟨⟨s1, s2⟩, s3⟩ := s
 unfold shC at h ⊢
 by_cases r0 : r = 0
 . simp only [r0, if_true] at h ⊢
   repeat' split at h
   all_goals first | omega | skip
   cases s1 <;> cases s2 <;> simp [xC, *]
 . by_cases r1 : r = 1
   . simp only [r1] at h ⊢
     simp (config := { decide := true }) only [if_false, if_true] at h ⊢
     repeat' split at h
     all_goals first | omega | skip
     cases s1 <;> cases s2 <;> simp [xC, *] <;> omega
   . by_cases r2 : r = 2
     . simp only [r2] at h ⊢
       simp (config := { decide := true }) only [if_false, if_true] at h ⊢
       repeat' split at h
       all_goals first | omega | skip
       cases s1 <;> cases s2 <;> simp [xC, *] <;> omega
     . simp only [r0, r1, r2, if_false] at h
       omega
theorem zyu {r : Int} {l : Int × Int} (h : shC r l = 0) {i : Int} (h0 : 0 <= i) (h1 : i < qO r l) : ∃ x, zlb r l i = some (x, 0) := by
 obtain ⟨a0, a1, b0, b1⟩ := zqt h
 have c1 : ¬ i < 0 := by omega
 have c2 : ¬ qO r l <= i := by omega
 unfold zlb
 rw [yA]
 simp only [Option.bind_some, h, decide_true, Bool.not_true, cond_false, if_true, c1, c2, decide_false]
 by_cases h2 : r < 2
 . simp only [h2, decide_true, cond_true]; exact ⟨_, rfl⟩
 . have hr : r = 2 := by
    unfold shC at h
    repeat' split at h
    all_goals omega
   have hl : l.2 ≠ 0 := fun e => by
    unfold qO at h1
    rw [if_pos hr, e, Int.mul_zero] at h1
    omega
   simp only [h2, decide_false, cond_false, zk, hl, ne_eq, not_false_eq_true, if_true, zg]
   exact ⟨_, rfl⟩
theorem zt7 (n : Nat) : List.replicate n (0 : Int) ++ [0] = List.replicate (n + 1) 0 := by
 rw [List.replicate_succ']
theorem zjo (a : TA) (s : (Bool × Bool) × Bool) (h : shC a.Rank a.Lens = 0) : zlp a s (0, 0) = some (⟨a.Kind, a.Rank, xC s a.Lens (0, 0), List.replicate (qO a.Rank (xC s a.Lens (0, 0))).toNat 0⟩, true) := by
 unfold zlp
 rw [zvx]
 have hs := zn1 s h
 obtain ⟨m0, m4⟩ := zbh hs
 rw [yA]
 simp only [Option.bind_some, hs, decide_true, Bool.not_true, cond_false, if_true]
 generalize hM : qO a.Rank (xC s a.Lens (0, 0)) = M at m0 m4
 refine (wK M.toNat (fun k => ((k : Int), List.replicate k (0 : Int))) (List.replicate M.toNat (0 : Int)) (fun k hk => ?_) ?_ rfl).trans rfl
 . have hlt : (k : Int) < M := by omega
   have hw : IntKind.wrap .i64 ((k : Int) + 1) = ((k + 1 : Nat) : Int) := w64 (by omega) (by omega)
   obtain ⟨x, hx⟩ := zyu hs (i := (k : Int)) (by omega) (by rw [hM]; exact hlt)
   have hside : (k + 1) * 8 <= 70368744177664 := by omega
   simp only [hlt, decide_true, cond_true, hx, Option.bind_some, Bool.not_true, cond_false, zl3, List.length_map, List.length_replicate, zk, hside, if_true, zg, hw, zt7]
 . have : ¬ ((M.toNat : Nat) : Int) < M := by omega
   simp only [this, decide_false, cond_false]
def yI (p : TP) (w : List TW) (o : Int) (n : Nat) : List TW := (List.range n).map fun k => match p.Vars[k]?, w[k]? with
 | some v, some x => ⟨x.Name, zbc (siC p.Lattice v.Type_ o) x.Value⟩
 | _, _ => ⟨[], ⟨0, 0, (0, 0), []⟩⟩
theorem xI {p : TP} {w : List TW} {o : Int} {n : Nat} : (yI p w o n).length = n := by simp [yI]
theorem zwc {p : TP} {w : List TW} {o : Int} {k : Nat} {v : TV} {x : TW} (hv : p.Vars[k]? = some v) (hx : w[k]? = some x) : yI p w o (k + 1) = yI p w o k ++ [⟨x.Name, zbc (siC p.Lattice v.Type_ o) x.Value⟩] := by
 unfold yI
 rw [List.range_succ, List.map_append]
 simp [hv, hx]
def zfq (p : TP) (w : List TW) (o : Int) : List TW × Int := if (qK p w).2 = 0 then (if qe p.Lattice o = true then (yI p w o p.Vars.length, 0) else ([], 7)) else ([], (qK p w).2)
theorem zia {a : TA} (h : yi a = 0) : shC a.Rank a.Lens = 0 /\ (a.Cells.length : Int) = qO a.Rank a.Lens := by
 unfold yi at h
 split at h
 . split at h
   . rename_i h1
     split at h
     . rename_i h2; exact ⟨h1, h2⟩
     . omega
   . rename_i h1; exact absurd h h1
 . omega
theorem zyg {p : TP} {w : List TW} {o : Int} {k : Nat} {v : TV} {x : TW} (hx : w[k]? = some x) (ha : yi x.Value = 0) : zlt (k : Int) (siC p.Lattice v.Type_ o) w = some ⟨x.Name, zbc (siC p.Lattice v.Type_ o) x.Value⟩ := by
 unfold zlt zbc
 have n1 : (0 : Int) <= (k : Int) := by omega
 simp only [zh, n1, if_true, Int.toNat_natCast, hx, Option.bind_some, zjo _ _ (zia ha).1]
 cases (siC p.Lattice v.Type_ o).2 <;> simp
theorem zc2 {p : TP} (h : PolIn p) {w : List TW} (hw : w.length <= 1000000) (o : Int) : zh6 p w o = some (zfq p w o) := by
 unfold zh6 zfq
 rw [zsy h hw]
 simp only [Option.bind_some]
 by_cases hf : (qK p w).2 = 0
 case neg => simp [hf]
 obtain ⟨hk, hl, _, hfx⟩ := wO hf
 obtain ⟨h32, hgood⟩ := zbt hk
 simp only [hf, decide_true, Bool.not_true, cond_false, if_true]
 unfold zrs
 simp only [List.length_map]
 by_cases ho : qe p.Lattice o = true
 case neg =>
  rcases zhg ho with g | g
  . simp [g, ho]
  . by_cases g2 : o < 0 <;> simp [g, g2, ho]
 obtain ⟨o0, o1⟩ := labB_iff.1 ho
 have c1 : ¬ o < 0 := by omega
 have c2 : ¬ (p.Lattice.Names.length : Int) <= o := by omega
 simp only [c1, c2, ho, decide_false, cond_false, if_true]
 refine (congrArg (fun x => Option.bind x fun y => some y) (wK p.Vars.length (fun k => ((k : Int), yI p w o k)) (yI p w o p.Vars.length) (fun k hk' => ?_) (by simp) rfl)).trans rfl
 obtain ⟨v, hv⟩ := zv hk'
 obtain ⟨x, hx⟩ := zv (l := w) (i := k) (by omega)
 have hlt : (k : Int) < (p.Vars.length : Int) := by omega
 have hwr : IntKind.wrap .i64 ((k : Int) + 1) = ((k + 1 : Nat) : Int) := w64 (by omega) (by omega)
 have n1 : (0 : Int) <= (k : Int) := by omega
 have hside : (k + 1) * 72 <= 70368744177664 := by omega
 have e1 : ((axC p.Lattice v.Type_ o, up p.Lattice v.Type_.Data.toNat o.toNat) : (Bool × Bool) × Bool) = siC p.Lattice v.Type_ o := rfl
 simp only [hlt, decide_true, cond_true, zh, n1, if_true, Int.toNat_natCast, hv, Option.bind_some, zcz h.lat (hgood v (List.mem_of_getElem? hv)) ho, Bool.not_true, cond_false, e1, zyg hx (hfx k x v hx hv).2.1, zg, hwr, xI, zk, hside, zwc hv hx]
end Go.Sx.O
end
namespace Go.Sx.O
open Go
open Go
theorem zD0 {r : Int} {l : Int × Int} (h : shC r l = 0) : r = 0 \/ r = 1 \/ r = 2 := by
 unfold shC at h
 repeat' split at h
 all_goals omega
open Go
open Go
theorem zav {p : TP} {w : List TW} {o : Int} {n k : Nat} (hk : k < n) {v : TV} {x : TW} (hv : p.Vars[k]? = some v) (hx : w[k]? = some x) : (yI p w o n)[k]? = some ⟨x.Name, zbc (siC p.Lattice v.Type_ o) x.Value⟩ := by
 unfold yI
 rw [List.getElem?_map, List.getElem?_range hk]
 simp [hv, hx]
theorem zrz {s : (Bool × Bool) × Bool} {a : TA} (h : yi a = 0) : (zbc s a).Cells.length <= 400 := by
 unfold zbc
 split
 . exact zf0 h
 . have := zbh (zn1 s (zia h).1)
   simp only [List.length_replicate]
   omega
theorem zsd {p : TP} {w : List TW} {o : Int} : (zfq p w o).1.length <= 32 /\ ∀ x ∈ (zfq p w o).1, x.Value.Cells.length <= 400 := by
 unfold zfq
 split
 case isFalse => simp
 rename_i hf
 split
 case isFalse => simp
 obtain ⟨hk, hl, _, hfx⟩ := wO hf
 obtain ⟨h32, _⟩ := zbt hk
 refine ⟨by simpa only [xI] using h32, fun z hz => ?_⟩
 obtain ⟨k, hk'⟩ := List.mem_iff_getElem?.1 hz
 have hlt : k < p.Vars.length := by have := (List.getElem?_eq_some_iff.1 hk').1; simpa only [xI] using this
 obtain ⟨v, hv⟩ := zv hlt
 obtain ⟨x, hx⟩ := zv (l := w) (i := k) (by omega)
 have e := zav (o := o) hlt hv hx
 rw [show yI p w o p.Vars.length = (yI p w o p.Vars.length, (0 : Int)).1 from rfl, hk'] at e
 cases e
 exact zrz (hfx k x v hx hv).2.1
open Go
theorem zxs {n : Nat} (h : n <= 8) : IntKind.wrap .i64 (1 * 2 ^ min (Int.toNat (n : Int)) (IntKind.bits .i64)) = ((2 ^ n : Nat) : Int) /\ IntKind.wrap .i64 (((2 ^ n : Nat) : Int) - 1) = ((2 ^ n - 1 : Nat) : Int) := by
 have key : ∀ n : Fin 9, IntKind.wrap .i64 (1 * 2 ^ min (Int.toNat ((n.val : Nat) : Int)) (IntKind.bits .i64)) = ((2 ^ n.val : Nat) : Int) /\ IntKind.wrap .i64 (((2 ^ n.val : Nat) : Int) - 1) = ((2 ^ n.val - 1 : Nat) : Int) := by decide +kernel
 exact key ⟨n, by omega⟩
theorem zCz {l : TL} (h : LatIn l) (hk : (qD l).2 = 0) : zey l = some (qx l : Int) := by
 have ok := wZ h hk
 have hle := ok.le
 have hlen := ok.len
 obtain ⟨p1, p2⟩ := zxs hle
 have hb := (zbu h hk).1
 unfold zey
 simp only [List.length_map, hlen]
 refine (qq l.Names.length (fun k => (k : Int)) (fun k => if k = qx l then some (qx l : Int) else none) () (fun k hk' => ?_) (by simp) rfl).trans ?_
 . have hlt : (k : Int) < (l.Names.length : Int) := by omega
   have hw : IntKind.wrap .i64 ((k : Int) + 1) = ((k + 1 : Nat) : Int) := w64 (by omega) (by omega)
   have n1 : (0 : Int) <= (k : Int) := by omega
   have n2 : (0 : Int) <= (l.Names.length : Int) := by omega
   have hu := uV ok.u8 (a := k) (by omega)
   have hw2 : IntKind.wrap .i64 (upN l k : Int) = (upN l k : Int) := w64 (by omega) (by omega)
   have e : ((upN l k : Int) = ((2 ^ l.Names.length - 1 : Nat) : Int)) ↔ k = qx l := by
    rw [<- zol h hk hk']; omega
   simp only [hlt, decide_true, cond_true, zh, n1, n2, if_true, Int.toNat_natCast, xr ok.u8 (a := k) (by omega), Option.bind_some, zg, zk, hw2]
   rw [Int.toNat_natCast] at p1
   simp only [p1, p2, hw]
   by_cases e2 : k = qx l
   . rw [if_pos e2, decide_eq_true (e.2 e2), cond_true, e2]
   . rw [if_neg e2, decide_eq_false (fun x => e2 (e.1 x)), cond_false]
 . rw [zqk (k := qx l) (r := (qx l : Int)) (by omega) (by omega) (fun j _ hj => by rw [if_neg (by omega)]) (by rw [if_pos rfl])]
theorem zl7 (l : TL) (a : Int) : xX l a = some (qe l a) := by
 unfold xX qe
 by_cases h : 0 <= a <;> simp [h]
theorem zcf {l : TL} (ok : LatOK l) {a b : Int} (ha : qe l a = true) (hb : qe l b = true) : xJ l a b = some (up l a.toNat b.toNat) := by
 obtain ⟨a0, a1⟩ := labB_iff.1 ha
 obtain ⟨b0, b1⟩ := labB_iff.1 hb
 have hle := ok.le
 have hlen := ok.len
 have := jk ok.u8 (a := a.toNat) (b := b.toNat) (by omega) (by omega)
 rw [Int.toNat_of_nonneg a0, Int.toNat_of_nonneg b0] at this
 unfold xJ
 rw [this]; rfl
theorem zku {l : TL} (h : LatIn l) {t : TY} (hg : wM l t = 0) : zls l t = some 0 := by
 obtain ⟨hk, hkind, hr0, hr2, l1, l2, l3, hbot, hup⟩ := xh hg
 have ok := wZ h hk
 have c1 : ¬ t.Rank < 0 := by omega
 have c2 : ¬ 2 < t.Rank := by omega
 have tail : (Option.bind (
 lpO (fun (s1330 : Int) =>
 cond (decide (s1330 < (2 : Int)))
 (zk ((0 : Int) <= s1330 /\ s1330 < (↑(2 : Nat) : Int)) (
 zh ([t.Axes.fst, t.Axes.snd]) ((↑(Int.toNat s1330) : Int)) fun x1337 =>
 Option.bind (zey (l)) fun x1338 =>
 cond (!decide (x1337 = x1338))
 (some (Sum.inr (Sum.inr ((6 : Int)))))
 (zg (IntKind.wrap IntKind.i64 (s1330 + (1 : Int))) fun x1340 =>
 some (Sum.inl (x1340)))))
 (some (Sum.inr (Sum.inl (()))))) (t.Rank))
 (Sum.elim (fun (_ : Unit) =>
 Option.bind (
 lpO (fun (s1343 : Int) =>
 cond (decide (s1343 < t.Rank))
 (zk ((0 : Int) <= s1343 /\ s1343 < (↑(2 : Nat) : Int)) (
 zh ([t.Axes.fst, t.Axes.snd]) ((↑(Int.toNat s1343) : Int)) fun x1348 =>
 Option.bind (xJ (l) (x1348) (t.Data)) fun x1349 =>
 cond (!x1349)
 (some (Sum.inr (Sum.inr ((25 : Int)))))
 (zg (IntKind.wrap IntKind.i64 (s1343 + (1 : Int))) fun x1351 =>
 some (Sum.inl (x1351)))))
 (some (Sum.inr (Sum.inl (()))))) ((0 : Int)))
 (Sum.elim (fun (_ : Unit) =>
 some ((0 : Int))) some)) some)) = some 0 := by
  have e0 : ((t.Rank.toNat : Nat) : Int) = t.Rank := Int.toNat_of_nonneg hr0
  refine (wK (2 - t.Rank.toNat) (fun k => ((t.Rank.toNat + k : Nat) : Int)) () (fun k hk' => ?_) ?_ (by simpa using e0)).trans ?_
  . have hlt : ((t.Rank.toNat + k : Nat) : Int) < 2 := by omega
    have n2 : (0 : Int) <= ((t.Rank.toNat + k : Nat) : Int) /\ ((t.Rank.toNat + k : Nat) : Int) < ((2 : Nat) : Int) := ⟨by omega, by omega⟩
    have hw : IntKind.wrap .i64 (((t.Rank.toNat + k : Nat) : Int) + 1) = ((t.Rank.toNat + (k + 1) : Nat) : Int) := w64 (by omega) (by omega)
    obtain ⟨x, hx⟩ := zv (l := [t.Axes.1, t.Axes.2]) (i := t.Rank.toNat + k) (by simp only [List.length_cons, List.length_nil]; omega)
    have hx2 : x = (qx l : Int) := by
     have hm : x ∈ [t.Axes.1, t.Axes.2].drop t.Rank.toNat := List.mem_of_getElem? (i := k) (by rw [List.getElem?_drop]; exact hx)
     simpa using List.all_eq_true.1 hbot x hm
    simp only [hlt, decide_true, cond_true, zk, n2.1, n2.2, and_self, zh, if_true, Int.toNat_natCast, hx, hx2, Option.bind_some, zCz h hk, Bool.not_true, cond_false, zg, hw]
  . have hlt : ¬ ((t.Rank.toNat + (2 - t.Rank.toNat) : Nat) : Int) < 2 := by omega
    simp only [hlt, decide_false, cond_false]
  . refine (wK t.Rank.toNat (fun k => (k : Int)) () (fun k hk' => ?_) ?_ (by simp)).trans rfl
    . have hlt : (k : Int) < t.Rank := by omega
      have n2 : (0 : Int) <= (k : Int) /\ (k : Int) < ((2 : Nat) : Int) := ⟨by omega, by omega⟩
      have hw : IntKind.wrap .i64 ((k : Int) + 1) = ((k + 1 : Nat) : Int) := w64 (by omega) (by omega)
      obtain ⟨x, hx⟩ := zv (l := [t.Axes.1, t.Axes.2]) (i := k) (by simp only [List.length_cons, List.length_nil]; omega)
      have hm : x ∈ [t.Axes.1, t.Axes.2].take t.Rank.toNat := List.mem_of_getElem? (i := k) (by rw [List.getElem?_take, if_pos hk']; exact hx)
      have hx2 : up l x.toNat t.Data.toNat = true := by simpa using List.all_eq_true.1 hup x hm
      have hx3 : qe l x = true := by
       have := List.mem_of_mem_take hm
       simp only [List.mem_cons, List.not_mem_nil, or_false] at this
       rcases this with rfl | rfl
       . exact l1
       . exact l2
      simp only [hlt, decide_true, cond_true, zk, n2.1, n2.2, and_self, zh, if_true, Int.toNat_natCast, hx, Option.bind_some, zcf ok hx3 l3, hx2, Bool.not_true, cond_false, zg, hw]
    . have hlt : ¬ ((t.Rank.toNat : Nat) : Int) < t.Rank := by omega
      simp only [hlt, decide_false, cond_false]
 unfold zls
 simp only [zl7, l1, l2, l3, Option.bind_some, Bool.not_true, cond_false, c1, c2, decide_false]
 rw [tail]
 by_cases k1 : t.Kind = 1
 . simp [k1]
 . have k2 : t.Kind = 2 := by omega
   simp [k2]
theorem zk6 {l : TL} (h : LatIn l) {t : TY} (hg : wM l t = 0) {o : Int} (ho : qe l o = true) : zl0 l t o = some (axC l t o, up l t.Data.toNat o.toNat, 0) := by
 obtain ⟨hk, hkind, hr0, hr2, l1, l2, l3, hbot, hup⟩ := xh hg
 have ok := wZ h hk
 obtain ⟨a0, a1⟩ := labB_iff.1 l1
 obtain ⟨b0, b1⟩ := labB_iff.1 l2
 obtain ⟨d0, d1⟩ := labB_iff.1 l3
 obtain ⟨o0, o1⟩ := labB_iff.1 ho
 have tr : ∀ a : Int, 0 <= a -> a < (l.Names.length : Int) -> up l a.toNat t.Data.toNat = true -> up l t.Data.toNat o.toNat = true -> up l a.toNat o.toNat = true := fun a h0 h1 h2 h3 => zrr ok (by omega) (by omega) (by omega) h2 h3
 have hc : zld l t = some 0 := by
  unfold zld
  rw [xp l h.u8 h.names h.name, <- zbn h]
  simp [hk, zku h hg]
 unfold zl0
 rw [hc]
 simp only [Option.bind_some, decide_true, cond_true, zl7, ho, Bool.not_true, cond_false, zcf ok l3 ho]
 refine (wK t.Rank.toNat (fun k => ((k : Int), up l t.Data.toNat o.toNat, (decide (0 < k) && up l t.Axes.1.toNat o.toNat, decide (1 < k) && up l t.Axes.2.toNat o.toNat))) (up l t.Data.toNat o.toNat, axC l t o) (fun k hk' => ?_) ?_ (by simp)).trans rfl
 . have hlt : (k : Int) < t.Rank := by omega
   have hw : IntKind.wrap .i64 ((k : Int) + 1) = ((k + 1 : Nat) : Int) := w64 (by omega) (by omega)
   have n1 : (0 : Int) <= (k : Int) := by omega
   have n2 : (0 : Int) <= (k : Int) /\ (k : Int) < ((2 : Nat) : Int) := ⟨n1, by omega⟩
   have hk2 : k = 0 \/ k = 1 := by omega
   simp only [hlt, decide_true, cond_true, zk, n2.1, n2.2, and_self, zh, if_true, Int.toNat_natCast, zg, hw]
   rcases hk2 with rfl | rfl
   . have hu1 : up l t.Axes.1.toNat t.Data.toNat = true := by
      have : t.Rank.toNat = 1 \/ t.Rank.toNat = 2 := by omega
      rcases this with e | e <;> (rw [e] at hup; simp at hup) <;> first | exact hup | exact hup.1
     have := tr _ a0 a1 hu1
     simp only [List.getElem?_cons_zero, zcf ok l1 ho, Option.bind_some]
     cases hd : up l t.Data.toNat o.toNat
     . simp [qZ]
     . simp [qZ, this hd]
   . have hu1 : up l t.Axes.2.toNat t.Data.toNat = true := by
      have : t.Rank.toNat = 2 := by omega
      rw [this] at hup; simp at hup; exact hup.2
     have := tr _ b0 b1 hu1
     simp only [List.getElem?_cons_zero, List.getElem?_cons_succ, zcf ok l2 ho, Option.bind_some]
     cases hd : up l t.Data.toNat o.toNat
     . simp [qZ]
     . simp [qZ, this hd]
 . have e2 : ¬ ((t.Rank.toNat : Nat) : Int) < t.Rank := by omega
   simp only [e2, decide_false, cond_false, axC]
   have e3 : decide (0 < t.Rank.toNat) = decide (0 < t.Rank) := decide_eq_decide.2 (by omega)
   have e4 : decide (1 < t.Rank.toNat) = decide (1 < t.Rank) := decide_eq_decide.2 (by omega)
   rw [e3, e4]
open Go
theorem zAc {l : TL} (h : LatIn l) {t : TY} (hg : wM l t = 0) {o : Int} (ho : qe l o = true) (hd : (siC l t o).2 = true) : (0 < t.Rank -> (siC l t o).1.1 = true) /\ (1 < t.Rank -> (siC l t o).1.2 = true) := by
 obtain ⟨hk, hkind, hr0, hr2, l1, l2, l3, hbot, hup⟩ := xh hg
 have ok := wZ h hk
 obtain ⟨a0, a1⟩ := labB_iff.1 l1
 obtain ⟨b0, b1⟩ := labB_iff.1 l2
 obtain ⟨d0, d1⟩ := labB_iff.1 l3
 obtain ⟨o0, o1⟩ := labB_iff.1 ho
 have hd' : up l t.Data.toNat o.toNat = true := hd
 constructor
 . intro hr
   have hu1 : up l t.Axes.1.toNat t.Data.toNat = true := by
    have : t.Rank.toNat = 1 \/ t.Rank.toNat = 2 := by omega
    rcases this with e | e <;> (rw [e] at hup; simp at hup) <;> first | exact hup | exact hup.1
   simp only [siC, axC, hr, decide_true, Bool.true_and]
   exact zrr ok (by omega) (by omega) (by omega) hu1 hd'
 . intro hr
   have hu1 : up l t.Axes.2.toNat t.Data.toNat = true := by
    have : t.Rank.toNat = 2 := by omega
    rw [this] at hup; simp at hup; exact hup.2
   simp only [siC, axC, hr, decide_true, Bool.true_and]
   exact zrr ok (by omega) (by omega) (by omega) hu1 hd'
theorem zAi {r : Int} {l m : Int × Int} (h : shC r l = 0) (g : shC r m = 0) (e1 : 0 < r -> l.1 = m.1) (e2 : 1 < r -> l.2 = m.2) : l = m := by
 obtain ⟨l1, l2⟩ := l
 obtain ⟨m1, m2⟩ := m
 simp only at e1 e2
 rcases zD0 h with rfl | rfl | rfl
 . unfold shC at h g
   simp only [if_true] at h g
   repeat' split at h
   all_goals first | omega | skip
   repeat' split at g
   all_goals first | omega | skip
   simp_all
 . have := e1 (by decide)
   unfold shC at h g
   simp (config := { decide := true }) only [if_false, if_true] at h g
   repeat' split at h
   all_goals first | omega | skip
   repeat' split at g
   all_goals first | omega | skip
   simp_all
 . rw [e1 (by decide), e2 (by decide)]
def cdK (a b : List Int) (k : Nat) : Option (Bool × Int) := match a[k]?, b[k]? with | some x, some y => if x = y then none else some (false, 0) | _, _ => none
theorem zyf {a b : List Int} (h : a.length = b.length) : zw (cdK a b) 0 a.length = if a = b then none else some (false, 0) := by
 have hv : ∀ i r, cdK a b i = some r -> r = (false, 0) /\ a ≠ b := fun i r e => by
  unfold cdK at e
  split at e
  . rename_i x y hx hy
    split at e
    . cases e
    . rename_i hne
      cases e
      refine ⟨rfl, fun q => hne ?_⟩
      subst q
      rw [hx] at hy; cases hy; rfl
  . cases e
 cases hs : zw (cdK a b) 0 a.length with
 | some r =>
   obtain ⟨e1, e2⟩ := zev hv hs
   rw [if_neg e2, e1]
 | none =>
   have hall := scan_none.1 hs
   have : a = b := ue h fun k x y hx hy hk => by
    have := hall k (by omega) (by omega)
    unfold cdK at this
    rw [hx, hy] at this
    simp only at this
    split at this
    . assumption
    . cases this
   rw [if_pos this]
theorem zpj {a b : List Int} (s : Bool) (h : s = true -> a.length = b.length) (hl : a.length <= 1000000) :
 (Option.bind (
 lpO (fun (s1448 : Int) =>
 cond (s)
 (cond (decide (s1448 < (↑(List.length (List.map (SV.int IntKind.i64) a)) : Int)))
 (zh (a) (s1448) fun x1456 =>
 zh (b) (s1448) fun x1457 =>
 cond (!decide (x1456 = x1457))
 (some (Sum.inr (Sum.inr ((false, (0 : Int))))))
 (zg (IntKind.wrap IntKind.i64 (s1448 + (1 : Int))) fun x1459 =>
 some (Sum.inl (x1459))))
 (some (Sum.inr (Sum.inl (())))))
 (some (Sum.inr (Sum.inl (()))))) ((0 : Int)))
 (Sum.elim (fun (_ : Unit) =>
 some ((true, (0 : Int)))) some)) = some (!s || decide (a = b), 0) := by
 cases s with
 | false => rw [qy]; rfl
 | true =>
   have hlen := h rfl
   refine (qq a.length (fun k => (k : Int)) (cdK a b) () (fun k hk => ?_) (by simp) rfl).trans ?_
   . obtain ⟨x, hx⟩ := zv hk
     obtain ⟨y, hy⟩ := zv (l := b) (i := k) (by omega)
     have hw : IntKind.wrap .i64 ((k : Int) + 1) = ((k + 1 : Nat) : Int) := w64 (by omega) (by omega)
     have hlt : (k : Int) < (a.length : Int) := by omega
     have n1 : (0 : Int) <= (k : Int) := by omega
     simp only [List.length_map, hlt, decide_true, cond_true, zh, n1, if_true, Int.toNat_natCast, hx, hy, Option.bind_some, zg, hw, cdK]
     by_cases e : x = y <;> simp [e]
   . rw [zyf hlen]
     by_cases e : a = b <;> simp [e]
def zdy (s : (Bool × Bool) × Bool) (a b : TA) (k : Nat) : Option (Bool × Int) := (agK s a b k).map fun x => (x, 0)
theorem zi7 {l : TL} (h : LatIn l) {t : TY} (hg : wM l t = 0) {o : Int} (ho : qe l o = true) {a b : TA} (ha : yi a = 0) (hb : yi b = 0) (ka : a.Kind = t.Kind) (kb : b.Kind = t.Kind) (ra : a.Rank = t.Rank) (rb : b.Rank = t.Rank) :
 zlw l t o a b = some (jh (siC l t o) a b, 0) := by
 unfold zlw zlh
 rw [zk6 h hg ho, xk, xk, ha, hb]
 simp only [Option.bind_some, decide_true, cond_true, ka, kb, ra, rb, Bool.not_true, cond_false]
 have hs : (axC l t o, up l t.Data.toNat o.toNat) = siC l t o := rfl
 have e1 : axC l t o = (siC l t o).1 := rfl
 have e2 : up l t.Data.toNat o.toNat = (siC l t o).2 := rfl
 rw [e1, e2]
 have hall := zAc h hg ho
 generalize siC l t o = s at hall
 refine (qq 2 (fun k => (k : Int)) (zdy s a b) () (fun k hk => ?_) (by simp) rfl).trans ?_
 . have hk2 : k = 0 \/ k = 1 := by omega
   have hw : IntKind.wrap .i64 ((k : Int) + 1) = ((k + 1 : Nat) : Int) := w64 (by omega) (by omega)
   have hlt : (k : Int) < 2 := by omega
   have n1 : (0 : Int) <= (k : Int) := by omega
   simp only [hlt, decide_true, cond_true, zh, n1, if_true, Int.toNat_natCast, zg, hw]
   rcases hk2 with rfl | rfl
   . cases hs : s.1.1 <;> by_cases e : a.Lens.1 = b.Lens.1 <;> simp [zdy, agK, hs, e, zk]
   . cases hs : s.1.2 <;> by_cases e : a.Lens.2 = b.Lens.2 <;> simp [zdy, agK, hs, e, zk]
 . obtain ⟨sa, ca⟩ := zia ha
   obtain ⟨sb, cb⟩ := zia hb
   have hlen400 := zf0 ha
   by_cases n1 : s.1.1 = true -> a.Lens.1 = b.Lens.1
   case neg =>
    have ⟨q1, q2⟩ : s.1.1 = true /\ ¬ a.Lens.1 = b.Lens.1 := by
     by_cases q : s.1.1 = true
     . exact ⟨q, fun e => n1 fun _ => e⟩
     . exact absurd (fun x => absurd x q) n1
    simp [zw, zdy, agK, q1, q2, jh]
   by_cases n2 : s.1.2 = true -> a.Lens.2 = b.Lens.2
   case neg =>
    have ⟨q1, q2⟩ : s.1.2 = true /\ ¬ a.Lens.2 = b.Lens.2 := by
     by_cases q : s.1.2 = true
     . exact ⟨q, fun e => n2 fun _ => e⟩
     . exact absurd (fun x => absurd x q) n2
    cases p1 : s.1.1
    . simp [zw, zdy, agK, p1, q1, q2, jh]
    . simp [zw, zdy, agK, p1, q1, q2, jh, n1 p1]
   have z1 : (s.1.1 && !decide (a.Lens.1 = b.Lens.1)) = false := by
    cases p1 : s.1.1
    . rfl
    . simp [n1 p1]
   have z2 : (s.1.2 && !decide (a.Lens.2 = b.Lens.2)) = false := by
    cases p1 : s.1.2
    . rfl
    . simp [n2 p1]
   have z3 : zw (zdy s a b) 0 2 = none := by simp [zw, zdy, agK, z1, z2]
   rw [z3]
   simp only
   have hleq : s.2 = true -> a.Lens = b.Lens := fun hd => by
    refine zAi (r := t.Rank) (by rw [<- ra]; exact sa) (by rw [<- rb]; exact sb) (fun hr => n1 ((hall hd).1 hr)) (fun hr => n2 ((hall hd).2 hr))
   have hceq : s.2 = true -> a.Cells.length = b.Cells.length := fun hd => by
    have := hleq hd
    rw [this, ra] at ca
    rw [rb] at cb
    omega
   rw [zpj s.2 hceq (by omega)]
   have y1 : (!s.1.1 || decide (a.Lens.1 = b.Lens.1)) = true := by
    cases p1 : s.1.1
    . rfl
    . simp [n1 p1]
   have y2 : (!s.1.2 || decide (a.Lens.2 = b.Lens.2)) = true := by
    cases p1 : s.1.2
    . rfl
    . simp [n2 p1]
   unfold jh
   rw [y1, y2]
   cases hd : s.2
   . rfl
   . have e3 : decide (a.Cells = b.Cells) = xU a b := by
      refine znk ?_
      rw [decide_eq_true_iff]
      have el := hleq hd
      obtain ⟨k1, r1, l1, c1⟩ := a
      obtain ⟨k2, r2, l2, c2⟩ := b
      simp only at ka kb ra rb el
      subst el
      rw [ka, kb, ra, rb]
      simp
     simp [e3]
end Go.Sx.O
noncomputable section
namespace Go.Sx.O
open Go
theorem zra {s : (Bool × Bool) × Bool} {a b : TA} (hk : a.Kind = b.Kind) (hr : a.Rank = b.Rank) : jh s a b = true ↔ zbc s a = zbc s b := by
 obtain ⟨k1, r1, ⟨l1, l2⟩, c1⟩ := a
 obtain ⟨k2, r2, ⟨m1, m2⟩, c2⟩ := b
 obtain ⟨⟨s1, s2⟩, s3⟩ := s
 simp only at hk hr
 subst hk; subst hr
 unfold jh zbc
 cases s3
 . cases s1 <;> cases s2 <;> simp [xC] <;> (intros; simp_all)
 . simp only [if_true, Bool.not_true, Bool.false_or, Bool.and_eq_true, sameA_iff, TA.mk.injEq, Prod.mk.injEq, true_and]
   constructor
   . exact fun e => e.2.2
   . rintro ⟨⟨rfl, rfl⟩, rfl⟩; simp
theorem zpx {p : TP} {a b : List TW} {o : Int} (f : Fit2 p a b) : yI p a o p.Vars.length = yI p b o p.Vars.length ↔ AgW p a b o := by
 obtain ⟨hk, hla, _, fa⟩ := wO f.fa
 obtain ⟨_, hlb, _, fb⟩ := wO f.fb
 constructor
 . intro e k v x y hv hx hy
   have hlt : k < p.Vars.length := (List.getElem?_eq_some_iff.1 hv).1
   have e1 := zav (o := o) hlt hv hx
   rw [e, zav (o := o) hlt hv hy] at e1
   have := fa k x v hx hv
   have := fb k y v hy hv
   injection e1 with e1
   injection e1 with _ e2
   exact (zra (by omega) (by omega)).2 e2.symm
 . intro g
   refine ue (by rw [xI, xI]) fun k x' y' hx' hy' hlt => ?_
   rw [xI] at hlt
   obtain ⟨v, hv⟩ := zv hlt
   obtain ⟨x, hx⟩ := zv (l := a) (i := k) (by omega)
   obtain ⟨y, hy⟩ := zv (l := b) (i := k) (by omega)
   rw [zav (o := o) hlt hv hx] at hx'
   rw [zav (o := o) hlt hv hy] at hy'
   cases hx'; cases hy'
   have e1 := fa k x v hx hv
   have e2 := fb k y v hy hv
   rw [e1.1, e2.1, (zra (by omega) (by omega)).1 (g k v x y hv hx hy)]
def agU (p : TP) (a b : List TW) (o : Int) (n : Nat) : Bool := (List.range n).all fun k => match p.Vars[k]?, a[k]?, b[k]? with
 | some v, some x, some y => jh (siC p.Lattice v.Type_ o) x.Value y.Value
 | _, _, _ => true
theorem zxr {p : TP} {a b : List TW} {o : Int} {k : Nat} {v : TV} {x y : TW} (hv : p.Vars[k]? = some v) (hx : a[k]? = some x) (hy : b[k]? = some y) : agU p a b o (k + 1) = (agU p a b o k && jh (siC p.Lattice v.Type_ o) x.Value y.Value) := by
 unfold agU
 rw [List.range_succ, List.all_append]
 simp [hv, hx, hy]
theorem zAr {p : TP} {a b : List TW} {o : Int} : agU p a b o p.Vars.length = true ↔ AgW p a b o := by
 unfold agU
 rw [List.all_eq_true]
 constructor
 . intro g k v x y hv hx hy
   have := g k (List.mem_range.2 (List.getElem?_eq_some_iff.1 hv).1)
   simpa [hv, hx, hy] using this
 . intro g k hk
   rcases hv : p.Vars[k]? with _ | v
   . rfl
   rcases hx : a[k]? with _ | x
   . rfl
   rcases hy : b[k]? with _ | y
   . rfl
   exact g k v x y hv hx hy
theorem zgk {p : TP} {w : List TW} {o : Int} (hf : (qK p w).2 = 0) (ho : qe p.Lattice o = true) : zfq p w o = (yI p w o p.Vars.length, 0) := by
 unfold zfq
 rw [if_pos hf, if_pos ho]
theorem zya {p : TP} {a b : List TW} {o : Int} (f : Fit2 p a b) (ho : qe p.Lattice o = true) : zhd (yI p a o p.Vars.length) (yI p b o p.Vars.length) = some (agD p a b o) := by
 have s1 := zsd (p := p) (w := a) (o := o)
 rw [zgk f.fa ho] at s1
 simp only at s1
 obtain ⟨r, er, qr⟩ := zhz (yI p a o p.Vars.length) (yI p b o p.Vars.length) (by omega) (fun x hx => Nat.le_trans (s1.2 x hx) (by omega))
 rw [er]
 refine congrArg some ?_
 rw [Bool.eq_iff_iff, qr, zqm f]
 exact zpx f
theorem zo4 (p : TP) (a b : List TW) (w1 : W_TP p) (_ : yS W_TW a) (_ : yS W_TW b) : zr3 p a b = some true := by
 unfold zr3
 obtain ⟨r, hr, hf⟩ := zso p a b (zC0 w1.Lattice.Up)
 rw [hr]
 cases r
 case true => rfl
 obtain ⟨h, ha, hb⟩ := hf rfl
 rw [zcx h a (by omega), zcx h b (by omega)]
 simp only [Option.bind_some, cond_false]
 by_cases fa : (qK p a).2 = 0
 case neg => simp [fa]
 by_cases fb : (qK p b).2 = 0
 case neg => simp [fa, fb]
 have f : Fit2 p a b := ⟨fa, fb⟩
 obtain ⟨hk, hla, _, hfa⟩ := wO fa
 obtain ⟨_, hlb, _, hfb⟩ := wO fb
 obtain ⟨h32, hgood⟩ := zbt hk
 have ok := wZ h.lat (zzt hk)
 have hle := ok.le
 simp only [fa, fb, decide_true, Bool.not_true, cond_false, List.length_map]
 refine (wK p.Lattice.Names.length (fun k => (k : Int)) () (fun k hk' => ?_) (by simp) rfl).trans rfl
 have ho : qe p.Lattice (k : Int) = true := labB_iff.2 ⟨by omega, by omega⟩
 have hlt : (k : Int) < (p.Lattice.Names.length : Int) := by omega
 have hwr : IntKind.wrap .i64 ((k : Int) + 1) = ((k + 1 : Nat) : Int) := w64 (by omega) (by omega)
 simp only [hlt, decide_true, cond_true, zwf h (by omega) (by omega) f ho, zc2 h (show a.length <= 1000000 by omega), zc2 h (show b.length <= 1000000 by omega), zgk fa ho, zgk fb ho, Option.bind_some, Bool.not_true, cond_false, zya f ho, beq_self_eq_true]
 refine (wK p.Vars.length (fun i => ((i : Int), agU p a b (k : Int) i)) (agU p a b (k : Int) p.Vars.length) (fun i hi => ?_) (by simp [hla]) rfl).trans ?_
 . obtain ⟨v, hv⟩ := zv hi
   obtain ⟨x, hx⟩ := zv (l := a) (i := i) (by omega)
   obtain ⟨y, hy⟩ := zv (l := b) (i := i) (by omega)
   have e1 := hfa i x v hx hv
   have e2 := hfb i y v hy hv
   have hlt : (i : Int) < (a.length : Int) := by omega
   have hwi : IntKind.wrap .i64 ((i : Int) + 1) = ((i + 1 : Nat) : Int) := w64 (by omega) (by omega)
   have n1 : (0 : Int) <= (i : Int) := by omega
   simp only [hlt, decide_true, cond_true, zh, n1, if_true, Int.toNat_natCast, hv, hx, hy, Option.bind_some, zi7 h.lat (hgood v (List.mem_of_getElem? hv)) ho e1.2.1 e2.2.1 e1.2.2.1 e2.2.2.1 e1.2.2.2 e2.2.2.2, Bool.not_true, cond_false, zg, hwi, zxr hv hx hy]
   cases agU p a b (k : Int) i <;> rfl
 . have : agU p a b (k : Int) p.Vars.length = agD p a b (k : Int) := by
    rw [Bool.eq_iff_iff, zAr, zqm f]
   rw [this]
   simp [zg, hwr]
end Go.Sx.O
end
