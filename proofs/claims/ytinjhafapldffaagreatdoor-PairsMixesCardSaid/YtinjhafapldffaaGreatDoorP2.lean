/-
  An own text of this claim.
-/
import Derived.Test.YtinjhafapldffaaGreatDoorP1
namespace Go.Sx.O
open Go
def zap (ns : List (List UInt8)) (i : Nat) : Option (Int × Int) :=
 if zca (ns.getD i []) = true then (if ns.getD i [] ∈ ns.take i then some ((i : Int), 8) else none) else some ((i : Int), 6)
def jz (ns : List (List UInt8)) : Int × Int := if ns.length < 1 \/ 8 < ns.length then (-1, 3) else (zx (zap ns) 0 ns.length).getD (0, 0)
theorem yW {α : Type} {l : List α} {i : Nat} {d x : α} (h : l[i]? = some x) : l.getD i d = x := by rw [List.getD_eq_getElem?_getD, h]; rfl
theorem zy1 (ns : List (List UInt8)) (h : ns.length <= 20) (hn : ∀ s ∈ ns, s.length <= 1000) : zjr ns = some (jz ns) := by
 unfold zjr jz
 simp only [List.length_map]
 by_cases h1 : ns.length < 1
 . have : (ns.length : Int) < 1 := by omega
   simp [h1, this]
 by_cases h2 : 8 < ns.length
 . have : (8 : Int) < ns.length := by omega
   have g1 : ¬ (ns.length : Int) < 1 := by omega
   simp [h2, this, g1]
 have g1 : ¬ (ns.length : Int) < 1 := by omega
 have g2 : ¬ (8 : Int) < ns.length := by omega
 simp only [g1, g2, h1, h2, decide_false, cond_false, or_self, if_false]
 rw [ww ns.length (zap ns) () (fun k hk => ?_) (by simp)]
 . cases zx (zap ns) 0 ns.length <;> rfl
 . obtain ⟨x, hx⟩ := zv (l := ns) (i := k) hk
   have hxl := hn x (List.mem_of_getElem? hx)
   simp only [Int.ofNat_lt, hk, decide_true, cond_true, zj, Int.toNat_natCast, hx, Option.bind_some, zg, Int.natCast_nonneg, if_true]
   rw [zj7 x (by omega), jU _ _ (by simp; omega)]
   unfold zap
   rw [yW hx, w64 (by omega) (by omega)]
   cases e : zca x with
   | false => simp
   | true =>
     have hk' : k <= ns.length := by omega
     simp only [Option.bind_some, Bool.not_true, cond_false, Int.toNat_zero, List.drop_zero, if_true]
     by_cases hm : x ∈ ns.take k
     . simp [hm, zk, hk']
     . simp [hm, zk, hk']
theorem zim (c : UInt8) : Fz5 (c.toNat : Int) = some (decide (97 <= c.toNat) && decide (c.toNat <= 122)) := by
 unfold Fz5
 by_cases h : (97 : Int) <= c.toNat
 . have : 97 <= c.toNat := by omega
   simp only [h, this, decide_true, cond_true, Bool.true_and]
   congr 1
   rw [Bool.eq_iff_iff]; simp; omega
 . have : ¬ 97 <= c.toNat := by omega
   simp only [h, this, decide_false, cond_false, Bool.false_and]
theorem zth (c : UInt8) : Fz6 (c.toNat : Int) = some (decide (48 <= c.toNat) && decide (c.toNat <= 57)) := by
 unfold Fz6
 by_cases h : (48 : Int) <= c.toNat
 . have : 48 <= c.toNat := by omega
   simp only [h, this, decide_true, cond_true, Bool.true_and]
   congr 1
   rw [Bool.eq_iff_iff]; simp; omega
 . have : ¬ 48 <= c.toNat := by omega
   simp only [h, this, decide_false, cond_false, Bool.false_and]
theorem zv9 (c : UInt8) : decide (c ∈ jn) = (decide (97 <= c.toNat) && decide (c.toNat <= 122) || (decide (48 <= c.toNat) && decide (c.toNat <= 57)) || decide (c.toNat = 45)) := by
 have key : ∀ n : Fin 256, decide (UInt8.ofNat n ∈ jn) = (decide (97 <= n.val) && decide (n.val <= 122) || (decide (48 <= n.val) && decide (n.val <= 57)) || decide (n.val = 45)) := by decide +kernel
 have := key ⟨c.toNat, c.toNat_lt⟩
 simpa using this
theorem zky (s : List UInt8) (h : s.length <= 1000000000) : Fz7 s = some (zca s) := by
 unfold Fz7
 cases s with
 | nil => rfl
 | cons a r =>
   have g1 : ¬ ((a :: r).length : Int) < 1 := by simp; omega
   simp only [g1, decide_false, cond_false]
   unfold zca
   by_cases h1 : (16 : Int) < ((a :: r).length : Int)
   . have : ¬ (a :: r).length <= 16 := by omega
     simp only [h1, decide_true, cond_true, this, decide_false, Bool.false_and]
   have h1' : (a :: r).length <= 16 := by omega
   have e5 : zj (a :: r) 0 = fun f => (f a : Option Bool) := rfl
   simp only [h1, decide_false, cond_false, h1', decide_true, Bool.true_and, e5, zim, Option.bind_some]
   cases e : (decide (97 <= a.toNat) && decide (a.toNat <= 122)) with
   | false => rfl
   | true =>
     simp only [Bool.not_true, cond_false, Bool.true_and]
     generalize a :: r = s at *
     rw [ww s.length (fun k => if decide (s.getD k 0 ∈ jn) = true then none else some false) () (fun k hk => ?_) (by simp)]
     . cases hs : zx (fun k => if decide (s.getD k 0 ∈ jn) = true then none else some false) 0 s.length with
       | none =>
         have := scan_none.1 hs
         simp only
         congr 1
         symm
         rw [List.all_eq_true]
         intro c hc
         obtain ⟨i, hi, rfl⟩ := List.getElem_of_mem hc
         have := this i (by omega) (by omega)
         rw [yW (List.getElem?_eq_getElem hi)] at this
         split at this
         . assumption
         . cases this
       | some b =>
         simp only
         congr 1
         have hall : ¬ s.all (fun c => decide (c ∈ jn)) = true := by
          intro hall
          rw [List.all_eq_true] at hall
          have : zx (fun k => if decide (s.getD k 0 ∈ jn) = true then none else some false) 0 s.length = none := scan_none.2 fun i _ hi => by
           have hi' : i < s.length := by omega
           rw [yW (List.getElem?_eq_getElem hi'), if_pos (hall _ (List.getElem_mem hi'))]
          rw [this] at hs; cases hs
         have hb : b = false := by
          have key : ∀ {j k : Nat}, zx (fun k => if decide (s.getD k 0 ∈ jn) = true then none else some false) k j = some b -> b = false := by
           intro j
           induction j with
           | zero => intro k h; cases h
           | succ j ih =>
             intro k h
             simp only [zx] at h
             split at h
             . rename_i r hr
               cases h
               split at hr
               . cases hr
               . cases hr; rfl
             . exact ih h
          exact key hs
         rw [hb]
         cases e : s.all (fun c => decide (c ∈ jn)) with
         | false => rfl
         | true => exact absurd e hall
     . obtain ⟨x, hx⟩ := zv (l := s) (i := k) hk
       simp only [Int.ofNat_lt, hk, decide_true, cond_true, zj, Int.toNat_natCast, hx, Option.bind_some, zg, Int.natCast_nonneg, if_true, zim, zth]
       rw [yW hx, w64 (by omega) (by omega), zv9]
       cases (decide (97 <= x.toNat) && decide (x.toNat <= 122)) with
       | true => simp
       | false =>
         cases (decide (48 <= x.toNat) && decide (x.toNat <= 57)) with
         | true => simp
         | false =>
           by_cases h45 : x.toNat = 45
           . simp [h45]
           . have : ¬ (x.toNat : Int) = 45 := by omega
             simp [h45, this]
theorem zmc (ns : List (List UInt8)) (h : ns.length <= 20) (hn : ∀ s ∈ ns, s.length <= 1000) : Fz8 ns = some (jz ns) := by
 unfold Fz8 jz
 simp only [List.length_map]
 by_cases h1 : ns.length < 1
 . have : (ns.length : Int) < 1 := by omega
   simp [h1, this]
 by_cases h2 : 8 < ns.length
 . have : (8 : Int) < ns.length := by omega
   have g1 : ¬ (ns.length : Int) < 1 := by omega
   simp [h2, this, g1]
 have g1 : ¬ (ns.length : Int) < 1 := by omega
 have g2 : ¬ (8 : Int) < ns.length := by omega
 simp only [g1, g2, h1, h2, decide_false, cond_false, or_self, if_false]
 rw [ww ns.length (zap ns) () (fun k hk => ?_) (by simp)]
 . cases zx (zap ns) 0 ns.length <;> rfl
 . obtain ⟨x, hx⟩ := zv (l := ns) (i := k) hk
   have hxl := hn x (List.mem_of_getElem? hx)
   simp only [Int.ofNat_lt, hk, decide_true, cond_true, zj, Int.toNat_natCast, hx, Option.bind_some, Int.natCast_nonneg, if_true]
   rw [zky x (by omega)]
   unfold zap
   rw [yW hx]
   cases e : zca x with
   | false => simp
   | true =>
     simp only [Option.bind_some, Bool.not_true, cond_false, if_true]
     rw [ww k (fun j => if ns.getD j [] = x then some (.inr (.inr ((k : Int), (8 : Int)))) else none) () (fun j hj => ?_) (by simp)]
     . by_cases hm : x ∈ ns.take k
       . obtain ⟨j, hj, rfl⟩ := List.getElem_of_mem hm
         have hj' : j < k /\ j < ns.length := by simp at hj; omega
         cases hs : zx (fun i => if ns.getD i [] = (ns.take k)[j] then some ((.inr (.inr ((k : Int), (8 : Int)))) : Int ⊕ (Unit ⊕ (Int × Int))) else none) 0 k with
         | none =>
           have := scan_none.1 hs j (by omega) (by omega)
           rw [yW (List.getElem?_eq_getElem hj'.2)] at this
           simp at this
         | some b =>
           have : b = .inr (.inr ((k : Int), (8 : Int))) := uX (fun i => by split <;> simp) hs
           rw [this, if_pos hm]
       . have : zx (fun j => if ns.getD j [] = x then some ((.inr (.inr ((k : Int), (8 : Int)))) : Int ⊕ (Unit ⊕ (Int × Int))) else none) 0 k = none := scan_none.2 fun i _ hi => by
          have hi' : i < ns.length := by omega
          rw [yW (List.getElem?_eq_getElem hi'), if_neg]
          rintro rfl
          exact hm (List.mem_iff_getElem.2 ⟨i, by simp; omega, by simp⟩)
         rw [this]
         simp only [hm, if_false, zg]
         rw [w64 (by omega) (by omega)]
     . obtain ⟨y, hy⟩ := zv (l := ns) (i := j) (by omega)
       simp only [Int.ofNat_lt, hj, decide_true, cond_true, zj, Int.toNat_natCast, hy, Option.bind_some, zg, Int.natCast_nonneg, if_true, hx]
       rw [yW hy, w64 (by omega) (by omega)]
       by_cases hxy : y = x
       . simp [hxy]
       . simp [hxy]
open Go
def dn (l : TL) (b : Nat) : Nat -> Nat
 | 0 => 0
 | k + 1 => dn l b k ||| (if up l k b = true then 2 ^ k else 0)
theorem zm2 (l : TL) (b : Nat) : ∀ (k i : Nat), (dn l b k).testBit i = (decide (i < k) && up l i b)
 | 0, i => by simp [dn]
 | k + 1, i => by
   simp only [dn, Nat.testBit_or, zm2 l b k i]
   by_cases h : up l k b = true
   . simp only [h, if_true, Nat.testBit_two_pow]
     by_cases hik : i = k
     . subst hik; simp [h]
     . have h1 : ¬ k = i := fun e => hik e.symm
       have h2 : (i < k + 1) = (i < k) := by simp; omega
       simp [h1, h2]
   . simp only [h, if_false, Nat.zero_testBit, Bool.or_false]
     by_cases hik : i = k
     . subst hik; simp [h]
     . have h2 : (i < k + 1) = (i < k) := by simp; omega
       simp [h2]
theorem zzj (l : TL) (b : Nat) : ∀ k : Nat, dn l b k < 2 ^ k
 | 0 => by simp [dn]
 | k + 1 => by
   simp only [dn]
   refine Nat.or_lt_two_pow (Nat.lt_of_lt_of_le (zzj l b k) (Nat.pow_le_pow_right (by omega) (by omega))) ?_
   split
   . exact Nat.pow_lt_pow_right (by omega) (by omega)
   . exact Nat.two_pow_pos _
theorem zh1 (l : TL) (b : Nat) {k : Nat} (h : k <= 8) : dn l b k < 256 := Nat.lt_of_lt_of_le (zzj l b k) (Nat.pow_le_pow_right (n := 2) (by omega) h)
theorem zqu {c : Bool} {k : Nat} (h : k < 8) : IntKind.wrap .u8 ((if c = true then (1 : Int) else 0) * 2 ^ min k (IntKind.bits .u8)) = ((if c = true then 2 ^ k else 0 : Nat) : Int) := by
 have key : ∀ (c : Bool) (k : Fin 8), IntKind.wrap .u8 ((if c = true then (1 : Int) else 0) * 2 ^ min k.val (IntKind.bits .u8)) = ((if c = true then 2 ^ k.val else 0 : Nat) : Int) := by decide +kernel
 exact key c ⟨k, h⟩
theorem zvk {a b : Nat} (ha : a < 256) (hb : b < 256) : bits .or .u8 (a : Int) (b : Int) = ((a ||| b : Nat) : Int) := by
 rw [zqo (by omega) (by omega) (by omega) (by omega)]; rfl
theorem zq2 {a b : Nat} (ha : a < 256) (hb : b < 256) : bits .and .u8 (a : Int) (b : Int) = ((a &&& b : Nat) : Int) := by
 rw [zcv (by omega) (by omega) (by omega) (by omega)]; rfl
theorem zDp {c : Bool} {k : Nat} (h : k < 8) : (if c = true then 2 ^ k else 0) < 256 := by
 split
 . exact Nat.lt_of_lt_of_le (Nat.pow_lt_pow_right (a := 2) (by omega) h) (by omega)
 . omega
theorem zjx {α : Type} {l : List α} {i j : Nat} {x : α} (h : i < l.length) : (l.set i x)[j]? = if i = j then some x else l[j]? := by
 rw [List.getElem?_set]
 split
 . simp [h]
 . rfl
theorem zob (l : TL) (hu : U8s l.Up) (hn : l.Names.length <= 8) (hl : l.Up.length = l.Names.length) :
 Tot (zf2 l) fun o => o.n_ = l.Names.length /\ o.up_.length = 8 /\ o.down_.length = 8 /\ (∀ j, j < l.Names.length -> o.up_[j]? = l.Up[j]?) /\ ∀ b, b < l.Names.length -> o.down_[b]? = some (dn l b l.Names.length : Int) := by
 unfold zf2
 simp only [zw, List.length_map]
 refine Tot.count l.Up.length (fun k s => s.1 = (k : Int) /\ s.2.1.length = 8 /\ s.2.2.length = 8 /\ (∀ j, j < k -> s.2.1[j]? = l.Up[j]?) /\ ∀ b, b < l.Names.length -> s.2.2[b]? = some (dn l b k : Int)) ?_ ⟨rfl, rfl, rfl, fun j hj => absurd hj (by omega), fun b hb => ?_⟩
 . rintro k ⟨i, up', down⟩ hk ⟨h0, h1, h2, h3, h4⟩
   simp only at h0 h1 h2 h3 h4
   subst h0
   simp only [zm, zF, qc, qo, qH, zw, Sum.elim_inl, Sum.elim_inr, decide_eq_true_eq, decide_eq_false_iff_not, Int.toNat_natCast]
   refine ⟨fun hlt => ?_, fun hlt => ?_⟩
   . obtain ⟨x, hx⟩ := zv (l := l.Up) (i := k) (by omega)
     obtain ⟨y, hy⟩ := zv (l := up') (i := k) (by omega)
     refine ⟨by omega, x, hx, ⟨by omega, by omega⟩, by omega, y, hy, ?_⟩
     have hx' := hu.get hx
     refine Tot.count l.Names.length (fun j s => s.1 = (j : Int) /\ s.2.length = 8 /\ ∀ b, b < l.Names.length -> s.2[b]? = some (dn l b (if b < j then k + 1 else k) : Int)) ?_ ⟨rfl, h2, fun b hb => by simpa using h4 b hb⟩
     rintro j ⟨i', d⟩ hj ⟨g0, g1, g2⟩
     simp only at g0 g1 g2
     subst g0
     simp only [zm, zF, qc, qo, qH, zw, Sum.elim_inl, Sum.elim_inr, decide_eq_true_eq, decide_eq_false_iff_not, Int.toNat_natCast]
     refine ⟨fun hlt' => ?_, fun hlt' => ?_⟩
     . have hz := g2 j (by omega)
       rw [if_neg (by omega)] at hz
       rw [w64 (by omega) (by omega)]
       refine ⟨⟨by omega, by omega⟩, by omega, _, hz, by omega, by omega, ⟨by omega, by omega⟩, by omega, _, hz, by omega, by omega, by simpa using g1, fun b hb => ?_⟩
       rw [zjx (by omega)]
       by_cases hjb : j = b
       . subst hjb
         rw [if_pos rfl, if_pos (by omega), zcg hx'.1 hx'.2 (by omega), <- jI hx, zqu (by omega), zvk (zh1 l j (by omega)) (zDp (by omega))]
         rfl
       . rw [if_neg hjb, g2 b hb]
         have : (b < j + 1) = (b < j) := by simp; omega
         simp only [this]
     . rw [w64 (by omega) (by omega)]
       refine ⟨by omega, by omega, by simpa using h1, g1, fun q hq => ?_, fun b hb => ?_⟩
       . rw [zjx (by omega)]
         by_cases hkq : k = q
         . subst hkq; rw [if_pos rfl, hx]
         . rw [if_neg hkq]; exact h3 q (by omega)
       . rw [g2 b hb, if_pos (by omega)]
   . have hkn : k = l.Names.length := by omega
     subst hkn
     exact ⟨trivial, h1, h2, h3, h4⟩
 . have h8 : ∀ b : Fin 8, ([0, 0, 0, 0, 0, 0, 0, 0] : List Int)[b.val]? = some 0 := by decide
   exact h8 ⟨b, by omega⟩
theorem yq {ρ : Type} {p : Prop} [Decidable p] {x : Option ρ} (h : p) : zk p x = x := by unfold zk; rw [if_pos h]
def bnd (g : Nat -> Nat) (n a b : Nat) : Option Nat := zx (fun c => if g c = g a &&& g b then some c else none) 0 n
def zcu (g : Nat -> Nat) (n a b : Nat) : Int := match bnd g n a b with | some c => c | none => -1
theorem zfe (m : List Int) (g : Nat -> Nat) (n a b : Nat) (hn : n <= 8) (hg : ∀ c, c < n -> m[c]? = some (g c : Int)) (hg8 : ∀ c, c < n -> g c < 256) (hs : ∀ c, c < n -> (g c).testBit c = true) (ha : a < n) (hb : b < n) :
 ziu m n a b = some (zcu g n a b) := by
 unfold ziu zcu bnd
 have s1 : ((0 : Int) <= (a : Int) /\ (a : Int) < ((8 : Nat) : Int)) := by omega
 have s2 : ((0 : Int) <= (b : Int) /\ (b : Int) < ((8 : Nat) : Int)) := by omega
 simp only [yq s1, yq s2]
 simp only [zj, Int.toNat_natCast, Int.natCast_nonneg, if_true, hg a ha, hg b hb, Option.bind_some, zq2 (hg8 a ha) (hg8 b hb)]
 have h8 : g a &&& g b < 256 := zdn (hg8 a ha)
 generalize g a &&& g b = both at *
 rw [ww n (fun c => if g c = both then some (c : Int) else none) () (fun c hc => ?_) (by simp)]
 . have e : (fun c => if g c = both then some (c : Int) else none) = fun c => (if g c = both then some c else none).map (fun c : Nat => (c : Int)) := by
    funext c; split <;> rfl
   rw [e, jQ]
   cases zx (fun c => if g c = both then some c else none) 0 n <;> rfl
 . have s3 : ((0 : Int) <= (c : Int) /\ (c : Int) < ((8 : Nat) : Int)) := by omega
   simp only [yq s3]
   simp only [Int.ofNat_lt, hc, decide_true, cond_true, zk, Int.natCast_nonneg, if_true, hg c hc, Option.bind_some, zg]
   rw [w64 (by omega) (by omega), zcg (by omega) (by omega) (by omega)]
   simp only [Int.toNat_natCast]
   by_cases hbc : both.testBit c = true
   . simp only [hbc, if_true, decide_true, cond_true]
     rw [hg c hc]
     by_cases hgc : g c = both
     . simp [hgc]
     . have : ¬ (g c : Int) = (both : Int) := by omega
       simp [hgc, this]
   . have : g c ≠ both := fun e => hbc (e ▸ hs c hc)
     simp [hbc, this]
theorem jJ (m : List Int) (g : Nat -> Nat) (a b : Nat) (hn : m.length <= 8) (hg : ∀ c, c < m.length -> m[c]? = some (g c : Int)) (hg8 : ∀ c, c < m.length -> g c < 256) (ha : a < m.length) (hb : b < m.length) :
 zgm m a b = some (zcu g m.length a b) := by
 unfold zgm zcu bnd
 simp only [zj, Int.toNat_natCast, Int.natCast_nonneg, if_true, hg a ha, hg b hb, Option.bind_some, zq2 (hg8 a ha) (hg8 b hb), List.length_map]
 have h8 : g a &&& g b < 256 := zdn (hg8 a ha)
 generalize g a &&& g b = both at *
 rw [ww m.length (fun c => if g c = both then some (c : Int) else none) () (fun c hc => ?_) (by simp)]
 . have e : (fun c => if g c = both then some (c : Int) else none) = fun c => (if g c = both then some c else none).map (fun c : Nat => (c : Int)) := by
    funext c; split <;> rfl
   rw [e, jQ]
   cases zx (fun c => if g c = both then some c else none) 0 m.length <;> rfl
 . simp only [Int.ofNat_lt, hc, decide_true, cond_true, hg c hc, Option.bind_some, zg]
   rw [w64 (by omega) (by omega), Int.toNat_natCast, if_pos (by omega), hg c hc]
   by_cases hgc : g c = both
   . simp [hgc]
   . have : ¬ (g c : Int) = (both : Int) := by omega
     simp [hgc, this]
open Go
def upN (l : TL) (a : Nat) : Nat := (l.Up.getD a 0).toNat
def zgs (l : TL) (a b : Nat) : Bool := !up l a b || ((decide (b = a) || !up l b a) && (List.range l.Names.length).all fun i => !up l b i || up l a i)
def xu (l : TL) (a : Nat) : Bool := decide (upN l a < 2 ^ l.Names.length) && up l a a && (List.range l.Names.length).all fun b => zgs l a b
def dnN (l : TL) (b : Nat) : Nat := dn l b l.Names.length
def wG (l : TL) (a b : Nat) : Bool := (bnd (upN l) l.Names.length a b).isNone || (bnd (dnN l) l.Names.length a b).isNone
def zfn (l : TL) : Int × Int :=
 if (jz l.Names).2 = 0 then
  if l.Up.length = l.Names.length then
   match zx (fun a => if xu l a = true then none else some ((a : Int), (6 : Int))) 0 l.Names.length with
   | some r => r
   | none => (zx (fun a => zx (fun b => if wG l a b = true then some ((a : Int), (4 : Int)) else none) 0 l.Names.length) 0 l.Names.length).getD (0, 0)
  else (-1, 6)
 else jz l.Names
theorem zq0 {α : Type} {p : Nat -> Bool} {v : α} : ∀ {j k : Nat}, zx (fun i => if p i = true then none else some v) k j = if (List.range j).all (fun i => p (k + i)) = true then none else some v
 | 0, _ => by simp [zx]
 | j + 1, k => by
   simp only [zx, zq0 (j := j) (k := k + 1)]
   have e : (List.range (j + 1)).all (fun i => p (k + i)) = (p k && (List.range j).all fun i => p (k + 1 + i)) := by
    rw [List.range_succ_eq_map, List.all_cons, List.all_map]
    congr 1
    congr 1
    funext i
    simp only [Function.comp]
    congr 1; omega
   rw [e]
   cases p k <;> simp
theorem zkc {α : Type} {p : Nat -> Bool} {u v : α} {n : Nat} : ∀ {j k : Nat}, k + j = n -> 0 < j -> zx (fun i => if p i = true then (if i + 1 = n then some u else none) else some v) k j = some (if (List.range j).all (fun i => p (k + i)) = true then u else v)
 | 0, _, _, h => by omega
 | j + 1, k, hk, _ => by
   have e : (List.range (j + 1)).all (fun i => p (k + i)) = (p k && (List.range j).all fun i => p (k + 1 + i)) := by
    rw [List.range_succ_eq_map, List.all_cons, List.all_map]
    congr 1
    congr 1
    funext i
    simp only [Function.comp]
    congr 1; omega
   rw [e]
   simp only [zx]
   cases hp : p k with
   | false => simp
   | true =>
     simp only [if_true, Bool.true_and]
     by_cases hj : j = 0
     . subst hj
       have : k + 1 = n := by omega
       simp [this]
     . have : ¬ k + 1 = n := by omega
       simp only [this, if_false]
       exact zkc (by omega) (by omega)
theorem ztp (x : Int) (h0 : 0 <= x) (h1 : x < 256) : Tot (zi1 x) fun y => ∀ n : Nat, n <= 8 -> decide ((n : Int) < y) = !decide (x.toNat < 2 ^ n) := by
 unfold zi1
 rw [qo]
 refine ⟨h0, ?_⟩
 have key : ∀ l : List UInt8, (∀ x : Fin 256, ∀ n : Fin 9, (l[x.val]?.map fun y => decide ((n.val : Int) < IntKind.wrap .i64 (y.toNat : Int))) = some (!decide (x.val < 2 ^ n.val))) ->
  ∃ y, l[x.toNat]? = some y /\ Tot (zg (IntKind.wrap .i64 (y.toNat : Int)) fun z => some z) fun y => ∀ n : Nat, n <= 8 -> decide ((n : Int) < y) = !decide (x.toNat < 2 ^ n) := by
  intro l hl
  cases e : l[x.toNat]? with
  | none =>
    have := hl ⟨x.toNat, by omega⟩ ⟨0, by omega⟩
    simp only [e] at this
    cases this
  | some y =>
    refine ⟨y, rfl, .mk fun n hn => ?_⟩
    have := hl ⟨x.toNat, by omega⟩ ⟨n, by omega⟩
    simp only [e] at this
    exact Option.some.inj this
 exact key _ (by decide +kernel)
theorem xe {l : TL} (hu : U8s l.Up) {a b : Nat} (ha : a < l.Up.length) (hb : b <= 8) : Fz9 l a b = some (up l a b) := by
 unfold Fz9
 obtain ⟨x, hx⟩ := zv ha
 have hx' := hu.get hx
 have key : ∀ u : Fin 256, ∀ b : Fin 9, decide (Int.tmod (Int.fdiv (u.val : Int) (2 ^ min b.val (IntKind.bits .u8))) 2 = 1) = Nat.testBit u b := by decide +kernel
 have := key ⟨x.toNat, by omega⟩ ⟨b, by omega⟩
 simp only [Int.toNat_of_nonneg hx'.1] at this
 simp only [List.length_map, Int.natCast_nonneg, decide_true, cond_true, Int.ofNat_lt, ha, zj, Int.toNat_natCast, if_true, hx, Option.bind_some, zk, this, jI hx]
theorem zc8 {n : Nat} (h : n < 1000000) : IntKind.wrap .i64 (n : Int) = n := w64 (by omega) (by omega)
theorem zqk (n : Nat) : BitVec.ofInt 64 (n : Int) = BitVec.ofNat 64 n := BitVec.ofInt_natCast 64 n
theorem zqm {a b : Nat} (ha : a < 1000000) (hb : b < 1000000) : bits .and .i64 (a : Int) (b : Int) = ((a &&& b : Nat) : Int) := by
 have e : bits .and .i64 (a : Int) (b : Int) = IntKind.wrap .i64 ((BitVec.ofInt 64 (a : Int) &&& BitVec.ofInt 64 (b : Int)).toNat : Int) := rfl
 rw [e, zqk, zqk, BitVec.toNat_and, BitVec.toNat_ofNat, BitVec.toNat_ofNat, Nat.mod_eq_of_lt (by omega), Nat.mod_eq_of_lt (by omega)]
 exact zc8 (Nat.lt_of_le_of_lt Nat.and_le_left ha)
theorem zxs {x y n : Nat} : ((y &&& (2 ^ n - 1)) &&& x = y &&& (2 ^ n - 1)) ↔ ((List.range n).all fun i => !y.testBit i || x.testBit i) = true := by
 rw [List.all_eq_true]
 constructor
 . intro h i hi
   have hi' : i < n := by simpa using hi
   have := congrArg (fun z => z.testBit i) h
   simp only [Nat.testBit_and, Nat.testBit_two_pow_sub_one, hi', decide_true, Bool.and_true] at this
   cases e : y.testBit i with
   | false => rfl
   | true => rw [e] at this; simpa using this
 . intro h
   apply Nat.eq_of_testBit_eq
   intro i
   simp only [Nat.testBit_and, Nat.testBit_two_pow_sub_one]
   by_cases hi : i < n
   . have := h i (by simpa using hi)
     simp only [hi, decide_true, Bool.and_true]
     cases e : y.testBit i with
     | false => rfl
     | true => rw [e] at this; simpa using this
   . simp [hi]
open Go
theorem zvm {l : TL} {a : Nat} {x : Int} (h : l.Up[a]? = some x) : upN l a = x.toNat := by unfold upN; rw [yW h]
theorem zey {l : TL} {a b : Nat} : (upN l a).testBit b = up l a b := rfl
theorem zao {l : TL} (hu : U8s l.Up) {a : Nat} (ha : a < l.Up.length) : upN l a < 256 := by
 obtain ⟨x, hx⟩ := zv ha
 have := hu.get hx
 rw [zvm hx]; omega
theorem xx {l : TL} (hu : U8s l.Up) {a : Nat} (ha : a < l.Up.length) : l.Up[a]? = some (upN l a : Int) := by
 obtain ⟨x, hx⟩ := zv ha
 have := hu.get hx
 rw [hx, zvm hx, Int.toNat_of_nonneg this.1]
theorem zm6 {l : TL} (hu : U8s l.Up) (h8 : l.Names.length <= 8) (hl : l.Up.length = l.Names.length) {a : Nat} (ha : a < l.Names.length) : zst l a = some (xu l a) := by
 unfold zst xu
 have g0 : ((0 : Int) <= (l.Names.length : Int)) := by omega
 have hb := fun b (hb : b < l.Names.length) => xe hu (a := a) (b := b) (by omega) (by omega)
 have hxa := xx hu (a := a) (by omega)
 have hlt := zao hu (a := a) (by omega)
 have sh : decide ((0 : Int) < Int.fdiv (upN l a : Int) (2 ^ min l.Names.length (IntKind.bits .i64))) = !decide (upN l a < 2 ^ l.Names.length) := by
  have key : ∀ u : Fin 256, ∀ n : Fin 9, decide ((0 : Int) < Int.fdiv (u.val : Int) (2 ^ min n.val (IntKind.bits .i64))) = !decide (u.val < 2 ^ n.val) := by decide +kernel
  exact key ⟨upN l a, hlt⟩ ⟨l.Names.length, by omega⟩
 have mk : IntKind.wrap .i64 (IntKind.wrap .i64 (1 * 2 ^ min l.Names.length (IntKind.bits .i64)) - 1) = ((2 ^ l.Names.length - 1 : Nat) : Int) := by
  have key : ∀ n : Fin 9, IntKind.wrap .i64 (IntKind.wrap .i64 (1 * 2 ^ min n.val (IntKind.bits .i64)) - 1) = ((2 ^ n.val - 1 : Nat) : Int) := by decide +kernel
  exact key ⟨l.Names.length, by omega⟩
 have mk' : 2 ^ l.Names.length - 1 < 1000000 := by
  have : 2 ^ l.Names.length <= 2 ^ 8 := Nat.pow_le_pow_right (by omega) h8
  omega
 simp only [List.length_map, yq g0, Int.toNat_natCast]
 simp only [zj, Int.toNat_natCast, Int.natCast_nonneg, if_true, hxa, Option.bind_some, zg]
 rw [zc8 (by omega), sh, hb a ha, mk]
 cases e1 : decide (upN l a < 2 ^ l.Names.length) with
 | false => simp
 | true =>
   simp only [Bool.not_true, cond_false, Bool.true_and, Option.bind_some]
   cases e2 : up l a a with
   | false => simp
   | true =>
     simp only [Bool.not_true, cond_false, Bool.true_and]
     rw [ww l.Names.length (fun b => if zgs l a b = true then none else some false) () (fun b hbn => ?_) (by simp)]
     . rw [zq0]
       simp only [Nat.zero_add]
       cases (List.range l.Names.length).all fun b => zgs l a b <;> rfl
     . have hxb := xx hu (a := b) (by omega)
       have hltb := zao hu (a := b) (by omega)
       simp only [Int.ofNat_lt, hbn, decide_true, cond_true, Option.bind_some, Int.toNat_natCast, hxb]
       rw [hb b hbn, zc8 (n := upN l b) (by omega), zqm (by omega) mk', w64 (by omega) (by omega), xe hu (by omega) (by omega)]
       have hand : upN l b &&& (2 ^ l.Names.length - 1) < 1000000 := Nat.lt_of_le_of_lt Nat.and_le_left (by omega)
       rw [zqm hand (by omega)]
       have hsub := zxs (x := upN l a) (y := upN l b) (n := l.Names.length)
       simp only [zey] at hsub
       have hsub' : decide ((((upN l b &&& (2 ^ l.Names.length - 1)) &&& upN l a : Nat) : Int) = ((upN l b &&& (2 ^ l.Names.length - 1) : Nat) : Int)) = (List.range l.Names.length).all fun i => !up l b i || up l a i := by
        rw [Bool.eq_iff_iff, <- hsub, decide_eq_true_eq]; omega
       rw [hsub']
       unfold zgs
       cases e3 : up l a b with
       | false => simp
       | true =>
         simp only [Option.bind_some, Bool.not_true, cond_false, Bool.false_or]
         by_cases hba : b = a
         . subst hba
           simp only [decide_true, Bool.not_true, cond_false, Bool.true_or, Bool.true_and]
           cases (List.range l.Names.length).all fun i => !up l b i || up l b i <;> simp
         . have : ¬ (b : Int) = (a : Int) := by omega
           simp only [this, hba, decide_false, Bool.not_false, cond_true, Bool.false_or]
           cases up l b a with
           | true => simp
           | false =>
             cases (List.range l.Names.length).all fun i => !up l b i || up l a i <;> simp
theorem zhk {l : TL} (hu : U8s l.Up) (h8 : l.Names.length <= 8) (hl : l.Up.length = l.Names.length) : Tot (znq l) fun d => d.length = l.Names.length /\ ∀ b, b < l.Names.length -> d[b]? = some (dnN l b : Int) := by
 unfold znq
 simp only [zw, qH, List.length_map, Int.toNat_natCast]
 refine ⟨⟨by omega, trivial, by omega, by omega⟩, ?_⟩
 refine Tot.count l.Names.length (fun k s => s.1 = (k : Int) /\ s.2.length = l.Names.length /\ ∀ b, b < l.Names.length -> s.2[b]? = some (dn l b k : Int)) ?_ ⟨rfl, by simp, fun b hb => ?_⟩
 . rintro k ⟨i, down⟩ hk ⟨h0, h2, h4⟩
   simp only at h0 h2 h4
   subst h0
   simp only [zm, zF, qc, qo, qH, zw, Sum.elim_inl, Sum.elim_inr, decide_eq_true_eq, decide_eq_false_iff_not, Int.toNat_natCast]
   refine ⟨fun hlt => ?_, fun hlt => ?_⟩
   . refine Tot.count l.Names.length (fun j s => s.1 = (j : Int) /\ s.2.length = l.Names.length /\ ∀ b, b < l.Names.length -> s.2[b]? = some (dn l b (if b < j then k + 1 else k) : Int)) ?_ ⟨rfl, h2, fun b hb => by simpa using h4 b hb⟩
     rintro j ⟨i', d⟩ hj ⟨g0, g1, g2⟩
     simp only at g0 g1 g2
     subst g0
     simp only [zm, zF, qc, qo, qH, zw, Sum.elim_inl, Sum.elim_inr, decide_eq_true_eq, decide_eq_false_iff_not, Int.toNat_natCast]
     refine ⟨fun hlt' => ?_, fun hlt' => ?_⟩
     . rw [xe hu (by omega) (by omega), zm]
       have hz := g2 j (by omega)
       rw [if_neg (by omega)] at hz
       rw [w64 (by omega) (by omega)]
       refine ⟨fun hup => ⟨⟨by omega, by simp; omega⟩, by omega, _, hz, by omega, ⟨by omega, by simp; omega⟩, by omega, _, hz, by omega, by omega, by simpa using g1, fun b hb => ?_⟩, fun hup => ⟨by omega, by omega, g1, fun b hb => ?_⟩⟩
       . have hsh := zqu (c := true) (k := k) (by omega)
         simp only [if_true] at hsh
         rw [zjx (by omega), hsh]
         by_cases hjb : j = b
         . subst hjb
           have hp : 2 ^ k < 256 := Nat.lt_of_lt_of_le (Nat.pow_lt_pow_right (a := 2) (by omega) (show k < 8 by omega)) (by omega)
           rw [if_pos rfl, if_pos (by omega), zvk (zh1 l j (by omega)) hp]
           simp [dn, hup]
         . rw [if_neg hjb, g2 b hb]
           have : (b < j + 1) = (b < j) := by simp; omega
           simp only [this]
       . rw [g2 b hb]
         by_cases hjb : j = b
         . subst hjb
           rw [if_neg (by omega), if_pos (by omega)]
           simp [dn, hup]
         . have : (b < j + 1) = (b < j) := by simp; omega
           simp only [this]
     . rw [w64 (by omega) (by omega)]
       refine ⟨by omega, by omega, g1, fun b hb => ?_⟩
       rw [g2 b hb, if_pos (by omega)]
   . have hkn : k = l.Names.length := by omega
     subst hkn
     exact ⟨h2, h4⟩
 . rw [List.getElem?_replicate, if_pos hb]; rfl
open Go
theorem zmd (g : Nat -> Nat) (n a b : Nat) : decide (zcu g n a b < 0) = (bnd g n a b).isNone := by
 unfold zcu
 cases bnd g n a b with
 | none => rfl
 | some c => simp
theorem zu7 {l : TL} (h8 : l.Names.length <= 8) (b : Nat) : dnN l b < 256 := zh1 l b h8
theorem zaq (l : TL) (hu : U8s l.Up) (hn : l.Names.length <= 20) (hs : ∀ s ∈ l.Names, s.length <= 1000) : zj2 l = some (zfn l) := by
 unfold zj2 zfn
 rw [zmc _ hn hs]
 simp only [Option.bind_some, List.length_map]
 by_cases h0 : (jz l.Names).2 = 0
 case neg => simp [h0]
 simp only [h0, decide_true, Bool.not_true, cond_false, if_true]
 by_cases hlen : l.Up.length = l.Names.length
 case neg =>
  have : ¬ (l.Up.length : Int) = l.Names.length := by omega
  simp [hlen, this]
 have h8 : l.Names.length <= 8 := by
  unfold jz at h0
  split at h0
  . cases h0
  . omega
 simp only [hlen, decide_true, Bool.not_true, cond_false, if_true]
 rw [ww l.Names.length (fun a => if xu l a = true then none else some ((a : Int), (6 : Int))) () (fun a ha => ?_) (by simp)]
 . cases h1 : zx (fun a => if xu l a = true then none else some ((a : Int), (6 : Int))) 0 l.Names.length with
   | some r => rfl
   | none =>
     simp only
     obtain ⟨d, ed, hdl, hd⟩ := zhk hu h8 hlen
     rw [ed, Option.bind_some]
     rw [ww l.Names.length (fun a => zx (fun b => if wG l a b = true then some ((a : Int), (4 : Int)) else none) 0 l.Names.length) () (fun a ha => ?_) (by simp)]
     . cases zx (fun a => zx (fun b => if wG l a b = true then some ((a : Int), (4 : Int)) else none) 0 l.Names.length) 0 l.Names.length <;> rfl
     . simp only [Int.ofNat_lt, ha, decide_true, cond_true]
       rw [ww l.Names.length (fun b => if wG l a b = true then some (.inr (.inr ((a : Int), (4 : Int)))) else none) () (fun b hb => ?_) (by simp)]
       . have e : (fun b => if wG l a b = true then some (Sum.inr (Sum.inr ((a : Int), (4 : Int))) : Int ⊕ (Unit ⊕ (Int × Int))) else none) = fun b => (if wG l a b = true then some ((a : Int), (4 : Int)) else none).map fun v => .inr (.inr v) := by
          funext b; split <;> rfl
         rw [e, jQ]
         cases zx (fun b => if wG l a b = true then some ((a : Int), (4 : Int)) else none) 0 l.Names.length with
         | some r => rfl
         | none =>
           simp only [Option.map_none, zg]
           rw [w64 (by omega) (by omega)]
       . simp only [Int.ofNat_lt, hb, decide_true, cond_true]
         have n1 := jJ l.Up (upN l) a b (by omega) (fun c hc => xx hu hc) (fun c hc => zao hu hc) (by omega) (by omega)
         have n2 := jJ d (dnN l) a b (by omega) (fun c hc => hd c (by omega)) (fun c hc => zu7 h8 c) (by omega) (by omega)
         rw [hlen] at n1
         rw [hdl] at n2
         rw [n1, n2]
         simp only [Option.bind_some, zmd, zg]
         rw [w64 (by omega) (by omega)]
         unfold wG
         cases (bnd (upN l) l.Names.length a b).isNone with
         | true => simp
         | false => cases (bnd (dnN l) l.Names.length a b).isNone <;> simp
 . simp only [Int.ofNat_lt, ha, decide_true, cond_true]
   rw [zm6 hu h8 hlen ha]
   simp only [Option.bind_some, zg]
   rw [w64 (by omega) (by omega)]
   cases xu l a <;> simp
open Go
theorem zph (l : TL) (hu : U8s l.Up) (hn : l.Names.length <= 20) (hs : ∀ s ∈ l.Names, s.length <= 1000) : zai l = some (zfn l) := by
 unfold zai zfn
 rw [zy1 _ hn hs]
 simp only [Option.bind_some, List.length_map]
 by_cases h0 : (jz l.Names).2 = 0
 case neg => simp [h0]
 simp only [h0, decide_true, Bool.not_true, cond_false, if_true]
 by_cases hlen : l.Up.length = l.Names.length
 case neg =>
  have : ¬ (l.Up.length : Int) = l.Names.length := by omega
  simp [hlen, this]
 have h8 : 1 <= l.Names.length /\ l.Names.length <= 8 := by
  unfold jz at h0
  split at h0
  . cases h0
  . omega
 obtain ⟨h1, h8⟩ := h8
 have g0 : ((0 : Int) <= (l.Names.length : Int)) := by omega
 simp only [hlen, decide_true, Bool.not_true, cond_false, if_true, yq g0, zg, Int.toNat_natCast]
 have hmask := zow l.Names.length h8
 have hm0 := zns (e := IntKind.wrap .u8 (1 * 2 ^ min l.Names.length (IntKind.bits .u8)) - 1)
 rw [ww l.Names.length (fun a => if xu l a = true then none else some ((a : Int), (6 : Int))) () (fun a ha => ?_) (by simp)]
 . cases h1 : zx (fun a => if xu l a = true then none else some ((a : Int), (6 : Int))) 0 l.Names.length with
   | some r => rfl
   | none =>
     simp only
     have hself : ∀ a, a < l.Names.length -> up l a a = true := by
      intro a ha
      have := scan_none.1 h1 a (by omega) (by omega)
      split at this
      . rename_i h
        unfold xu at h
        simp only [Bool.and_eq_true] at h
        exact h.1.2
      . cases this
     obtain ⟨o, eo, _, o1, o2, o3, o4⟩ := zob l hu h8 hlen
     rw [eo, Option.bind_some]
     rw [ww l.Names.length (fun a => zx (fun b => if wG l a b = true then some ((a : Int), (4 : Int)) else none) 0 l.Names.length) () (fun a ha => ?_) (by simp)]
     . cases zx (fun a => zx (fun b => if wG l a b = true then some ((a : Int), (4 : Int)) else none) 0 l.Names.length) 0 l.Names.length <;> rfl
     . simp only [Int.ofNat_lt, ha, decide_true, cond_true]
       rw [ww l.Names.length (fun b => if wG l a b = true then some (.inr (.inr ((a : Int), (4 : Int)))) else none) () (fun b hb => ?_) (by simp)]
       . have e : (fun b => if wG l a b = true then some (Sum.inr (Sum.inr ((a : Int), (4 : Int))) : Int ⊕ (Unit ⊕ (Int × Int))) else none) = fun b => (if wG l a b = true then some ((a : Int), (4 : Int)) else none).map fun v => .inr (.inr v) := by
          funext b; split <;> rfl
         rw [e, jQ]
         cases zx (fun b => if wG l a b = true then some ((a : Int), (4 : Int)) else none) 0 l.Names.length with
         | some r => rfl
         | none =>
           simp only [Option.map_none]
           rw [w64 (by omega) (by omega)]
       . simp only [Int.ofNat_lt, hb, decide_true, cond_true]
         have n1 := zfe o.up_ (upN l) l.Names.length a b h8 (fun c hc => by rw [o3 c hc]; exact xx hu (by omega)) (fun c hc => zao hu (by omega)) (fun c hc => hself c hc) ha hb
         have n2 : ztq o.down_ l.Names.length a b = some (zcu (dnN l) l.Names.length a b) := zfe o.down_ (dnN l) l.Names.length a b h8 (fun c hc => o4 c hc) (fun c hc => zu7 h8 c) (fun c hc => by unfold dnN; rw [zm2, hself c hc]; simp [hc]) ha hb
         rw [n1, n2]
         simp only [Option.bind_some, zmd]
         rw [w64 (by omega) (by omega)]
         unfold wG
         cases (bnd (upN l) l.Names.length a b).isNone with
         | true => simp
         | false => cases (bnd (dnN l) l.Names.length a b).isNone <;> simp
 . -- one label's row
   have hxa := xx hu (a := a) (by omega)
   have hlt := zao hu (a := a) (by omega)
   obtain ⟨y, ey, hy⟩ := ztp (upN l a : Int) (by omega) (by omega)
   have hy := hy l.Names.length h8
   rw [Int.toNat_natCast] at hy
   have ga : ((0 : Int) <= (a : Int)) := by omega
   have hbit : ∀ b, b < l.Names.length -> bits .and .u8 (Int.fdiv (upN l a : Int) (2 ^ min b (IntKind.bits .u8))) 1 = if up l a b = true then 1 else 0 := fun b hb => by
    rw [zcg (by omega) (by omega) (by omega), Int.toNat_natCast]; rfl
   simp only [Int.ofNat_lt, ha, decide_true, cond_true, zj, Int.toNat_natCast, if_pos ga, hxa, Option.bind_some, ey, hy, yq ga]
   simp only [hbit a ha]
   unfold xu
   cases e1 : decide (upN l a < 2 ^ l.Names.length) with
   | false => simp
   | true =>
     simp only [Bool.not_true, cond_false, Bool.true_and]
     cases e2 : up l a a with
     | false => simp
     | true =>
       simp only [if_true, Int.reduceEq, decide_false, cond_false, Bool.true_and]
       rw [ww l.Names.length (fun b => if zgs l a b = true then (if b + 1 = l.Names.length then some (.inl ((a : Int) + 1)) else none) else some (.inr (.inr ((a : Int), (6 : Int))))) () (fun b hb => ?_) (by simp)]
       . rw [zkc (by omega) (by omega)]
         simp only [Nat.zero_add]
         cases (List.range l.Names.length).all fun b => zgs l a b <;> rfl
       . have hxb := xx hu (a := b) (by omega)
         have hltb := zao hu (a := b) (by omega)
         have gb : ((0 : Int) <= (b : Int)) := by omega
         have hbit' : bits .and .u8 (Int.fdiv (upN l b : Int) (2 ^ min a (IntKind.bits .u8))) 1 = if up l b a = true then 1 else 0 := by
          rw [zcg (by omega) (by omega) (by omega), Int.toNat_natCast]; rfl
         simp only [Int.ofNat_lt, hb, decide_true, cond_true, Option.bind_some, Int.toNat_natCast, hxb, if_pos gb, yq gb]
         simp only [hbit b hb, hbit', w64 (e := (l.Names.length : Int) - 1) (by omega) (by omega), w64 (e := (a : Int) + 1) (by omega) (by omega), w64 (e := (b : Int) + 1) (by omega) (by omega)]
         have hnot : decide (bits .andNot .u8 (bits .and .u8 (upN l b : Int) (IntKind.wrap .u8 (IntKind.wrap .u8 (1 * 2 ^ min l.Names.length (IntKind.bits .u8)) - 1))) (upN l a : Int) = 0) = (List.range l.Names.length).all fun i => !up l b i || up l a i := by
          revert hmask hm0
          generalize IntKind.wrap .u8 (IntKind.wrap .u8 (1 * 2 ^ min l.Names.length (IntKind.bits .u8)) - 1) = mask
          intro hmask hm0
          have hand : bits .and .u8 (upN l b : Int) mask = ((upN l b &&& mask.toNat : Nat) : Int) := by
           rw [zcv (by omega) (by omega) hm0.1 hm0.2, Int.toNat_natCast]
          have hlt2 : upN l b &&& mask.toNat < 256 := zdn hltb
          rw [hand, Bool.eq_iff_iff, decide_eq_true_eq, zbl (by omega) (by omega) (by omega) (by omega), List.all_eq_true]
          simp only [Int.toNat_natCast, Nat.testBit_and, hmask, zey]
          constructor
          . intro h i hi
            have := h i
            have hi' : i < l.Names.length := by simpa using hi
            cases e : up l b i with
            | false => rfl
            | true => rw [e] at this; simpa [hi'] using this
          . intro h i hi
            simp only [Bool.and_eq_true, decide_eq_true_eq] at hi
            have := h i (by simpa using hi.2)
            rw [hi.1] at this; simpa using this
         simp only [hnot]
         have hlast : decide ((b : Int) = (l.Names.length : Int) - 1) = decide (b + 1 = l.Names.length) := by
          rw [Bool.eq_iff_iff, decide_eq_true_eq, decide_eq_true_eq]; omega
         simp only [hlast]
         unfold zgs
         cases e3 : up l a b with
         | false => by_cases hl : b + 1 = l.Names.length <;> simp [hl]
         | true =>
           by_cases hba : b = a
           . subst hba
             have d2 : decide ((b : Int) = (b : Int)) = true := by simp
             cases (List.range l.Names.length).all fun i => !up l b i || up l b i with
             | false => by_cases hl : b + 1 = l.Names.length <;> simp [hl]
             | true => by_cases hl : b + 1 = l.Names.length <;> simp [hl]
           . have d2 : decide ((b : Int) = (a : Int)) = false := by simp; omega
             have d3 : decide (b = a) = false := by simp [hba]
             simp only [d2, d3]
             cases up l b a with
             | true => by_cases hl : b + 1 = l.Names.length <;> simp [hl]
             | false =>
               cases (List.range l.Names.length).all fun i => !up l b i || up l a i with
               | false => by_cases hl : b + 1 = l.Names.length <;> simp [hl]
               | true => by_cases hl : b + 1 = l.Names.length <;> simp [hl]
theorem ze2 {l : TL} (h : LatIn l) : qA l = zfn l := by
 unfold qA; rw [zph l h.u8 h.names h.name]; rfl
open Go
theorem zbn {l : TL} (h : LatIn l) (a b : Int) : zix l a b = some (zbk l [a, b]) := by
 unfold zix zbk
 rw [zaq l h.u8 h.names h.name, ze2 h]
 simp only [Option.bind_some, List.length_map, List.all_cons, List.all_nil, Bool.and_true]
 by_cases h0 : (zfn l).2 = 0
 . simp only [h0, decide_true, cond_true, if_true]
   unfold wh
   by_cases a1 : a < 0
   . have : ¬ 0 <= a := by omega
     simp [a1, this]
   by_cases a2 : (l.Names.length : Int) <= a
   . have : ¬ a < (l.Names.length : Int) := by omega
     simp [a1, a2, this]
   by_cases b1 : b < 0
   . have : ¬ 0 <= b := by omega
     simp [a1, a2, b1, this]
   by_cases b2 : (l.Names.length : Int) <= b
   . have : ¬ b < (l.Names.length : Int) := by omega
     simp [a1, a2, b1, b2, this]
   have a1' : 0 <= a := by omega
   have a2' : a < (l.Names.length : Int) := by omega
   have b1' : 0 <= b := by omega
   have b2' : b < (l.Names.length : Int) := by omega
   simp [a1, a2, b1, b2, a1', a2', b1', b2']
 . simp [h0]
open Go
theorem zmn {g : Nat -> Nat} {n a b c : Nat} (h : bnd g n a b = some c) : c < n /\ g c = g a &&& g b := by
 have key : ∀ {j k : Nat}, zx (fun c => if g c = g a &&& g b then some c else none) k j = some c -> c < k + j /\ g c = g a &&& g b := by
  intro j
  induction j with
  | zero => intro k h; cases h
  | succ j ih =>
    intro k h
    simp only [zx] at h
    split at h
    . rename_i r hr
      cases h
      split at hr
      . rename_i hh; cases hr; exact ⟨by omega, hh⟩
      . cases hr
    . have := ih h
      exact ⟨by omega, this.2⟩
 have := key h
 simpa using this
theorem za7 {l : TL} (h : LatIn l) (k : (qA l).2 = 0) : (∀ a, a < l.Names.length -> xu l a = true) /\ ∀ a b, a < l.Names.length -> b < l.Names.length -> wG l a b = false := by
 rw [ze2 h] at k
 unfold zfn at k
 split at k
 case isFalse h0 => exact absurd k h0
 split at k
 case isFalse => cases k
 split at k
 case h_1 r hr =>
  exfalso
  have key : ∀ {j k : Nat}, zx (fun a => if xu l a = true then none else some ((a : Int), (6 : Int))) k j = some r -> r.2 = 6 := by
   intro j
   induction j with
   | zero => intro k h; cases h
   | succ j ih =>
     intro k h
     simp only [zx] at h
     split at h
     . rename_i r' hr'
       cases h
       split at hr'
       . cases hr'
       . cases hr'; rfl
     . exact ih h
  rw [key hr] at k; cases k
 case h_2 hord =>
  have key2 : ∀ {a j k : Nat} {r : Int × Int}, zx (fun b => if wG l a b = true then some ((a : Int), (4 : Int)) else none) k j = some r -> r.2 = 4 := by
   intro a j
   induction j with
   | zero => intro k r h; cases h
   | succ j ih =>
     intro k r h
     simp only [zx] at h
     split at h
     . rename_i r' hr'
       cases h
       split at hr'
       . cases hr'; rfl
       . cases hr'
     . exact ih h
  have key : ∀ {j k : Nat} {r : Int × Int}, zx (fun a => zx (fun b => if wG l a b = true then some ((a : Int), (4 : Int)) else none) 0 l.Names.length) k j = some r -> r.2 = 4 := by
   intro j
   induction j with
   | zero => intro k r h; cases h
   | succ j ih =>
     intro k r h
     simp only [zx] at h
     split at h
     . rename_i r' hr'
       cases h
       exact key2 hr'
     . exact ih h
  cases hs : zx (fun a => zx (fun b => if wG l a b = true then some ((a : Int), (4 : Int)) else none) 0 l.Names.length) 0 l.Names.length with
  | some r =>
    rw [hs] at k
    have := key hs
    simp only [Option.getD_some] at k
    rw [this] at k; cases k
  | none =>
    refine ⟨fun a ha => ?_, fun a b ha hb => ?_⟩
    . have h1 := scan_none.1 hord a (by omega) (by omega)
      split at h1
      . assumption
      . cases h1
    . have h1 := scan_none.1 (scan_none.1 hs a (by omega) (by omega)) b (by omega) (by omega)
      split at h1
      . cases h1
      . rename_i h2; simpa using h2
theorem zmv {l : TL} (h : LatIn l) (k : (qA l).2 = 0) {a b : Nat} (ha : a < l.Names.length) (hb : b < l.Names.length) : ∃ c, bnd (dnN l) l.Names.length a b = some c /\ c < l.Names.length /\ dnN l c = dnN l a &&& dnN l b := by
 have h2 := (za7 h k).2 a b ha hb
 unfold wG at h2
 cases e : bnd (dnN l) l.Names.length a b with
 | none => rw [e] at h2; simp at h2
 | some c => exact ⟨c, rfl, zmn e⟩
theorem zwt {l : TL} (ok : LatOK l) {a b c : Nat} (ha : a < l.Names.length) (hb : b < l.Names.length) (hc : c < l.Names.length) (h1 : up l a b = true) (h2 : up l b c = true) : up l a c = true := (ok.row a ha b hb h1).2 c hc h2
theorem zA9 {l : TL} {b i : Nat} : (dnN l b).testBit i = (decide (i < l.Names.length) && up l i b) := zm2 l b l.Names.length i
theorem zhb {l : TL} {a b c i : Nat} (hi : i < l.Names.length) (hg : dnN l c = dnN l a &&& dnN l b) : up l i c = (up l i a && up l i b) := by
 have h1 := congrArg (fun x => x.testBit i) hg
 simp only [Nat.testBit_and, zA9, hi, decide_true, Bool.true_and] at h1
 exact h1
theorem zAu {l : TL} (ok : LatOK l) {a b : Nat} (ha : a < l.Names.length) (hb : b < l.Names.length) (h1 : up l a b = true) (h2 : up l b a = true) : a = b := by
 by_cases e : b = a
 . exact e.symm
 . have := (ok.row a ha b hb h1).1 e
   rw [h2] at this; cases this
theorem zBb {l : TL} (h : LatIn l) (k : (qA l).2 = 0) : ∃ t, t < l.Names.length /\ ∀ a, a < l.Names.length -> up l t a = true := by
 have ok := yB h k
 have key : ∀ j, j <= l.Names.length -> ∃ t, t < l.Names.length /\ ∀ a, a < j -> up l t a = true := by
  intro j
  induction j with
  | zero => intro _; exact ⟨0, ok.pos, fun a ha => absurd ha (by omega)⟩
  | succ j ih =>
    intro hj
    obtain ⟨t, ht, hall⟩ := ih (by omega)
    obtain ⟨c, _, hc, hg⟩ := zmv h k ht (show j < l.Names.length by omega)
    have hcc := ok.self c hc
    rw [zhb hc hg, Bool.and_eq_true] at hcc
    refine ⟨c, hc, fun a ha => ?_⟩
    rcases Nat.lt_or_ge a j with g | g
    . exact zwt ok hc ht (by omega) hcc.1 (hall a g)
    . have : a = j := by omega
      subst this; exact hcc.2
 exact key _ (Nat.le_refl _)
def qI (l : TL) : Nat := ((List.range l.Names.length).find? fun b => (List.range l.Names.length).all fun a => up l b a).getD 0
theorem zgg {l : TL} (h : LatIn l) (k : (qA l).2 = 0) : qI l < l.Names.length /\ ∀ a, a < l.Names.length -> up l (qI l) a = true := by
 obtain ⟨t, ht, hall⟩ := zBb h k
 unfold qI
 cases e : (List.range l.Names.length).find? fun b => (List.range l.Names.length).all fun a => up l b a with
 | none =>
   have := List.find?_eq_none.1 e t (by simpa using ht)
   exact absurd (by simp only [List.all_eq_true, List.mem_range]; exact hall) this
 | some b =>
   have h1 := List.find?_some e
   have h2 := List.mem_of_find?_eq_some e
   simp only [List.all_eq_true, List.mem_range] at h1 h2
   exact ⟨h2, h1⟩
theorem zun {l : TL} (h : LatIn l) (k : (qA l).2 = 0) {b : Nat} (hb : b < l.Names.length) (hall : ∀ a, a < l.Names.length -> up l b a = true) : b = qI l := by
 obtain ⟨h1, h2⟩ := zgg h k
 exact zAu (yB h k) hb h1 (hall _ h1) (h2 _ hb)
theorem zyh {l : TL} (h : LatIn l) (k : (qA l).2 = 0) {b : Nat} (hb : b < l.Names.length) : upN l b = 2 ^ l.Names.length - 1 ↔ b = qI l := by
 have h1 := (za7 h k).1 b hb
 unfold xu at h1
 simp only [Bool.and_eq_true, decide_eq_true_eq] at h1
 constructor
 . intro e
   refine zun h k hb fun a ha => ?_
   rw [<- zey, e, Nat.testBit_two_pow_sub_one]
   simpa using ha
 . rintro rfl
   have h2 := (zgg h k).2
   refine Nat.eq_of_testBit_eq fun i => ?_
   rw [Nat.testBit_two_pow_sub_one]
   rcases Nat.lt_or_ge i l.Names.length with g | g
   . rw [zey, h2 i g]; simp [g]
   . rw [Nat.testBit_lt_two_pow (Nat.lt_of_lt_of_le h1.1.1 (Nat.pow_le_pow_right (by omega) g))]
     simp; omega
open Go
theorem zoe (s : List UInt8) (c : Int) : zc6 s c = some (Go.Lib.indexByte s c.toNat.toUInt8) := by
 unfold zc6 qm
 rfl
theorem zau (r : Int) (h0 : 0 <= r) (h1 : r < 256) : xz [] r = some false := by
 unfold xz
 have key : Tot (zjz [] r) fun x => x < 0 := by
  unfold zjz
  have e0 : decide (0 <= r) = true := by simp [h0]
  simp only [e0, cond_true]
  rw [zF]
  refine ⟨fun _ => ?_, fun h2 => ?_⟩
  . rw [qc, zw, zoe]
    simp only [zm]
    simp [Go.Lib.indexByte]
  . simp only [decide_eq_false_iff_not] at h2
    obtain ⟨x, y, exy, hy⟩ := zvx (r := r) (by omega) h1
    have e1 : decide (r = 65533) = false := by simp; omega
    simp only [e1, cond_false, exy]
    rw [zw]
    refine (zbd r).mono fun v _ => ?_
    rw [zF]
    refine ⟨fun _ => .mk (by decide), fun _ => ?_⟩
    rw [qc]
    have e2 : IntKind.wrap .i64 (((List.length [x, y] : Nat) : Int) - 1) = 1 := rfl
    rw [e2, zw]
    refine Tot.loop (fun _ => 0) (fun _ => True) (fun _ _ => ?_) trivial
    rw [zF]
    refine ⟨fun h3 => ?_, fun _ => ?_⟩
    . simp only [decide_eq_true_eq, List.length_nil] at h3
      exact absurd h3 (by decide)
    . simp only [zm, Sum.elim_inr, Sum.elim_inl]
      decide
 obtain ⟨x, e, hx⟩ := key
 rw [e]
 have : decide (0 <= x) = false := by simp; omega
 simp [this]
theorem zpb (r : Int) (h0 : 0 <= r) (h1 : r < 256) : zaj r = some true := by
 unfold zaj
 have e0 : decide (0 <= r) = true := by simp [h0]
 have e1 : decide (r < 55296) = true := by simp; omega
 simp only [e0, e1, cond_true]
theorem zpu (r : Int) (h0 : 0 <= r) (h1 : r < 256) : zrq r = some true := by
 unfold zrq
 simp only [zg, zpe h0 h1]
 rw [w64 (by omega) (by omega)]
 simp [zpb r h0 h1]
def yC (c : UInt8) : Bool := decide (97 <= c.toNat) && decide (c.toNat <= 122)
def xl (c : UInt8) : Bool := decide (48 <= c.toNat) && decide (c.toNat <= 57)
theorem zpx {cs : List (List UInt8)} (hcs : cs.length = 10) (h : ∀ s ∈ cs, s.length <= 1000 /\ ∀ c ∈ s, c.toNat < 128) (h6 : cs[6]? = some []) (h8 : cs[8]? = some []) (r : Int) (h0 : 0 <= r) (h1 : r < 256) {Q : Unit ⊕ (Int × Int) -> Prop} (hQ : Q (.inl ())) (hQ' : ∀ x, x ≠ 6 -> x ≠ 8 -> Q (.inr (x, 0))) :
 Tot (lpO (fun (s : Int) => cond (decide (s < 10)) (zj cs s fun x => zg (IntKind.wrap IntKind.i32 r) fun y => Option.bind (xz x y) fun z => cond z (some (Sum.inr (Sum.inr (s, (0 : Int))))) (zg (IntKind.wrap IntKind.i64 (s + 1)) fun u => some (Sum.inl u))) (some (Sum.inr (Sum.inl ())))) 0) Q := by
 refine Tot.count 10 (fun k s => s = (k : Int)) ?_ rfl
 rintro k _ hk rfl
 simp only [zF, zm, qc, qo, zw, Sum.elim_inl, Sum.elim_inr, decide_eq_true_eq, decide_eq_false_iff_not, Int.toNat_natCast]
 refine ⟨fun hlt => ?_, fun _ => hQ⟩
 obtain ⟨x, hx⟩ := zv (l := cs) (i := k) (by omega)
 have hx' := h x (List.mem_of_getElem? hx)
 refine ⟨by omega, x, hx, ?_⟩
 rw [zpe h0 h1]
 have nx : k < 10 /\ IntKind.wrap .i64 ((k : Int) + 1) = ((k + 1 : Nat) : Int) := by
  rw [w64 (by omega) (by omega)]; exact ⟨by omega, by omega⟩
 by_cases g6 : k = 6
 . subst g6
   rw [h6] at hx; cases hx
   rw [zau r h0 h1, zm]
   exact ⟨fun e => (by cases e), fun _ => nx⟩
 by_cases g8 : k = 8
 . subst g8
   rw [h8] at hx; cases hx
   rw [zau r h0 h1, zm]
   exact ⟨fun e => (by cases e), fun _ => nx⟩
 refine (zd6 x r hx'.2 hx'.1 h0 h1).mono fun _ _ => ⟨fun _ => hQ' _ (by omega) (by omega), fun _ => nx⟩
theorem zbz (c : UInt8) : Tot (zee (IntKind.wrap .i64 (c.toNat : Int))) fun x => (decide (x.1 = 8) = yC c) /\ (decide (x.1 = 6) = xl c) := by
 have hc := c.toNat_lt
 rw [w64 (by omega) (by omega)]
 have h0 : (0 : Int) <= c.toNat := by omega
 have h1 : (c.toNat : Int) < 256 := by omega
 unfold zee zga yC xl
 rw [zpu _ h0 h1]
 simp only [Option.bind_some, Bool.not_true, cond_false]
 have L : ¬ (48 <= c.toNat /\ c.toNat <= 57) -> ¬ (97 <= c.toNat /\ c.toNat <= 122) -> _ := fun d1 d2 => zpx (cs := [[], [32], [10], [40, 91], [41, 93], [34], [], [45], [], [60, 61]]) rfl (by decide) rfl rfl c.toNat h0 h1 (Q := fun a => Tot (Sum.elim (fun _ => some ((10 : Int), (0 : Int))) some a) fun (x : Int × Int) => (decide (x.1 = 8) = (decide (97 <= c.toNat) && decide (c.toNat <= 122))) /\ (decide (x.1 = 6) = (decide (48 <= c.toNat) && decide (c.toNat <= 57))))
  (.mk (by
    have a1 : (decide (97 <= c.toNat) && decide (c.toNat <= 122)) = false := by simp; omega
    have a2 : (decide (48 <= c.toNat) && decide (c.toNat <= 57)) = false := by simp; omega
    rw [a1, a2]; exact ⟨rfl, rfl⟩)) (fun x e6 e8 => .mk (by
    have a1 : (decide (97 <= c.toNat) && decide (c.toNat <= 122)) = false := by simp; omega
    have a2 : (decide (48 <= c.toNat) && decide (c.toNat <= 57)) = false := by simp; omega
    rw [a1, a2]; simp [e6, e8]))
 simp only [zF, zm, zw, decide_eq_true_eq, decide_eq_false_iff_not]
 have six : 48 <= c.toNat -> c.toNat <= 57 -> decide ((6 : Int) = 8) = (decide (97 <= c.toNat) && decide (c.toNat <= 122)) /\ decide ((6 : Int) = 6) = (decide (48 <= c.toNat) && decide (c.toNat <= 57)) := by
  intro d1 d2
  have a1 : (decide (97 <= c.toNat) && decide (c.toNat <= 122)) = false := by simp; omega
  have a2 : (decide (48 <= c.toNat) && decide (c.toNat <= 57)) = true := by simp; omega
  rw [a1, a2]; exact ⟨rfl, rfl⟩
 have eight : 97 <= c.toNat -> c.toNat <= 122 -> decide ((8 : Int) = 8) = (decide (97 <= c.toNat) && decide (c.toNat <= 122)) /\ decide ((8 : Int) = 6) = (decide (48 <= c.toNat) && decide (c.toNat <= 57)) := by
  intro d1 d2
  have a1 : (decide (97 <= c.toNat) && decide (c.toNat <= 122)) = true := by simp; omega
  have a2 : (decide (48 <= c.toNat) && decide (c.toNat <= 57)) = false := by simp; omega
  rw [a1, a2]; exact ⟨rfl, rfl⟩
 refine ⟨fun d1 => ⟨fun d2 => six (by omega) (by omega), fun d2 => ⟨fun d3 => ⟨fun d4 => eight (by omega) (by omega), fun d4 => L (by omega) (by omega)⟩, fun d3 => L (by omega) (by omega)⟩⟩, fun d1 => ⟨fun d3 => ⟨fun d4 => eight (by omega) (by omega), fun d4 => L (by omega) (by omega)⟩, fun d3 => L (by omega) (by omega)⟩⟩
def wU (s : List UInt8) : Bool := (match s with | [] => false | c :: _ => yC c) && s.all fun c => yC c || xl c
theorem zha {s : List UInt8} {p : UInt8 -> Bool} {k : Nat} {c : UInt8} (h : (s.take k).all p = true) (hc : s[k]? = some c) (hp : p c = true) : (s.take (k + 1)).all p = true := by
 rw [List.take_add_one, hc, List.all_append, h]
 simp [hp]
theorem zh0 (s : List UInt8) (h : s.length <= 1000000) : Tot (zs8 (TK.mk 1 0 0 0 s)) fun x => decide (x = 0) = (wU s && decide (s.length <= 16)) := by
 unfold zs8
 dsimp only
 have e2 : decide ((1 : Int) < 1) = false := rfl
 have e3 : decide ((9 : Int) < 1) = false := rfl
 simp only [e2, e3, decide_true, cond_true, cond_false, Option.bind_some, Sum.elim_inl, Bool.and_self, Bool.not_true]
 rw [zw]
 have Qn : ∀ x : Int, wU s = false -> Tot (Sum.elim (fun (n : Int) => cond (decide (n < (s.length : Int))) (some (3 : Int)) (some (0 : Int))) some (Sum.inr 6 : Int ⊕ Int)) fun x => decide (x = 0) = (wU s && decide (s.length <= 16)) := by
  intro _ e
  rw [e]; exact .mk rfl
 have Qy : wU s = true -> Tot (Sum.elim (fun (n : Int) => cond (decide (n < (s.length : Int))) (some (3 : Int)) (some (0 : Int))) some (Sum.inl 16 : Int ⊕ Int)) fun x => decide (x = 0) = (wU s && decide (s.length <= 16)) := by
  intro e
  rw [e]
  simp only [Sum.elim_inl, zF, zm, decide_eq_true_eq, decide_eq_false_iff_not]
  refine ⟨fun g => ?_, fun g => ?_⟩
  . have : decide (s.length <= 16) = false := by simp; omega
    rw [this]; rfl
  . have : decide (s.length <= 16) = true := by simp; omega
    rw [this]; rfl
 rw [zF]
 refine ⟨fun h1 => ?_, fun h1 => ?_⟩
 . simp only [zm]
   refine Qn 0 ?_
   have : s = [] := List.length_eq_zero_iff.1 (by simpa using h1)
   rw [this]; rfl
 simp only [decide_eq_false_iff_not] at h1
 obtain ⟨c, hc⟩ := zv (l := s) (i := 0) (by omega)
 have hs0 : ∃ r, s = c :: r := by
  cases s with
  | nil => simp at hc
  | cons a r => simp at hc; exact ⟨r, by rw [hc]⟩
 have e0 : (0 : Int).toNat = 0 := rfl
 simp only [qo, qc, zw, e0]
 refine ⟨by omega, c, hc, (zbz c).mono fun x hx => ?_⟩
 rw [zF]
 refine ⟨fun g => ?_, fun g => ?_⟩
 . simp only [zm]
   refine Qn 0 ?_
   obtain ⟨r, rfl⟩ := hs0
   have : yC c = false := by rw [<- hx.1]; simpa using g
   unfold wU; simp [this]
 have hlow : yC c = true := by rw [<- hx.1]; simpa using g
 simp only [qo, qc, zw, e0]
 refine ⟨by omega, c, hc, (zbz c).mono fun y hy => ?_⟩
 refine Tot.loop (fun (p : Int × Int) => s.length - p.2.toNat) (fun (p : Int × Int) => 0 <= p.2 /\ p.2 <= (s.length : Int) /\ (s.take p.2.toNat).all (fun c => yC c || xl c) = true /\ ((p.2 = (s.length : Int) /\ p.1 = 10) \/ ∃ d, s[p.2.toNat]? = some d /\ decide (p.1 = 8) = yC d /\ decide (p.1 = 6) = xl d)) ?_ ⟨by simp, by simp, by simp, .inr ⟨c, by simpa using hc, hy⟩⟩
 rintro ⟨k, a⟩ ⟨h2, h3, hall, h4⟩
 simp only at h2 h3 hall h4
 have round : (k = 8 \/ k = 6) -> ∀ {Q : (Bool × Int × Int) ⊕ (Int ⊕ Int) -> Prop}, Tot (zg (IntKind.wrap .i64 (a + 1)) fun (u : Int) => cond (decide ((s.length : Int) <= u)) (some (Sum.inl ((10 : Int), u))) (zj s u fun (v : UInt8) => zg (IntKind.wrap .i64 (v.toNat : Int)) fun (z : Int) => Option.bind (zee z) fun r => some (Sum.inl (r.1, u)))) (Sum.elim (fun (s' : Int × Int) => (0 <= s'.2 /\ s'.2 <= (s.length : Int) /\ (s.take s'.2.toNat).all (fun c => yC c || xl c) = true /\ ((s'.2 = (s.length : Int) /\ s'.1 = 10) \/ ∃ d, s[s'.2.toNat]? = some d /\ decide (s'.1 = 8) = yC d /\ decide (s'.1 = 6) = xl d)) /\ s.length - s'.2.toNat < s.length - a.toNat) Q) := by
  intro hk Q
  rcases h4 with ⟨g1, g2⟩ | ⟨d, hd, d1, d2⟩
  . omega
  have hlt : a.toNat < s.length := by
   rcases Nat.lt_or_ge a.toNat s.length with g | g
   . exact g
   . rw [List.getElem?_eq_none g] at hd; cases hd
  have hp : (yC d || xl d) = true := by
   rw [<- d1, <- d2]
   rcases hk with rfl | rfl <;> rfl
  have e1 : (a + 1).toNat = a.toNat + 1 := by omega
  have hall' : (s.take (a + 1).toNat).all (fun c => yC c || xl c) = true := by rw [e1]; exact zha hall hd hp
  rw [qc, w64 (by omega) (by omega), zF]
  refine ⟨fun g => ?_, fun g => ?_⟩
  . simp only [decide_eq_true_eq] at g
    simp only [zm, Sum.elim_inl]
    exact ⟨⟨by omega, by omega, hall', .inl ⟨by omega, trivial⟩⟩, by omega⟩
  . simp only [decide_eq_false_iff_not] at g
    obtain ⟨d', hd'⟩ := zv (l := s) (i := (a + 1).toNat) (by omega)
    simp only [qo, qc, zw]
    refine ⟨by omega, d', hd', (zbz d').mono fun z hz => ?_⟩
    simp only [zm, Sum.elim_inl]
    exact ⟨⟨by omega, by omega, hall', .inr ⟨d', hd', hz⟩⟩, by omega⟩
 rw [zF]
 refine ⟨fun g => round (.inl (by simpa using g)), fun g => ?_⟩
 rw [zF]
 refine ⟨fun g' => round (.inr (by simpa using g')), fun g' => ?_⟩
 simp only [zm, Sum.elim_inr, Sum.elim_inl, qH, zF, e0, List.drop_zero]
 refine ⟨by omega, fun hne => ?_, fun heq => ?_⟩
 . refine (zm (Q := fun x => decide (x = 0) = (wU s && decide (s.length <= 16)))).1 (Qn 0 ?_)
   rcases h4 with ⟨g1, _⟩ | ⟨d, hd, d1, d2⟩
   . exfalso
     have : a.toNat = s.length := by omega
     rw [this, List.take_length] at hne
     simp at hne
   . unfold wU
     have : (s.all fun c => yC c || xl c) = false := by
      rw [List.all_eq_false]
      refine ⟨d, List.mem_of_getElem? hd, ?_⟩
      rw [<- d1, <- d2, g, g']
      simp
     rw [this, Bool.and_false]
 . have ht : s.take a.toNat = s := by simpa using heq
   rw [ht] at hall
   have hw : wU s = true := by
    unfold wU
    obtain ⟨r, rfl⟩ := hs0
    simp only [hall, hlow, Bool.and_self]
   rw [hw]
   refine ⟨fun g => ?_, fun g => ?_⟩
   . have : decide (s.length <= 16) = false := by simp at g ⊢; omega
     rw [this]; rfl
   . have : decide (s.length <= 16) = true := by simp at g ⊢; omega
     rw [this]; rfl
open Go
theorem znk (c : UInt8) : znw (c.toNat : Int) = some (yC c) := by
 unfold znw yC
 by_cases h : 97 <= c.toNat
 . have : decide ((97 : Int) <= (c.toNat : Int)) = true := by simp; omega
   rw [this]
   simp only [cond_true, h, decide_true, Bool.true_and, Option.some.injEq]
   rw [Bool.eq_iff_iff]; simp; omega
 . have : decide ((97 : Int) <= (c.toNat : Int)) = false := by simp; omega
   rw [this]
   simp [h]
theorem zBa (c : UInt8) : ztr (c.toNat : Int) = some (xl c) := by
 unfold ztr xl
 by_cases h : 48 <= c.toNat
 . have : decide ((48 : Int) <= (c.toNat : Int)) = true := by simp; omega
   rw [this]
   simp only [cond_true, h, decide_true, Bool.true_and, Option.some.injEq]
   rw [Bool.eq_iff_iff]; simp; omega
 . have : decide ((48 : Int) <= (c.toNat : Int)) = false := by simp; omega
   rw [this]
   simp [h]
theorem zAb (s : List UInt8) (h : s.length <= 1000000) : zb3 s = some (wU s) := by
 unfold zb3
 cases s with
 | nil => rfl
 | cons c r =>
   have e1 : decide (c :: r = (ByteArray.mk #[]).data.toList) = false := by
    exact decide_eq_false (fun e => by cases (show c :: r = [] from e))
   rw [e1]
   apply Tot.eq
   have e0 : (0 : Int).toNat = 0 := rfl
   simp only [cond_false, qo, e0, zw]
   refine ⟨by omega, c, rfl, ?_⟩
   rw [znk, zm, zF]
   refine ⟨fun g => ?_, fun g => ?_⟩
   . have : yC c = false := by simpa using g
     simp [zm, wU, this]
   have hl : yC c = true := by simpa using g
   rw [zw]
   refine Tot.count (c :: r).length (fun k s => s = (k : Int) /\ ((c :: r).take k).all (fun c => yC c || xl c) = true) ?_ ⟨rfl, by simp⟩
   rintro k _ hk ⟨rfl, hall⟩
   simp only [zF, zm, qc, qo, zw, Sum.elim_inl, Sum.elim_inr, decide_eq_true_eq, decide_eq_false_iff_not, Int.toNat_natCast]
   refine ⟨fun hlt => ?_, fun hge => ?_⟩
   . obtain ⟨d, hd⟩ := zv (l := c :: r) (i := k) (by omega)
     refine ⟨by omega, d, hd, ?_⟩
     rw [znk, zm]
     have nx : k < (c :: r).length /\ IntKind.wrap .i64 ((k : Int) + 1) = ((k + 1 : Nat) : Int) := by
      rw [w64 (by omega) (by omega)]; exact ⟨by omega, by omega⟩
     refine ⟨fun g1 => ⟨by omega, d, hd, ?_⟩, fun g1 => ⟨nx.1, nx.2, zha hall hd (by simp at g1; simp [g1])⟩⟩
     rw [zBa, zm]
     refine ⟨fun g2 => ?_, fun g2 => ⟨nx.1, nx.2, zha hall hd (by simp at g2; simp [g2])⟩⟩
     have : ((c :: r).all fun c => yC c || xl c) = false := by
      rw [List.all_eq_false]
      refine ⟨d, List.mem_of_getElem? hd, ?_⟩
      simp at g1 g2
      simp [g1, g2]
     unfold wU
     rw [this, Bool.and_false]
   . rw [List.take_of_length_le (by omega)] at hall
     unfold wU
     rw [hall]
     show true = (yC c && true)
     rw [hl]; rfl
theorem zCp (s : List UInt8) (h : s.length <= 1000000) : Tot (zs2 (TK.mk 1 0 0 0 s)) fun x => decide (x = 0) = (wU s && decide (s.length <= 16)) := by
 unfold zs2
 dsimp only
 have e2 : decide ((1 : Int) < 1) = false := rfl
 have e3 : decide ((9 : Int) < 1) = false := rfl
 have e4 : decide ((1 : Int) = 2) = false := rfl
 simp only [e2, e3, e4, decide_true, cond_true, cond_false, Bool.not_true, Bool.not_false, zAb s h, Option.bind_some, zF, zm]
 refine ⟨fun g => ?_, fun g => ?_⟩
 . have : wU s = false := by simpa using g
   rw [this]; rfl
 . have : wU s = true := by simpa using g
   rw [this]
   refine ⟨fun g => ?_, fun g => ?_⟩
   . have : decide (s.length <= 16) = false := by simp at g ⊢; omega
     rw [this]; rfl
   . have : decide (s.length <= 16) = true := by simp at g ⊢; omega
     rw [this]; rfl
def primN : List (List UInt8) := [[110, 101, 103], [97, 98, 115], [110, 111, 116], [115, 104, 97, 112, 101], [114, 97, 118, 101, 108], [114, 101, 118, 101, 114, 115, 101], [102, 108, 105, 112], [105, 111, 116, 97], [115, 117, 109], [108, 101, 97, 115, 116], [109, 111, 115, 116], [99, 111, 117, 110, 116], [115, 99, 97, 110], [103, 114, 97, 100, 101], [97, 100, 100], [115, 117, 98], [109, 117, 108], [100, 105, 118], [109, 111, 100], [112, 108, 117, 115], [109, 105, 110, 117, 115], [116, 105, 109, 101, 115], [101, 113], [110, 101], [108, 116], [108, 101], [103, 116], [103, 101], [97, 110, 100], [111, 114], [109, 105, 110], [109, 97, 120], [116, 97, 107, 101], [100, 114, 111, 112], [102, 105, 108, 108], [103, 114, 105, 100], [99, 97, 116], [97, 116], [105, 110], [112, 105, 99, 107]]
theorem zhv (s : List UInt8) : Tot (zod s) fun x => decide (x.2 = 0) = decide (s ∈ primN) := by
 by_cases hm : s ∈ primN
 . have h2 : ∀ t ∈ primN, ∃ x, zod t = some x /\ decide (x.2 = 0) = true := by
    unfold primN
    simp only [List.forall_mem_cons]
    repeat' constructor
    intro t ht; cases ht
   obtain ⟨x, e, hx⟩ := h2 s hm
   exact ⟨x, e, by show decide (x.2 = 0) = _; rw [hx]; simp [hm]⟩
 . have hd : decide (s ∈ primN) = false := by simp [hm]
   rw [hd]
   unfold zod
   unfold primN at hm
   simp only [List.mem_cons, List.not_mem_nil, or_false, not_or] at hm
   have sw : ∀ n : List UInt8, (n = s) = (s = n) := fun n => propext eq_comm
   simp only [sw, hm, decide_false, cond_false, Option.bind_some, Sum.elim_inl, zm]
   rfl
theorem zlc (s : List UInt8) : Tot (zrb s) fun x => decide (x.2 = 0) = decide (s ∈ primN) := by
 unfold zrb zt6
 simp only [Option.bind_some]
 change Tot (Option.bind (lpO (fun (k : Int) => cond (decide (k < ((List.length (List.map SV.str primN) : Nat) : Int))) (zj primN k _) _) 0) _) _
 rw [zw]
 have hn : (List.map SV.str primN).length = 40 := rfl
 have hn' : primN.length = 40 := rfl
 rw [hn]
 refine Tot.count 40 (fun k x => x = (k : Int) /\ s ∉ primN.take k) ?_ ⟨rfl, by simp⟩
 rintro k _ hk ⟨rfl, hmem⟩
 simp only [zF, zm, qc, qo, zw, Sum.elim_inl, Sum.elim_inr, decide_eq_true_eq, decide_eq_false_iff_not, Int.toNat_natCast]
 refine ⟨fun hlt => ?_, fun hge => ?_⟩
 . obtain ⟨x, hx⟩ := zv (l := primN) (i := k) (by omega)
   refine ⟨by omega, x, hx, fun g => ?_, fun g => ?_⟩
   . subst g
     have := List.mem_of_getElem? hx
     simp [this]
   . rw [w64 (by omega) (by omega), List.take_add_one, hx]
     refine ⟨by omega, by omega, fun hm => ?_⟩
     rcases List.mem_append.1 hm with hm | hm
     . exact hmem hm
     . simp at hm; exact g hm.symm
 . rw [List.take_of_length_le (by omega)] at hmem
   simp [hmem]
def resN : List (List UInt8) := [[118, 97, 114], [100, 101, 102], [111, 117, 116], [105, 102], [101, 108, 115, 101], [119, 104, 105, 108, 101], [101, 110, 100], [114, 101, 108, 101, 97, 115, 101], [105, 110, 116], [99, 104, 97, 114]]
def exN (s : List UInt8) : Bool := !decide (s ∈ resN) && !decide (s ∈ primN) && (wU s && decide (s.length <= 16))
theorem zbq (s : List UInt8) (h : s.length <= 1000000) : zj1 s = some (exN s) := by
 apply Tot.eq
 unfold exN
 by_cases hm : s ∈ resN
 . have h2 : ∀ t ∈ resN, zj1 t = some false := by
    unfold resN
    simp only [List.forall_mem_cons]
    repeat' constructor
    intro t ht; cases ht
   rw [h2 s hm, zm]
   simp [hm]
 . have hd : decide (s ∈ resN) = false := by simp [hm]
   rw [hd]
   unfold zj1
   unfold resN at hm
   simp only [List.mem_cons, List.not_mem_nil, or_false, not_or] at hm
   change Tot (cond (decide (s = [118, 97, 114])) _ (cond (decide (s = [100, 101, 102])) _ (cond (decide (s = [111, 117, 116])) _ (cond (decide (s = [105, 102])) _ (cond (decide (s = [101, 108, 115, 101])) _ (cond (decide (s = [119, 104, 105, 108, 101])) _ (cond (decide (s = [101, 110, 100])) _ (cond (decide (s = [114, 101, 108, 101, 97, 115, 101])) _ (cond (decide (s = [105, 110, 116])) _ (cond (decide (s = [99, 104, 97, 114])) _ _)))))))))) _
   simp only [hm, decide_false, cond_false, zw]
   refine (zhv s).mono fun x hx => ?_
   rw [hx, zF]
   refine ⟨fun g => ?_, fun g => ?_⟩
   . rw [g]; exact .mk rfl
   . rw [g, zw]
     refine (zh0 s h).mono fun y hy => .mk ?_
     rw [hy]; rfl
theorem zk2 (s : List UInt8) : zr0 s = some (decide (s ∈ resN)) := by
 unfold zr0
 apply Tot.eq
 change Tot (Option.bind (lpO (fun (k : Int) => cond (decide (k < ((10 : Nat) : Int))) (zk (0 <= k /\ k < ((10 : Nat) : Int)) (zj resN ((k.toNat : Nat) : Int) _)) _) 0) _) _
 rw [zw]
 have hn' : resN.length = 10 := rfl
 refine Tot.count 10 (fun k x => x = (k : Int) /\ s ∉ resN.take k) ?_ ⟨rfl, by simp⟩
 rintro k _ hk ⟨rfl, hmem⟩
 simp only [zF, zm, qc, qo, qH, zw, Sum.elim_inl, Sum.elim_inr, decide_eq_true_eq, decide_eq_false_iff_not, Int.toNat_natCast]
 refine ⟨fun hlt => ?_, fun hge => ?_⟩
 . obtain ⟨x, hx⟩ := zv (l := resN) (i := k) (by omega)
   refine ⟨⟨by omega, by omega⟩, by omega, x, hx, fun g => ?_, fun g => ?_⟩
   . subst g
     have := List.mem_of_getElem? hx
     simp [this]
   . rw [w64 (by omega) (by omega), List.take_add_one, hx]
     refine ⟨by omega, by omega, fun hm => ?_⟩
     rcases List.mem_append.1 hm with hm | hm
     . exact hmem hm
     . simp at hm; exact g hm.symm
 . rw [List.take_of_length_le (by omega)] at hmem
   simp [hmem]
theorem zhe (s : List UInt8) (h : s.length <= 1000000) : zt7 s = some (exN s) := by
 unfold zt7 exN
 apply Tot.eq
 rw [zw]
 refine (zlc s).mono fun x hx => ?_
 rw [zw]
 refine (zCp s h).mono fun y hy => ?_
 rw [hx, hy, zk2]
 cases wU s && decide (s.length <= 16) <;> cases decide (s ∈ primN) <;> cases decide (s ∈ resN) <;> exact .mk rfl
open Go
def qt (r : Int) (l : Int × Int) : Int := if r = 2 then l.1 * l.2 else if r = 1 then l.1 else 1
def shC (r : Int) (l : Int × Int) : Int :=
 if r = 0 then (if l.1 = 0 then (if l.2 = 0 then 0 else 6) else 6)
 else if r = 1 then (if l.1 < 0 then 7 else if l.2 = 0 then (if 400 < l.1 then 15 else 0) else 6)
 else if r = 2 then (if l.1 < 0 then 7 else if l.2 < 0 then 7 else if 400 < l.1 then 15 else if 400 < l.2 then 15 else if 400 < l.1 * l.2 then 15 else 0)
 else 7
theorem zh8 {a b : Int} (h0 : 0 <= a) (h1 : a <= 400) (h2 : 0 <= b) (h3 : b <= 400) : 0 <= a * b /\ a * b <= 160000 :=
 ⟨Int.mul_nonneg h0 h2, by have := Int.mul_le_mul h1 h3 h2 (by omega : (0 : Int) <= 400); omega⟩
theorem zgk : IntKind.wrap .i64 1 = 1 := by decide
theorem zsf : IntKind.wrap .i64 2 = 2 := by decide
theorem m1 : max (1 : Int) 0 = 1 := by decide
theorem zc5 (r : Int) (l : Int × Int) (h : shC r l = 0) : zc7 r l = some (qt r l) := by
 unfold zc7 qt
 unfold shC at h
 by_cases h2 : r = 2
 . subst h2
   simp only [decide_true, cond_true, zg, if_true]
   simp (config := { decide := true }) only [if_false, if_true] at h
   split at h
   . cases h
   split at h
   . cases h
   split at h
   . cases h
   split at h
   . cases h
   have hm := zh8 (a := l.1) (b := l.2) (by omega) (by omega) (by omega) (by omega)
   rw [w64 (e := 1 * l.2) (by omega) (by omega), Int.one_mul, Int.mul_comm l.2 l.1, w64 (by omega) (by omega)]
 by_cases h1 : r = 1
 . subst h1
   simp (config := { decide := true }) only [if_false, if_true] at h ⊢
   split at h
   . cases h
   split at h
   case isFalse => cases h
   split at h
   . cases h
   simp only [decide_true, cond_true, decide_false, cond_false, zg]
   rw [w64 (e := 1 * l.1) (by omega) (by omega), Int.one_mul]
 . simp [h1, h2]
theorem uy (r : Int) (l : Int × Int) : zor r l = some (shC r l) := by
 unfold zor
 by_cases hr : r < 0
 . have : shC r l = 7 := by unfold shC; rw [if_neg (by omega), if_neg (by omega), if_neg (by omega)]
   simp [hr, this]
 by_cases hr2 : 2 < r
 . have : shC r l = 7 := by unfold shC; rw [if_neg (by omega), if_neg (by omega), if_neg (by omega)]
   simp [hr, hr2, this]
 have e1 : decide (r < 0) = false := by simp; omega
 have e2 : decide (2 < r) = false := by simp; omega
 simp only [e1, e2, cond_false]
 rw [yq ⟨by omega, by omega⟩, yq ⟨by omega, by omega⟩]
 rw [zla _ (by simp; omega), zlb _ (by simp; omega), zle _ (by simp; omega)]
 obtain ⟨a, b⟩ := l
 have hp := zc5 r (a, b)
 rcases (by omega : r = 0 \/ r = 1 \/ r = 2) with rfl | rfl | rfl
 . by_cases ha : a = 0 <;> by_cases hb : b = 0 <;> simp [shC, ha, hb, zc7]
 . by_cases ha : a < 0
   . simp [shC, ha]
   by_cases hb : b = 0
   case neg => simp [shC, ha, hb]
   by_cases h4 : 400 < a
   . simp [shC, ha, hb, h4]
   have hs : shC 1 (a, b) = 0 := by simp [shC, ha, hb, h4]
   have hp' := hp hs
   rw [hb] at hp' hs
   simp [hp', hs, ha, hb, h4, qt]
 . by_cases ha : a < 0
   . simp [shC, ha]
   by_cases hb : b < 0
   . simp [shC, ha, hb]
   by_cases h4 : 400 < a
   . simp [shC, ha, hb, h4]
   by_cases h5 : 400 < b
   . simp [shC, ha, hb, h4, h5]
   have hm := zh8 (a := a) (b := b) (by omega) (by omega) (by omega) (by omega)
   have hq : zc7 2 (a, b) = some (a * b) := by
    unfold zc7
    simp only [decide_true, cond_true, zg]
    rw [w64 (e := 1 * b) (by omega) (by omega), Int.one_mul, Int.mul_comm b a, w64 (by omega) (by omega)]
   by_cases h6 : 400 < a * b
   . simp [shC, ha, hb, h4, h5, h6, hq]
   . simp [shC, ha, hb, h4, h5, h6, hq]
theorem wS (r : Int) (l : Int × Int) : zgt r l = some (if shC r l = 0 then qt r l else 0, shC r l) := by
 unfold zgt
 rw [uy, Option.bind_some]
 by_cases h : shC r l = 0
 . simp [h, zc5 r l h]
 . simp [h]
theorem zkl (r : Int) (l : Int × Int) (h : shC r l = 0 \/ (r = 2 /\ 0 <= l.1 /\ l.1 <= 400 /\ 0 <= l.2 /\ l.2 <= 400)) : znx r l = some (qt r l) := by
 unfold znx
 obtain ⟨a, b⟩ := l
 by_cases h2 : r = 2
 . subst h2
   have hb : 0 <= a /\ a <= 400 /\ 0 <= b /\ b <= 400 := by
    rcases h with h | ⟨_, h⟩
    . unfold shC at h
      simp (config := { decide := true }) only [if_false, if_true] at h
      split at h
      . cases h
      split at h
      . cases h
      split at h
      . cases h
      split at h
      . cases h
      omega
    . exact h
   have hm := zh8 (a := a) (b := b) hb.1 hb.2.1 hb.2.2.1 hb.2.2.2
   have w1 : IntKind.wrap .i64 a = a := w64 (by omega) (by omega)
   have w2 : IntKind.wrap .i64 (a * b) = a * b := w64 (by omega) (by omega)
   rw [zL]
   simp [zk, zj, zg, m1, zgk, w1]
   rw [zL]
   simp [zk, zj, zg, m1, zsf, w2]
   rw [zL]
   simp [qt]
 by_cases h1 : r = 1
 . subst h1
   have hb : 0 <= a /\ a <= 400 := by
    rcases h with h | ⟨h, _⟩
    . unfold shC at h
      simp (config := { decide := true }) only [if_false, if_true] at h
      split at h
      . cases h
      split at h
      case isFalse => cases h
      split at h
      . cases h
      omega
    . cases h
   have w1 : IntKind.wrap .i64 a = a := w64 (by omega) (by omega)
   rw [zL]
   simp [zk, zj, zg, m1, zgk, w1]
   rw [zL]
   simp [qt]
 . have h0 : r <= 0 := by
    rcases h with h | ⟨h, _⟩
    . unfold shC at h
      rw [if_neg h1, if_neg h2] at h
      split at h
      . omega
      . cases h
    . exact absurd h h2
   have : ¬ 0 < r := by omega
   rw [zL]
   simp [qt, h1, h2, this]
theorem zgd (r : Int) (l : Int × Int) : ztw r l = some (shC r l) := by
 unfold ztw
 by_cases hr : r < 0
 . have : shC r l = 7 := by unfold shC; rw [if_neg (by omega), if_neg (by omega), if_neg (by omega)]
   simp [hr, this]
 by_cases hr2 : 2 < r
 . have : shC r l = 7 := by unfold shC; rw [if_neg (by omega), if_neg (by omega), if_neg (by omega)]
   simp [hr, hr2, this]
 have e1 : decide (r < 0) = false := by simp; omega
 have e2 : decide (2 < r) = false := by simp; omega
 simp only [e1, e2, cond_false]
 obtain ⟨a, b⟩ := l
 have hp := zkl r (a, b)
 rcases (by omega : r = 0 \/ r = 1 \/ r = 2) with rfl | rfl | rfl
 . rw [zL]
   simp only [decide_false, Int.lt_irrefl, cond_false, Option.bind_some, Sum.elim_inr, Sum.elim_inl]
   rw [zL]
   by_cases ha : a = 0
   case neg => simp [zk, zj, zg, m1, shC, ha]
   simp [zk, zj, zg, m1, ha, zgk]
   rw [zL]
   by_cases hb : b = 0
   case neg => simp [zk, zj, zg, m1, shC, ha, hb]
   have hs : shC 0 (a, b) = 0 := by simp [shC, ha, hb]
   have hp' := hp (.inl hs)
   rw [ha, hb] at hp' hs
   simp [zk, zj, zg, m1, hb, zsf]
   rw [zL]
   simp [hp', hs, qt]
 . rw [zL]
   by_cases ha : a < 0
   . simp [zk, zj, zg, m1, shC, ha]
   simp [zk, zj, zg, m1, ha, zgk]
   rw [zL]
   simp
   rw [zL]
   by_cases hb : b = 0
   case neg => simp [zk, zj, zg, m1, shC, ha, hb]
   simp [zk, zj, zg, m1, hb, zsf]
   rw [zL]
   by_cases h4 : 400 < a
   . simp [shC, ha, h4]
   have hs : shC 1 (a, b) = 0 := by simp [shC, ha, hb, h4]
   have hp' := hp (.inl hs)
   rw [hb] at hp' hs
   simp [hp', hs, qt, h4]
 . rw [zL]
   by_cases ha : a < 0
   . simp [zk, zj, zg, m1, shC, ha]
   simp [zk, zj, zg, m1, ha, zgk]
   rw [zL]
   by_cases hb : b < 0
   . simp [zk, zj, zg, m1, shC, ha, hb]
   simp [zk, zj, zg, m1, hb, zsf]
   rw [zL]
   simp
   rw [zL]
   by_cases h4 : 400 < a
   . simp [shC, ha, hb, h4]
   by_cases h5 : 400 < b
   . simp [shC, ha, hb, h4, h5]
   have hp' := hp (.inr ⟨rfl, by simp; omega, by simp; omega, by simp; omega, by simp; omega⟩)
   by_cases h6 : 400 < a * b
   . simp [shC, ha, hb, h4, h5, h6, hp', qt]
   . simp [shC, ha, hb, h4, h5, h6, hp', qt]
theorem zat (r : Int) (l : Int × Int) : znb r l = some (if shC r l = 0 then qt r l else 0, shC r l) := by
 unfold znb
 rw [zgd, Option.bind_some]
 by_cases h : shC r l = 0
 . simp [h, zkl r l (.inl h)]
 . simp [h]
open Go
def wg (c : Int) : Bool := decide (0 <= c) && decide (c <= 1114111) && (decide (c < 55296) || decide (57343 < c))
def wi (a : TA) : Int :=
 if a.Kind = 1 \/ a.Kind = 2 then
  if shC a.Rank a.Lens = 0 then
   if (a.Cells.length : Int) = qt a.Rank a.Lens then
    if a.Kind = 2 /\ (a.Cells.any fun c => !wg c) = true then 7 else 0
   else 6
  else shC a.Rank a.Lens
 else 2
theorem zwg {r : Int} (h0 : 0 <= r) (h1 : r <= 1114111) : IntKind.wrap .i32 r = r := by
 simp only [IntKind.wrap, IntKind.signed, IntKind.bits]
 have h3 : (2 : Int) ^ 32 = 4294967296 := by decide
 have h4 : (2 : Int) ^ (32 - 1) = 2147483648 := by decide
 simp only [h3, h4, Bool.true_and, decide_eq_true_eq, ge_iff_le]
 split <;> omega
theorem zjs (c : Int) : zaj c = some (wg c) := by
 unfold zaj wg
 by_cases h0 : 0 <= c <;> by_cases h1 : c < 55296 <;> by_cases h2 : 57343 < c <;> by_cases h3 : c <= 1114111 <;> simp [h0, h1, h2, h3] <;> omega
theorem ztx (k c : Int) : zmb k c = some (decide (k = 1) || wg c) := by
 unfold zmb
 by_cases hk : k = 1
 . simp [hk]
 by_cases h0 : 0 <= c
 case neg => simp [hk, h0, wg]
 by_cases h1 : c <= 1114111
 case neg => simp [hk, h0, h1, wg]
 simp only [hk, h0, h1, decide_true, decide_false, cond_true, cond_false, zg, zwg h0 h1, zjs, Option.bind_some, Bool.false_or]
theorem zpz (c : Int) : zjh c = some (wg c) := by
 unfold zjh wg
 by_cases h0 : 0 <= c <;> by_cases h1 : c < 55296 <;> by_cases h2 : 57343 < c <;> by_cases h3 : c <= 1114111 <;> simp [h0, h1, h2, h3]
theorem zdb (l : List Int) (a : TA) (h : l.length <= 1000000000) : zio l a = some (l.any fun c => !(decide (a.Kind = 1) || wg c)) := by
 unfold zio zsy
 refine zcq (l := l) (fun c => !(decide (a.Kind = 1) || wg c)) (e := ()) rfl (fun k x hx hlt => ?_) (by simp)
 simp only [List.length_map, Int.ofNat_lt, hlt, decide_true, cond_true, zj, Int.toNat_natCast, hx, Option.bind_some, zg, Int.natCast_nonneg, if_true, ztj, ztx]
 rw [w64 (by omega) (by omega)]
 cases decide (a.Kind = 1) || wg x <;> rfl
theorem ze5 (a : TA) (h : a.Cells.length <= 1000000000) : zb6 a = some (wi a) := by
 unfold zb6 wi
 rw [wS, zdb _ _ h]
 simp only [Option.bind_some, List.length_map]
 have key : cond (!decide (shC a.Rank a.Lens = 0)) (some (shC a.Rank a.Lens)) (cond (!decide ((a.Cells.length : Int) = if shC a.Rank a.Lens = 0 then qt a.Rank a.Lens else 0)) (some 6) (cond (a.Cells.any fun c => !(decide (a.Kind = 1) || wg c)) (some 7) (some (0 : Int)))) = some (if shC a.Rank a.Lens = 0 then if (a.Cells.length : Int) = qt a.Rank a.Lens then if (a.Cells.any fun c => !(decide (a.Kind = 1) || wg c)) = true then 7 else 0 else 6 else shC a.Rank a.Lens) := by
  by_cases h1 : shC a.Rank a.Lens = 0
  case neg => simp [h1]
  by_cases h2 : (a.Cells.length : Int) = qt a.Rank a.Lens
  case neg => simp [h1, h2]
  simp only [h1, h2, if_true, decide_true, Bool.not_true, cond_false]
  cases (a.Cells.any fun c => !(decide (a.Kind = 1) || wg c)) <;> rfl
 rw [key]
 by_cases k1 : a.Kind = 1
 . have : (a.Cells.any fun c => !(decide (a.Kind = 1) || wg c)) = false := by
    rw [List.any_eq_false]; intro c _; simp [k1]
   rw [this]
   simp [k1]
 by_cases k2 : a.Kind = 2
 . have : (a.Cells.any fun c => !(decide (a.Kind = 1) || wg c)) = a.Cells.any fun c => !wg c := by
    congr 1; funext c; simp [k1]
   rw [this]
   simp [k2]
 . simp [k1, k2]
theorem zfp (a : TA) (h : a.Cells.length <= 1000000000) : zgu a = some (wi a) := by
 unfold zgu wi
 rw [zat]
 simp only [Option.bind_some, List.length_map]
 have lp0 : ∀ (v : Int), Option.bind (lpO (fun (_ : Unit) => cond (decide ((0 : Int) < (a.Cells.length : Int))) (some (Sum.inr (Sum.inl ()) : Unit ⊕ (Unit ⊕ Int))) (some (Sum.inr (Sum.inl ())))) ()) (Sum.elim (fun _ => some v) some) = some v := by
  intro v
  rw [zL]
  cases decide ((0 : Int) < (a.Cells.length : Int)) <;> rfl
 have lp1 : Option.bind (lpO (fun (s : Int × Int) => cond (decide (s.1 < (a.Cells.length : Int))) (cond (decide (s.2 = 0)) (cond (decide (a.Kind = 2)) (zj a.Cells s.1 fun x => Option.bind (zjh x) fun y => cond (!y) (zg (IntKind.wrap .i64 (s.1 + 1)) fun z => some (Sum.inl (z, (7 : Int)))) (zg (IntKind.wrap .i64 (s.1 + 1)) fun z => some (Sum.inl (z, s.2)))) (zg (IntKind.wrap .i64 (s.1 + 1)) fun z => some (Sum.inl (z, s.2)))) (some (Sum.inr (Sum.inl s.2 : Int ⊕ Int)))) (some (Sum.inr (Sum.inl s.2)))) ((0 : Int), (0 : Int))) (Sum.elim (fun v => some v) some) = some (if a.Kind = 2 /\ (a.Cells.any fun c => !wg c) = true then 7 else 0) := by
  apply Tot.eq
  rw [zw]
  refine Tot.count a.Cells.length (fun k s => s.1 = (k : Int) /\ s.2 = if a.Kind = 2 /\ ((a.Cells.take k).any fun c => !wg c) = true then 7 else 0) ?_ ⟨rfl, by simp⟩
  rintro k ⟨i, e⟩ hk ⟨rfl, he⟩
  simp only at he
  simp only [zF, zm, qc, qo, zw, Sum.elim_inl, Sum.elim_inr, decide_eq_true_eq, decide_eq_false_iff_not, Int.toNat_natCast, zpz]
  refine ⟨fun hlt => ⟨fun e0 => ⟨fun k2 => ?_, fun k2 => ?_⟩, fun e0 => ?_⟩, fun hge => ?_⟩
  . obtain ⟨x, hx⟩ := zv (l := a.Cells) (i := k) (by omega)
    refine ⟨by omega, x, hx, ?_⟩
    have hp : ((a.Cells.take k).any fun c => !wg c) = false := by
     rw [e0] at he
     cases hh : (a.Cells.take k).any fun c => !wg c with
     | false => rfl
     | true => rw [if_pos ⟨k2, hh⟩] at he; cases he
    rw [w64 (by omega) (by omega), List.take_add_one, hx, List.any_append, hp]
    refine ⟨fun g => ⟨by omega, by omega, ?_⟩, fun g => ⟨by omega, by omega, ?_⟩⟩
    . simp at g; simp [k2, g]
    . simp at g; simp [g, e0]
  . rw [w64 (by omega) (by omega)]
    refine ⟨by omega, by omega, ?_⟩
    rw [if_neg (fun h => k2 h.1)]; exact e0
  . have k2 : a.Kind = 2 /\ ((a.Cells.take k).any fun c => !wg c) = true := by
     by_cases hh : a.Kind = 2 /\ ((a.Cells.take k).any fun c => !wg c) = true
     . exact hh
     . rw [if_neg hh] at he; exact absurd he e0
    rw [if_pos k2] at he
    rw [he, if_pos]
    refine ⟨k2.1, ?_⟩
    obtain ⟨x, hx, hb⟩ := List.any_eq_true.1 k2.2
    exact List.any_eq_true.2 ⟨x, List.mem_of_mem_take hx, hb⟩
  . rw [List.take_of_length_le (by omega)] at he
    exact he
 by_cases h1 : shC a.Rank a.Lens = 0
 case neg =>
  simp only [h1, decide_false, cond_false, if_false, lp0]
  by_cases k1 : a.Kind = 1
  . simp [k1]
  by_cases k2 : a.Kind = 2
  . simp [k2]
  . simp [k1, k2]
 simp only [h1, decide_true, cond_true, if_true]
 by_cases h2 : (a.Cells.length : Int) = qt a.Rank a.Lens
 case neg =>
  simp only [h2, decide_false, Bool.not_false, cond_true, if_false, lp0]
  by_cases k1 : a.Kind = 1
  . simp [k1]
  by_cases k2 : a.Kind = 2
  . simp [k2]
  . simp [k1, k2]
 rw [lp1]
 simp only [h2, decide_true, Bool.not_true, cond_false, if_true]
 by_cases k1 : a.Kind = 1
 . simp [k1]
 by_cases k2 : a.Kind = 2
 . simp [k2]
 . simp [k1, k2]
open Go
theorem qx {σ τ ε : Type} {step : σ -> Option (σ ⊕ (ε ⊕ τ))} {k1 : ε -> Option τ} (n : Nat) (S : Nat -> σ) (f : Nat -> Option τ) (e : ε)
 (h1 : ∀ k : Nat, k < n -> step (S k) = some (match f k with | some r => .inr (.inr r) | none => .inl (S (k + 1))))
 (h2 : step (S n) = some (.inr (.inl e))) {s0 : σ} (h0 : S 0 = s0) : (lpO step s0).bind (Sum.elim k1 some) = match zx f 0 n with | some r => some r | none => k1 e := by
 subst h0
 rw [zgi n S (fun k => (f k).map Sum.inr) (.inl e) (fun k hk => by rw [h1 k hk]; cases f k <;> rfl) h2, jQ]
 cases zx f 0 n <;> rfl
theorem yr {σ τ ε : Type} {step : σ -> Option (σ ⊕ (ε ⊕ τ))} {k1 : ε -> Option τ} (n : Nat) (S : Nat -> σ) (e : ε)
 (h1 : ∀ k : Nat, k < n -> step (S k) = some (.inl (S (k + 1)))) (h2 : step (S n) = some (.inr (.inl e))) {s0 : σ} (h0 : S 0 = s0) : (lpO step s0).bind (Sum.elim k1 some) = k1 e := by
 subst h0
 rw [zAt n S (.inl e) h1 h2]; rfl
def i64 (n : Int) : Prop := -9223372036854775808 <= n /\ n <= 9223372036854775807
open Go
open Go
open Go
theorem zub {n : Int} (h : inK .u8 n) : 0 <= n /\ n < 256 := by
 have e1 : IntKind.u8.min = 0 := by decide
 have e2 : IntKind.u8.max = 255 := by decide
 unfold inK at h
 omega
open Go
theorem zps (x : Int) (h0 : 0 <= x) (h1 : x < 256) : Tot (znv x) fun y => ∀ n : Nat, n <= 8 -> x.toNat < 2 ^ n -> decide (y < (n : Int)) = !decide (x.toNat = 2 ^ n - 1) := by
 unfold znv
 rw [qo]
 refine ⟨h0, ?_⟩
 have key : ∀ l : List UInt8, (∀ x : Fin 256, ∀ n : Fin 9, (l[x.val]?.map fun y => decide (x.val < 2 ^ n.val -> decide (IntKind.wrap .i64 (y.toNat : Int) < (n.val : Int)) = !decide (x.val = 2 ^ n.val - 1))) = some true) ->
  ∃ y, l[x.toNat]? = some y /\ Tot (zg (IntKind.wrap .i64 (y.toNat : Int)) fun z => some z) fun y => ∀ n : Nat, n <= 8 -> x.toNat < 2 ^ n -> decide (y < (n : Int)) = !decide (x.toNat = 2 ^ n - 1) := by
  intro l hl
  cases e : l[x.toNat]? with
  | none =>
    have := hl ⟨x.toNat, by omega⟩ ⟨0, by omega⟩
    simp only [e] at this
    cases this
  | some y =>
    refine ⟨y, rfl, .mk fun n hn hx => ?_⟩
    have := hl ⟨x.toNat, by omega⟩ ⟨n, by omega⟩
    simp only [e, Option.map_some, Option.some.injEq, decide_eq_true_eq] at this
    exact this hx
 exact key _ (by decide +kernel)
theorem zkd {l : TL} (h : LatIn l) : znp l = some (if (qA l).2 = 0 then ((qI l : Int), 0) else (0, (qA l).2)) := by
 unfold znp
 rw [zpl h [] (by simp)]
 simp only [Option.bind_some, zbk, List.all_nil, if_true]
 by_cases hk : (qA l).2 = 0
 case neg => simp [hk]
 have ok := yB h hk
 simp only [hk, if_true, decide_true, Bool.not_true, cond_false]
 obtain ⟨o, e1, on, ol, _, ou, _⟩ := zob l ok.u8 ok.le ok.len
 rw [e1]
 simp only [Option.bind_some]
 have hb := (zgg h hk).1
 have hend : zt5 o.up_ o.n_ = some (qI l : Int) := by
  unfold zt5
  rw [on]
  have hw : IntKind.wrap .i64 ((l.Names.length : Int) - 1) = ((l.Names.length - 1 : Nat) : Int) := by
   have := ok.pos; have := ok.le
   rw [w64 (by omega) (by omega)]; omega
  have hle := ok.le
  have hpos := ok.pos
  have hrun := zgi (step := fun (s585 : Int) =>
   zg (IntKind.wrap IntKind.i64 ((l.Names.length : Int) - (1 : Int))) fun x591 =>
   cond (decide (s585 < x591))
   (zk ((0 : Int) <= s585 /\ s585 < (↑(8 : Nat) : Int)) (
   zj (o.up_) ((↑(Int.toNat s585) : Int)) fun x593 =>
   Option.bind (znv (x593)) fun x594 =>
   cond (decide (x594 < (l.Names.length : Int)))
   (zg (IntKind.wrap IntKind.i64 (s585 + (1 : Int))) fun x596 =>
   some (Sum.inl (x596)))
   (some (Sum.inr (Sum.inl (β := Int) s585)))))
   (some (Sum.inr (Sum.inl s585)))) (l.Names.length - 1) (fun k => (k : Int)) (fun k => if k = qI l then some (Sum.inl (k : Int)) else none) (Sum.inl ((l.Names.length - 1 : Nat) : Int)) (fun k hk2 => by
     have hlt : (k : Int) < ((l.Names.length - 1 : Nat) : Int) := by omega
     have n1 : (0 : Int) <= (k : Int) := by omega
     have n2 : (k : Int) < ((8 : Nat) : Int) := by omega
     have hw2 : IntKind.wrap .i64 ((k : Int) + 1) = ((k + 1 : Nat) : Int) := w64 (by omega) (by omega)
     obtain ⟨x, hx⟩ := zv (l := l.Up) (i := k) (by have := ok.len; omega)
     have hx' := ok.u8.get hx
     have hox : o.up_[k]? = some x := by rw [ou k (by omega)]; exact hx
     obtain ⟨y, ey, hy⟩ := zps x hx'.1 hx'.2
     have hux : x.toNat = upN l k := by unfold upN; rw [List.getD_eq_getElem?_getD, hx]; rfl
     have hf := zyh h hk (b := k) (by omega)
     have hlt2 : x.toNat < 2 ^ l.Names.length := by
      have h1 := (za7 h hk).1 k (by omega)
      unfold xu at h1
      simp only [Bool.and_eq_true, decide_eq_true_eq] at h1
      rw [hux]; exact h1.1.1
     have hd := hy l.Names.length hle hlt2
     rw [hux] at hd
     simp only [zg, hw, hlt, decide_true, cond_true, zk, n1, n2, and_self, if_true, zj, Int.toNat_natCast, hox, Option.bind_some, ey, hw2, hd]
     by_cases hq : k = qI l
     . have := hf.2 hq
       simp only [this, if_pos hq, decide_true, Bool.not_true, cond_false]
     . have : ¬ upN l k = 2 ^ l.Names.length - 1 := fun e => hq (hf.1 e)
       simp only [this, if_neg hq, decide_false, Bool.not_false, cond_true]) (by
     simp only [zg, hw]
     simp)
  have hs0 : ((0 : Nat) : Int) = 0 := rfl
  simp only [hs0] at hrun
  rw [hrun]
  have hsc : (zx (fun k => if k = qI l then some (Sum.inl (α := Int) (β := Int) (k : Int)) else none) 0 (l.Names.length - 1)).getD (Sum.inl ((l.Names.length - 1 : Nat) : Int)) = Sum.inl (qI l : Int) := by
   cases e : zx (fun k => if k = qI l then some (Sum.inl (α := Int) (β := Int) (k : Int)) else none) 0 (l.Names.length - 1) with
   | some r =>
     have : r = Sum.inl (qI l : Int) := uX (v := Sum.inl (qI l : Int)) (fun i => by
      by_cases hi : i = qI l
      . exact .inl (by rw [if_pos hi, hi])
      . exact .inr (by rw [if_neg hi])) e
     rw [this]; rfl
   | none =>
     have hn := scan_none.1 e
     rcases Nat.lt_or_ge (qI l) (l.Names.length - 1) with g | g
     . have := hn (qI l) (by omega) (by omega)
       simp at this
     . have : qI l = l.Names.length - 1 := by omega
       rw [this]; rfl
  rw [hsc]
  rfl
 rw [hend]
 rfl
open Go
theorem zk6 {l : TL} (h : LatIn l) : zof l = some (if (qA l).2 = 0 then ((qI l : Int), 0) else (0, (qA l).2)) := by
 apply Tot.eq
 unfold zof
 rw [zbn h]
 simp only [Option.bind_some]
 by_cases hk : (qA l).2 = 0
 case neg =>
  have : zbk l [0, 0] = (qA l).2 := by unfold zbk; rw [if_neg hk]
  simp only [this, hk, decide_false, Bool.not_false, cond_true, if_false]
  exact .mk rfl
 have ok := yB h hk
 have hpos := ok.pos
 have hle := ok.le
 have h0n : (0 : Int) < (l.Names.length : Int) := by omega
 have hl0 : wh l 0 = true := by unfold wh; rw [decide_eq_true (Int.le_refl 0), decide_eq_true h0n]; rfl
 have ha : zbk l [0, 0] = 0 := by unfold zbk; rw [if_pos hk, List.all_cons, List.all_cons, hl0]; rfl
 simp only [ha, hk, decide_true, Bool.not_true, cond_false, if_true]
 obtain ⟨d, e1, dl, dd⟩ := zhk ok.u8 ok.le ok.len
 rw [e1]
 simp only [Option.bind_some, zw, List.length_map]
 refine Tot.count l.Names.length (fun k s => s.1 = (k : Int) /\ ∃ v : Nat, s.2 = (v : Int) /\ v < l.Names.length /\ ∀ i, i < l.Names.length -> up l i v = true -> ∀ j, j < k -> up l i j = true) ?_ ⟨rfl, 0, rfl, by omega, fun i _ _ j hj => by omega⟩
 rintro k ⟨i, w⟩ hkn ⟨h0, v, h1, h2, h3⟩
 simp only at h0 h1
 subst h0 h1
 simp only [zF, decide_eq_true_eq, decide_eq_false_iff_not]
 refine ⟨fun hlt => ?_, fun hlt => ?_⟩
 . obtain ⟨c, hc, hcn, hg⟩ := zmv h hk (a := k) (b := v) (by omega) h2
   rw [jJ d (dnN l) k v (by omega) (fun c hc => dd c (by omega)) (fun c hc2 => zh1 l c hle) (by omega) (by omega)]
   unfold zcu
   rw [dl, hc]
   simp only [Option.bind_some, zg, zm, Sum.elim_inl]
   refine ⟨by omega, w64 (by omega) (by omega), c, rfl, hcn, fun i hi hu j hj => ?_⟩
   rw [zhb hi hg] at hu
   simp only [Bool.and_eq_true] at hu
   rcases Nat.lt_or_ge j k with g | g
   . exact h3 i hi hu.2 j g
   . have : j = k := by omega
     rw [this]; exact hu.1
 . have hke : k = l.Names.length := by omega
   simp only [zm, Sum.elim_inl, Sum.elim_inr]
   have := zun h hk h2 fun a ha => h3 v h2 (ok.self v h2) a (by omega)
   rw [<- this]
open Go
theorem zwc {l : TL} (hu : U8s l.Up) {a b : Nat} (ha : a < l.Up.length) (hb : b <= 8) : zom l a b = some (up l a b) := by
 unfold zom
 obtain ⟨x, hx⟩ := zv ha
 have hx' := hu.get hx
 have key : ∀ u : Fin 256, ∀ b : Fin 9, decide (bits .and .u8 (Int.fdiv (u.val : Int) (2 ^ min b.val (IntKind.bits .u8))) 1 = 1) = Nat.testBit u b := by decide +kernel
 have := key ⟨x.toNat, by omega⟩ ⟨b, by omega⟩
 simp only [Int.toNat_of_nonneg hx'.1] at this
 simp only [Int.natCast_nonneg, zj, Int.toNat_natCast, if_true, hx, Option.bind_some, zk, this, jI hx]
theorem zh2 {l : TL} (h : LatIn l) (hk : (qA l).2 = 0) (xs : List Int) (hx : xs.length <= 64) (hl : ∀ x ∈ xs, wh l x = true) : zry l xs = some (0, 0) := by
 unfold zry
 rw [zag h]
 have h64 : ¬ (64 : Int) < (xs.length : Int) := by omega
 simp only [Option.bind_some, hk, decide_true, Bool.not_true, cond_false, List.length_map, h64, decide_false]
 refine (yr xs.length (fun k => (k : Int)) () (fun k hk => ?_) (by simp) rfl).trans rfl
 obtain ⟨x, hx⟩ := zv hk
 have hq := hl x (List.mem_of_getElem? hx)
 unfold wh at hq
 simp only [Bool.and_eq_true, decide_eq_true_eq] at hq
 have hlt : (k : Int) < (xs.length : Int) := by omega
 have hw : IntKind.wrap .i64 ((k : Int) + 1) = ((k + 1 : Nat) : Int) := w64 (by omega) (by omega)
 have n1 : (0 : Int) <= (k : Int) := by omega
 have n2 : ¬ x < 0 := by omega
 have n3 : ¬ (l.Names.length : Int) <= x := by omega
 simp only [hlt, decide_true, cond_true, zj, n1, if_true, Int.toNat_natCast, hx, Option.bind_some, zg, hw, n2, n3, decide_false, cond_false]
def flK (l : TL) (xs : List Int) (a : Int) (k : Nat) : Option Int := match xs[k]? with
 | some x => if up l x.toNat a.toNat = true then none else some (k : Int)
 | none => none
def flV (l : TL) (xs : List Int) (a : Int) : Int × Int := match zx (flK l xs a) 0 xs.length with | some r => (r, 25) | none => (0, 0)
theorem zya {l : TL} (h : LatIn l) (hk : (qA l).2 = 0) (xs : List Int) (hx : xs.length <= 64) (hl : ∀ x ∈ xs, wh l x = true) (a : Int) (ha : wh l a = true) :
 zjj l xs a = some (flV l xs a) := by
 have ok := yB h hk
 have hle := ok.le
 have hlen := ok.len
 unfold zjj
 rw [zh2 h hk xs hx hl]
 unfold wh at ha
 simp only [Bool.and_eq_true, decide_eq_true_eq] at ha
 have n2 : ¬ a < 0 := by omega
 have n3 : ¬ (l.Names.length : Int) <= a := by omega
 simp only [Option.bind_some, decide_true, Bool.not_true, cond_false, n2, n3, decide_false, List.length_map]
 have hi : ztv xs (l, a) = some (match zx (flK l xs a) 0 xs.length with | some r => r | none => -1) := by
  unfold ztv
  simp only [List.length_map]
  refine (qx xs.length (fun k => (k : Int)) (flK l xs a) () (fun k hk => ?_) (by simp) rfl).trans ?_
  . obtain ⟨x, hx⟩ := zv hk
    have hq := hl x (List.mem_of_getElem? hx)
    unfold wh at hq
    simp only [Bool.and_eq_true, decide_eq_true_eq] at hq
    have hlt : (k : Int) < (xs.length : Int) := by omega
    have hw : IntKind.wrap .i64 ((k : Int) + 1) = ((k + 1 : Nat) : Int) := w64 (by omega) (by omega)
    have n1 : (0 : Int) <= (k : Int) := by omega
    have hb : zom l x a = some (up l x.toNat a.toNat) := by
     have := zwc ok.u8 (a := x.toNat) (b := a.toNat) (by omega) (by omega)
     rwa [Int.toNat_of_nonneg hq.1, Int.toNat_of_nonneg ha.1] at this
    simp only [hlt, decide_true, cond_true, zj, n1, if_true, Int.toNat_natCast, hx, Option.bind_some, zg, hw, zxh, hb, flK]
    cases up l x.toNat a.toNat <;> simp
  . cases zx (flK l xs a) 0 xs.length <;> rfl
 rw [hi]
 unfold flV
 cases e : zx (flK l xs a) 0 xs.length with
 | none => simp
 | some r =>
   have : 0 <= r := by
    have key : ∀ {j k : Nat} {b : Int}, zx (flK l xs a) k j = some b -> 0 <= b := by
     intro j
     induction j with
     | zero => intro k b h; cases h
     | succ j ih =>
       intro k b h
       simp only [zx] at h
       cases hf : flK l xs a k with
       | none => rw [hf] at h; exact ih h
       | some z =>
         rw [hf] at h
         cases h
         unfold flK at hf
         split at hf
         . split at hf
           . cases hf
           . cases hf; omega
         . cases hf
    exact key e
   simp [this]
open Go
def qk (l : TL) (a : Int) : Bool := decide (0 <= a) && decide (a < (l.Names.length : Int))
theorem uo (l : TL) (a : Int) : xD l a = some (qk l a) := by
 unfold xD qk
 by_cases h : 0 <= a <;> simp [h]
theorem xJ (l : TL) (a : Int) : un l a = some (qk l a) := by
 unfold un qk
 by_cases h : 0 <= a <;> simp [h]
def nmE (s : List UInt8) (before : List (List UInt8)) : Int := if exN s = true then (if s ∈ before then 8 else 0) else 24
theorem inL_iff {α : Type} [DecidableEq α] {a : α} {l : List α} : inL a l = true ↔ a ∈ l := by
 unfold inL; simp
theorem zbu (s : List UInt8) (b : List (List UInt8)) (h : s.length <= 1000000) (hb : b.length <= 1000000) : znh s b = some (nmE s b) := by
 unfold znh nmE
 rw [zhe s h]
 simp only [Option.bind_some, List.length_map]
 cases exN s with
 | false => simp
 | true =>
   simp only [Bool.not_true, cond_false, if_true]
   refine (qx b.length (fun k => (k : Int)) (fun k => match b[k]? with | some x => if x = s then some (8 : Int) else none | none => none) () (fun k hk => ?_) ?_ rfl).trans ?_
   . obtain ⟨x, hx⟩ := zv hk
     have hlt : (k : Int) < (b.length : Int) := by omega
     have hw : IntKind.wrap .i64 ((k : Int) + 1) = ((k + 1 : Nat) : Int) := w64 (by omega) (by omega)
     have n1 : (0 : Int) <= (k : Int) := by omega
     simp only [hlt, decide_true, cond_true, zj, n1, if_true, Int.toNat_natCast, hx, Option.bind_some, zg, hw]
     by_cases he : x = s <;> simp [he]
   . simp
   . cases hr : zx (fun k => match b[k]? with | some x => if x = s then some (8 : Int) else none | none => none) 0 b.length with
     | some r =>
       have h8 : r = 8 := uX (v := (8 : Int)) (fun i => by
        cases b[i]? with
        | none => exact .inr rfl
        | some x => by_cases hx : x = s <;> simp [hx]) hr
       have hm : s ∈ b := by
        by_cases hm : s ∈ b
        . exact hm
        have : zx (fun k => match b[k]? with | some x => if x = s then some (8 : Int) else none | none => none) 0 b.length = none := by
         rw [scan_none]
         intro i _ hi
         obtain ⟨x, hx⟩ := zv (l := b) (i := i) (by omega)
         rw [hx]
         have : x ≠ s := fun e => hm (e ▸ List.mem_of_getElem? hx)
         simp [this]
        rw [this] at hr; cases hr
       simp [hm, h8]
     | none =>
       have hm : ¬ s ∈ b := by
        intro hm
        obtain ⟨i, hi, e⟩ := List.getElem_of_mem hm
        have := scan_none.1 hr i (by omega) (by omega)
        rw [List.getElem?_eq_getElem hi, e] at this
        simp at this
       simp [hm]
def chK (p : TP) (k : Nat) : Option (Int × Int) := match p.Channels[k]? with
 | some c => if nmE c.s_ ((p.Channels.take k).map (·.s_)) ≠ 0 then some ((k : Int), nmE c.s_ ((p.Channels.take k).map (·.s_))) else if qk p.Lattice c.at_ = true then none else some ((k : Int), 7)
 | none => none
def chC (p : TP) : Int × Int := if (16 : Int) < (p.Channels.length : Int) then (-1, 3) else match zx (chK p) 0 p.Channels.length with | some r => r | none => (0, 0)
theorem zdl (p : TP) (hs : ∀ c ∈ p.Channels, c.s_.length <= 1000000) : zt8 p = some (chC p) := by
 unfold zt8 chC
 simp only [List.length_map]
 by_cases h : (16 : Int) < (p.Channels.length : Int)
 . simp [h]
 simp only [h, decide_false, cond_false, if_false]
 refine (qx p.Channels.length (fun k => ((k : Int), (p.Channels.take k).map (·.s_))) (chK p) () (fun k hk => ?_) ?_ rfl).trans ?_
 . obtain ⟨x, hx⟩ := zv hk
   have hlt : (k : Int) < (p.Channels.length : Int) := by omega
   have hw : IntKind.wrap .i64 ((k : Int) + 1) = ((k + 1 : Nat) : Int) := w64 (by omega) (by omega)
   have n1 : (0 : Int) <= (k : Int) := by omega
   have e : (p.Channels.take (k + 1)).map (·.s_) = (p.Channels.take k).map (·.s_) ++ [x.s_] := by rw [List.take_add_one, hx]; simp
   simp only [hlt, decide_true, cond_true, zj, n1, if_true, Int.toNat_natCast, hx, Option.bind_some, zg, hw, zbq x.s_ (hs x (List.mem_of_getElem? hx)), uo, chK, e]
   unfold nmE
   cases exN x.s_ with
   | false => simp
   | true =>
     cases hi : inL x.s_ ((p.Channels.take k).map (·.s_)) with
     | true =>
       have := inL_iff.1 hi
       simp only [Bool.not_true, cond_false, cond_true, if_true, if_pos this]
       simp
     | false =>
       have : ¬ x.s_ ∈ (p.Channels.take k).map (·.s_) := fun h => by rw [inL_iff.2 h] at hi; cases hi
       simp only [Bool.not_true, cond_false, if_true, if_neg this]
       cases qk p.Lattice x.at_ <;> simp
 . simp
 . cases zx (chK p) 0 p.Channels.length <;> rfl
theorem ze6 (p : TP) (hs : ∀ c ∈ p.Channels, c.s_.length <= 1000000) : zsd p = some (chC p) := by
 unfold zsd chC
 simp only [List.length_map]
 by_cases h : (16 : Int) < (p.Channels.length : Int)
 . simp [h]
 simp only [h, decide_false, cond_false, if_false]
 refine (qx p.Channels.length (fun k => ((k : Int), (p.Channels.take k).map (·.s_))) (chK p) () (fun k hk => ?_) ?_ rfl).trans ?_
 . obtain ⟨x, hx⟩ := zv hk
   have hlt : (k : Int) < (p.Channels.length : Int) := by omega
   have hw : IntKind.wrap .i64 ((k : Int) + 1) = ((k + 1 : Nat) : Int) := w64 (by omega) (by omega)
   have n1 : (0 : Int) <= (k : Int) := by omega
   have e : (p.Channels.take (k + 1)).map (·.s_) = (p.Channels.take k).map (·.s_) ++ [x.s_] := by rw [List.take_add_one, hx]; simp
   have hl : ((p.Channels.take k).map (·.s_)).length <= 16 := by rw [List.length_map, List.length_take]; omega
   simp only [hlt, decide_true, cond_true, zj, n1, if_true, Int.toNat_natCast, hx, Option.bind_some, zg, hw, zbu x.s_ _ (hs x (List.mem_of_getElem? hx)) (Nat.le_trans hl (by omega)), xJ, chK, e, zk, List.length_map]
   rw [if_pos (by rw [List.length_map] at hl; omega)]
   by_cases h0 : nmE x.s_ ((p.Channels.take k).map (·.s_)) = 0
   . simp only [h0]
     cases qk p.Lattice x.at_ <;> simp
   . generalize nmE x.s_ ((p.Channels.take k).map (·.s_)) = z at h0 ⊢
     simp [h0]
 . simp
 . cases zx (chK p) 0 p.Channels.length <;> rfl
end Go.Sx.O
noncomputable section
namespace Go.Sx.O
open Go
def yx (l : TL) (t : TY) : Int :=
 if t.Rank < 0 \/ 2 < t.Rank then 7
 else if qk l t.Axes.1 = true /\ qk l t.Axes.2 = true /\ qk l t.Data = true then
  if ([t.Axes.1, t.Axes.2].drop t.Rank.toNat).all (fun x => decide (x = (qI l : Int))) = true then
   if ([t.Axes.1, t.Axes.2].take t.Rank.toNat).all (fun x => up l x.toNat t.Data.toNat) = true then 0 else 25
  else 6
 else 7
def yl (l : TL) (t : TY) : Int := if (qA l).2 = 0 then (if t.Kind = 1 \/ t.Kind = 2 then yx l t else 7) else (qA l).2
theorem zu4 {β : Type} (v : β) (b : Int) (xs : List Int) (hx : xs.length <= 2) : zx (fun k => match xs[k]? with | some x => if x = b then none else some v | none => none) 0 xs.length = if xs.all (fun x => decide (x = b)) = true then none else some v := by
 match xs, hx with
 | [], _ => rfl
 | [x], _ => by_cases h : x = b <;> simp [zx, h]
 | [x, y], _ => by_cases h : x = b <;> by_cases g : y = b <;> simp [zx, h, g]
theorem zyy (l : TL) (a : Int) (xs : List Int) (hx : xs.length <= 2) : (flV l xs a).2 = if xs.all (fun x => up l x.toNat a.toNat) = true then 0 else 25 := by
 match xs, hx with
 | [], _ => rfl
 | [x], _ => cases h : up l x.toNat a.toNat <;> simp [flV, zx, flK, h]
 | [x, y], _ => cases h : up l x.toNat a.toNat <;> cases g : up l y.toNat a.toNat <;> simp [flV, zx, flK, h, g]
theorem zve {l : TL} (h : LatIn l) (hk : (qA l).2 = 0) (t : TY) (hr : ¬ (t.Rank < 0 \/ 2 < t.Rank)) (l1 : qk l t.Axes.1 = true) (l2 : qk l t.Axes.2 = true) (l3 : qk l t.Data = true) :
 (Option.bind (lpO (fun (s612 : Int) =>
 cond (decide (s612 < (↑(List.length (List.drop (Int.toNat t.Rank) (List.take (Int.toNat (↑(2 : Nat) : Int)) [SV.int IntKind.i64 t.Axes.fst, SV.int IntKind.i64 t.Axes.snd]))) : Int)))
 (zj (List.drop (Int.toNat t.Rank) (List.take (Int.toNat (↑(2 : Nat) : Int)) [t.Axes.fst, t.Axes.snd])) (s612) fun x617 =>
 cond (!decide (x617 = (qI l : Int)))
 (some (Sum.inr (Sum.inr ((6 : Int)))))
 (zg (IntKind.wrap IntKind.i64 (s612 + (1 : Int))) fun x619 =>
 some (Sum.inl (x619))))
 (some (Sum.inr (Sum.inl (()))))) ((0 : Int)))
 (Sum.elim (fun (_ : Unit) =>
 zk ((0 : Int) <= t.Rank /\ t.Rank <= (↑(2 : Nat) : Int)) (
 Option.bind (zjj l (List.drop (Int.toNat (0 : Int)) (List.take (Int.toNat t.Rank) [t.Axes.fst, t.Axes.snd])) (t.Data)) fun x653 =>
 cond (!decide (x653.snd = (0 : Int)))
 (some (x653.snd))
 (some ((0 : Int))))) some)) = some (yx l t) := by
 have e0 : List.take (Int.toNat ((2 : Nat) : Int)) [t.Axes.fst, t.Axes.snd] = [t.Axes.fst, t.Axes.snd] := rfl
 have e1 : List.take (Int.toNat ((2 : Nat) : Int)) [SV.int IntKind.i64 t.Axes.fst, SV.int IntKind.i64 t.Axes.snd] = [SV.int IntKind.i64 t.Axes.fst, SV.int IntKind.i64 t.Axes.snd] := rfl
 have e2 : List.drop (Int.toNat 0) (List.take (Int.toNat t.Rank) [t.Axes.fst, t.Axes.snd]) = List.take (Int.toNat t.Rank) [t.Axes.fst, t.Axes.snd] := rfl
 rw [e0, e1, e2]
 have hlen : (List.drop (Int.toNat t.Rank) [SV.int IntKind.i64 t.Axes.fst, SV.int IntKind.i64 t.Axes.snd]).length = (List.drop (Int.toNat t.Rank) [t.Axes.fst, t.Axes.snd]).length := by simp
 rw [hlen]
 have hd2 : (List.drop (Int.toNat t.Rank) [t.Axes.fst, t.Axes.snd]).length <= 2 := by simp
 have ht2 : (List.take (Int.toNat t.Rank) [t.Axes.fst, t.Axes.snd]).length <= 2 := by simp; omega
 have htl : ∀ x ∈ List.take (Int.toNat t.Rank) [t.Axes.fst, t.Axes.snd], wh l x = true := fun x hx => by
  have := List.mem_of_mem_take hx
  simp only [List.mem_cons, List.not_mem_nil, or_false] at this
  rcases this with rfl | rfl
  . exact l1
  . exact l2
 unfold yx
 rw [if_neg hr, if_pos ⟨l1, l2, l3⟩]
 generalize hD : List.drop (Int.toNat t.Rank) [t.Axes.fst, t.Axes.snd] = D at hd2 ⊢
 generalize hT : List.take (Int.toNat t.Rank) [t.Axes.fst, t.Axes.snd] = T at ht2 htl ⊢
 refine (qx D.length (fun k => (k : Int)) (fun k => match D[k]? with | some x => if x = (qI l : Int) then none else some (6 : Int) | none => none) () (fun k hk => ?_) (by simp) rfl).trans ?_
 . obtain ⟨x, hx⟩ := zv hk
   have hlt : (k : Int) < (D.length : Int) := by omega
   have hw : IntKind.wrap .i64 ((k : Int) + 1) = ((k + 1 : Nat) : Int) := w64 (by omega) (by omega)
   have n1 : (0 : Int) <= (k : Int) := by omega
   simp only [hlt, decide_true, cond_true, zj, n1, if_true, Int.toNat_natCast, hx, Option.bind_some, zg, hw]
   by_cases hb : x = (qI l : Int) <;> simp [hb]
 . rw [zu4 (6 : Int) (qI l : Int) D hd2]
   by_cases hall : D.all (fun x => decide (x = (qI l : Int))) = true
   . simp only [hall, if_true]
     unfold zk
     rw [if_pos (by omega), zya h hk T (by omega) htl t.Data l3]
     have := zyy l t.Data T ht2
     simp only [Option.bind_some]
     rw [this]
     split <;> rfl
   . rw [if_neg hall, if_neg hall]
end Go.Sx.O
end
namespace Go.Sx.O
open Go
theorem zja {l : TL} (h : LatIn l) (t : TY) : zjf l t = some (yl l t) := by
 unfold zjf yl
 rw [zkd h]
 by_cases hk : (qA l).2 = 0
 case neg => simp [hk]
 simp only [hk, if_true, Option.bind_some, decide_true, Bool.not_true, cond_false, uo]
 by_cases r1 : t.Rank < 0
 . by_cases k1 : t.Kind = 1 <;> by_cases k2 : t.Kind = 2 <;> simp [k1, k2, r1, yx]
 by_cases r2 : 2 < t.Rank
 . by_cases k1 : t.Kind = 1 <;> by_cases k2 : t.Kind = 2 <;> simp [k1, k2, r1, r2, yx]
 have hr : ¬ (t.Rank < 0 \/ 2 < t.Rank) := by omega
 have hside : (0 : Int) <= t.Rank /\ t.Rank <= ((2 : Nat) : Int) := by omega
 cases l1 : qk l t.Axes.fst with
 | false => by_cases k1 : t.Kind = 1 <;> by_cases k2 : t.Kind = 2 <;> simp [k1, k2, r1, r2, yx, l1]
 | true =>
   cases l2 : qk l t.Axes.snd with
   | false => by_cases k1 : t.Kind = 1 <;> by_cases k2 : t.Kind = 2 <;> simp [k1, k2, r1, r2, yx, l1, l2]
   | true =>
     cases l3 : qk l t.Data with
     | false => by_cases k1 : t.Kind = 1 <;> by_cases k2 : t.Kind = 2 <;> simp [k1, k2, r1, r2, yx, l1, l2, l3]
     | true =>
       have key := zve h hk t hr l1 l2 l3
       simp only [Bool.not_true, cond_false, r1, r2, decide_false]
       by_cases k1 : t.Kind = 1
       . simp only [k1, decide_true, Bool.not_true, cond_false, true_or, if_true]
         rw [zk, if_pos hside]
         exact key
       . by_cases k2 : t.Kind = 2
         . simp only [k1, k2, decide_true, decide_false, Bool.not_true, Bool.not_false, cond_true, cond_false, or_true, if_true]
           rw [zk, if_pos hside]
           exact key
         . simp [k1, k2]
open Go
def bK {β : Type} (v : β) (b : Int) (xs : List Int) (k : Nat) : Option β := match xs[k]? with | some x => if x = b then none else some v | none => none
theorem zzy {β : Type} (v : β) (b : Int) (xs : List Int) (hx : xs.length <= 2) : zx (bK v b xs) 0 xs.length = if xs.all (fun x => decide (x = b)) = true then none else some v := by
 match xs, hx with
 | [], _ => rfl
 | [x], _ => by_cases h : x = b <;> simp [zx, bK, h]
 | [x, y], _ => by_cases h : x = b <;> by_cases g : y = b <;> simp [zx, bK, h, g]
def uK {β : Type} (v : β) (l : TL) (a : Int) (xs : List Int) (k : Nat) : Option β := match xs[k]? with | some x => if up l x.toNat a.toNat = true then none else some v | none => none
theorem zAw {β : Type} (v : β) (l : TL) (a : Int) (xs : List Int) (hx : xs.length <= 2) : zx (uK v l a xs) 0 xs.length = if xs.all (fun x => up l x.toNat a.toNat) = true then none else some v := by
 match xs, hx with
 | [], _ => rfl
 | [x], _ => cases h : up l x.toNat a.toNat <;> simp [zx, uK, h]
 | [x, y], _ => cases h : up l x.toNat a.toNat <;> cases g : up l y.toNat a.toNat <;> simp [zx, uK, h, g]
theorem zkz {l : TL} (h : LatIn l) (hk : (qA l).2 = 0) (t : TY) (hr : ¬ (t.Rank < 0 \/ 2 < t.Rank)) (l1 : qk l t.Axes.1 = true) (l2 : qk l t.Axes.2 = true) (l3 : qk l t.Data = true) :
 (Option.bind (lpO (fun (s598 : Int) =>
 cond (decide (s598 < (2 : Int)))
 (zk ((0 : Int) <= s598 /\ s598 < (↑(2 : Nat) : Int)) (
 zj ([t.Axes.fst, t.Axes.snd]) ((↑(Int.toNat s598) : Int)) fun x604 =>
 cond (!decide (x604 = (qI l : Int)))
 (some (Sum.inr (Sum.inr ((6 : Int)))))
 (zg (IntKind.wrap IntKind.i64 (s598 + (1 : Int))) fun x606 =>
 some (Sum.inl (x606)))))
 (some (Sum.inr (Sum.inl (()))))) (t.Rank))
 (Sum.elim (fun (_ : Unit) =>
 Option.bind (
 lpO (fun (s609 : Int) =>
 cond (decide (s609 < t.Rank))
 (zk ((0 : Int) <= s609 /\ s609 < (↑(2 : Nat) : Int)) (
 zj ([t.Axes.fst, t.Axes.snd]) ((↑(Int.toNat s609) : Int)) fun x614 =>
 Option.bind (Fz9 l (x614) (t.Data)) fun x615 =>
 cond (!x615)
 (some (Sum.inr (Sum.inr ((25 : Int)))))
 (zg (IntKind.wrap IntKind.i64 (s609 + (1 : Int))) fun x617 =>
 some (Sum.inl (x617)))))
 (some (Sum.inr (Sum.inl (()))))) ((0 : Int)))
 (Sum.elim (fun (_ : Unit) =>
 some ((0 : Int))) some)) some)) = some (yx l t) := by
 have ok := yB h hk
 have hle := ok.le
 have hlen := ok.len
 unfold yx
 rw [if_neg hr, if_pos ⟨l1, l2, l3⟩]
 have l1' : wh l t.Axes.1 = true := l1
 have l2' : wh l t.Axes.2 = true := l2
 unfold qk at l1 l2 l3
 simp only [Bool.and_eq_true, decide_eq_true_eq] at l1 l2 l3
 have hB : ∀ x : Int, 0 <= x /\ x < (l.Names.length : Int) -> Fz9 l x t.Data = some (up l x.toNat t.Data.toNat) := fun x hx => by
  have := xe ok.u8 (a := x.toNat) (b := t.Data.toNat) (by omega) (by omega)
  rwa [Int.toNat_of_nonneg hx.1, Int.toNat_of_nonneg l3.1] at this
 have hdl : (2 - t.Rank).toNat = ([t.Axes.1, t.Axes.2].drop t.Rank.toNat).length := by simp; omega
 have htl : t.Rank.toNat = ([t.Axes.1, t.Axes.2].take t.Rank.toNat).length := by simp; omega
 refine (qx (2 - t.Rank).toNat (fun k => t.Rank + (k : Int)) (bK (6 : Int) (qI l : Int) ([t.Axes.1, t.Axes.2].drop t.Rank.toNat)) () (fun k hk2 => ?_) ?_ (by simp)).trans ?_
 . have hkk : t.Rank.toNat + k < 2 := by omega
   have hw : IntKind.wrap .i64 (t.Rank + (k : Int) + 1) = t.Rank + ((k + 1 : Nat) : Int) := by rw [w64 (by omega) (by omega)]; omega
   have hlt : t.Rank + (k : Int) < 2 := by omega
   have n1 : (0 : Int) <= t.Rank + (k : Int) /\ t.Rank + (k : Int) < ((2 : Nat) : Int) := by omega
   have hn : (t.Rank + (k : Int)).toNat = t.Rank.toNat + k := by omega
   obtain ⟨x, hx⟩ := zv (l := [t.Axes.1, t.Axes.2]) (i := t.Rank.toNat + k) (by simpa using hkk)
   have n0 : (0 : Int) <= ((t.Rank.toNat + k : Nat) : Int) := by omega
   simp only [hlt, decide_true, cond_true, zk, n1, and_self, if_true, zj, hn, n0, Int.toNat_natCast, hx, Option.bind_some, zg, hw, bK, List.getElem?_drop]
   by_cases hb : x = (qI l : Int) <;> simp [hb]
 . have : ¬ t.Rank + ((2 - t.Rank).toNat : Int) < 2 := by omega
   simp only [this, decide_false, cond_false]
 . rw [hdl, zzy (6 : Int) (qI l : Int) _ (by simp)]
   by_cases hall : ([t.Axes.1, t.Axes.2].drop t.Rank.toNat).all (fun x => decide (x = (qI l : Int))) = true
   . simp only [hall, if_true]
     refine (qx t.Rank.toNat (fun k => (k : Int)) (uK (25 : Int) l t.Data ([t.Axes.1, t.Axes.2].take t.Rank.toNat)) () (fun k hk2 => ?_) ?_ rfl).trans ?_
     . have hkk : k < 2 := by omega
       have hw : IntKind.wrap .i64 ((k : Int) + 1) = ((k + 1 : Nat) : Int) := w64 (by omega) (by omega)
       have hlt : (k : Int) < t.Rank := by omega
       have n1 : (0 : Int) <= (k : Int) /\ (k : Int) < ((2 : Nat) : Int) := by omega
       obtain ⟨x, hx⟩ := zv (l := [t.Axes.1, t.Axes.2]) (i := k) (by simpa using hkk)
       have hxl : wh l x = true := by
        have := List.mem_of_getElem? hx
        simp only [List.mem_cons, List.not_mem_nil, or_false] at this
        rcases this with rfl | rfl
        . exact l1'
        . exact l2'
       have hxb : 0 <= x /\ x < (l.Names.length : Int) := by unfold wh at hxl; simpa using hxl
       simp only [hlt, decide_true, cond_true, zk, n1, and_self, if_true, zj, Int.toNat_natCast, hx, Option.bind_some, zg, hw, uK, hB x hxb, List.getElem?_take, hk2]
       cases up l x.toNat t.Data.toNat <;> simp
     . have : ¬ (t.Rank.toNat : Int) < t.Rank := by omega
       simp only [this, decide_false, cond_false]
     . rw (occs := .pos [2]) [htl]
       rw [zAw (25 : Int) l t.Data _ (by simp; omega)]
       cases (List.take t.Rank.toNat [t.Axes.fst, t.Axes.snd]).all fun x => up l x.toNat t.Data.toNat <;> rfl
   . rw [if_neg hall, if_neg hall]
open Go
def vrK (g : TY -> Int) (p : TP) (k : Nat) : Option (Int × Int) := match p.Vars[k]? with
 | some c => if nmE c.Name ((p.Vars.take k).map (·.Name)) ≠ 0 then some ((k : Int), nmE c.Name ((p.Vars.take k).map (·.Name))) else if g c.Type_ = 0 then none else some ((k : Int), g c.Type_)
 | none => none
def vrC (g : TY -> Int) (p : TP) : Int × Int := if (32 : Int) < (p.Vars.length : Int) then (-1, 3) else match zx (vrK g p) 0 p.Vars.length with | some r => r | none => (0, 0)
theorem ziz (g : TY -> Int) (p : TP) (hs : ∀ c ∈ p.Vars, c.Name.length <= 1000000) (hg : ∀ c ∈ p.Vars, zjf p.Lattice c.Type_ = some (g c.Type_)) : zsg p = some (vrC g p) := by
 unfold zsg vrC
 simp only [List.length_map]
 by_cases h : (32 : Int) < (p.Vars.length : Int)
 . simp [h]
 simp only [h, decide_false, cond_false, if_false]
 refine (qx p.Vars.length (fun k => ((k : Int), (p.Vars.take k).map (·.Name))) (vrK g p) () (fun k hk => ?_) ?_ rfl).trans ?_
 . obtain ⟨x, hx⟩ := zv hk
   have hlt : (k : Int) < (p.Vars.length : Int) := by omega
   have hw : IntKind.wrap .i64 ((k : Int) + 1) = ((k + 1 : Nat) : Int) := w64 (by omega) (by omega)
   have n1 : (0 : Int) <= (k : Int) := by omega
   have e : (p.Vars.take (k + 1)).map (·.Name) = (p.Vars.take k).map (·.Name) ++ [x.Name] := by rw [List.take_add_one, hx]; simp
   simp only [hlt, decide_true, cond_true, zj, n1, if_true, Int.toNat_natCast, hx, Option.bind_some, zg, hw, zbq x.Name (hs x (List.mem_of_getElem? hx)), hg x (List.mem_of_getElem? hx), vrK, e]
   unfold nmE
   cases exN x.Name with
   | false => simp
   | true =>
     cases hi : inL x.Name ((p.Vars.take k).map (·.Name)) with
     | true =>
       have := inL_iff.1 hi
       simp only [Bool.not_true, cond_false, cond_true, if_true, if_pos this]
       simp
     | false =>
       have : ¬ x.Name ∈ (p.Vars.take k).map (·.Name) := fun h => by rw [inL_iff.2 h] at hi; cases hi
       simp only [Bool.not_true, cond_false, if_true, if_neg this]
       by_cases hz : g x.Type_ = 0 <;> simp [hz]
 . simp
 . cases zx (vrK g p) 0 p.Vars.length <;> rfl
theorem zk3 (g : TY -> Int) (p : TP) (hs : ∀ c ∈ p.Vars, c.Name.length <= 1000000) (hg : ∀ c ∈ p.Vars, zn4 p.Lattice c.Type_ = some (g c.Type_)) : ztg p = some (vrC g p) := by
 unfold ztg vrC
 simp only [List.length_map]
 by_cases h : (32 : Int) < (p.Vars.length : Int)
 . simp [h]
 simp only [h, decide_false, cond_false, if_false]
 refine (qx p.Vars.length (fun k => ((k : Int), (p.Vars.take k).map (·.Name))) (vrK g p) () (fun k hk => ?_) ?_ rfl).trans ?_
 . obtain ⟨x, hx⟩ := zv hk
   have hlt : (k : Int) < (p.Vars.length : Int) := by omega
   have hw : IntKind.wrap .i64 ((k : Int) + 1) = ((k + 1 : Nat) : Int) := w64 (by omega) (by omega)
   have n1 : (0 : Int) <= (k : Int) := by omega
   have e : (p.Vars.take (k + 1)).map (·.Name) = (p.Vars.take k).map (·.Name) ++ [x.Name] := by rw [List.take_add_one, hx]; simp
   have hl : ((p.Vars.take k).map (·.Name)).length <= 32 := by rw [List.length_map, List.length_take]; omega
   simp only [hlt, decide_true, cond_true, zj, n1, if_true, Int.toNat_natCast, hx, Option.bind_some, zg, hw, zbu x.Name _ (hs x (List.mem_of_getElem? hx)) (Nat.le_trans hl (by omega)), hg x (List.mem_of_getElem? hx), vrK, e, zk, List.length_map]
   rw [if_pos (by rw [List.length_map] at hl; omega)]
   by_cases h0 : nmE x.Name ((p.Vars.take k).map (·.Name)) = 0
   . simp only [h0]
     by_cases hz : g x.Type_ = 0 <;> simp [hz]
   . generalize nmE x.Name ((p.Vars.take k).map (·.Name)) = z at h0 ⊢
     simp [h0]
 . simp
 . cases zx (vrK g p) 0 p.Vars.length <;> rfl
open Go
theorem zk4 {l : TL} (h : LatIn l) (t : TY) : zn4 l t = some (yl l t) := by
 unfold zn4 yl
 rw [zaq l h.u8 h.names h.name, <- ze2 h]
 by_cases hk : (qA l).2 = 0
 case neg => simp [hk]
 simp only [hk, if_true, Option.bind_some, decide_true, Bool.not_true, cond_false, xJ]
 by_cases r1 : t.Rank < 0
 . by_cases k1 : t.Kind = 1 <;> by_cases k2 : t.Kind = 2 <;> simp [k1, k2, r1, yx]
 by_cases r2 : 2 < t.Rank
 . by_cases k1 : t.Kind = 1 <;> by_cases k2 : t.Kind = 2 <;> simp [k1, k2, r1, r2, yx]
 have hr : ¬ (t.Rank < 0 \/ 2 < t.Rank) := by omega
 cases l1 : qk l t.Axes.fst with
 | false => by_cases k1 : t.Kind = 1 <;> by_cases k2 : t.Kind = 2 <;> simp [k1, k2, r1, r2, yx, l1]
 | true =>
   cases l2 : qk l t.Axes.snd with
   | false => by_cases k1 : t.Kind = 1 <;> by_cases k2 : t.Kind = 2 <;> simp [k1, k2, r1, r2, yx, l1, l2]
   | true =>
     cases l3 : qk l t.Data with
     | false => by_cases k1 : t.Kind = 1 <;> by_cases k2 : t.Kind = 2 <;> simp [k1, k2, r1, r2, yx, l1, l2, l3]
     | true =>
       have key := zkz h hk t hr l1 l2 l3
       simp only [Bool.not_true, cond_false, r1, r2, decide_false, zk6 h, hk, if_true, Option.bind_some]
       by_cases k1 : t.Kind = 1
       . simp only [k1, decide_true, Bool.not_true, cond_false, true_or, if_true]
         exact key
       . by_cases k2 : t.Kind = 2
         . simp only [k1, k2, decide_true, decide_false, Bool.not_true, Bool.not_false, cond_true, cond_false, or_true, if_true]
           exact key
         . simp [k1, k2]
def ckK {α τ : Type} (c : α -> Bool) (v : τ) (L : List α) (j : Nat) : Option τ := match L[j]? with | some y => if c y = true then some v else none | none => none
theorem zcc {α τ : Type} (c : α -> Bool) (v : τ) (L : List α) (n : Nat) (hn : n <= L.length) : zx (ckK c v L) 0 n = if (L.take n).any c = true then some v else none := by
 by_cases h : (L.take n).any c = true
 . rw [if_pos h]
   cases e : zx (ckK c v L) 0 n with
   | some r =>
     have : r = v := uX (v := v) (fun i => by
      unfold ckK
      cases L[i]? with
      | none => exact .inr rfl
      | some x => by_cases hx : c x = true <;> simp [hx]) e
     rw [this]
   | none =>
     exfalso
     rw [List.any_eq_true] at h
     obtain ⟨x, hx, hc⟩ := h
     obtain ⟨i, hi, hxi⟩ := List.getElem_of_mem hx
     rw [List.length_take] at hi
     have := scan_none.1 e i (by omega) (by omega)
     rw [List.getElem_take] at hxi
     unfold ckK at this
     rw [List.getElem?_eq_getElem (by omega), hxi] at this
     simp [hc] at this
 . rw [if_neg h, scan_none]
   intro i _ hi
   unfold ckK
   obtain ⟨x, hx⟩ := zv (l := L) (i := i) (by omega)
   rw [hx]
   have : ¬ c x = true := fun hc => h (by
    rw [List.any_eq_true]
    exact ⟨x, List.mem_take_iff_getElem.2 ⟨i, by omega, by rw [List.getElem?_eq_getElem (by omega)] at hx; exact Option.some.inj hx⟩, hc⟩)
   simp [this]
def zb7 (x y : TU) : Bool := decide (y.From = x.From) && decide (y.Goal = x.Goal)
def rlK (p : TP) (k : Nat) : Option (Int × Int) := match p.Rules[k]? with
 | some x => if qk p.Lattice x.From = true then (if qk p.Lattice x.Goal = true then (if x.From = x.Goal then some ((k : Int), 25) else if up p.Lattice x.Goal.toNat x.From.toNat = true then (if (p.Rules.take k).any (zb7 x) = true then some ((k : Int), 8) else if x.K < 2 then some ((k : Int), 3) else if 400 < x.K then some ((k : Int), 3) else none) else some ((k : Int), 25)) else some ((k : Int), 7)) else some ((k : Int), 7)
 | none => none
def rlC (p : TP) : Int × Int := if (64 : Int) < (p.Rules.length : Int) then (-1, 3) else match zx (rlK p) 0 p.Rules.length with | some r => r | none => (0, 0)
theorem zAs (x : TU) (L : List TU) : inL (x.From, x.Goal) (L.map fun y => (y.From, y.Goal)) = L.any (zb7 x) := by
 rw [Bool.eq_iff_iff, inL_iff, List.any_eq_true]
 simp only [List.mem_map, Prod.mk.injEq, zb7, Bool.and_eq_true, decide_eq_true_eq]
theorem zAq {x : Int} (h0 : 0 <= x) (h1 : x < 256) {b : Nat} (hb : b <= 8) : decide (bits .and .u8 (Int.fdiv x (2 ^ min b (IntKind.bits .u8))) 1 = 0) = !Nat.testBit x.toNat b := by
 have key : ∀ u : Fin 256, ∀ b : Fin 9, decide (bits .and .u8 (Int.fdiv (u.val : Int) (2 ^ min b.val (IntKind.bits .u8))) 1 = 0) = !Nat.testBit u b := by decide +kernel
 have := key ⟨x.toNat, by omega⟩ ⟨b, by omega⟩
 simpa only [Int.toNat_of_nonneg h0] using this
theorem ziq (p : TP) (h : LatIn p.Lattice) (hk : (qA p.Lattice).2 = 0) : zrl p = some (rlC p) := by
 have ok := yB h hk
 have hle := ok.le
 have hlen := ok.len
 unfold zrl rlC
 simp only [List.length_map]
 by_cases h6 : (64 : Int) < (p.Rules.length : Int)
 . simp [h6]
 simp only [h6, decide_false, cond_false, if_false]
 refine (qx p.Rules.length (fun k => ((k : Int), (p.Rules.take k).map fun y => (y.From, y.Goal))) (rlK p) () (fun k hk => ?_) ?_ rfl).trans ?_
 . obtain ⟨x, hx⟩ := zv hk
   have hlt : (k : Int) < (p.Rules.length : Int) := by omega
   have hw : IntKind.wrap .i64 ((k : Int) + 1) = ((k + 1 : Nat) : Int) := w64 (by omega) (by omega)
   have n1 : (0 : Int) <= (k : Int) := by omega
   have e : (p.Rules.take (k + 1)).map (fun y => (y.From, y.Goal)) = (p.Rules.take k).map (fun y => (y.From, y.Goal)) ++ [(x.From, x.Goal)] := by rw [List.take_add_one, hx]; simp
   simp only [hlt, decide_true, cond_true, zj, n1, if_true, Int.toNat_natCast, hx, Option.bind_some, zg, hw, uo, rlK, e, zAs]
   cases l1 : qk p.Lattice x.From with
   | false => simp
   | true =>
     cases l2 : qk p.Lattice x.Goal with
     | false => simp
     | true =>
       unfold qk at l1 l2
       simp only [Bool.and_eq_true, decide_eq_true_eq] at l1 l2
       obtain ⟨u, hu⟩ := zv (l := p.Lattice.Up) (i := x.Goal.toNat) (by omega)
       have hu' := ok.u8.get hu
       have hb := zAq hu'.1 hu'.2 (b := x.From.toNat) (by omega)
       have n2 : (0 : Int) <= x.Goal := l2.1
       have n3 : (0 : Int) <= x.From := l1.1
       simp only [Bool.not_true, cond_false, n2, if_true, hu, Option.bind_some, zk, n3, hb, jI hu]
       by_cases hfg : x.From = x.Goal
       . simp [hfg]
       cases hbt : Nat.testBit u.toNat x.From.toNat with
       | false => simp [hfg]
       | true =>
         cases (p.Rules.take k).any (zb7 x) with
         | true => simp [hfg]
         | false =>
           by_cases k2 : x.K < 2
           . simp [hfg, k2]
           . by_cases k4 : 400 < x.K <;> simp [hfg, k2, k4]
 . simp
 . cases zx (rlK p) 0 p.Rules.length <;> rfl
theorem zjw (p : TP) (h : LatIn p.Lattice) (hk : (qA p.Lattice).2 = 0) : zs3 p = some (rlC p) := by
 have ok := yB h hk
 have hle := ok.le
 have hlen := ok.len
 unfold zs3 rlC
 simp only [List.length_map]
 by_cases h6 : (64 : Int) < (p.Rules.length : Int)
 . simp [h6]
 simp only [h6, decide_false, cond_false, if_false]
 refine (qx p.Rules.length (fun k => (k : Int)) (rlK p) () (fun k hk => ?_) ?_ rfl).trans ?_
 . obtain ⟨x, hx⟩ := zv hk
   have hlt : (k : Int) < (p.Rules.length : Int) := by omega
   have hw : IntKind.wrap .i64 ((k : Int) + 1) = ((k + 1 : Nat) : Int) := w64 (by omega) (by omega)
   have n1 : (0 : Int) <= (k : Int) := by omega
   simp only [hlt, decide_true, cond_true, zj, n1, if_true, Int.toNat_natCast, hx, Option.bind_some, zg, hw, xJ, rlK]
   cases l1 : qk p.Lattice x.From with
   | false => simp
   | true =>
     cases l2 : qk p.Lattice x.Goal with
     | false => simp
     | true =>
       unfold qk at l1 l2
       simp only [Bool.and_eq_true, decide_eq_true_eq] at l1 l2
       have hB := xe ok.u8 (a := x.Goal.toNat) (b := x.From.toNat) (by omega) (by omega)
       rw [Int.toNat_of_nonneg l2.1, Int.toNat_of_nonneg l1.1] at hB
       simp only [Bool.not_true, cond_false, if_true, hB, Option.bind_some]
       by_cases hfg : x.From = x.Goal
       . simp [hfg]
       cases hbt : up p.Lattice x.Goal.toNat x.From.toNat with
       | false => simp [hfg]
       | true =>
         simp only [hfg, decide_false, cond_false, Bool.not_true, if_true, if_false]
         refine (qx k (fun j => (j : Int)) (ckK (zb7 x) (Sum.inr (Sum.inr ((k : Int), (8 : Int)))) p.Rules) () (fun j hj => ?_) ?_ rfl).trans ?_
         . obtain ⟨y, hy⟩ := zv (l := p.Rules) (i := j) (by omega)
           have hlt2 : (j : Int) < (k : Int) := by omega
           have hw2 : IntKind.wrap .i64 ((j : Int) + 1) = ((j + 1 : Nat) : Int) := w64 (by omega) (by omega)
           have n2 : (0 : Int) <= (j : Int) := by omega
           simp only [hlt2, decide_true, cond_true, n2, if_true, Int.toNat_natCast, hy, Option.bind_some, hw2, ckK, zb7]
           by_cases c1 : y.From = x.From <;> by_cases c2 : y.Goal = x.Goal <;> simp [c1, c2]
         . simp
         . rw [zcc _ _ _ k (by omega)]
           cases (p.Rules.take k).any (zb7 x) with
           | true => simp
           | false =>
             by_cases k2 : x.K < 2
             . simp [k2]
             . by_cases k4 : 400 < x.K <;> simp [k2, k4]
 . simp
 . cases zx (rlK p) 0 p.Rules.length <;> rfl
end Go.Sx.O
noncomputable section
namespace Go.Sx.O
open Go
structure PolIn (p : TP) : Prop where
 lat : LatIn p.Lattice
 chan : ∀ c ∈ p.Channels, c.s_.length <= 1000000
 var : ∀ c ∈ p.Vars, c.Name.length <= 1000000
def wJ (p : TP) : Int × Int × Int :=
 if (qA p.Lattice).2 = 0 then (if (chC p).2 = 0 then (if (vrC (yl p.Lattice) p).2 = 0 then (if (rlC p).2 = 0 then (0, 0, 0) else (4, rlC p)) else (3, vrC (yl p.Lattice) p)) else (2, chC p)) else (1, qA p.Lattice)
theorem zjt {τ : Type} {P : τ -> Prop} {f : Nat -> Option τ} (hf : ∀ i r, f i = some r -> P r) : ∀ {n k r}, zx f k n = some r -> P r := by
 intro n
 induction n with
 | zero => intro k r h; cases h
 | succ n ih =>
   intro k r h
   simp only [zx] at h
   split at h
   . rename_i b hb; cases h; exact hf _ _ hb
   . exact ih h
theorem zws {p : TP} (h : (rlC p).2 = 0) : rlC p = (0, 0) := by
 unfold rlC at h ⊢
 split at h
 . simp at h
 . rename_i h6
   rw [if_neg h6]
   cases e : zx (rlK p) 0 p.Rules.length with
   | none => rfl
   | some r =>
     exfalso
     rw [e] at h
     have := zjt (P := fun r : Int × Int => r.2 ≠ 0) (fun i r hr => by
      unfold rlK at hr
      revert hr
      repeat' split
      all_goals (intro hr; cases hr <;> simp)) e
     exact this h
theorem za5 {p : TP} (h : PolIn p) : znz p = some (wJ p) := by
 unfold znz wJ zx7
 rw [zag h.lat, zdl p h.chan, ziz (yl p.Lattice) p h.var (fun c _ => zja h.lat _)]
 by_cases hk : (qA p.Lattice).2 = 0
 case neg => simp [hk]
 rw [ziq p h.lat hk]
 by_cases h2 : (chC p).2 = 0
 case neg => simp [hk, h2]
 by_cases h3 : (vrC (yl p.Lattice) p).2 = 0
 case neg => simp [hk, h2, h3]
 by_cases h4 : (rlC p).2 = 0
 case neg => simp [hk, h2, h3, h4]
 simp [hk, h2, h3, zws h4]
theorem zi7 {p : TP} (h : PolIn p) : ztc p = some (wJ p) := by
 unfold ztc wJ
 rw [zaq p.Lattice h.lat.u8 h.lat.names h.lat.name, <- ze2 h.lat, ze6 p h.chan, zk3 (yl p.Lattice) p h.var (fun c _ => zk4 h.lat _)]
 by_cases hk : (qA p.Lattice).2 = 0
 case neg => simp [hk]
 rw [zjw p h.lat hk]
 by_cases h2 : (chC p).2 = 0
 case neg => simp [hk, h2]
 by_cases h3 : (vrC (yl p.Lattice) p).2 = 0
 case neg => simp [hk, h2, h3]
 by_cases h4 : (rlC p).2 = 0
 case neg => simp [hk, h2, h3, h4]
 simp [hk, h2, h3, h4]
theorem zAp {p : TP} (h : (wJ p).2.2 = 0) : (qA p.Lattice).2 = 0 := by
 unfold wJ at h
 by_cases hk : (qA p.Lattice).2 = 0
 . exact hk
 . rw [if_neg hk] at h; exact absurd h hk
theorem zi4 {α : Type} {L : List α} {N : Nat} {c : α -> Bool} (h : (L.take (min L.length N)).any c = false) (hn : L.length <= N) : ∀ x ∈ L, c x = false := by
 rw [Nat.min_eq_left hn, List.take_length] at h
 simpa using h
theorem zpn (L : List (List UInt8)) : ∃ b, Fz0 L = some b /\ (b = false -> L.length <= 12 /\ ∀ s ∈ L, s.length <= 100) := by
 unfold Fz0
 simp only [List.length_map]
 rw [qx (s0 := (0 : Int)) (min L.length 20) (fun k => (k : Int)) (ckK (fun s : List UInt8 => decide ((100 : Int) < (s.length : Int))) true L) () ?_ ?_ rfl, zcc _ _ _ _ (by omega)]
 . cases h : (L.take (min L.length 20)).any (fun s => decide ((100 : Int) < (s.length : Int))) with
   | true => exact ⟨true, rfl, fun h => by cases h⟩
   | false =>
     refine ⟨_, rfl, fun h12 => ?_⟩
     have h12 : L.length <= 12 := by simp at h12; omega
     exact ⟨h12, fun s hs => by have := zi4 h (by omega) s hs; simp at this; omega⟩
 . intro k hk
   obtain ⟨x, hx⟩ := zv (l := L) (i := k) (by omega)
   have hlt : (k : Int) < (L.length : Int) := by omega
   have hlt2 : (k : Int) < 20 := by omega
   have hw : IntKind.wrap .i64 ((k : Int) + 1) = ((k + 1 : Nat) : Int) := w64 (by omega) (by omega)
   have n1 : (0 : Int) <= (k : Int) := by omega
   simp only [hlt, hlt2, decide_true, cond_true, zj, n1, if_true, Int.toNat_natCast, hx, zg, hw, ckK]
   by_cases c1 : (100 : Int) < (x.length : Int) <;> simp [c1]
 . by_cases c1 : ((min L.length 20 : Nat) : Int) < (L.length : Int)
   . have c2 : ¬ ((min L.length 20 : Nat) : Int) < 20 := by omega
     simp only [c1, c2, decide_true, decide_false, cond_true, cond_false]
   . simp only [c1, decide_false, cond_false]
theorem zwx (p : TP) (hu : U8s p.Lattice.Up) : ∃ b, Fz2 p = some b /\ (b = false -> PolIn p) := by
 unfold Fz2
 simp only [List.length_map]
 rw [qx (s0 := (0 : Int)) (min p.Channels.length 25) (fun k => (k : Int)) (ckK (fun s : TR => decide ((100 : Int) < (s.s_.length : Int))) true p.Channels) () ?_ ?_ rfl, zcc _ _ _ _ (by omega)]
 rotate_left
 . intro k hk
   obtain ⟨x, hx⟩ := zv (l := p.Channels) (i := k) (by omega)
   have hlt : (k : Int) < (p.Channels.length : Int) := by omega
   have hlt2 : (k : Int) < 25 := by omega
   have hw : IntKind.wrap .i64 ((k : Int) + 1) = ((k + 1 : Nat) : Int) := w64 (by omega) (by omega)
   have n1 : (0 : Int) <= (k : Int) := by omega
   simp only [hlt, hlt2, decide_true, cond_true, zj, n1, if_true, Int.toNat_natCast, hx, zg, hw, ckK]
   by_cases c1 : (100 : Int) < (x.s_.length : Int) <;> simp [c1]
 . by_cases c1 : ((min p.Channels.length 25 : Nat) : Int) < (p.Channels.length : Int)
   . have c2 : ¬ ((min p.Channels.length 25 : Nat) : Int) < 25 := by omega
     simp only [c1, c2, decide_true, decide_false, cond_true, cond_false]
   . simp only [c1, decide_false, cond_false]
 cases hc : (p.Channels.take (min p.Channels.length 25)).any (fun s => decide ((100 : Int) < (s.s_.length : Int))) with
 | true => exact ⟨true, rfl, fun h => by cases h⟩
 | false =>
   simp only [Bool.false_eq_true, if_false]
   rw [qx (s0 := (0 : Int)) (min p.Vars.length 45) (fun k => (k : Int)) (ckK (fun s : TV => decide ((100 : Int) < (s.Name.length : Int))) true p.Vars) () ?_ ?_ rfl, zcc _ _ _ _ (by omega)]
   rotate_left
   . intro k hk
     obtain ⟨x, hx⟩ := zv (l := p.Vars) (i := k) (by omega)
     have hlt : (k : Int) < (p.Vars.length : Int) := by omega
     have hlt2 : (k : Int) < 45 := by omega
     have hw : IntKind.wrap .i64 ((k : Int) + 1) = ((k + 1 : Nat) : Int) := w64 (by omega) (by omega)
     have n1 : (0 : Int) <= (k : Int) := by omega
     simp only [hlt, hlt2, decide_true, cond_true, zj, n1, if_true, Int.toNat_natCast, hx, zg, hw, ckK]
     by_cases c1 : (100 : Int) < (x.Name.length : Int) <;> simp [c1]
   . by_cases c1 : ((min p.Vars.length 45 : Nat) : Int) < (p.Vars.length : Int)
     . have c2 : ¬ ((min p.Vars.length 45 : Nat) : Int) < 45 := by omega
       simp only [c1, c2, decide_true, decide_false, cond_true, cond_false]
     . simp only [c1, decide_false, cond_false]
   cases hv : (p.Vars.take (min p.Vars.length 45)).any (fun s => decide ((100 : Int) < (s.Name.length : Int))) with
   | true => exact ⟨true, rfl, fun h => by cases h⟩
   | false =>
     simp only [Bool.false_eq_true, if_false]
     unfold Fz1
     obtain ⟨b, e, hb⟩ := zpn p.Lattice.Names
     rw [e]
     simp only [Option.bind_some, List.length_map]
     cases b with
     | true => exact ⟨true, rfl, fun h => by cases h⟩
     | false =>
       obtain ⟨hb1, hb2⟩ := hb rfl
       simp only [cond_false, Option.bind_some]
       by_cases h12 : (12 : Int) < (p.Lattice.Up.length : Int)
       . exact ⟨true, by simp [h12], fun h => by cases h⟩
       by_cases h20 : (20 : Int) < (p.Channels.length : Int)
       . exact ⟨true, by simp [h12, h20], fun h => by cases h⟩
       by_cases h40 : (40 : Int) < (p.Vars.length : Int)
       . exact ⟨true, by simp [h12, h20, h40], fun h => by cases h⟩
       simp only [h12, h20, h40, decide_false, cond_false]
       refine ⟨_, rfl, fun _ => ⟨⟨hu, by omega, fun s hs => by have := hb2 s hs; omega⟩, fun c h => ?_, fun c h => ?_⟩⟩
       . have := zi4 hc (by omega) c h; simp at this; omega
       . have := zi4 hv (by omega) c h; simp at this; omega
end Go.Sx.O
end
noncomputable section
namespace Go.Sx.O
open Go
theorem xC {r : Int} {l : Int × Int} (h : shC r l = 0) : 0 <= qt r l /\ qt r l <= 400 := by
 unfold shC at h
 unfold qt
 by_cases r0 : r = 0
 . simp [r0]
 by_cases r1 : r = 1
 . rw [if_neg r0, if_pos r1] at h
   rw [if_neg (by omega), if_pos r1]
   by_cases c1 : l.1 < 0
   . rw [if_pos c1] at h; omega
   rw [if_neg c1] at h
   by_cases c2 : l.2 = 0
   . rw [if_pos c2] at h
     by_cases c3 : 400 < l.1
     . rw [if_pos c3] at h; omega
     . omega
   . rw [if_neg c2] at h; omega
 by_cases r2 : r = 2
 . rw [if_neg r0, if_neg r1, if_pos r2] at h
   rw [if_pos r2]
   by_cases c1 : l.1 < 0
   . rw [if_pos c1] at h; omega
   by_cases c2 : l.2 < 0
   . rw [if_neg c1, if_pos c2] at h; omega
   rw [if_neg c1, if_neg c2] at h
   have := Int.mul_nonneg (a := l.1) (b := l.2) (by omega) (by omega)
   by_cases c3 : 400 < l.1
   . rw [if_pos c3] at h; omega
   by_cases c4 : 400 < l.2
   . rw [if_neg c3, if_pos c4] at h; omega
   by_cases c5 : 400 < l.1 * l.2
   . rw [if_neg c3, if_neg c4, if_pos c5] at h; omega
   . omega
 . rw [if_neg r0, if_neg r1, if_neg r2] at h; omega
theorem zy5 {a : TA} (h : wi a = 0) : a.Cells.length <= 400 := by
 unfold wi at h
 split at h
 . split at h
   . rename_i hs
     have := xC hs
     split at h
     . omega
     . omega
   . omega
 . omega
theorem zar (a : TA) : zb6 a = some (wi a) := by
 by_cases hl : a.Cells.length <= 1000000000
 . exact ze5 a hl
 unfold zb6 wi
 rw [wS]
 simp only [Option.bind_some, List.length_map]
 by_cases hs : shC a.Rank a.Lens = 0
 . have hm := xC hs
   have hne : ¬ (a.Cells.length : Int) = qt a.Rank a.Lens := by omega
   simp only [hs, if_true, decide_true, Bool.not_true, cond_false, hne, decide_false, Bool.not_false, cond_true, if_false]
   by_cases k1 : a.Kind = 1 <;> by_cases k2 : a.Kind = 2 <;> simp [k1, k2]
 . simp only [hs, if_false, decide_false, Bool.not_false, cond_true]
   by_cases k1 : a.Kind = 1 <;> by_cases k2 : a.Kind = 2 <;> simp [k1, k2]
theorem zhc (a : TA) : zgu a = some (wi a) := by
 by_cases hl : a.Cells.length <= 1000000000
 . exact zfp a hl
 unfold zgu wi
 rw [zat]
 simp only [Option.bind_some, List.length_map]
 have lp0 : ∀ (v : Int), Option.bind (lpO (fun (_ : Unit) => cond (decide ((0 : Int) < (a.Cells.length : Int))) (some (Sum.inr (Sum.inl ()) : Unit ⊕ (Unit ⊕ Int))) (some (Sum.inr (Sum.inl ())))) ()) (Sum.elim (fun _ => some v) some) = some v := by
  intro v
  rw [zL]
  cases decide ((0 : Int) < (a.Cells.length : Int)) <;> rfl
 by_cases hs : shC a.Rank a.Lens = 0
 . have hm := xC hs
   have hne : ¬ (a.Cells.length : Int) = qt a.Rank a.Lens := by omega
   simp only [hs, if_true, decide_true, Bool.not_true, cond_false, hne, decide_false, Bool.not_false, cond_true, if_false, lp0]
   by_cases k1 : a.Kind = 1 <;> by_cases k2 : a.Kind = 2 <;> simp [k1, k2]
 . simp only [hs, if_false, decide_false, Bool.not_false, cond_true, cond_false, lp0]
   by_cases k1 : a.Kind = 1 <;> by_cases k2 : a.Kind = 2 <;> simp [k1, k2]
theorem zj9 (w : List TW) : ∃ b, Fz3 w = some b /\ (b = false -> w.length <= 40 /\ ∀ x ∈ w, x.Name.length <= 100) := by
 have key : Tot (Fz3 w) fun b => b = false -> w.length <= 40 /\ ∀ x ∈ w, x.Name.length <= 100 := by
  unfold Fz3
  rw [zw]
  refine Tot.count (min w.length 50) (fun k s => s.1 = (k : Int) /\ ∀ x ∈ w.take k, x.Name.length <= 100) ?_ ⟨rfl, by simp⟩
  rintro k ⟨i, n⟩ hk ⟨h0, h1⟩
  simp only at h0
  subst h0
  simp only [zF, zm, qc, qo, Sum.elim_inl, Sum.elim_inr, decide_eq_true_eq, decide_eq_false_iff_not, Int.toNat_natCast, List.length_map]
  refine ⟨fun hlt => ⟨fun h5 => ?_, fun h5 => ?_⟩, fun hge => ?_⟩
  . obtain ⟨x, hx⟩ := zv (l := w) (i := k) (by omega)
    refine ⟨by omega, x, hx, by omega, x, hx, fun hc => ?_, fun hc => ?_⟩
    . intro h; cases h
    . rw [w64 (by omega) (by omega)]
      refine ⟨by omega, by omega, ?_⟩
      rw [List.take_add_one, hx]
      intro y hy
      simp only [List.mem_append, Option.toList_some, List.mem_singleton] at hy
      rcases hy with hy | rfl
      . exact h1 y hy
      . omega
  . refine ⟨fun _ => (fun h => by cases h), fun _ h4 => ?_⟩
    simp at h4
    omega
  . refine ⟨fun _ => (fun h => by cases h), fun _ h4 => ?_⟩
    simp at h4
    have : w.take k = w := List.take_of_length_le (by omega)
    rw [this] at h1
    exact ⟨by omega, h1⟩
 obtain ⟨b, e, h⟩ := key
 exact ⟨b, e, h⟩
def ut (p : TP) (w : List TW) (k : Nat) : Option (Int × Int) := match w[k]?, p.Vars[k]? with
 | some x, some v => if x.Name = v.Name then (if wi x.Value = 0 then (if x.Value.Kind = v.Type_.Kind then (if x.Value.Rank = v.Type_.Rank then none else some ((k : Int), 22)) else some ((k : Int), 21)) else some ((k : Int), wi x.Value)) else some ((k : Int), 24)
 | _, _ => none
def qB (p : TP) (w : List TW) : Int × Int := if (wJ p).2.2 = 0 then (if w.length = p.Vars.length then (match zx (ut p w) 0 w.length with | some r => r | none => (0, 0)) else (-1, 3)) else (-1, (wJ p).2.2)
theorem zju {p : TP} (h : PolIn p) (w : List TW) (hw : w.length <= 1000000) : zlr p w = some (qB p w) := by
 unfold zlr qB
 rw [za5 h]
 simp only [Option.bind_some, List.length_map]
 by_cases hk : (wJ p).2.2 = 0
 case neg => simp [hk]
 simp only [hk, decide_true, Bool.not_true, cond_false, if_true]
 by_cases hl : w.length = p.Vars.length
 case neg =>
  have : ¬ (w.length : Int) = (p.Vars.length : Int) := by omega
  simp [hl, this]
 have hl' : (w.length : Int) = (p.Vars.length : Int) := by omega
 simp only [hl', hl, decide_true, Bool.not_true, cond_false, if_true]
 refine (qx p.Vars.length (fun k => (k : Int)) (ut p w) () (fun k hk => ?_) (by simp) rfl).trans ?_
 . obtain ⟨v, hv⟩ := zv hk
   obtain ⟨x, hx⟩ := zv (l := w) (i := k) (by omega)
   have hlt : (k : Int) < (p.Vars.length : Int) := by omega
   have hw : IntKind.wrap .i64 ((k : Int) + 1) = ((k + 1 : Nat) : Int) := w64 (by omega) (by omega)
   have n1 : (0 : Int) <= (k : Int) := by omega
   simp only [hlt, decide_true, cond_true, zj, n1, if_true, Int.toNat_natCast, hx, hv, Option.bind_some, zg, hw, zar, ut]
   by_cases c1 : x.Name = v.Name <;> by_cases c2 : wi x.Value = 0 <;> by_cases c3 : x.Value.Kind = v.Type_.Kind <;> by_cases c4 : x.Value.Rank = v.Type_.Rank <;> simp [c1, c2, c3, c4]
 . cases zx (ut p w) 0 p.Vars.length <;> rfl
theorem uv {p : TP} (h : PolIn p) (w : List TW) (hw : w.length <= 1000000) : ziw p w = some (qB p w) := by
 unfold ziw qB
 rw [zi7 h]
 simp only [Option.bind_some, List.length_map]
 by_cases hk : (wJ p).2.2 = 0
 case neg => simp [hk]
 simp only [hk, decide_true, Bool.not_true, cond_true, cond_false, if_true]
 by_cases hl : w.length = p.Vars.length
 case neg =>
  have : ¬ (w.length : Int) = (p.Vars.length : Int) := by omega
  simp [hl, this]
 have hl' : (w.length : Int) = (p.Vars.length : Int) := by omega
 simp only [hl', hl, decide_true, Bool.not_true, cond_false, if_true]
 refine (qx p.Vars.length (fun k => (k : Int)) (ut p w) () (fun k hk => ?_) (by simp) rfl).trans ?_
 . obtain ⟨v, hv⟩ := zv hk
   obtain ⟨x, hx⟩ := zv (l := w) (i := k) (by omega)
   have hlt : (k : Int) < (p.Vars.length : Int) := by omega
   have hw : IntKind.wrap .i64 ((k : Int) + 1) = ((k + 1 : Nat) : Int) := w64 (by omega) (by omega)
   have n1 : (0 : Int) <= (k : Int) := by omega
   simp only [hlt, decide_true, cond_true, zj, n1, if_true, Int.toNat_natCast, hx, hv, Option.bind_some, zg, hw, zhc, ut]
   by_cases c1 : x.Name = v.Name <;> by_cases c2 : wi x.Value = 0 <;> by_cases c3 : x.Value.Kind = v.Type_.Kind <;> by_cases c4 : x.Value.Rank = v.Type_.Rank <;> simp [c1, c2, c3, c4]
 . cases zx (ut p w) 0 p.Vars.length <;> rfl
theorem uY {p : TP} (h : (wJ p).2.2 = 0) : p.Vars.length <= 32 /\ ∀ v ∈ p.Vars, yl p.Lattice v.Type_ = 0 := by
 unfold wJ at h
 by_cases h1 : (qA p.Lattice).2 = 0
 case neg => rw [if_neg h1] at h; exact absurd h h1
 rw [if_pos h1] at h
 by_cases h2 : (chC p).2 = 0
 case neg => rw [if_neg h2] at h; exact absurd h h2
 rw [if_pos h2] at h
 by_cases h3 : (vrC (yl p.Lattice) p).2 = 0
 case neg => rw [if_neg h3] at h; exact absurd h h3
 unfold vrC at h3
 by_cases h6 : (32 : Int) < (p.Vars.length : Int)
 . rw [if_pos h6] at h3; exact absurd h3 (by decide)
 rw [if_neg h6] at h3
 refine ⟨by omega, fun v hv => ?_⟩
 cases hs : zx (vrK (yl p.Lattice) p) 0 p.Vars.length with
 | some r =>
   rw [hs] at h3
   have : r.2 ≠ 0 := zjt (P := fun r => r.2 ≠ 0) (fun i r hr => by
    unfold vrK at hr
    split at hr
    . split at hr
      . cases hr; assumption
      . split at hr
        . cases hr
        . cases hr; assumption
    . cases hr) hs
   exact absurd h3 this
 | none =>
   obtain ⟨i, hi, e⟩ := List.getElem_of_mem hv
   have := scan_none.1 hs i (by omega) (by omega)
   unfold vrK at this
   rw [List.getElem?_eq_getElem hi, e] at this
   simp only at this
   split at this
   . cases this
   . split at this
     . assumption
     . cases this
end Go.Sx.O
end
namespace Go.Sx.O
open Go
theorem zAf {x : Int} (h0 : 0 <= x) (h1 : x < 256) {b : Nat} (hb : b <= 8) : decide (bits .and .u8 (Int.fdiv x (2 ^ min b (IntKind.bits .u8))) 1 = 1) = Nat.testBit x.toNat b := by
 have key : ∀ u : Fin 256, ∀ b : Fin 9, decide (bits .and .u8 (Int.fdiv (u.val : Int) (2 ^ min b.val (IntKind.bits .u8))) 1 = 1) = Nat.testBit u b := by decide +kernel
 have := key ⟨x.toNat, by omega⟩ ⟨b, by omega⟩
 simpa only [Int.toNat_of_nonneg h0] using this
theorem labB_iff {l : TL} {a : Int} : qk l a = true ↔ 0 <= a /\ a < (l.Names.length : Int) := by simp [qk]
theorem zci {l : TL} {t : TY} (h : yl l t = 0) : (qA l).2 = 0 /\ (t.Kind = 1 \/ t.Kind = 2) /\ 0 <= t.Rank /\ t.Rank <= 2 /\ qk l t.Axes.1 = true /\ qk l t.Axes.2 = true /\ qk l t.Data = true /\
 ([t.Axes.1, t.Axes.2].drop t.Rank.toNat).all (fun x => decide (x = (qI l : Int))) = true /\ ([t.Axes.1, t.Axes.2].take t.Rank.toNat).all (fun x => up l x.toNat t.Data.toNat) = true := by
 unfold yl at h
 by_cases hk : (qA l).2 = 0
 case neg => rw [if_neg hk] at h; exact absurd h hk
 rw [if_pos hk] at h
 split at h
 case isFalse => exact absurd h (by decide)
 rename_i h1
 unfold yx at h
 split at h
 . exact absurd h (by decide)
 rename_i h2
 split at h
 case isFalse => exact absurd h (by decide)
 rename_i h3
 split at h
 case isFalse => exact absurd h (by decide)
 rename_i h4
 split at h
 case isFalse => exact absurd h (by decide)
 rename_i h5
 exact ⟨hk, h1, by omega, by omega, h3.1, h3.2.1, h3.2.2, h4, h5⟩
theorem zpg {l : TL} (h : LatIn l) (hk : (qA l).2 = 0) : zma l = some (TG.mk l (qI l), 0) := by
 unfold zma
 rw [zag h, zkd h]
 simp [hk]
theorem zbt (l : TL) (b a : Int) : xN (TG.mk l b) a = some (qk l a) := by
 unfold xN qk
 by_cases h : 0 <= a <;> simp [h]
theorem xj {l : TL} (ok : LatOK l) (b : Int) {a o : Int} (ha : qk l a = true) (ho : qk l o = true) : zew (TG.mk l b) a o = some (up l a.toNat o.toNat) := by
 obtain ⟨a0, a1⟩ := labB_iff.1 ha
 obtain ⟨o0, o1⟩ := labB_iff.1 ho
 have hle := ok.le
 have hlen := ok.len
 unfold zew zj
 obtain ⟨x, hx⟩ := zv (l := l.Up) (i := a.toNat) (by omega)
 have hu := ok.u8 x (List.mem_of_getElem? hx)
 simp only [a0, if_true, hx, Option.bind_some]
 unfold zk
 rw [if_pos o0, zAf hu.1 hu.2 (by omega), jI hx]
theorem zA1 {l : TL} (ok : LatOK l) (b : Int) (t : TY) (hd : qk l t.Data = true) (xs : List Int) (hx : xs.length <= 2) (hl : ∀ x ∈ xs, qk l x = true) (hu : xs.all (fun x => up l x.toNat t.Data.toNat) = true) :
 xO xs (TG.mk l b, t) = some false := by
 unfold xO ztd
 have : (Option.bind (lpO (fun (s115 : Int) =>
 cond (decide (s115 < (↑(List.length (List.map (SV.int IntKind.i64) xs)) : Int)))
 (zj (xs) (s115) fun x121 =>
 Option.bind (zl3 (x121) ((TG.mk l b, t).fst) ((TG.mk l b, t).snd)) fun x122 =>
 cond (x122)
 (some (Sum.inr (Sum.inr (s115))))
 (zg (IntKind.wrap IntKind.i64 (s115 + (1 : Int))) fun x124 =>
 some (Sum.inl (x124))))
 (some (Sum.inr (Sum.inl (()))))) ((0 : Int)))
 (Sum.elim (fun (_ : Unit) =>
 some ((-1 : Int))) some)) = some (-1) := by
  refine (yr xs.length (fun k => (k : Int)) () (fun k hk => ?_) (by simp) rfl).trans rfl
  obtain ⟨x, hx'⟩ := zv hk
  have hm := List.mem_of_getElem? hx'
  have hlt : (k : Int) < (xs.length : Int) := by omega
  have hw : IntKind.wrap .i64 ((k : Int) + 1) = ((k + 1 : Nat) : Int) := w64 (by omega) (by omega)
  have n1 : (0 : Int) <= (k : Int) := by omega
  have hup : up l x.toNat t.Data.toNat = true := by
   have := List.all_eq_true.1 hu x hm
   simpa using this
  simp only [List.length_map, hlt, decide_true, cond_true, zj, n1, if_true, Int.toNat_natCast, hx', zg, hw, zl3, xj ok b (hl x hm) hd, Option.bind_some, hup, Bool.not_true, cond_false]
 rw [this]
 rfl
theorem zjv {l : TL} (h : LatIn l) {t : TY} (hg : yl l t = 0) : zli (TG.mk l (qI l)) t = some 0 := by
 obtain ⟨hk, hkind, hr0, hr2, l1, l2, l3, hbot, hup⟩ := zci hg
 have ok := yB h hk
 have c1 : ¬ t.Rank < 0 := by omega
 have c2 : ¬ 2 < t.Rank := by omega
 have tail : (zcm (t.Rank) [
 cond (!(decide ((qI l : Int) = t.Axes.fst) && (decide ((qI l : Int) = t.Axes.snd) && true)))
 (some ((6 : Int)))
 (zk ((0 : Int) <= t.Rank /\ t.Rank <= (↑(2 : Nat) : Int)) (
 Option.bind (xO (List.drop (Int.toNat (0 : Int)) (List.take (Int.toNat t.Rank) [t.Axes.fst, t.Axes.snd])) ((TG.mk l (qI l), t))) fun x126 =>
 cond (x126)
 (some ((25 : Int)))
 (some ((0 : Int))))),
 cond (!(decide (t.Axes.fst = t.Axes.fst) && (decide ((qI l : Int) = t.Axes.snd) && true)))
 (some ((6 : Int)))
 (zk ((0 : Int) <= t.Rank /\ t.Rank <= (↑(2 : Nat) : Int)) (
 Option.bind (xO (List.drop (Int.toNat (0 : Int)) (List.take (Int.toNat t.Rank) [t.Axes.fst, t.Axes.snd])) ((TG.mk l (qI l), t))) fun x129 =>
 cond (x129)
 (some ((25 : Int)))
 (some ((0 : Int))))),
 cond (!(decide (t.Axes.fst = t.Axes.fst) && (decide (t.Axes.snd = t.Axes.snd) && true)))
 (some ((6 : Int)))
 (zk ((0 : Int) <= t.Rank /\ t.Rank <= (↑(2 : Nat) : Int)) (
 Option.bind (xO (List.drop (Int.toNat (0 : Int)) (List.take (Int.toNat t.Rank) [t.Axes.fst, t.Axes.snd])) ((TG.mk l (qI l), t))) fun x132 =>
 cond (x132)
 (some ((25 : Int)))
 (some ((0 : Int)))))]) = some 0 := by
   have hc : xO (List.drop (Int.toNat (0 : Int)) (List.take (Int.toNat t.Rank) [t.Axes.fst, t.Axes.snd])) ((TG.mk l (qI l), t)) = some false := by
    refine zA1 ok _ t l3 _ (by simp; omega) (fun x hx => ?_) (by simpa using hup)
    have := List.mem_of_mem_take (by simpa using hx)
    simp only [List.mem_cons, List.not_mem_nil, or_false] at this
    rcases this with rfl | rfl
    . exact l1
    . exact l2
   have hs : (0 : Int) <= t.Rank /\ t.Rank <= ((2 : Nat) : Int) := ⟨hr0, by omega⟩
   have hsx : ∀ y : Option Int, zk ((0 : Int) <= t.Rank /\ t.Rank <= ((2 : Nat) : Int)) y = y := fun y => by unfold zk; rw [if_pos hs]
   rw [hc]
   simp only [hsx, Option.bind_some, cond_false, decide_true, Bool.true_and, Bool.and_true, Bool.not_true]
   have hr : t.Rank = 0 \/ t.Rank = 1 \/ t.Rank = 2 := by omega
   rcases hr with hr | hr | hr
   . rw [hr] at hbot ⊢
     simp only [Int.toNat_zero, List.drop_zero, List.all_cons, List.all_nil, Bool.and_true, Bool.and_eq_true, decide_eq_true_eq] at hbot
     simp [zcm, hbot.1, hbot.2]
   . rw [hr] at hbot ⊢
     have e1 : (1 : Int).toNat = 1 := rfl
     simp only [e1, List.drop_succ_cons, List.drop_zero, List.all_cons, List.all_nil, Bool.and_true, decide_eq_true_eq] at hbot
     simp [zcm, hbot]
   . rw [hr]
     simp [zcm]
 unfold zli
 have sw : ∀ (x y : Option (Unit ⊕ Int)), cond (!decide (t.Kind = 1)) (cond (!decide (t.Kind = 2)) (some (Sum.inr 7)) x) y = if t.Kind = 1 then y else x := fun x y => by
  by_cases k1 : t.Kind = 1
  . simp [k1]
  . have k2 : t.Kind = 2 := by omega
    simp [k2]
 rw [sw]
 simp only [zbt, l1, l2, l3, Option.bind_some, Bool.not_true, cond_false, c1, c2, decide_false, decide_true, Bool.true_and, ite_self, Sum.elim_inl] at tail ⊢
 exact tail
def axC (l : TL) (t : TY) (o : Int) : Bool × Bool := (decide (0 < t.Rank) && up l t.Axes.1.toNat o.toNat, decide (1 < t.Rank) && up l t.Axes.2.toNat o.toNat)
def siC (l : TL) (t : TY) (o : Int) : (Bool × Bool) × Bool := (axC l t o, up l t.Data.toNat o.toNat)
theorem uq {l : TL} (h : LatIn l) {t : TY} (hg : yl l t = 0) {o : Int} (ho : qk l o = true) : zeo l t o = some (axC l t o, up l t.Data.toNat o.toNat, 0) := by
 obtain ⟨hk, hkind, hr0, hr2, l1, l2, l3, hbot, hup⟩ := zci hg
 have ok := yB h hk
 unfold zeo
 rw [zpg h hk]
 simp only [Option.bind_some, decide_true, Bool.not_true, cond_false, zjv h hg, zbt, ho]
 have hr : t.Rank = 0 \/ t.Rank = 1 \/ t.Rank = 2 := by omega
 refine (yr t.Rank.toNat (fun k => ((k : Int), (decide (0 < k) && up l t.Axes.1.toNat o.toNat, decide (1 < k) && up l t.Axes.2.toNat o.toNat))) (axC l t o) (fun k hk' => ?_) ?_ (by simp)).trans ?_
 . have hlt : (k : Int) < t.Rank := by omega
   have hw : IntKind.wrap .i64 ((k : Int) + 1) = ((k + 1 : Nat) : Int) := w64 (by omega) (by omega)
   have n1 : (0 : Int) <= (k : Int) := by omega
   have n2 : (0 : Int) <= (k : Int) /\ (k : Int) < ((2 : Nat) : Int) := ⟨n1, by omega⟩
   have hsx : ∀ y : Option ((Int × Bool × Bool) ⊕ ((Bool × Bool) ⊕ ((Bool × Bool) × Bool × Int))), zk ((0 : Int) <= (k : Int) /\ (k : Int) < ((2 : Nat) : Int)) y = y := fun y => by unfold zk; rw [if_pos n2]
   have hk2 : k = 0 \/ k = 1 := by omega
   simp only [hlt, decide_true, cond_true, hsx, zj, n1, if_true, Int.toNat_natCast, zg, hw]
   rcases hk2 with rfl | rfl
   . simp [xj ok _ l1 ho, xf, zk]
   . simp [xj ok _ l2 ho, xf, zk]
 . have e1 : ((t.Rank.toNat : Nat) : Int) = t.Rank := Int.toNat_of_nonneg hr0
   have e2 : ¬ ((t.Rank.toNat : Nat) : Int) < t.Rank := by omega
   simp only [e2, decide_false, cond_false, axC]
   have e3 : decide (0 < t.Rank.toNat) = decide (0 < t.Rank) := decide_eq_decide.2 (by omega)
   have e4 : decide (1 < t.Rank.toNat) = decide (1 < t.Rank) := decide_eq_decide.2 (by omega)
   rw [e3, e4]
 . simp only [xj ok _ l3 ho, Option.bind_some]
theorem zDz {l : TL} (ok : LatOK l) {a b c : Nat} (ha : a < l.Names.length) (hb : b < l.Names.length) (hc : c < l.Names.length) (h1 : up l a b = true) (h2 : up l b c = true) : up l a c = true := (ok.row a ha b hb h1).2 c hc h2
open Go
theorem zid (a b : TA) (h : a.Cells.length <= 9223372036854775807) : Tot (zit a b) fun r => (r = true ↔ a = b) := by
 unfold zit zrv
 obtain ⟨k1, r1, ⟨p1, q1⟩, c1⟩ := a
 obtain ⟨k2, r2, ⟨p2, q2⟩, c2⟩ := b
 simp only [TA.mk.injEq, Prod.mk.injEq, List.length_map]
 by_cases e1 : k1 = k2
 case neg => simp [e1, zm]
 by_cases e2 : r1 = r2
 case neg => simp [e1, e2, zm]
 by_cases e3 : p1 = p2
 case neg => simp [e1, e2, e3, zm]
 by_cases e4 : q1 = q2
 case neg => simp [e1, e2, e3, e4, zm]
 by_cases e5 : c1.length = c2.length
 case neg =>
  have e6 : ¬ (c1.length : Int) = c2.length := by omega
  have e7 : c1 ≠ c2 := fun e => e5 (by rw [e])
  simp [e1, e2, e3, e4, e6, e7, zm]
 simp only [e1, e2, e3, e4, e5, decide_true, Bool.not_true, cond_true, cond_false, Bool.and_true, true_and, Option.bind_some, zw, and_self]
 simp only at h
 refine zgc (l := c1) (m := c2) c2.length (fun x y => decide (x = y)) (bad := fun _ => false) (e := ()) (by omega) (Nat.le_refl _) (fun k x y hx hy hk => ?_) (by simp) (fun hall => ?_) (fun k x y hx hy hk e _ => ?_)
 . simp only [Int.ofNat_lt, hk, decide_true, cond_true, zj, Int.toNat_natCast, hx, hy, Option.bind_some, zg, Int.natCast_nonneg, if_true]
   rw [w64 (by omega) (by omega)]
   by_cases hxy : x = y <;> simp [hxy]
 . have : c1 = c2 := jh e5 fun k x y hx hy hk => by simpa using hall k x y hx hy (by omega)
   simp [this, zm]
 . have : c1 ≠ c2 := by
    rintro rfl
    rw [hx] at hy; cases hy
    simp at e
   simp [this, zm]
theorem zCt {l : List Int} (h : yF (inK .u8) l) : U8s l := fun x hx => zub (h x hx)
end Go.Sx.O
noncomputable section
namespace Go.Sx.O
open Go
def uF (a b : TA) : Bool := @decide (a = b) (Classical.propDecidable _)
theorem sameA_iff {a b : TA} : uF a b = true ↔ a = b := by unfold uF; exact @decide_eq_true_iff _ (Classical.propDecidable _)
theorem zxf {a b : TA} {r : Bool} (h : r = true ↔ a = b) : r = uF a b := by
 rw [Bool.eq_iff_iff, h, sameA_iff]
theorem zbr (a b : TA) (h : a.Cells.length <= 9223372036854775807) : zev a b = some (uF a b) := by
 have key : Tot (zev a b) fun r => (r = true ↔ a = b) := by
  unfold zev zrj zru
  obtain ⟨k1, r1, ⟨p1, q1⟩, c1⟩ := a
  obtain ⟨k2, r2, ⟨p2, q2⟩, c2⟩ := b
  simp only [TA.mk.injEq, Prod.mk.injEq, List.length_map]
  by_cases e1 : k1 = k2
  case neg => simp [e1, zm]
  by_cases e2 : r1 = r2
  case neg => simp [e1, e2, zm]
  by_cases e3 : p1 = p2
  case neg => simp [e1, e2, e3, zm]
  by_cases e4 : q1 = q2
  case neg => simp [e1, e2, e3, e4, zm]
  by_cases e5 : c1.length = c2.length
  case neg =>
   have e6 : ¬ (c1.length : Int) = c2.length := by omega
   have e7 : c1 ≠ c2 := fun e => e5 (by rw [e])
   simp [e1, e2, e3, e4, e6, e7, zm]
  simp only [e1, e2, e3, e4, e5, decide_true, Bool.not_true, cond_true, cond_false, Bool.and_true, true_and, Option.bind_some, zw, and_self]
  simp only at h
  refine zgc (l := c1) (m := c2) c2.length (fun x y => decide (x = y)) (bad := fun _ => false) (e := ()) (by omega) (Nat.le_refl _) (fun k x y hx hy hk => ?_) (by simp) (fun hall => ?_) (fun k x y hx hy hk e _ => ?_)
  . simp only [Int.ofNat_lt, hk, decide_true, cond_true, zj, Int.toNat_natCast, hx, hy, Option.bind_some, zg, Int.natCast_nonneg, if_true]
    rw [w64 (by omega) (by omega)]
    by_cases hxy : x = y <;> simp [hxy]
  . have : c1 = c2 := jh e5 fun k x y hx hy hk => by simpa using hall k x y hx hy (by omega)
    simp [this, zm]
  . have : c1 ≠ c2 := by
     rintro rfl
     rw [hx] at hy; cases hy
     simp at e
    simp [this, zm]
 obtain ⟨r, e, q⟩ := key
 rw [e, zxf q]
def uu (s : (Bool × Bool) × Bool) (a b : TA) : Bool := (!s.1.1 || decide (a.Lens.1 = b.Lens.1)) && ((!s.1.2 || decide (a.Lens.2 = b.Lens.2)) && (!s.2 || uF a b))
def agK (s : (Bool × Bool) × Bool) (a b : TA) (k : Nat) : Option Bool := if k = 0 then (if (s.1.1 && !decide (a.Lens.1 = b.Lens.1)) = true then some false else none) else (if (s.1.2 && !decide (a.Lens.2 = b.Lens.2)) = true then some false else none)
theorem zBd (s : (Bool × Bool) × Bool) (a b : TA) : (match zx (agK s a b) 0 2 with | some r => some r | none => (cond (!s.2) (some true) (some (uF a b)))) = some (uu s a b) := by
 obtain ⟨⟨s1, s2⟩, s3⟩ := s
 have e : zx (agK ((s1, s2), s3) a b) 0 2 = match agK ((s1, s2), s3) a b 0 with | some r => some r | none => match agK ((s1, s2), s3) a b 1 with | some r => some r | none => none := by
  simp only [zx]
  cases agK ((s1, s2), s3) a b 0 with
  | some r => rfl
  | none => cases agK ((s1, s2), s3) a b (0 + 1) <;> rfl
 rw [e]
 by_cases h1 : a.Lens.1 = b.Lens.1 <;> by_cases h2 : a.Lens.2 = b.Lens.2 <;> cases s1 <;> cases s2 <;> cases s3 <;> simp [agK, uu, h1, h2]
theorem zjq (s : (Bool × Bool) × Bool) (a b : TA) (h : a.Cells.length <= 9223372036854775807) : zlz s a b = some (uu s a b) := by
 unfold zlz
 by_cases h0 : (!s.fst.fst && (!s.fst.snd && true) && (!s.snd && true)) = true
 . rw [h0, cond_true]
   simp only [Bool.and_true, Bool.and_eq_true, Bool.not_eq_true'] at h0
   simp [uu, h0.1.1, h0.1.2, h0.2]
 . rw [Bool.not_eq_true] at h0
   rw [h0, cond_false, zbr a b h]
   refine (qx 2 (fun k => (k : Int)) (agK s a b) () (fun k hk => ?_) (by simp) rfl).trans ?_
   . have hk2 : k = 0 \/ k = 1 := by omega
     have hw : IntKind.wrap .i64 ((k : Int) + 1) = ((k + 1 : Nat) : Int) := w64 (by omega) (by omega)
     have hlt : (k : Int) < 2 := by omega
     have n1 : (0 : Int) <= (k : Int) := by omega
     simp only [hlt, decide_true, cond_true, zj, n1, if_true, Int.toNat_natCast, zg, hw]
     rcases hk2 with rfl | rfl
     . cases hs : s.1.1 <;> by_cases e : a.Lens.1 = b.Lens.1 <;> simp [agK, hs, e, zk]
     . cases hs : s.1.2 <;> by_cases e : a.Lens.2 = b.Lens.2 <;> simp [agK, hs, e, zk]
   . simp only [Option.bind_some]
     have e := zBd s a b
     cases hs : zx (agK s a b) 0 2 <;> rw [hs] at e <;> exact e
end Go.Sx.O
end
namespace Go.Sx.O
open Go
theorem zBf {α : Type} {x : Option α} {v : α} (h : Tot x fun r => r = v) : x = some v := by
 obtain ⟨r, e, q⟩ := h
 rw [e, q]
def yG (X : List Int) : List Int := X.filter fun y => decide (0 <= y)
theorem zon {X : List Int} (h : ∀ (j : Nat) y, X[j]? = some y -> 0 <= y) : yG X = X := by
 unfold yG
 rw [List.filter_eq_self]
 intro a ha
 obtain ⟨j, hj⟩ := List.mem_iff_getElem?.1 ha
 simpa using h j a hj
theorem zke (X : List Int) (y : Int) : yG (X ++ [y]) = yG X ++ (if 0 <= y then [y] else []) := by
 unfold yG
 rw [List.filter_append]
 by_cases h : 0 <= y <;> simp [h]
theorem zy9 {X : List Int} {k : Nat} (hk : k < X.length) (hl : X.length <= 1000) :
 (Option.bind (
 lpO (fun (s431 : Int × Int × List Int) =>
 cond (decide (s431.fst < (↑(List.length (List.map (SV.int IntKind.i64) s431.snd.snd)) : Int)))
 (zk ((0 : Int) <= s431.fst /\ s431.fst < (↑(List.length (List.map (SV.int IntKind.i64) s431.snd.snd)) : Int)) (
 zj (s431.snd.snd) ((↑(Int.toNat s431.fst) : Int)) fun x441 =>
 Option.bind (zcx (x441)) fun x442 =>
 cond (!x442)
 (zk ((0 : Int) <= s431.snd.fst /\ s431.snd.fst < (↑(List.length (List.map (SV.int IntKind.i64) s431.snd.snd)) : Int)) (
 zj (s431.snd.snd) ((↑(Int.toNat s431.snd.fst) : Int)) fun _ =>
 zg (IntKind.wrap IntKind.i64 (s431.snd.fst + (1 : Int))) fun x445 =>
 zg (IntKind.wrap IntKind.i64 (s431.fst + (1 : Int))) fun x446 =>
 some (Sum.inl ((x446, x445, List.set s431.snd.snd (Int.toNat s431.snd.fst) x441)))))
 (zg (IntKind.wrap IntKind.i64 (s431.fst + (1 : Int))) fun x447 =>
 some (Sum.inl ((x447, s431.snd))))))
 (some (Sum.inr (Sum.inl ((decide (s431.fst < (↑(List.length (List.map (SV.int IntKind.i64) s431.snd.snd)) : Int)), s431)))))) ((((k + 1 : Nat) : Int), (k : Int), X)))
 (Sum.elim (fun (s429 : Bool × Int × Int × List Int) =>
 zk ((0 : Int) <= s429.snd.snd.fst /\ s429.snd.snd.fst < (↑(List.length (List.map (SV.int IntKind.i64) s429.snd.snd.snd)) : Int)) (
 zk ((1 : Nat) <= List.length (List.map (SV.int IntKind.i64) s429.snd.snd.snd) - Int.toNat s429.snd.snd.fst /\ Int.toNat s429.snd.snd.fst + (List.length (List.map (SV.int IntKind.i64) s429.snd.snd.snd) - Int.toNat s429.snd.snd.fst) <= List.length (List.map (SV.int IntKind.i64) s429.snd.snd.snd)) (
 zk ((0 : Int) <= s429.snd.snd.fst /\ s429.snd.snd.fst <= (↑(List.length (List.take (Int.toNat s429.snd.snd.fst) (List.map (SV.int IntKind.i64) s429.snd.snd.snd) ++ (List.replicate (List.length (List.map (SV.int IntKind.i64) s429.snd.snd.snd) - Int.toNat s429.snd.snd.fst) (SV.int IntKind.i64 (0 : Int)) ++ List.drop (Int.toNat s429.snd.snd.fst + (List.length (List.map (SV.int IntKind.i64) s429.snd.snd.snd) - Int.toNat s429.snd.snd.fst)) (List.map (SV.int IntKind.i64) s429.snd.snd.snd)))) : Int)) (
 some (Sum.inr (Sum.inr ((List.drop (Int.toNat (0 : Int)) (List.take (Int.toNat s429.snd.snd.fst) (List.take (Int.toNat s429.snd.snd.fst) s429.snd.snd.snd ++ (List.replicate (List.length (List.map (SV.int IntKind.i64) s429.snd.snd.snd) - Int.toNat s429.snd.snd.fst) (0 : Int) ++ List.drop (Int.toNat s429.snd.snd.fst + (List.length (List.map (SV.int IntKind.i64) s429.snd.snd.snd) - Int.toNat s429.snd.snd.fst)) s429.snd.snd.snd))), (0 : Int))))))))) some)) = (some (Sum.inr (Sum.inr (X.take k ++ yG (X.drop (k + 1)), 0))) : Option (Int ⊕ ((Bool × Int) ⊕ (List Int × Int)))) := by
 refine zBf ?_
 rw [zw]
 refine Tot.count (X.length - (k + 1)) (fun m s => s.1 = ((k + 1 + m : Nat) : Int) /\ ∃ i : Nat, s.2.1 = (i : Int) /\ i <= k + m /\ s.2.2.length = X.length /\ s.2.2.take i = X.take k ++ yG ((X.take (k + 1 + m)).drop (k + 1)) /\ s.2.2.drop (k + 1 + m) = X.drop (k + 1 + m)) (fun m s hm hP => ?_) ⟨rfl, k, rfl, Nat.le_refl _, rfl, ?_, rfl⟩
 . obtain ⟨s1, s2, s3⟩ := s
   obtain ⟨rfl, i, rfl, hi, hlen, ht, hd⟩ := hP
   simp only at hlen ht hd
   simp only [List.length_map, hlen]
   by_cases hlt : k + 1 + m < X.length
   . have hlt' : ((k + 1 + m : Nat) : Int) < (X.length : Int) := by omega
     obtain ⟨y, hy⟩ := zv hlt
     have hy3 : s3[k + 1 + m]? = some y := by
      have := congrArg (fun l => l[0]?) hd
      simpa [List.getElem?_drop, hy] using this
     obtain ⟨z, hz⟩ := zv (l := s3) (i := i) (by omega)
     have n1 : (0 : Int) <= ((k + 1 + m : Nat) : Int) := by omega
     have n2 : (0 : Int) <= (i : Int) := by omega
     have n3 : (i : Int) < (X.length : Int) := by omega
     have w1 : IntKind.wrap .i64 (((k + 1 + m : Nat) : Int) + 1) = ((k + 1 + (m + 1) : Nat) : Int) := w64 (by omega) (by omega)
     have w2 : IntKind.wrap .i64 ((i : Int) + 1) = ((i + 1 : Nat) : Int) := w64 (by omega) (by omega)
     have hX : (X.take (k + 1 + (m + 1))).drop (k + 1) = (X.take (k + 1 + m)).drop (k + 1) ++ [y] := by
      rw [show k + 1 + (m + 1) = (k + 1 + m) + 1 by omega, List.take_add_one, hy, List.drop_append_of_le_length (by simp; omega)]; rfl
     have hdd : s3.drop (k + 1 + (m + 1)) = X.drop (k + 1 + (m + 1)) := by
      rw [show k + 1 + (m + 1) = (k + 1 + m) + 1 by omega, <- List.drop_drop (i := 1) (j := k + 1 + m), hd, List.drop_drop]
     simp only [hlt', decide_true, cond_true, zk, n1, n2, n3, and_self, if_true, zj, Int.toNat_natCast, hy3, hz, zcx, Option.bind_some, zg, w1, w2]
     by_cases hn : y < 0
     . simp only [hn, decide_true, Bool.not_true, cond_false, zm, Sum.elim_inl]
       refine ⟨by omega, trivial, i, rfl, by omega, hlen, ?_, hdd⟩
       rw [hX, zke, if_neg (by omega), List.append_nil, ht]
     . simp only [hn, decide_false, Bool.not_false, cond_true, zm, Sum.elim_inl]
       refine ⟨by omega, trivial, i + 1, rfl, by omega, by simp [hlen], ?_, ?_⟩
       . rw [hX, zke, if_pos (by omega), <- List.append_assoc, <- ht, List.take_add_one, List.take_set_of_le (Nat.le_refl _)]
         simp [show i < s3.length by omega]
       . rw [List.drop_set_of_lt (by omega), hdd]
   . have hlt' : ¬ ((k + 1 + m : Nat) : Int) < (X.length : Int) := by omega
     have he : k + 1 + m = X.length := by omega
     simp only [hlt', decide_false, cond_false, zm, Sum.elim_inr, Sum.elim_inl]
     have n2 : (0 : Int) <= (i : Int) := by omega
     have n3 : (i : Int) < (X.length : Int) := by omega
     have hti : (s3.take i).length = i := by simp; omega
     have q : List.take i (List.take i s3 ++ (List.replicate (X.length - i) (0 : Int) ++ List.drop (i + (X.length - i)) s3)) = List.take i s3 := by
      rw [List.take_append_of_le_length (by omega), List.take_of_length_le (by omega)]
     have l1 : (i : Int) <= ((List.length (List.take i (List.map (SV.int IntKind.i64) s3) ++ (List.replicate (X.length - i) (SV.int IntKind.i64 (0 : Int)) ++ List.drop (i + (X.length - i)) (List.map (SV.int IntKind.i64) s3))) : Nat) : Int) := by
      simp; omega
     simp only [List.length_map, hlen, zk, Int.toNat_natCast, n2, n3, l1, and_self, if_true, true_and]
     rw [if_pos (by omega), zm, q, ht, he, List.take_of_length_le (Nat.le_refl _)]
     simp
 . simp [yG]
theorem zhr {τ : Type} {f : Nat -> Option τ} {r : τ} : ∀ {n m : Nat}, zx f m n = some r -> ∃ k, m <= k /\ k < m + n /\ f k = some r /\ ∀ j, m <= j -> j < k -> f j = none
 | 0, m, h => by cases h
 | n + 1, m, h => by
   simp only [zx] at h
   cases hf : f m with
   | some q =>
     rw [hf] at h
     cases h
     exact ⟨m, Nat.le_refl _, by omega, hf, fun j a b => by omega⟩
   | none =>
     rw [hf] at h
     obtain ⟨k, k1, k2, k3, k4⟩ := zhr h
     refine ⟨k, by omega, by omega, k3, fun j a b => ?_⟩
     by_cases e : j = m
     . subst e; exact hf
     . exact k4 j (by omega) b
def dlK (X : List Int) (k : Nat) : Option (List Int × Int) := match X[k]? with | some x => if x < 0 then some (X.take k ++ yG (X.drop (k + 1)), 0) else none | none => none
theorem zBm (X : List Int) : (match zx (dlK X) 0 X.length with | some r => some r | none => some (X, (0 : Int))) = some (yG X, 0) := by
 cases hs : zx (dlK X) 0 X.length with
 | none =>
   have := scan_none.1 hs
   show some (X, (0 : Int)) = _
   rw [zon]
   intro j y hj
   have hlt : j < X.length := (List.getElem?_eq_some_iff.1 hj).1
   have := this j (by omega) (by omega)
   unfold dlK at this
   rw [hj] at this
   simp only at this
   split at this
   . cases this
   . omega
 | some r =>
   obtain ⟨k, _, h2, h3, h4⟩ := zhr hs
   obtain ⟨x, hx⟩ := zv (l := X) (i := k) (by omega)
   unfold dlK at h3
   rw [hx] at h3
   simp only at h3
   split at h3
   case isFalse => cases h3
   rename_i hneg
   cases h3
   have e : X = X.take k ++ (x :: X.drop (k + 1)) := by
    have := List.getElem?_eq_some_iff.1 hx
    obtain ⟨hl, rfl⟩ := this
    rw [List.getElem_cons_drop, List.take_append_drop]
   have hp : yG (X.take k) = X.take k := zon fun j y hj => by
    rw [List.getElem?_take] at hj
    split at hj
    case isFalse => cases hj
    rename_i hjk
    have := h4 j (by omega) hjk
    unfold dlK at this
    rw [hj] at this
    simp only at this
    split at this
    . cases this
    . omega
   show some (X.take k ++ yG (X.drop (k + 1)), (0 : Int)) = some (yG X, 0)
   conv => rhs; rw [e]
   unfold yG at hp ⊢
   rw [List.filter_append, hp, List.filter_cons]
   simp [show ¬ 0 <= x by omega]
open Go
theorem qW {p : TP} {w : List TW} (h : (qB p w).2 = 0) : (wJ p).2.2 = 0 /\ w.length = p.Vars.length /\ qB p w = (0, 0) /\ ∀ (k : Nat) x v, w[k]? = some x -> p.Vars[k]? = some v -> x.Name = v.Name /\ wi x.Value = 0 /\ x.Value.Kind = v.Type_.Kind /\ x.Value.Rank = v.Type_.Rank := by
 unfold qB at h ⊢
 by_cases hk : (wJ p).2.2 = 0
 case neg => rw [if_neg hk] at h; exact absurd h hk
 rw [if_pos hk] at h ⊢
 by_cases hl : w.length = p.Vars.length
 case neg => rw [if_neg hl] at h; exact absurd h (by decide)
 rw [if_pos hl] at h ⊢
 cases hs : zx (ut p w) 0 w.length with
 | some r =>
   rw [hs] at h
   have : r.2 ≠ 0 := zjt (P := fun r => r.2 ≠ 0) (fun i r hr => by
    unfold ut at hr
    split at hr
    . split at hr
      . split at hr
        . split at hr
          . split at hr
            . cases hr
            . cases hr; exact (by decide : (22 : Int) ≠ 0)
          . cases hr; exact (by decide : (21 : Int) ≠ 0)
        . cases hr; assumption
      . cases hr; exact (by decide : (24 : Int) ≠ 0)
    . cases hr) hs
   exact absurd h this
 | none =>
   refine ⟨hk, hl, rfl, fun k x v hx hv => ?_⟩
   have hlt : k < w.length := (List.getElem?_eq_some_iff.1 hx).1
   have := scan_none.1 hs k (by omega) (by omega)
   unfold ut at this
   rw [hx, hv] at this
   simp only at this
   by_cases c1 : x.Name = v.Name
   case neg => rw [if_neg c1] at this; cases this
   rw [if_pos c1] at this
   by_cases c2 : wi x.Value = 0
   case neg => rw [if_neg c2] at this; cases this
   rw [if_pos c2] at this
   by_cases c3 : x.Value.Kind = v.Type_.Kind
   case neg => rw [if_neg c3] at this; cases this
   rw [if_pos c3] at this
   by_cases c4 : x.Value.Rank = v.Type_.Rank
   case neg => rw [if_neg c4] at this; cases this
   exact ⟨c1, c2, c3, c4⟩
end Go.Sx.O
noncomputable section
namespace Go.Sx.O
open Go
def ftK (p : TP) (l : List (List TW)) (k : Nat) : Option Int := match l[k]? with | some w => if (qB p w).2 = 0 then none else some (qB p w).2 | none => none
theorem zdu {p : TP} (h : PolIn p) (l : List (List TW)) (hl : l.length <= 1000) (hw : ∀ w ∈ l, w.length <= 1000000) :
 za4 p l = some (if (wJ p).2.2 = 0 then (match zx (ftK p l) 0 l.length with | some e => e | none => 0) else (wJ p).2.2) := by
 unfold za4
 rw [za5 h]
 simp only [Option.bind_some]
 by_cases hk : (wJ p).2.2 = 0
 case neg => simp [hk]
 simp only [hk, decide_true, Bool.not_true, cond_false, if_true]
 refine (qx l.length (fun k => (k : Int)) (ftK p l) () (fun k hk' => ?_) (by simp) rfl).trans ?_
 . obtain ⟨w, hx⟩ := zv hk'
   have hlt : (k : Int) < (l.length : Int) := by omega
   have hwr : IntKind.wrap .i64 ((k : Int) + 1) = ((k + 1 : Nat) : Int) := w64 (by omega) (by omega)
   have n1 : (0 : Int) <= (k : Int) := by omega
   simp only [List.length_map, hlt, decide_true, cond_true, zj, n1, if_true, Int.toNat_natCast, hx, Option.bind_some, zju h w (hw w (List.mem_of_getElem? hx)), zg, hwr, ftK]
   by_cases e : (qB p w).2 = 0 <;> simp [e]
 . cases zx (ftK p l) 0 l.length <;> rfl
theorem zwk {p : TP} {w : List TW} (h : ¬ (wJ p).2.2 = 0) : (qB p w).2 = (wJ p).2.2 := by unfold qB; rw [if_neg h]
theorem ztl {p : TP} (h : PolIn p) : za4 p [] = some (wJ p).2.2 := by
 rw [zdu h [] (by simp) (by simp)]
 by_cases hk : (wJ p).2.2 = 0 <;> simp [hk, zx]
theorem zhm {p : TP} (h : PolIn p) {a b : List TW} (ha : a.length <= 1000000) (hb : b.length <= 1000000) : za4 p [a, b] = some (if (qB p a).2 = 0 then (qB p b).2 else (qB p a).2) := by
 rw [zdu h [a, b] (by simp) (by simp [ha, hb])]
 by_cases hk : (wJ p).2.2 = 0
 . by_cases e : (qB p a).2 = 0 <;> by_cases e2 : (qB p b).2 = 0 <;> simp [hk, zx, ftK, e, e2]
 . simp [hk, zwk hk]
def za6 (p : TP) (o : Int) : List ((Bool × Bool) × Bool) := p.Vars.map fun v => siC p.Lattice v.Type_ o
def zlv (p : TP) (o : Int) : List ((Bool × Bool) × Bool) × Int := if (wJ p).2.2 = 0 then (if qk p.Lattice o = true then (za6 p o, 0) else ([], 7)) else ([], (wJ p).2.2)
theorem zcd {l : TL} {o : Int} (h : ¬ qk l o = true) : o < 0 \/ (l.Names.length : Int) <= o := by
 rcases Int.lt_or_le o 0 with g | g
 . exact .inl g
 . rcases Int.lt_or_le o (l.Names.length : Int) with g2 | g2
   . exact absurd (labB_iff.2 ⟨g, g2⟩) h
   . exact .inr g2
theorem zk7 {p : TP} (h : PolIn p) (o : Int) : zlp p o = some (zlv p o) := by
 unfold zlp zlv
 rw [ztl h]
 by_cases hk : (wJ p).2.2 = 0
 case neg => simp [hk]
 simp only [Option.bind_some, hk, decide_true, Bool.not_true, cond_false, if_true]
 unfold zr5
 simp only [List.length_map]
 by_cases ho : qk p.Lattice o = true
 case neg =>
  rcases zcd ho with g | g
  . simp [g, ho]
  . by_cases g2 : o < 0 <;> simp [g, g2, ho]
 obtain ⟨o0, o1⟩ := labB_iff.1 ho
 have c1 : ¬ o < 0 := by omega
 have c2 : ¬ (p.Lattice.Names.length : Int) <= o := by omega
 obtain ⟨h32, hgood⟩ := uY hk
 simp only [c1, c2, ho, decide_false, cond_false, if_true]
 refine (congrArg (fun x => Option.bind x fun y => some y) (yr p.Vars.length (fun k => ((k : Int), (p.Vars.take k).map fun v => siC p.Lattice v.Type_ o)) (za6 p o) (fun k hk' => ?_) ?_ rfl)).trans rfl
 . obtain ⟨v, hv⟩ := zv hk'
   have hlt : (k : Int) < (p.Vars.length : Int) := by omega
   have hwr : IntKind.wrap .i64 ((k : Int) + 1) = ((k + 1 : Nat) : Int) := w64 (by omega) (by omega)
   have n1 : (0 : Int) <= (k : Int) := by omega
   have hlen : ((p.Vars.take k).map fun v => siC p.Lattice v.Type_ o).length = k := by simp; omega
   have hside : (k + 1) * 3 <= 70368744177664 := by omega
   simp only [hlt, decide_true, cond_true, zj, n1, if_true, Int.toNat_natCast, hv, Option.bind_some, uq h.lat (hgood v (List.mem_of_getElem? hv)) ho, Bool.not_true, cond_false, zlh, zg, hwr, hlen, zk, hside]
   rw [List.take_add_one, hv]
   simp [siC]
 . simp [za6]
end Go.Sx.O
end
noncomputable section
namespace Go.Sx.O
open Go
def vK (p : TP) (a b : List TW) (o : Int) (i : Nat) : Int := match p.Vars[i]?, a[i]?, b[i]? with
 | some v, some x, some y => if uu (siC p.Lattice v.Type_ o) x.Value y.Value = true then -1 else (i : Int)
 | _, _, _ => -1
def vL (p : TP) (a b : List TW) (o : Int) (n : Nat) : List Int := (List.range n).map (vK p a b o)
def zd8 (p : TP) (a b : List TW) (o : Int) : List Int × Int :=
 if (if (qB p a).2 = 0 then (qB p b).2 else (qB p a).2) = 0 then (if qk p.Lattice o = true then (yG (vL p a b o p.Vars.length), 0) else ([], 7)) else ([], if (qB p a).2 = 0 then (qB p b).2 else (qB p a).2)
theorem zn2 {τ : Type} {r : τ} {k1 : Unit -> Option τ} (h : k1 () = some r) : Option.bind (lpO (fun (_ : Unit) => (some (Sum.inr (Sum.inl (()))) : Option (Unit ⊕ (Unit ⊕ τ)))) (())) (Sum.elim k1 some) = some r := by
 refine (yr 0 (fun _ => ()) () (fun k hk => absurd hk (Nat.not_lt_zero k)) rfl rfl).trans h
theorem zdy {p : TP} {w : List TW} (h : (qB p w).2 = 0) {x : TW} (hx : x ∈ w) : x.Value.Cells.length <= 400 := by
 obtain ⟨_, hl, _, hf⟩ := qW h
 obtain ⟨k, hk⟩ := List.mem_iff_getElem?.1 hx
 have hlt : k < w.length := (List.getElem?_eq_some_iff.1 hk).1
 obtain ⟨v, hv⟩ := zv (l := p.Vars) (i := k) (by omega)
 exact zy5 (hf k x v hk hv).2.1
theorem zzz {p : TP} {a b : List TW} {o : Int} {k : Nat} : vL p a b o (k + 1) = vL p a b o k ++ [vK p a b o k] := by
 unfold vL
 rw [List.range_succ, List.map_append]; rfl
theorem zwa {p : TP} {a b : List TW} {o : Int} {k : Nat} : (vL p a b o k).length = k := by simp [vL]
theorem zr2 {p : TP} {a b : List TW} {o : Int} {k : Nat} {v : TV} {x y : TW} (hv : p.Vars[k]? = some v) (hx : a[k]? = some x) (hy : b[k]? = some y) (hc : x.Value.Cells.length <= 9223372036854775807) :
 zlm (k : Int) (siC p.Lattice v.Type_ o) a b = some (vK p a b o k) := by
 unfold zlm vK
 have n1 : (0 : Int) <= (k : Int) := by omega
 simp only [zj, n1, if_true, Int.toNat_natCast, hx, hy, Option.bind_some, zjq _ _ _ hc, hv]
 by_cases e : uu (siC p.Lattice v.Type_ o) x.Value y.Value = true <;> simp [e]
theorem zia {p : TP} (h : PolIn p) {a b : List TW} (ha : a.length <= 1000000) (hb : b.length <= 1000000) (o : Int) : zly p a b o = some (zd8 p a b o) := by
 unfold zly zd8
 rw [zhm h ha hb]
 simp only [Option.bind_some]
 by_cases hf : (if (qB p a).2 = 0 then (qB p b).2 else (qB p a).2) = 0
 case neg => simp only [hf, decide_false, Bool.not_false, cond_true, if_false]
 have hfa : (qB p a).2 = 0 := by
  by_cases e : (qB p a).2 = 0
  . exact e
  . rw [if_neg e] at hf; exact hf
 have hfb : (qB p b).2 = 0 := by rwa [if_pos hfa] at hf
 obtain ⟨hk, hla, _, _⟩ := qW hfa
 obtain ⟨_, hlb, _, _⟩ := qW hfb
 obtain ⟨h32, hgood⟩ := uY hk
 simp only [hf, decide_true, Bool.not_true, cond_false, if_true]
 by_cases ho : qk p.Lattice o = true
 case neg =>
  rw [if_neg ho]
  rcases zcd ho with g | g
  . simp only [g, decide_true, cond_true]
    exact zn2 rfl
  . by_cases g2 : o < 0
    . simp only [g2, decide_true, cond_true]
      exact zn2 rfl
    . simp only [g2, decide_false, cond_false, List.length_map, g, decide_true, cond_true]
      exact zn2 rfl
 obtain ⟨o0, o1⟩ := labB_iff.1 ho
 have c1 : ¬ o < 0 := by omega
 have c2 : ¬ (p.Lattice.Names.length : Int) <= o := by omega
 simp only [List.length_map, c1, c2, ho, decide_false, cond_false, if_true]
 refine (yr p.Vars.length (fun k => ((k : Int), vL p a b o k)) (false, ((p.Vars.length : Int), vL p a b o p.Vars.length)) (fun k hk' => ?_) (by simp) rfl).trans ?_
 . obtain ⟨v, hv⟩ := zv hk'
   obtain ⟨x, hx⟩ := zv (l := a) (i := k) (by omega)
   obtain ⟨y, hy⟩ := zv (l := b) (i := k) (by omega)
   have hcx := zdy hfa (List.mem_of_getElem? hx)
   have hlt : (k : Int) < (p.Vars.length : Int) := by omega
   have hwr : IntKind.wrap .i64 ((k : Int) + 1) = ((k + 1 : Nat) : Int) := w64 (by omega) (by omega)
   have n1 : (0 : Int) <= (k : Int) := by omega
   have hside : (k + 1) * 8 <= 70368744177664 := by omega
   simp only [hlt, decide_true, cond_true, zj, n1, if_true, Int.toNat_natCast, hv, Option.bind_some, uq h.lat (hgood v (List.mem_of_getElem? hv)) ho, Bool.not_true, cond_false]
   have e1 : ((axC p.Lattice v.Type_ o, up p.Lattice v.Type_.Data.toNat o.toNat) : (Bool × Bool) × Bool) = siC p.Lattice v.Type_ o := rfl
   rw [e1, zr2 hv hx hy (by omega)]
   simp only [Option.bind_some, zg, hwr, zwa, zk, hside, if_true, zzz]
 . simp only
   generalize hX : vL p a b o p.Vars.length = X
   have hXl : X.length <= 1000 := by rw [<- hX, zwa]; omega
   refine (qx X.length (fun k => (k : Int)) (dlK X) (false, (X.length : Int)) (fun k hk' => ?_) (by simp) rfl).trans ?_
   . obtain ⟨x, hx⟩ := zv hk'
     have hlt : (k : Int) < (X.length : Int) := by omega
     have hwr : IntKind.wrap .i64 ((k : Int) + 1) = ((k + 1 : Nat) : Int) := w64 (by omega) (by omega)
     have n1 : (0 : Int) <= (k : Int) := by omega
     have n2 : ¬ (k : Int) = -1 := by omega
     have ht := zy9 hk' hXl
     simp only [hlt, decide_true, cond_true, n1, zj, true_and, if_true, Int.toNat_natCast, hx, zcx, Option.bind_some, zg, hwr, n2, decide_false, cond_false, dlK]
     by_cases e : x < 0
     . simp only [e, decide_true, cond_true, if_true]
       simp only [List.length_map] at ht
       unfold zk at ht ⊢
       rw [if_pos (by first | trivial | exact ⟨n1, hlt⟩)]
       exact ht
     . simp only [e, decide_false, cond_false, if_false]
       unfold zk
       rw [if_pos (by first | trivial | exact ⟨n1, hlt⟩)]
   . have := zBm X
     cases hs : zx (dlK X) 0 X.length <;> rw [hs] at this <;> exact this
theorem zi9 {p : TP} (h : PolIn p) {a b : List TW} (ha : a.length <= 1000000) (hb : b.length <= 1000000) (o : Int) : zik p a b o = some (decide ((zd8 p a b o).2 = 0) && decide ((zd8 p a b o).1.length = 0), (zd8 p a b o).2) := by
 unfold zik
 rw [zia h ha hb]
 by_cases e : (zd8 p a b o).2 = 0 <;> simp [e]
theorem zsk (p : TP) (a b : List TW) (hu : U8s p.Lattice.Up) : ∃ r, Fz4 p a b = some r /\ (r = false -> PolIn p /\ a.length <= 40 /\ b.length <= 40) := by
 obtain ⟨x, hx, hf⟩ := zwx p hu
 obtain ⟨y, hy, hg⟩ := zj9 a
 obtain ⟨z, hz, hh⟩ := zj9 b
 unfold Fz4
 rw [hx, hy, hz]
 cases x
 . cases y
   . exact ⟨z, rfl, fun e => ⟨hf rfl, (hg rfl).1, (hh e).1⟩⟩
   . exact ⟨true, rfl, fun e => by cases e⟩
 . exact ⟨true, rfl, fun e => by cases e⟩
end Go.Sx.O
end
namespace Go.Sx.O
open Go
def yd (s : (Bool × Bool) × Bool) (l m : Int × Int) : Int × Int := (if s.1.1 = true then l.1 else m.1, if s.1.2 = true then l.2 else m.2)
theorem zvg {σ : Type} (s : (Bool × Bool) × Bool) (l m : Int × Int) {k1 : Int × Int -> Option σ} :
 (Option.bind (lpO (fun (s612 : Int × Int × Int) =>
 cond (decide (s612.fst < (2 : Int)))
 (zj ([s.fst.fst, s.fst.snd]) (s612.fst) fun x615 =>
 cond (!x615)
 (zk ((0 : Int) <= s612.fst /\ s612.fst < (↑(2 : Nat) : Int)) (
 zj ([m.fst, m.snd]) ((↑(Int.toNat s612.fst) : Int)) fun x617 =>
 zk ((0 : Int) <= s612.fst /\ s612.fst < (↑(2 : Nat) : Int)) (
 zj ([s612.snd.fst, s612.snd.snd]) ((↑(Int.toNat s612.fst) : Int)) fun _ =>
 zg (IntKind.wrap IntKind.i64 (s612.fst + (1 : Int))) fun x619 =>
 some (Sum.inl ((x619, xf s612.snd (Int.toNat s612.fst) x617))))))
 (zg (IntKind.wrap IntKind.i64 (s612.fst + (1 : Int))) fun x620 =>
 some (Sum.inl ((x620, s612.snd)))))
 (some (Sum.inr (Sum.inl (s612.snd) : (Int × Int) ⊕ σ)))) (((0 : Int), l)))
 (Sum.elim k1 some)) = k1 (yd s l m) := by
 obtain ⟨⟨s1, s2⟩, s3⟩ := s
 obtain ⟨l1, l2⟩ := l
 obtain ⟨m1, m2⟩ := m
 refine yr 2 (fun k => ((k : Int), (if k = 0 then l1 else if s1 = true then l1 else m1, if k < 2 then l2 else if s2 = true then l2 else m2))) (yd ((s1, s2), s3) (l1, l2) (m1, m2)) (fun k hk => ?_) (by simp [yd]) rfl
 have hk2 : k = 0 \/ k = 1 := by omega
 rcases hk2 with rfl | rfl
 . cases s1 <;> simp [zj, zk, zg, xf, show IntKind.wrap .i64 1 = 1 by decide]
 . cases s2 <;> simp [zj, zk, zg, xf, show IntKind.wrap .i64 2 = 2 by decide] <;> cases s1 <;> simp
theorem zj0 {r : Int} {l : Int × Int} (h : shC r l = 0) : 0 <= l.1 /\ l.1 <= 400 /\ 0 <= l.2 /\ l.2 <= 400 := by
 unfold shC at h
 repeat' split at h
 all_goals omega
theorem zdw {a : TA} (h : wi a = 0) : shC a.Rank a.Lens = 0 /\ (a.Cells.length : Int) = qt a.Rank a.Lens := by
 unfold wi at h
 split at h
 . split at h
   . rename_i h1
     split at h
     . rename_i h2; exact ⟨h1, h2⟩
     . omega
   . rename_i h1; exact absurd h h1
 . omega
open Go
open Go
def yQ (r : Int) (l x : Int × Int) : Int × Int :=
 if r = 0 then (if x.1 = 0 /\ x.2 = 0 then (0, 0) else (0, 4))
 else if r = 1 then (if 0 <= x.1 /\ x.1 < l.1 /\ x.2 = 0 then (x.1, 0) else (0, 4))
 else (if (0 <= x.1 /\ x.1 < l.1) /\ (0 <= x.2 /\ x.2 < l.2) then (x.1 * l.2 + x.2, 0) else (0, 4))
theorem zl1 {r : Int} {l : Int × Int} (h : shC r l = 0) : r = 0 \/ r = 1 \/ r = 2 := by
 unfold shC at h
 repeat' split at h
 all_goals omega
theorem zGu {a b c d : Int} (h0 : 0 <= a) (h1 : a < c) (h2 : 0 <= b) (h3 : b < d) : 0 <= a * d + b /\ a * d + b < c * d := by
 have e1 : 0 <= a * d := Int.mul_nonneg h0 (by omega)
 have e2 : (a + 1) * d <= c * d := Int.mul_le_mul_of_nonneg_right (by omega) (by omega)
 rw [Int.add_mul, Int.one_mul] at e2
 omega
theorem zDf {r : Int} {l x : Int × Int} (h : shC r l = 0) (e : (yQ r l x).2 = 0) : 0 <= (yQ r l x).1 /\ (yQ r l x).1 < qt r l := by
 unfold yQ at e ⊢
 unfold qt
 rcases zl1 h with rfl | rfl | rfl
 . simp only [if_true] at e ⊢
   split at e
   . rename_i g; simp [g]
   . exact absurd e (by decide)
 . simp (config := { decide := true }) only [if_false, if_true] at e ⊢
   split at e
   . rename_i g; rw [if_pos g]; exact ⟨g.1, g.2.1⟩
   . exact absurd e (by decide)
 . simp (config := { decide := true }) only [if_false, if_true] at e ⊢
   split at e
   . rename_i g; rw [if_pos g]; exact zGu g.1.1 g.1.2 g.2.1 g.2.2
   . exact absurd e (by decide)
theorem zo9 {n : Int} (h0 : -1000000 <= n) (h1 : n <= 1000000) : IntKind.wrap .i64 n = n := w64 (by omega) (by omega)
theorem zih {r : Int} {l : Int × Int} (h : shC r l = 0) (x : Int × Int) : zl6 r l x = some (yQ r l x) := by
 obtain ⟨a0, a1, b0, b1⟩ := zj0 h
 obtain ⟨l1, l2⟩ := l
 obtain ⟨x1, x2⟩ := x
 simp only at a0 a1 b0 b1
 have w0 : IntKind.wrap .i64 0 = 0 := by decide
 unfold zl6 yQ
 rw [uy, h]
 simp only [Option.bind_some, decide_true, Bool.not_true, cond_false]
 have hw1 : IntKind.wrap .i64 ((0 : Int) + 1) = 1 := by decide
 have hw2 : IntKind.wrap .i64 ((1 : Int) + 1) = 2 := by decide
 rcases zl1 h with rfl | rfl | rfl
 . by_cases c1 : x1 < 0
   . have : ¬ x1 = 0 := by omega
     rw [zL]; simp [zj, c1, this]
   by_cases c2 : 1 <= x1
   . have : ¬ x1 = 0 := by omega
     rw [zL]; simp [zj, c1, c2, this]
   have : x1 = 0 := by omega
   subst this
   rw [zL]
   simp only [zj, zg, cond_true, if_true, Int.toNat_zero, List.getElem?_cons_zero, Option.bind_some, w0, hw1, Sum.elim_inl, Int.zero_mul, Int.add_zero, show decide ((0 : Int) < 2) = true by decide, show decide ((0 : Int) < 0) = false by decide, show decide ((1 : Int) <= 0) = false by decide, cond_false, show (0 : Int) <= 0 from Int.le_refl 0]
   by_cases d1 : x2 < 0
   . have : ¬ x2 = 0 := by omega
     rw [zL]; simp [d1, this]
   by_cases d2 : 1 <= x2
   . have : ¬ x2 = 0 := by omega
     rw [zL]; simp [d1, d2, this]
   have : x2 = 0 := by omega
   subst this
   rw [zL]
   simp only [cond_true, if_true, show (1 : Int).toNat = 1 from rfl, List.getElem?_cons_zero, List.getElem?_cons_succ, Option.bind_some, w0, hw2, Sum.elim_inl, Int.zero_mul, Int.add_zero, show decide ((1 : Int) < 2) = true by decide, show decide ((1 : Int) < 0) = false by decide, show decide ((0 : Int) < 0) = false by decide, show decide ((1 : Int) <= 0) = false by decide, cond_false, show (0 : Int) <= 1 by decide]
   rw [zL]
   simp
 . by_cases c1 : x1 < 0
   . have : ¬ 0 <= x1 := by omega
     rw [zL]; simp [zj, zk, c1, this]
   by_cases c2 : l1 <= x1
   . have : ¬ x1 < l1 := by omega
     rw [zL]; simp [zj, zk, c1, c2, this]
   have hx := zo9 (n := x1) (by omega) (by omega)
   rw [zL]
   simp only [zj, zk, zg, cond_true, if_true, Int.toNat_zero, List.getElem?_cons_zero, Option.bind_some, w0, zgk, hx, Sum.elim_inl, Int.zero_mul, Int.zero_add, c1, c2, decide_false, show decide ((0 : Int) < 2) = true by decide, show decide ((0 : Int) < 1) = true by decide, cond_false, show (0 : Int) <= 0 from Int.le_refl 0, show (0 : Int) < ((2 : Nat) : Int) by decide, and_self, show ((0 : Nat) : Int) = 0 from rfl]
   by_cases d1 : x2 < 0
   . have : ¬ x2 = 0 := by omega
     rw [zL]; simp [d1, this]
   by_cases d2 : 1 <= x2
   . have : ¬ x2 = 0 := by omega
     rw [zL]; simp [d1, d2, this]
   have : x2 = 0 := by omega
   subst this
   rw [zL]
   have e1 : 0 <= x1 := by omega
   have e2 : x1 < l1 := by omega
   simp only [cond_true, if_true, show (1 : Int).toNat = 1 from rfl, List.getElem?_cons_zero, List.getElem?_cons_succ, Option.bind_some, hx, hw2, Sum.elim_inl, Int.mul_one, Int.add_zero, show decide ((1 : Int) < 2) = true by decide, show decide ((1 : Int) < 1) = false by decide, show decide ((0 : Int) < 0) = false by decide, show decide ((1 : Int) <= 0) = false by decide, cond_false, show (0 : Int) <= 1 by decide]
   rw [zL]
   simp [e1, e2]
 . by_cases c1 : x1 < 0
   . have : ¬ 0 <= x1 := by omega
     rw [zL]; simp [zj, zk, c1, this]
   by_cases c2 : l1 <= x1
   . have : ¬ x1 < l1 := by omega
     rw [zL]; simp [zj, zk, c1, c2, this]
   have hx := zo9 (n := x1) (by omega) (by omega)
   rw [zL]
   simp only [zj, zk, zg, cond_true, if_true, Int.toNat_zero, List.getElem?_cons_zero, Option.bind_some, w0, zgk, hx, Sum.elim_inl, Int.zero_mul, Int.zero_add, c1, c2, decide_false, show decide ((0 : Int) < 2) = true by decide, cond_false, show (0 : Int) <= 0 from Int.le_refl 0, show (0 : Int) < ((2 : Nat) : Int) by decide, and_self, show ((0 : Nat) : Int) = 0 from rfl]
   by_cases d1 : x2 < 0
   . have : ¬ 0 <= x2 := by omega
     rw [zL]; simp [d1, this]
   by_cases d2 : l2 <= x2
   . have : ¬ x2 < l2 := by omega
     rw [zL]; simp [d1, d2, this]
   have e1 : 0 <= x1 := by omega
   have e2 : x1 < l1 := by omega
   have e3 : 0 <= x2 := by omega
   have e4 : x2 < l2 := by omega
   have m1 := zh8 (a := x1) (b := l2) (by omega) (by omega) (by omega) (by omega)
   have hy := zo9 (n := x1 * l2) (by omega) (by omega)
   have hz := zo9 (n := x1 * l2 + x2) (by omega) (by omega)
   rw [zL]
   simp only [cond_true, if_true, show (1 : Int).toNat = 1 from rfl, show ((1 : Nat) : Int) = 1 from rfl, List.getElem?_cons_zero, List.getElem?_cons_succ, Option.bind_some, hy, hz, hw2, Sum.elim_inl, d1, d2, decide_false, show decide ((1 : Int) < 2) = true by decide, cond_false, show (0 : Int) <= 1 by decide, show (1 : Int) < ((2 : Nat) : Int) by decide, and_self]
   rw [zL]
   simp [e1, e2, e3, e4]
def atC (a : TA) (x : Int × Int) : Int := if (yQ a.Rank a.Lens x).2 = 0 then a.Cells.getD (yQ a.Rank a.Lens x).1.toNat 0 else 0
theorem zBh {a : TA} (h : wi a = 0) {x : Int × Int} (e : (yQ a.Rank a.Lens x).2 = 0) : ∃ v, a.Cells[(yQ a.Rank a.Lens x).1.toNat]? = some v /\ atC a x = v /\ 0 <= (yQ a.Rank a.Lens x).1 := by
 obtain ⟨sh, hl⟩ := zdw h
 obtain ⟨h0, h1⟩ := zDf sh e
 obtain ⟨v, hv⟩ := zv (l := a.Cells) (i := (yQ a.Rank a.Lens x).1.toNat) (by omega)
 refine ⟨v, hv, ?_, h0⟩
 unfold atC
 rw [if_pos e, yW hv]
theorem zoy {a : TA} (h : wi a = 0) (x : Int × Int) : ∃ e, zlt a x = some (atC a x, e) := by
 obtain ⟨sh, hl⟩ := zdw h
 unfold zlt zrc
 rw [zar, h]
 simp only [Option.bind_some, decide_true, Bool.not_true, cond_false, zih sh]
 by_cases e : (yQ a.Rank a.Lens x).2 = 0
 . obtain ⟨v, hv, ha, h0⟩ := zBh h e
   exact ⟨0, by simp [e, zj, h0, hv, ha]⟩
 . refine ⟨(yQ a.Rank a.Lens x).2, ?_⟩
   have : atC a x = 0 := by unfold atC; rw [if_neg e]
   simp [e, this]
def ixC (r : Int) (l : Int × Int) (i : Int) : Int × Int := if r = 2 then (Int.tdiv i l.2, Int.tmod i l.2) else (i, 0)
theorem zEn {i d : Int} (h0 : 0 <= i) (h1 : i <= 1000) (h2 : 0 <= d) : IntKind.wrap .i64 (Int.tdiv i d) = Int.tdiv i d := by
 have e1 : 0 <= Int.tdiv i d := Int.tdiv_nonneg h0 h2
 have e2 : Int.tdiv i d <= i := Int.tdiv_le_self d h0
 exact zo9 (by omega) (by omega)
theorem zmr {r : Int} {l : Int × Int} {i : Int} (h0 : 0 <= i) (h1 : i < qt r l) (hr : r = 2) : l.2 ≠ 0 := fun e => by
 unfold qt at h1
 rw [if_pos hr, e, Int.mul_zero] at h1
 omega
theorem zig {r : Int} {l : Int × Int} (h : shC r l = 0) {i : Int} (h0 : 0 <= i) (h1 : i < qt r l) : zlq r l i = some (ixC r l i, 0) := by
 obtain ⟨a0, a1, b0, b1⟩ := zj0 h
 obtain ⟨m0, m4⟩ := xC h
 have c1 : ¬ i < 0 := by omega
 have c2 : ¬ qt r l <= i := by omega
 unfold zlq ixC
 rw [wS]
 simp only [Option.bind_some, h, decide_true, Bool.not_true, cond_false, if_true, c1, c2, decide_false]
 by_cases h2 : r < 2
 . have : ¬ r = 2 := by omega
   simp [h2, this]
 . have hr : r = 2 := by rcases zl1 h with e | e | e <;> omega
   simp [hr, zk, zmr h0 h1 hr, zg, zEn (i := i) (d := l.2) h0 (by omega) b0]
end Go.Sx.O
noncomputable section
namespace Go.Sx.O
open Go
def jd (s : (Bool × Bool) × Bool) (a b : TA) : TA := if s.2 = true then a else if shC a.Rank (yd s a.Lens b.Lens) = 0 then ⟨a.Kind, a.Rank, yd s a.Lens b.Lens, (List.range (qt a.Rank (yd s a.Lens b.Lens)).toNat).map fun (i : Nat) => atC b (ixC a.Rank (yd s a.Lens b.Lens) (i : Int))⟩ else a
theorem zsv {α : Type} (f : Nat -> α) (k : Nat) : (List.range k).map f ++ [f k] = (List.range (k + 1)).map f := by
 rw [List.range_succ, List.map_append]; rfl
theorem zwl {b : List TW} {k : Nat} {y : TW} (hy : b[k]? = some y) (ha : wi y.Value = 0) (x : Int × Int) : zl8 x b (k : Int) = some (atC y.Value x) := by
 obtain ⟨e, he⟩ := zoy ha x
 have n1 : (0 : Int) <= (k : Int) := by omega
 unfold zl8
 simp only [zj, n1, if_true, Int.toNat_natCast, hy, Option.bind_some, he]
theorem zk1 (a : TA) (s : (Bool × Bool) × Bool) (m : Int × Int) {b : List TW} {k : Nat} {y : TW} (hy : b[k]? = some y) (ha : wi y.Value = 0) :
 zlw a s m (b, (k : Int)) = some (if shC a.Rank (yd s a.Lens m) = 0 then (⟨a.Kind, a.Rank, yd s a.Lens m, (List.range (qt a.Rank (yd s a.Lens m)).toNat).map fun (i : Nat) => atC y.Value (ixC a.Rank (yd s a.Lens m) (i : Int))⟩, true) else (⟨0, 0, (0, 0), []⟩, false)) := by
 unfold zlw
 rw [zvg]
 by_cases hs : shC a.Rank (yd s a.Lens m) = 0
 case neg => rw [wS]; simp [hs]
 obtain ⟨m0, m4⟩ := xC hs
 rw [wS]
 simp only [Option.bind_some, hs, decide_true, Bool.not_true, cond_false, if_true]
 generalize hM : qt a.Rank (yd s a.Lens m) = M at m0 m4
 refine (yr M.toNat (fun k => ((k : Int), (List.range k).map fun (i : Nat) => atC y.Value (ixC a.Rank (yd s a.Lens m) (i : Int)))) ((List.range M.toNat).map fun (i : Nat) => atC y.Value (ixC a.Rank (yd s a.Lens m) (i : Int))) (fun k hk => ?_) ?_ rfl).trans rfl
 . have hlt : (k : Int) < M := by omega
   have hw : IntKind.wrap .i64 ((k : Int) + 1) = ((k + 1 : Nat) : Int) := w64 (by omega) (by omega)
   have hx := zig hs (i := (k : Int)) (by omega) (by rw [hM]; exact hlt)
   have hside : (k + 1) * 8 <= 70368744177664 := by omega
   simp only [hlt, decide_true, cond_true, hx, Option.bind_some, Bool.not_true, cond_false, zwl hy ha, List.length_map, List.length_range, zk, hside, if_true, zg, hw]
   rw [zsv (fun (i : Nat) => atC y.Value (ixC a.Rank (yd s a.Lens m) (i : Int)))]
 . have : ¬ ((M.toNat : Nat) : Int) < M := by omega
   simp only [this, decide_false, cond_false]
theorem zBc {s : (Bool × Bool) × Bool} {a b : List TW} {k : Nat} {x y : TW} (hx : a[k]? = some x) (hy : b[k]? = some y) (ha : wi y.Value = 0) : zlk (k : Int) s a b = some ⟨x.Name, jd s x.Value y.Value⟩ := by
 unfold zlk jd
 have n1 : (0 : Int) <= (k : Int) := by omega
 simp only [zj, n1, if_true, Int.toNat_natCast, hx, hy, Option.bind_some, zk1 _ s _ hy ha]
 cases s.2
 . by_cases hs : shC x.Value.Rank (yd s x.Value.Lens y.Value.Lens) = 0 <;> simp [hs]
 . simp
def jc (p : TP) (a b : List TW) (o : Int) (n : Nat) : List TW := (List.range n).map fun k => match p.Vars[k]?, a[k]?, b[k]? with
 | some v, some x, some y => ⟨x.Name, jd (siC p.Lattice v.Type_ o) x.Value y.Value⟩
 | _, _, _ => ⟨[], ⟨0, 0, (0, 0), []⟩⟩
theorem jj {p : TP} {a b : List TW} {o : Int} {n : Nat} : (jc p a b o n).length = n := by simp [jc]
theorem zu5 {p : TP} {a b : List TW} {o : Int} {k : Nat} {v : TV} {x y : TW} (hv : p.Vars[k]? = some v) (hx : a[k]? = some x) (hy : b[k]? = some y) : jc p a b o (k + 1) = jc p a b o k ++ [⟨x.Name, jd (siC p.Lattice v.Type_ o) x.Value y.Value⟩] := by
 unfold jc
 rw [List.range_succ, List.map_append]
 simp [hv, hx, hy]
def ztn (p : TP) (a b : List TW) (o : Int) : List TW × Int := if (qB p a).2 = 0 then (if (qB p b).2 = 0 then (if qk p.Lattice o = true then (jc p a b o p.Vars.length, 0) else ([], 7)) else ([], (qB p b).2)) else ([], (qB p a).2)
theorem zdk {p : TP} (h : PolIn p) {a b : List TW} (ha : a.length <= 1000000) (hb : b.length <= 1000000) (o : Int) : zez p a b o = some (ztn p a b o) := by
 unfold zez ztn
 rw [zhm h ha hb]
 simp only [Option.bind_some]
 by_cases hf : (qB p a).2 = 0
 case neg => simp [hf]
 by_cases hg : (qB p b).2 = 0
 case neg => simp [hf, hg]
 obtain ⟨hk, hl, _, hfx⟩ := qW hf
 obtain ⟨_, hl2, _, hgx⟩ := qW hg
 obtain ⟨h32, hgood⟩ := uY hk
 simp only [hf, hg, decide_true, Bool.not_true, cond_false, if_true]
 unfold zrh
 simp only [List.length_map]
 by_cases ho : qk p.Lattice o = true
 case neg =>
  rcases zcd ho with g | g
  . simp [g, ho]
  . by_cases g2 : o < 0 <;> simp [g, g2, ho]
 obtain ⟨o0, o1⟩ := labB_iff.1 ho
 have c1 : ¬ o < 0 := by omega
 have c2 : ¬ (p.Lattice.Names.length : Int) <= o := by omega
 simp only [c1, c2, ho, decide_false, cond_false, if_true]
 refine (congrArg (fun x => Option.bind x fun y => some y) (yr p.Vars.length (fun k => ((k : Int), jc p a b o k)) (jc p a b o p.Vars.length) (fun k hk' => ?_) (by simp) rfl)).trans rfl
 obtain ⟨v, hv⟩ := zv hk'
 obtain ⟨x, hx⟩ := zv (l := a) (i := k) (by omega)
 obtain ⟨y, hy⟩ := zv (l := b) (i := k) (by omega)
 have hlt : (k : Int) < (p.Vars.length : Int) := by omega
 have hwr : IntKind.wrap .i64 ((k : Int) + 1) = ((k + 1 : Nat) : Int) := w64 (by omega) (by omega)
 have n1 : (0 : Int) <= (k : Int) := by omega
 have hside : (k + 1) * 72 <= 70368744177664 := by omega
 have e1 : ((axC p.Lattice v.Type_ o, up p.Lattice v.Type_.Data.toNat o.toNat) : (Bool × Bool) × Bool) = siC p.Lattice v.Type_ o := rfl
 simp only [hlt, decide_true, cond_true, zj, n1, if_true, Int.toNat_natCast, hv, Option.bind_some, uq h.lat (hgood v (List.mem_of_getElem? hv)) ho, Bool.not_true, cond_false, e1, zBc hx hy (hgx k y v hy hv).2.1, zg, hwr, jj, zk, hside, zu5 hv hx hy]
end Go.Sx.O
end
namespace Go.Sx.O
open Go
theorem zab {p : TP} {a b : List TW} {o : Int} {n k : Nat} (hk : k < n) {v : TV} {x y : TW} (hv : p.Vars[k]? = some v) (hx : a[k]? = some x) (hy : b[k]? = some y) : (jc p a b o n)[k]? = some ⟨x.Name, jd (siC p.Lattice v.Type_ o) x.Value y.Value⟩ := by
 unfold jc
 rw [List.getElem?_map, List.getElem?_range hk]
 simp [hv, hx, hy]
open Go
end Go.Sx.O
noncomputable section
namespace Go.Sx.O
open Go
def AgW (p : TP) (a b : List TW) (o : Int) : Prop := ∀ (k : Nat) v x y, p.Vars[k]? = some v -> a[k]? = some x -> b[k]? = some y -> uu (siC p.Lattice v.Type_ o) x.Value y.Value = true
theorem zwy {X : List Int} : yG X = [] ↔ ∀ x ∈ X, x < 0 := by
 unfold yG
 rw [List.filter_eq_nil_iff]
 constructor
 . intro h x hx
   have := h x hx
   simp only [decide_eq_true_eq] at this
   omega
 . intro h x hx
   have := h x hx
   simp only [decide_eq_true_eq]
   omega
structure Fit2 (p : TP) (a b : List TW) : Prop where
 fa : (qB p a).2 = 0
 fb : (qB p b).2 = 0
theorem zB9 {p : TP} {a b : List TW} {o : Int} (f : Fit2 p a b) : (yG (vL p a b o p.Vars.length)).length = 0 ↔ AgW p a b o := by
 obtain ⟨_, hla, _, _⟩ := qW f.fa
 obtain ⟨_, hlb, _, _⟩ := qW f.fb
 rw [List.length_eq_zero_iff, zwy]
 constructor
 . intro h k v x y hv hx hy
   have hk : k < p.Vars.length := (List.getElem?_eq_some_iff.1 hv).1
   have := h (vK p a b o k) (by unfold vL; rw [List.mem_map]; exact ⟨k, List.mem_range.2 hk, rfl⟩)
   unfold vK at this
   rw [hv, hx, hy] at this
   simp only at this
   by_cases e : uu (siC p.Lattice v.Type_ o) x.Value y.Value = true
   . exact e
   . rw [if_neg e] at this; omega
 . intro h x hx
   unfold vL at hx
   rw [List.mem_map] at hx
   obtain ⟨k, hk, rfl⟩ := hx
   have hk := List.mem_range.1 hk
   obtain ⟨v, hv⟩ := zv hk
   obtain ⟨x, hx⟩ := zv (l := a) (i := k) (by omega)
   obtain ⟨y, hy⟩ := zv (l := b) (i := k) (by omega)
   unfold vK
   rw [hv, hx, hy]
   simp only [h k v x y hv hx hy, if_true]
   decide
def agD (p : TP) (a b : List TW) (o : Int) : Bool := decide ((yG (vL p a b o p.Vars.length)).length = 0)
theorem zz3 {p : TP} {a b : List TW} {o : Int} (f : Fit2 p a b) : agD p a b o = true ↔ AgW p a b o := by
 unfold agD; rw [decide_eq_true_iff]; exact zB9 f
theorem zwh {p : TP} (h : PolIn p) {a b : List TW} (ha : a.length <= 1000000) (hb : b.length <= 1000000) {o : Int} (f : Fit2 p a b) (ho : qk p.Lattice o = true) : zik p a b o = some (agD p a b o, 0) := by
 rw [zi9 h ha hb]
 have : zd8 p a b o = (yG (vL p a b o p.Vars.length), 0) := by
  unfold zd8
  rw [if_pos (by rw [if_pos f.fa]; exact f.fb), if_pos ho]
 rw [this]
 simp [agD]
theorem zka (s : (Bool × Bool) × Bool) (a : TA) : uu s a a = true := by
 have := sameA_iff.2 (rfl : a = a)
 simp [uu, this]
theorem zi0 (x y : TW) (h : x.Value.Cells.length <= 9223372036854775807) : zls x y = some (decide (x.Name = y.Name) && uF x.Value y.Value) := by
 unfold zls
 rw [zbr _ _ h]
 by_cases e : x.Name = y.Name <;> simp [e]
theorem zhg (a b : List TW) (ha : a.length <= 1000000) (hc : ∀ x ∈ a, x.Value.Cells.length <= 9223372036854775807) : Tot (zb1 a b) fun r => (r = true ↔ a = b) := by
 unfold zb1 zto
 simp only [List.length_map]
 by_cases e5 : a.length = b.length
 case neg =>
  have e6 : ¬ (a.length : Int) = b.length := by omega
  have e7 : a ≠ b := fun e => e5 (by rw [e])
  simp [e6, e7, zm]
 simp only [e5, decide_true, Bool.not_true, cond_false, zw]
 refine zgc (l := a) (m := b) b.length (fun x y => decide (x.Name = y.Name) && uF x.Value y.Value) (bad := fun _ => false) (e := ()) (by omega) (Nat.le_refl _) (fun k x y hx hy hk => ?_) (by simp) (fun hall => ?_) (fun k x y hx hy hk e _ => ?_)
 . simp only [Int.ofNat_lt, hk, decide_true, cond_true, zj, Int.toNat_natCast, hx, hy, Option.bind_some, zg, Int.natCast_nonneg, if_true, zi0 x y (hc x (List.mem_of_getElem? hx))]
   rw [w64 (by omega) (by omega)]
   cases (decide (x.Name = y.Name) && uF x.Value y.Value) <;> simp
 . have : a = b := jh e5 fun k x y hx hy hk => by
    have := hall k x y hx hy (by omega)
    simp only [Bool.and_eq_true, decide_eq_true_eq, sameA_iff] at this
    obtain ⟨xn, xv⟩ := x
    obtain ⟨yn, yv⟩ := y
    simp only at this
    rw [this.1, this.2]
   simp [this, zm]
 . have : a ≠ b := by
    rintro rfl
    rw [hx] at hy; cases hy
    simp [sameA_iff.2 (rfl : x.Value = x.Value)] at e
   simp [this, zm]
end Go.Sx.O
end
namespace Go.Sx.O
open Go
theorem zuh {l : TL} (h : LatIn l) (k : (qA l).2 = 0) {a b : Nat} (ha : a < l.Names.length) (hb : b < l.Names.length) : ∃ c, bnd (upN l) l.Names.length a b = some c /\ c < l.Names.length /\ upN l c = upN l a &&& upN l b := by
 have h2 := (za7 h k).2 a b ha hb
 unfold wG at h2
 cases e : bnd (upN l) l.Names.length a b with
 | none => rw [e] at h2; simp at h2
 | some c => exact ⟨c, rfl, zmn e⟩
theorem zuw {l : TL} (h : LatIn l) (hk : (qA l).2 = 0) {a b : Nat} (ha : a < l.Names.length) (hb : b < l.Names.length) : ∃ c : Nat, zlj l (a : Int) (b : Int) = some (c : Int) /\ c < l.Names.length /\ up l a c = true /\ up l b c = true := by
 have ok := yB h hk
 have hle := ok.le
 have hlen := ok.len
 obtain ⟨c, hc, hcn, hg⟩ := zuh h hk ha hb
 have hcc := ok.self c hcn
 have hb2 : (upN l a &&& upN l b).testBit c = true := by rw [<- hg]; exact hcc
 rw [Nat.testBit_and, Bool.and_eq_true] at hb2
 refine ⟨c, ?_, hcn, hb2.1, hb2.2⟩
 unfold zlj
 have hn := jJ l.Up (upN l) a b (by omega) (fun c hc => xx ok.u8 (by omega)) (fun c hc2 => zao ok.u8 (by omega)) (by omega) (by omega)
 rw [hn]
 simp only [Option.bind_some]
 unfold zcu
 rw [hlen, hc]
theorem zys {l : TL} (h : LatIn l) (hk : (qA l).2 = 0) : ∃ t : Nat, zic l = some ((t : Int), 0) /\ t < l.Names.length /\ ∀ a, a < l.Names.length -> up l a t = true := by
 have ok := yB h hk
 have hpos := ok.pos
 have hle := ok.le
 have l0 : wh l 0 = true := by unfold wh; simp; omega
 have key : Tot (zic l) fun r => ∃ t : Nat, r = ((t : Int), 0) /\ t < l.Names.length /\ ∀ a, a < l.Names.length -> up l a t = true := by
  unfold zic
  have ha : zix l 0 0 = some 0 := by
   rw [zbn h]
   unfold zbk; rw [if_pos hk, List.all_cons, List.all_cons, l0]; rfl
  rw [ha]
  simp only [Option.bind_some, decide_true, Bool.not_true, cond_false, List.length_map, zw]
  refine Tot.count l.Names.length (fun k s => s.1 = (k : Int) /\ ∃ c : Nat, s.2 = (c : Int) /\ c < l.Names.length /\ ∀ a, a < k -> up l a c = true) (fun k s hk' hP => ?_) ⟨rfl, 0, rfl, hpos, fun a ha => absurd ha (Nat.not_lt_zero a)⟩
  obtain ⟨s1, s2⟩ := s
  obtain ⟨rfl, c, rfl, hc, hall⟩ := hP
  by_cases hlt : k < l.Names.length
  . have hlt' : (k : Int) < (l.Names.length : Int) := by omega
    have hw : IntKind.wrap .i64 ((k : Int) + 1) = ((k + 1 : Nat) : Int) := w64 (by omega) (by omega)
    obtain ⟨d, hd, hdl, u1, u2⟩ := zuw h hk hlt hc
    simp only [hlt', decide_true, cond_true, hd, Option.bind_some, zg, hw, zm, Sum.elim_inl]
    refine ⟨hlt, trivial, d, rfl, hdl, fun a ha => ?_⟩
    rcases Nat.lt_or_ge a k with g | g
    . exact zDz ok (by omega) hc hdl (hall a g) u2
    . have : a = k := by omega
      subst this; exact u1
  . have hlt' : ¬ (k : Int) < (l.Names.length : Int) := by omega
    simp only [hlt', decide_false, cond_false, zm, Sum.elim_inr, Sum.elim_inl]
    exact ⟨c, rfl, hc, fun a ha => hall a (by omega)⟩
 obtain ⟨r, e, t, rfl, h1, h2⟩ := key
 exact ⟨t, e, h1, h2⟩
open Go
open Go
open Go
theorem arrC_iff {a : TA} : wi a = 0 ↔ (a.Kind = 1 \/ a.Kind = 2) /\ shC a.Rank a.Lens = 0 /\ (a.Cells.length : Int) = qt a.Rank a.Lens /\ (a.Kind = 2 -> ∀ c ∈ a.Cells, wg c = true) := by
 unfold wi
 by_cases k : a.Kind = 1 \/ a.Kind = 2
 case neg => simp [k]
 by_cases s : shC a.Rank a.Lens = 0
 case neg => simp [k, s]
 by_cases l : (a.Cells.length : Int) = qt a.Rank a.Lens
 case neg => simp [k, s, l]
 simp only [k, s, l, if_true, true_and]
 by_cases q : a.Kind = 2 /\ (a.Cells.any fun c => !wg c) = true
 . rw [if_pos q]
   constructor
   . intro e; exact absurd e (by decide)
   . intro g
     obtain ⟨c, hc, hb⟩ := List.any_eq_true.1 q.2
     rw [g q.1 c hc] at hb; cases hb
 . rw [if_neg q]
   refine ⟨fun _ k2 c hc => ?_, fun _ => rfl⟩
   cases hb : wg c
   . exact absurd ⟨k2, List.any_eq_true.2 ⟨c, hc, by rw [hb]; rfl⟩⟩ q
   . rfl
theorem zBk {p : TP} {w : List TW} (hk : (wJ p).2.2 = 0) (hl : w.length = p.Vars.length) (h : ∀ (k : Nat) x v, w[k]? = some x -> p.Vars[k]? = some v -> x.Name = v.Name /\ wi x.Value = 0 /\ x.Value.Kind = v.Type_.Kind /\ x.Value.Rank = v.Type_.Rank) : qB p w = (0, 0) := by
 unfold qB
 rw [if_pos hk, if_pos hl]
 have : zx (ut p w) 0 w.length = none := scan_none.2 fun i _ _ => by
  unfold ut
  split
  . rename_i x v hx hv
    obtain ⟨e1, e2, e3, e4⟩ := h _ x v hx hv
    rw [if_pos e1, if_pos e2, if_pos e3, if_pos e4]
  . rfl
 rw [this]
theorem zAy {a : TA} {x : Int × Int} : atC a x ∈ a.Cells \/ atC a x = 0 := by
 unfold atC
 split
 . rcases h : a.Cells[(yQ a.Rank a.Lens x).1.toNat]? with _ | c
   . right; rw [List.getD_eq_getElem?_getD, h]; rfl
   . left; rw [List.getD_eq_getElem?_getD, h]; exact List.mem_of_getElem? h
 . right; rfl
theorem zA3 {s : (Bool × Bool) × Bool} {a b : TA} (ha : wi a = 0) (hb : wi b = 0) (hk : a.Kind = b.Kind) : wi (jd s a b) = 0 /\ (jd s a b).Kind = a.Kind /\ (jd s a b).Rank = a.Rank := by
 unfold jd
 split
 . exact ⟨ha, rfl, rfl⟩
 . split
   . rename_i hs
     obtain ⟨k, _, _, _⟩ := arrC_iff.1 ha
     obtain ⟨_, _, _, g⟩ := arrC_iff.1 hb
     obtain ⟨m0, _⟩ := xC hs
     refine ⟨arrC_iff.2 ⟨k, hs, ?_, fun k2 c hc => ?_⟩, rfl, rfl⟩
     . simp only [List.length_map, List.length_range]; omega
     . simp only [List.mem_map, List.mem_range] at hc
       obtain ⟨i, _, rfl⟩ := hc
       rcases zAy (a := b) (x := ixC a.Rank (yd s a.Lens b.Lens) (i : Int)) with e | e
       . exact g (hk ▸ k2) _ e
       . rw [e]; decide
   . exact ⟨ha, rfl, rfl⟩
theorem zA5 {s : (Bool × Bool) × Bool} {a b : TA} : uu s (jd s a b) a = true := by
 unfold jd
 split
 . exact zka _ _
 . split
   . rename_i h2 _
     obtain ⟨⟨s1, s2⟩, s3⟩ := s
     simp only [Bool.not_eq_true] at h2
     subst h2
     cases s1 <;> cases s2 <;> simp [uu, yd]
   . exact zka _ _
theorem zBy {r : Int} {l : Int × Int} (h : shC r l = 0) {i : Int} (h0 : 0 <= i) (h1 : i < qt r l) : yQ r l (ixC r l i) = (i, 0) := by
 obtain ⟨a0, _, b0, _⟩ := zj0 h
 unfold yQ ixC
 rcases zl1 h with rfl | rfl | rfl
 . unfold qt at h1
   simp (config := { decide := true }) only [if_false, if_true] at h1 ⊢
   have : i = 0 := by omega
   subst this; simp
 . unfold qt at h1
   simp (config := { decide := true }) only [if_false, if_true] at h1 ⊢
   rw [if_pos ⟨h0, h1, trivial⟩]
 . have hne := zmr h0 h1 rfl
   unfold qt at h1
   simp (config := { decide := true }) only [if_false, if_true] at h1 ⊢
   have hpos : 0 < l.2 := by omega
   have e1 : Int.tdiv i l.2 = i / l.2 := Int.tdiv_eq_ediv_of_nonneg h0
   have e2 : Int.tmod i l.2 = i % l.2 := Int.tmod_eq_emod_of_nonneg h0
   rw [e1, e2]
   have q1 : 0 <= i / l.2 := Int.ediv_nonneg h0 b0
   have q2 : i / l.2 < l.1 := Int.ediv_lt_of_lt_mul hpos h1
   have q3 := Int.emod_nonneg i hne
   have q4 := Int.emod_lt_of_pos i hpos
   have q5 := Int.mul_ediv_add_emod i l.2
   rw [if_pos ⟨⟨q1, q2⟩, ⟨q3, q4⟩⟩]
   congr 1
   rw [Int.mul_comm]; exact q5
theorem zza {a : TA} (h : wi a = 0) : ((List.range (qt a.Rank a.Lens).toNat).map fun (i : Nat) => atC a (ixC a.Rank a.Lens (i : Int))) = a.Cells := by
 obtain ⟨sh, hl⟩ := zdw h
 obtain ⟨m0, _⟩ := xC sh
 refine jh (by simp only [List.length_map, List.length_range]; omega) fun k x y hx hy hk => ?_
 simp only [List.length_map, List.length_range] at hk
 rw [List.getElem?_map, List.getElem?_range hk] at hx
 cases hx
 unfold atC
 show (if (yQ a.Rank a.Lens (ixC a.Rank a.Lens (k : Int))).2 = 0 then a.Cells.getD (yQ a.Rank a.Lens (ixC a.Rank a.Lens (k : Int))).1.toNat 0 else 0) = y
 rw [zBy sh (by omega) (by omega)]
 simp [List.getD_eq_getElem?_getD, hy]
theorem zul {s : (Bool × Bool) × Bool} {a : TA} (h : wi a = 0) : jd s a a = a := by
 unfold jd
 have e : yd s a.Lens a.Lens = a.Lens := by unfold yd; simp
 rw [e, zza h]
 split
 . rfl
 . split <;> rfl
theorem zu2 {a b : TA} (hb : wi b = 0) (hk : a.Kind = b.Kind) (hr : a.Rank = b.Rank) : jd ((false, false), false) a b = b := by
 unfold jd
 have e : yd ((false, false), false) a.Lens b.Lens = b.Lens := by simp [yd]
 rw [e, hr, zza hb, hk]
 rw [if_neg (by decide), if_pos (zdw hb).1]
theorem zz9 {p : TP} {a b : List TW} {o : Int} (f : Fit2 p a b) : qB p (jc p a b o p.Vars.length) = (0, 0) := by
 obtain ⟨hk, hla, _, hfa⟩ := qW f.fa
 obtain ⟨_, hlb, _, hfb⟩ := qW f.fb
 refine zBk hk jj fun k x v hx hv => ?_
 have hlt := (List.getElem?_eq_some_iff.1 hv).1
 obtain ⟨y, hy⟩ := zv (l := a) (i := k) (by omega)
 obtain ⟨z, hz⟩ := zv (l := b) (i := k) (by omega)
 rw [zab (o := o) hlt hv hy hz] at hx
 cases hx
 obtain ⟨e1, e2, e3, e4⟩ := hfa k y v hy hv
 obtain ⟨g1, g2, g3, g4⟩ := hfb k z v hz hv
 obtain ⟨b1, b2, b3⟩ := zA3 (s := siC p.Lattice v.Type_ o) e2 g2 (e3.trans g3.symm)
 exact ⟨e1, b1, b2.trans e3, b3.trans e4⟩
theorem zz5 {p : TP} {a b : List TW} {o : Int} (f : Fit2 p a b) : AgW p (jc p a b o p.Vars.length) a o := fun k v x y hv hx hy => by
 obtain ⟨_, hlb, _, hfb⟩ := qW f.fb
 have hlt := (List.getElem?_eq_some_iff.1 hv).1
 obtain ⟨z, hz⟩ := zv (l := b) (i := k) (by omega)
 rw [zab (o := o) hlt hv hy hz] at hx
 cases hx
 exact zA5
theorem zx1 {p : TP} {a : List TW} {o : Int} (hf : (qB p a).2 = 0) : jc p a a o p.Vars.length = a := by
 obtain ⟨hk, hla, _, hfa⟩ := qW hf
 refine jh (by rw [jj, hla]) fun k x y hx hy hlt => ?_
 rw [jj] at hlt
 obtain ⟨v, hv⟩ := zv hlt
 rw [zab (o := o) hlt hv hy hy, zul (hfa k y v hy hv).2.1] at hx
 cases hx; rfl
theorem zAv {p : TP} {a b : List TW} {t : Int} (f : Fit2 p a b) (ht : ∀ c, qk p.Lattice c = true -> up p.Lattice c.toNat t.toNat = true) : jc p a b t p.Vars.length = a := by
 obtain ⟨hk, hla, _, hfa⟩ := qW f.fa
 obtain ⟨_, hlb, _, _⟩ := qW f.fb
 obtain ⟨_, hgood⟩ := uY hk
 refine jh (by rw [jj, hla]) fun k x y hx hy hlt => ?_
 rw [jj] at hlt
 obtain ⟨v, hv⟩ := zv hlt
 obtain ⟨z, hz⟩ := zv (l := b) (i := k) (by omega)
 rw [zab (o := t) hlt hv hy hz] at hx
 have hg := zci (hgood v (List.mem_of_getElem? hv))
 have hd : (siC p.Lattice v.Type_ t).2 = true := ht _ hg.2.2.2.2.2.2.1
 unfold jd at hx
 rw [if_pos hd] at hx
 cases hx; rfl
theorem zfx {p : TP} {a b : List TW} {o : Int} (f : Fit2 p a b) (ho : qk p.Lattice o = true) : ztn p a b o = (jc p a b o p.Vars.length, 0) := by
 unfold ztn
 rw [if_pos f.fa, if_pos f.fb, if_pos ho]
theorem zvd {p : TP} {o : Int} (hk : (wJ p).2.2 = 0) (ho : qk p.Lattice o = true) : zlv p o = (za6 p o, 0) := by
 unfold zlv
 rw [if_pos hk, if_pos ho]
theorem zvu {p : TP} {o : Int} {k : Nat} {v : TV} (hv : p.Vars[k]? = some v) : (za6 p o)[k]? = some (siC p.Lattice v.Type_ o) := by
 unfold za6
 rw [List.getElem?_map, hv]; rfl
theorem zAr {a b : List TW} (h : a.length <= 1000000) (hc : ∀ x ∈ a, x.Value.Cells.length <= 400) (e : a = b) : zb1 a b = some true := by
 obtain ⟨r, er, q⟩ := zhg a b h (fun x hx => Nat.le_trans (hc x hx) (by omega))
 rw [er, q.2 e]
open Go
theorem znd (p : TP) (w : List TW × List TW) (x : Int) (w1 : W_TP p) (_ : w2 (yF W_TW) w) (hx : inK .u8 x) : zsz p w x = some true := by
 obtain ⟨a, b⟩ := w
 unfold zsz
 obtain ⟨r, hr, hf⟩ := zsk p a b (zCt w1.Lattice.Up)
 simp only
 rw [hr]
 cases r
 case true => rfl
 obtain ⟨h, ha, hb⟩ := hf rfl
 have hA : a.length <= 1000000 := by omega
 have hB : b.length <= 1000000 := by omega
 simp only [Option.bind_some, cond_false, uv h a hA, uv h b hB]
 by_cases fa : (qB p a).2 = 0
 case neg => simp [fa]
 by_cases fb : (qB p b).2 = 0
 case neg => simp [fa, fb]
 have f2 : Fit2 p a b := ⟨fa, fb⟩
 have faa : Fit2 p a a := ⟨fa, fa⟩
 obtain ⟨hk, hla, _, hfa⟩ := qW fa
 obtain ⟨_, hlb, _, hfb⟩ := qW fb
 obtain ⟨h32, hgood⟩ := uY hk
 have hlat := zAp hk
 have ok := yB h.lat hlat
 have hle := ok.le
 have hpos := ok.pos
 have hx2 := zub hx
 have hwx : IntKind.wrap .i64 x = x := w64 (by omega) (by omega)
 have hn : ((p.Lattice.Names.length : Nat) : Int) ≠ 0 := by omega
 have ho : qk p.Lattice (Int.tmod x (p.Lattice.Names.length : Int)) = true := labB_iff.2 ⟨Int.tmod_nonneg _ (by omega), Int.tmod_lt_of_pos _ (by omega)⟩
 obtain ⟨t, ht, htl, hall⟩ := zys h.lat hlat
 have hto : qk p.Lattice (t : Int) = true := labB_iff.2 ⟨by omega, by omega⟩
 have hup : ∀ c, qk p.Lattice c = true -> up p.Lattice c.toNat (t : Int).toNat = true := fun c hc => by
  obtain ⟨c0, c1⟩ := labB_iff.1 hc
  have := hall c.toNat (by omega)
  simpa using this
 simp only [fa, fb, decide_true, Bool.not_true, cond_false, zg, hwx, List.length_map, zk, ne_eq, hn, not_false_eq_true, if_true]
 generalize Int.tmod x (p.Lattice.Names.length : Int) = o at ho ⊢
 have fm0 := zz9 (o := o) f2
 have fm : (qB p (jc p a b o p.Vars.length)).2 = 0 := by rw [fm0]
 have hag : agD p (jc p a b o p.Vars.length) a o = true := (zz3 ⟨fm, fa⟩).2 (zz5 f2)
 have hM : (jc p a b o p.Vars.length).length <= 1000000 := by rw [jj]; omega
 have hsl : (za6 p o).length = p.Vars.length := by simp [za6]
 have hS : zb1 a a = some true := zAr hA (fun x hx => zdy fa hx) rfl
 simp only [zdk h hA hB, zdk h hA hA, zfx f2 ho, zfx faa ho, zfx f2 hto, ht, zx1 fa, zAv f2 hup, zk7 h, zvd hk ho, Option.bind_some, decide_true, Bool.not_true, cond_false, hS, zwh h hM hA ⟨fm, fa⟩ ho, hag, uv h _ hM, fm0, jj, hsl]
 refine (yr p.Vars.length (fun k => (k : Int)) () (fun k hk' => ?_) (by simp) rfl).trans rfl
 obtain ⟨v, hv⟩ := zv hk'
 obtain ⟨y, hy⟩ := zv (l := a) (i := k) (by omega)
 obtain ⟨z, hz⟩ := zv (l := b) (i := k) (by omega)
 have hs := zvu (o := o) hv
 have hm := zab (o := o) hk' hv hy hz
 have hlt : (k : Int) < (p.Vars.length : Int) := by omega
 have hwr : IntKind.wrap .i64 ((k : Int) + 1) = ((k + 1 : Nat) : Int) := w64 (by omega) (by omega)
 have n1 : (0 : Int) <= (k : Int) := by omega
 obtain ⟨e1, e2, e3, e4⟩ := hfa k y v hy hv
 obtain ⟨g1, g2, g3, g4⟩ := hfb k z v hz hv
 have hsame : siC p.Lattice v.Type_ o = ((false, false), false) -> zit (jd (siC p.Lattice v.Type_ o) y.Value z.Value) z.Value = some true := fun e => by
  rw [e, zu2 g2 (e3.trans g3.symm) (e4.trans g4.symm)]
  have := (zdw g2)
  have hc := zdy fb (List.mem_of_getElem? hz)
  obtain ⟨r, er, q⟩ := zid z.Value z.Value (by omega)
  rw [er, q.2 rfl]
 simp only [hlt, decide_true, cond_true, zj, n1, if_true, Int.toNat_natCast, hs, hm, hy, hz, Option.bind_some]
 generalize jd (siC p.Lattice v.Type_ o) y.Value z.Value = M at *
 generalize siC p.Lattice v.Type_ o = s at *
 obtain ⟨⟨s1, s2⟩, s3⟩ := s
 cases s1 <;> cases s2 <;> cases s3 <;> simp [hsame, zg, hwr]
end Go.Sx.O
