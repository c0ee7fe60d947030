/-
  An own text of this claim.
-/
import Derived.Test.YtgejleocladghaaGreatDoorP1
namespace Go.Sx.O
open Go
def zgw (ns : List (List UInt8)) (i : Nat) : Option (Int × Int) :=
 if zjl (ns.getD i []) = true then (if ns.getD i [] ∈ ns.take i then some ((i : Int), 8) else none) else some ((i : Int), 6)
def za3 (ns : List (List UInt8)) : Int × Int := if ns.length < 1 \/ 8 < ns.length then (-1, 3) else (zG (zgw ns) 0 ns.length).getD (0, 0)
theorem znd {α : Type} {l : List α} {i : Nat} {d x : α} (h : l[i]? = some x) : l.getD i d = x := by rw [List.getD_eq_getElem?_getD, h]; rfl
theorem zsw (ns : List (List UInt8)) (h : ns.length <= 20) (hn : ∀ s ∈ ns, s.length <= 1000) : zha ns = some (za3 ns) := by
 unfold zha za3
 simp only [List.length_map]
 by_cases h1 : ns.length < 1
 . have : (ns.length : Int) < 1 := by omega
   simp [h1, this]
 by_cases h2 : 8 < ns.length
 . have : (8 : Int) < ns.length := by omega
   have g1 : ¬ (ns.length : Int) < 1 := by omega
   simp [h2, this, g1]
 have g1 : ¬ (ns.length : Int) < 1 := by omega
 have g2 : ¬ (8 : Int) < ns.length := by omega
 simp only [g1, g2, h1, h2, decide_false, cond_false, or_self, if_false]
 rw [xw ns.length (zgw ns) () (fun k hk => ?_) (by simp)]
 . cases zG (zgw ns) 0 ns.length <;> rfl
 . obtain ⟨x, hx⟩ := zN (l := ns) (i := k) hk
   have hxl := hn x (List.mem_of_getElem? hx)
   simp only [Int.ofNat_lt, hk, decide_true, cond_true, zi, Int.toNat_natCast, hx, Option.bind_some, zg, Int.natCast_nonneg, if_true]
   rw [zja x (by omega), jN _ _ (by simp; omega)]
   unfold zgw
   rw [znd hx, w64 (by omega) (by omega)]
   cases e : zjl x with
   | false => simp
   | true =>
     have hk' : k <= ns.length := by omega
     simp only [Option.bind_some, Bool.not_true, cond_false, Int.toNat_zero, List.drop_zero, if_true]
     by_cases hm : x ∈ ns.take k
     . simp [hm, zk, hk']
     . simp [hm, zk, hk']
open Go
def dn (l : TL) (b : Nat) : Nat -> Nat
 | 0 => 0
 | k + 1 => dn l b k ||| (if up l k b = true then 2 ^ k else 0)
theorem zlf (l : TL) (b : Nat) : ∀ (k i : Nat), (dn l b k).testBit i = (decide (i < k) && up l i b)
 | 0, i => by simp [dn]
 | k + 1, i => by
   simp only [dn, Nat.testBit_or, zlf l b k i]
   by_cases h : up l k b = true
   . simp only [h, if_true, Nat.testBit_two_pow]
     by_cases hik : i = k
     . subst hik; simp [h]
     . have h1 : ¬ k = i := fun e => hik e.symm
       have h2 : (i < k + 1) = (i < k) := by simp; omega
       simp [h1, h2]
   . simp only [h, if_false, Nat.zero_testBit, Bool.or_false]
     by_cases hik : i = k
     . subst hik; simp [h]
     . have h2 : (i < k + 1) = (i < k) := by simp; omega
       simp [h2]
theorem zvm (l : TL) (b : Nat) : ∀ k : Nat, dn l b k < 2 ^ k
 | 0 => by simp [dn]
 | k + 1 => by
   simp only [dn]
   refine Nat.or_lt_two_pow (Nat.lt_of_lt_of_le (zvm l b k) (Nat.pow_le_pow_right (by omega) (by omega))) ?_
   split
   . exact Nat.pow_lt_pow_right (by omega) (by omega)
   . exact Nat.two_pow_pos _
theorem zq4 (l : TL) (b : Nat) {k : Nat} (h : k <= 8) : dn l b k < 256 := Nat.lt_of_lt_of_le (zvm l b k) (Nat.pow_le_pow_right (n := 2) (by omega) h)
theorem zwd {c : Bool} {k : Nat} (h : k < 8) : IntKind.wrap .u8 ((if c = true then (1 : Int) else 0) * 2 ^ min k (IntKind.bits .u8)) = ((if c = true then 2 ^ k else 0 : Nat) : Int) := by
 have key : ∀ (c : Bool) (k : Fin 8), IntKind.wrap .u8 ((if c = true then (1 : Int) else 0) * 2 ^ min k.val (IntKind.bits .u8)) = ((if c = true then 2 ^ k.val else 0 : Nat) : Int) := by decide +kernel
 exact key c ⟨k, h⟩
theorem zy3 {a b : Nat} (ha : a < 256) (hb : b < 256) : bits .or .u8 (a : Int) (b : Int) = ((a ||| b : Nat) : Int) := by
 rw [zn9 (by omega) (by omega) (by omega) (by omega)]; rfl
theorem zxc {a b : Nat} (ha : a < 256) (hb : b < 256) : bits .and .u8 (a : Int) (b : Int) = ((a &&& b : Nat) : Int) := by
 rw [zbc (by omega) (by omega) (by omega) (by omega)]; rfl
theorem zzq {c : Bool} {k : Nat} (h : k < 8) : (if c = true then 2 ^ k else 0) < 256 := by
 split
 . exact Nat.lt_of_lt_of_le (Nat.pow_lt_pow_right (a := 2) (by omega) h) (by omega)
 . omega
theorem znr {α : Type} {l : List α} {i j : Nat} {x : α} (h : i < l.length) : (l.set i x)[j]? = if i = j then some x else l[j]? := by
 rw [List.getElem?_set]
 split
 . simp [h]
 . rfl
theorem zk1 (l : TL) (hu : U8s l.Up) (hn : l.Names.length <= 8) (hl : l.Up.length = l.Names.length) :
 Tot (zeq l) fun o => o.n_ = l.Names.length /\ o.up_.length = 8 /\ o.down_.length = 8 /\ (∀ j, j < l.Names.length -> o.up_[j]? = l.Up[j]?) /\ ∀ b, b < l.Names.length -> o.down_[b]? = some (dn l b l.Names.length : Int) := by
 unfold zeq
 simp only [zy, List.length_map]
 refine Tot.count l.Up.length (fun k s => s.1 = (k : Int) /\ s.2.1.length = 8 /\ s.2.2.length = 8 /\ (∀ j, j < k -> s.2.1[j]? = l.Up[j]?) /\ ∀ b, b < l.Names.length -> s.2.2[b]? = some (dn l b k : Int)) ?_ ⟨rfl, rfl, rfl, fun j hj => absurd hj (by omega), fun b hb => ?_⟩
 . rintro k ⟨i, up', down⟩ hk ⟨h0, h1, h2, h3, h4⟩
   simp only at h0 h1 h2 h3 h4
   subst h0
   simp only [tot_some, zH, zY, qD, qK, zy, Sum.elim_inl, Sum.elim_inr, decide_eq_true_eq, decide_eq_false_iff_not, Int.toNat_natCast]
   refine ⟨fun hlt => ?_, fun hlt => ?_⟩
   . obtain ⟨x, hx⟩ := zN (l := l.Up) (i := k) (by omega)
     obtain ⟨y, hy⟩ := zN (l := up') (i := k) (by omega)
     refine ⟨by omega, x, hx, ⟨by omega, by omega⟩, by omega, y, hy, ?_⟩
     have hx' := hu.get hx
     refine Tot.count l.Names.length (fun j s => s.1 = (j : Int) /\ s.2.length = 8 /\ ∀ b, b < l.Names.length -> s.2[b]? = some (dn l b (if b < j then k + 1 else k) : Int)) ?_ ⟨rfl, h2, fun b hb => by simpa using h4 b hb⟩
     rintro j ⟨i', d⟩ hj ⟨g0, g1, g2⟩
     simp only at g0 g1 g2
     subst g0
     simp only [tot_some, zH, zY, qD, qK, zy, Sum.elim_inl, Sum.elim_inr, decide_eq_true_eq, decide_eq_false_iff_not, Int.toNat_natCast]
     refine ⟨fun hlt' => ?_, fun hlt' => ?_⟩
     . have hz := g2 j (by omega)
       rw [if_neg (by omega)] at hz
       rw [w64 (by omega) (by omega)]
       refine ⟨⟨by omega, by omega⟩, by omega, _, hz, by omega, by omega, ⟨by omega, by omega⟩, by omega, _, hz, by omega, by omega, by simpa using g1, fun b hb => ?_⟩
       rw [znr (by omega)]
       by_cases hjb : j = b
       . subst hjb
         rw [if_pos rfl, if_pos (by omega), zby hx'.1 hx'.2 (by omega), <- jz hx, zwd (by omega), zy3 (zq4 l j (by omega)) (zzq (by omega))]
         rfl
       . rw [if_neg hjb, g2 b hb]
         have : (b < j + 1) = (b < j) := by simp; omega
         simp only [this]
     . rw [w64 (by omega) (by omega)]
       refine ⟨by omega, by omega, by simpa using h1, g1, fun q hq => ?_, fun b hb => ?_⟩
       . rw [znr (by omega)]
         by_cases hkq : k = q
         . subst hkq; rw [if_pos rfl, hx]
         . rw [if_neg hkq]; exact h3 q (by omega)
       . rw [g2 b hb, if_pos (by omega)]
   . have hkn : k = l.Names.length := by omega
     subst hkn
     exact ⟨trivial, h1, h2, h3, h4⟩
 . have h8 : ∀ b : Fin 8, ([0, 0, 0, 0, 0, 0, 0, 0] : List Int)[b.val]? = some 0 := by decide
   exact h8 ⟨b, by omega⟩
theorem jP {ρ : Type} {p : Prop} [Decidable p] {x : Option ρ} (h : p) : zk p x = x := by unfold zk; rw [if_pos h]
def bnd (g : Nat -> Nat) (n a b : Nat) : Option Nat := zG (fun c => if g c = g a &&& g b then some c else none) 0 n
def zli (g : Nat -> Nat) (n a b : Nat) : Int := match bnd g n a b with | some c => c | none => -1
theorem zen (m : List Int) (g : Nat -> Nat) (n a b : Nat) (hn : n <= 8) (hg : ∀ c, c < n -> m[c]? = some (g c : Int)) (hg8 : ∀ c, c < n -> g c < 256) (hs : ∀ c, c < n -> (g c).testBit c = true) (ha : a < n) (hb : b < n) :
 zh6 m n a b = some (zli g n a b) := by
 unfold zh6 zli bnd
 have s1 : ((0 : Int) <= (a : Int) /\ (a : Int) < ((8 : Nat) : Int)) := by omega
 have s2 : ((0 : Int) <= (b : Int) /\ (b : Int) < ((8 : Nat) : Int)) := by omega
 simp only [jP s1, jP s2]
 simp only [zi, Int.toNat_natCast, Int.natCast_nonneg, if_true, hg a ha, hg b hb, Option.bind_some, zxc (hg8 a ha) (hg8 b hb)]
 have h8 : g a &&& g b < 256 := zf3 (hg8 a ha)
 generalize g a &&& g b = both at *
 rw [xw n (fun c => if g c = both then some (c : Int) else none) () (fun c hc => ?_) (by simp)]
 . have e : (fun c => if g c = both then some (c : Int) else none) = fun c => (if g c = both then some c else none).map (fun c : Nat => (c : Int)) := by
    funext c; split <;> rfl
   rw [e, uF]
   cases zG (fun c => if g c = both then some c else none) 0 n <;> rfl
 . have s3 : ((0 : Int) <= (c : Int) /\ (c : Int) < ((8 : Nat) : Int)) := by omega
   simp only [jP s3]
   simp only [Int.ofNat_lt, hc, decide_true, cond_true, zk, Int.natCast_nonneg, if_true, hg c hc, Option.bind_some, zg]
   rw [w64 (by omega) (by omega), zby (by omega) (by omega) (by omega)]
   simp only [Int.toNat_natCast]
   by_cases hbc : both.testBit c = true
   . simp only [hbc, if_true, decide_true, cond_true]
     rw [hg c hc]
     by_cases hgc : g c = both
     . simp [hgc]
     . have : ¬ (g c : Int) = (both : Int) := by omega
       simp [hgc, this]
   . have : g c ≠ both := fun e => hbc (e ▸ hs c hc)
     simp [hbc, this]
open Go
def upN (l : TL) (a : Nat) : Nat := (l.Up.getD a 0).toNat
def zqg (l : TL) (a b : Nat) : Bool := !up l a b || ((decide (b = a) || !up l b a) && (List.range l.Names.length).all fun i => !up l b i || up l a i)
def zb3 (l : TL) (a : Nat) : Bool := decide (upN l a < 2 ^ l.Names.length) && up l a a && (List.range l.Names.length).all fun b => zqg l a b
def dnN (l : TL) (b : Nat) : Nat := dn l b l.Names.length
def ja (l : TL) (a b : Nat) : Bool := (bnd (upN l) l.Names.length a b).isNone || (bnd (dnN l) l.Names.length a b).isNone
def zqe (l : TL) : Int × Int :=
 if (za3 l.Names).2 = 0 then
  if l.Up.length = l.Names.length then
   match zG (fun a => if zb3 l a = true then none else some ((a : Int), (6 : Int))) 0 l.Names.length with
   | some r => r
   | none => (zG (fun a => zG (fun b => if ja l a b = true then some ((a : Int), (4 : Int)) else none) 0 l.Names.length) 0 l.Names.length).getD (0, 0)
  else (-1, 6)
 else za3 l.Names
theorem zi7 {α : Type} {p : Nat -> Bool} {u v : α} {n : Nat} : ∀ {j k : Nat}, k + j = n -> 0 < j -> zG (fun i => if p i = true then (if i + 1 = n then some u else none) else some v) k j = some (if (List.range j).all (fun i => p (k + i)) = true then u else v)
 | 0, _, _, h => by omega
 | j + 1, k, hk, _ => by
   have e : (List.range (j + 1)).all (fun i => p (k + i)) = (p k && (List.range j).all fun i => p (k + 1 + i)) := by
    rw [List.range_succ_eq_map, List.all_cons, List.all_map]
    congr 1
    congr 1
    funext i
    simp only [Function.comp]
    congr 1; omega
   rw [e]
   simp only [zG]
   cases hp : p k with
   | false => simp
   | true =>
     simp only [if_true, Bool.true_and]
     by_cases hj : j = 0
     . subst hj
       have : k + 1 = n := by omega
       simp [this]
     . have : ¬ k + 1 = n := by omega
       simp only [this, if_false]
       exact zi7 (by omega) (by omega)
theorem zos (x : Int) (h0 : 0 <= x) (h1 : x < 256) : Tot (zhu x) fun y => ∀ n : Nat, n <= 8 -> decide ((n : Int) < y) = !decide (x.toNat < 2 ^ n) := by
 unfold zhu
 rw [qD]
 refine ⟨h0, ?_⟩
 have key : ∀ l : List UInt8, (∀ x : Fin 256, ∀ n : Fin 9, (l[x.val]?.map fun y => decide ((n.val : Int) < IntKind.wrap .i64 (y.toNat : Int))) = some (!decide (x.val < 2 ^ n.val))) ->
  ∃ y, l[x.toNat]? = some y /\ Tot (zg (IntKind.wrap .i64 (y.toNat : Int)) fun z => some z) fun y => ∀ n : Nat, n <= 8 -> decide ((n : Int) < y) = !decide (x.toNat < 2 ^ n) := by
  intro l hl
  cases e : l[x.toNat]? with
  | none =>
    have := hl ⟨x.toNat, by omega⟩ ⟨0, by omega⟩
    simp only [e] at this
    cases this
  | some y =>
    refine ⟨y, rfl, .mk fun n hn => ?_⟩
    have := hl ⟨x.toNat, by omega⟩ ⟨n, by omega⟩
    simp only [e] at this
    exact Option.some.inj this
 exact key _ (by decide +kernel)
theorem zgy {l : TL} (hu : U8s l.Up) {a b : Nat} (ha : a < l.Up.length) (hb : b <= 8) : zma l a b = some (up l a b) := by
 unfold zma
 obtain ⟨x, hx⟩ := zN ha
 have hx' := hu.get hx
 have key : ∀ u : Fin 256, ∀ b : Fin 9, decide (Int.tmod (Int.fdiv (u.val : Int) (2 ^ min b.val (IntKind.bits .u8))) 2 = 1) = Nat.testBit u b := by decide +kernel
 have := key ⟨x.toNat, by omega⟩ ⟨b, by omega⟩
 simp only [Int.toNat_of_nonneg hx'.1] at this
 simp only [List.length_map, Int.natCast_nonneg, decide_true, cond_true, Int.ofNat_lt, ha, zi, Int.toNat_natCast, if_true, hx, Option.bind_some, zk, this, jz hx]
open Go
theorem zsh {l : TL} {a : Nat} {x : Int} (h : l.Up[a]? = some x) : upN l a = x.toNat := by unfold upN; rw [znd h]
theorem zhc {l : TL} {a b : Nat} : (upN l a).testBit b = up l a b := rfl
theorem zkg {l : TL} (hu : U8s l.Up) {a : Nat} (ha : a < l.Up.length) : upN l a < 256 := by
 obtain ⟨x, hx⟩ := zN ha
 have := hu.get hx
 rw [zsh hx]; omega
theorem zh4 {l : TL} (hu : U8s l.Up) {a : Nat} (ha : a < l.Up.length) : l.Up[a]? = some (upN l a : Int) := by
 obtain ⟨x, hx⟩ := zN ha
 have := hu.get hx
 rw [hx, zsh hx, Int.toNat_of_nonneg this.1]
open Go
theorem zum (g : Nat -> Nat) (n a b : Nat) : decide (zli g n a b < 0) = (bnd g n a b).isNone := by
 unfold zli
 cases bnd g n a b with
 | none => rfl
 | some c => simp
theorem zyw {l : TL} (h8 : l.Names.length <= 8) (b : Nat) : dnN l b < 256 := zq4 l b h8
open Go
theorem zm1 (l : TL) (hu : U8s l.Up) (hn : l.Names.length <= 20) (hs : ∀ s ∈ l.Names, s.length <= 1000) : zax l = some (zqe l) := by
 unfold zax zqe
 rw [zsw _ hn hs]
 simp only [Option.bind_some, List.length_map]
 by_cases h0 : (za3 l.Names).2 = 0
 case neg => simp [h0]
 simp only [h0, decide_true, Bool.not_true, cond_false, if_true]
 by_cases hlen : l.Up.length = l.Names.length
 case neg =>
  have : ¬ (l.Up.length : Int) = l.Names.length := by omega
  simp [hlen, this]
 have h8 : 1 <= l.Names.length /\ l.Names.length <= 8 := by
  unfold za3 at h0
  split at h0
  . cases h0
  . omega
 obtain ⟨h1, h8⟩ := h8
 have g0 : ((0 : Int) <= (l.Names.length : Int)) := by omega
 simp only [hlen, decide_true, Bool.not_true, cond_false, if_true, jP g0, zg, Int.toNat_natCast]
 have hmask := zk9 l.Names.length h8
 have hm0 := zl6 (e := IntKind.wrap .u8 (1 * 2 ^ min l.Names.length (IntKind.bits .u8)) - 1)
 rw [xw l.Names.length (fun a => if zb3 l a = true then none else some ((a : Int), (6 : Int))) () (fun a ha => ?_) (by simp)]
 . cases h1 : zG (fun a => if zb3 l a = true then none else some ((a : Int), (6 : Int))) 0 l.Names.length with
   | some r => rfl
   | none =>
     simp only
     have hself : ∀ a, a < l.Names.length -> up l a a = true := by
      intro a ha
      have := scan_none.1 h1 a (by omega) (by omega)
      split at this
      . rename_i h
        unfold zb3 at h
        simp only [Bool.and_eq_true] at h
        exact h.1.2
      . cases this
     obtain ⟨o, eo, _, o1, o2, o3, o4⟩ := zk1 l hu h8 hlen
     rw [eo, Option.bind_some]
     rw [xw l.Names.length (fun a => zG (fun b => if ja l a b = true then some ((a : Int), (4 : Int)) else none) 0 l.Names.length) () (fun a ha => ?_) (by simp)]
     . cases zG (fun a => zG (fun b => if ja l a b = true then some ((a : Int), (4 : Int)) else none) 0 l.Names.length) 0 l.Names.length <;> rfl
     . simp only [Int.ofNat_lt, ha, decide_true, cond_true]
       rw [xw l.Names.length (fun b => if ja l a b = true then some (.inr (.inr ((a : Int), (4 : Int)))) else none) () (fun b hb => ?_) (by simp)]
       . have e : (fun b => if ja l a b = true then some (Sum.inr (Sum.inr ((a : Int), (4 : Int))) : Int ⊕ (Unit ⊕ (Int × Int))) else none) = fun b => (if ja l a b = true then some ((a : Int), (4 : Int)) else none).map fun v => .inr (.inr v) := by
          funext b; split <;> rfl
         rw [e, uF]
         cases zG (fun b => if ja l a b = true then some ((a : Int), (4 : Int)) else none) 0 l.Names.length with
         | some r => rfl
         | none =>
           simp only [Option.map_none]
           rw [w64 (by omega) (by omega)]
       . simp only [Int.ofNat_lt, hb, decide_true, cond_true]
         have n1 := zen o.up_ (upN l) l.Names.length a b h8 (fun c hc => by rw [o3 c hc]; exact zh4 hu (by omega)) (fun c hc => zkg hu (by omega)) (fun c hc => hself c hc) ha hb
         have n2 : zp4 o.down_ l.Names.length a b = some (zli (dnN l) l.Names.length a b) := zen o.down_ (dnN l) l.Names.length a b h8 (fun c hc => o4 c hc) (fun c hc => zyw h8 c) (fun c hc => by unfold dnN; rw [zlf, hself c hc]; simp [hc]) ha hb
         rw [n1, n2]
         simp only [Option.bind_some, zum]
         rw [w64 (by omega) (by omega)]
         unfold ja
         cases (bnd (upN l) l.Names.length a b).isNone with
         | true => simp
         | false => cases (bnd (dnN l) l.Names.length a b).isNone <;> simp
 . -- one label's row
   have hxa := zh4 hu (a := a) (by omega)
   have hlt := zkg hu (a := a) (by omega)
   obtain ⟨y, ey, hy⟩ := zos (upN l a : Int) (by omega) (by omega)
   have hy := hy l.Names.length h8
   rw [Int.toNat_natCast] at hy
   have ga : ((0 : Int) <= (a : Int)) := by omega
   have hbit : ∀ b, b < l.Names.length -> bits .and .u8 (Int.fdiv (upN l a : Int) (2 ^ min b (IntKind.bits .u8))) 1 = if up l a b = true then 1 else 0 := fun b hb => by
    rw [zby (by omega) (by omega) (by omega), Int.toNat_natCast]; rfl
   simp only [Int.ofNat_lt, ha, decide_true, cond_true, zi, Int.toNat_natCast, if_pos ga, hxa, Option.bind_some, ey, hy, jP ga]
   simp only [hbit a ha]
   unfold zb3
   cases e1 : decide (upN l a < 2 ^ l.Names.length) with
   | false => simp
   | true =>
     simp only [Bool.not_true, cond_false, Bool.true_and]
     cases e2 : up l a a with
     | false => simp
     | true =>
       simp only [if_true, Int.reduceEq, decide_false, cond_false, Bool.true_and]
       rw [xw l.Names.length (fun b => if zqg l a b = true then (if b + 1 = l.Names.length then some (.inl ((a : Int) + 1)) else none) else some (.inr (.inr ((a : Int), (6 : Int))))) () (fun b hb => ?_) (by simp)]
       . rw [zi7 (by omega) (by omega)]
         simp only [Nat.zero_add]
         cases (List.range l.Names.length).all fun b => zqg l a b <;> rfl
       . have hxb := zh4 hu (a := b) (by omega)
         have hltb := zkg hu (a := b) (by omega)
         have gb : ((0 : Int) <= (b : Int)) := by omega
         have hbit' : bits .and .u8 (Int.fdiv (upN l b : Int) (2 ^ min a (IntKind.bits .u8))) 1 = if up l b a = true then 1 else 0 := by
          rw [zby (by omega) (by omega) (by omega), Int.toNat_natCast]; rfl
         simp only [Int.ofNat_lt, hb, decide_true, cond_true, Option.bind_some, Int.toNat_natCast, hxb, if_pos gb, jP gb]
         simp only [hbit b hb, hbit', w64 (e := (l.Names.length : Int) - 1) (by omega) (by omega), w64 (e := (a : Int) + 1) (by omega) (by omega), w64 (e := (b : Int) + 1) (by omega) (by omega)]
         have hnot : decide (bits .andNot .u8 (bits .and .u8 (upN l b : Int) (IntKind.wrap .u8 (IntKind.wrap .u8 (1 * 2 ^ min l.Names.length (IntKind.bits .u8)) - 1))) (upN l a : Int) = 0) = (List.range l.Names.length).all fun i => !up l b i || up l a i := by
          revert hmask hm0
          generalize IntKind.wrap .u8 (IntKind.wrap .u8 (1 * 2 ^ min l.Names.length (IntKind.bits .u8)) - 1) = mask
          intro hmask hm0
          have hand : bits .and .u8 (upN l b : Int) mask = ((upN l b &&& mask.toNat : Nat) : Int) := by
           rw [zbc (by omega) (by omega) hm0.1 hm0.2, Int.toNat_natCast]
          have hlt2 : upN l b &&& mask.toNat < 256 := zf3 hltb
          rw [hand, Bool.eq_iff_iff, decide_eq_true_eq, zav (by omega) (by omega) (by omega) (by omega), List.all_eq_true]
          simp only [Int.toNat_natCast, Nat.testBit_and, hmask, zhc]
          constructor
          . intro h i hi
            have := h i
            have hi' : i < l.Names.length := by simpa using hi
            cases e : up l b i with
            | false => rfl
            | true => rw [e] at this; simpa [hi'] using this
          . intro h i hi
            simp only [Bool.and_eq_true, decide_eq_true_eq] at hi
            have := h i (by simpa using hi.2)
            rw [hi.1] at this; simpa using this
         simp only [hnot]
         have hlast : decide ((b : Int) = (l.Names.length : Int) - 1) = decide (b + 1 = l.Names.length) := by
          rw [Bool.eq_iff_iff, decide_eq_true_eq, decide_eq_true_eq]; omega
         simp only [hlast]
         unfold zqg
         cases e3 : up l a b with
         | false => by_cases hl : b + 1 = l.Names.length <;> simp [hl]
         | true =>
           by_cases hba : b = a
           . subst hba
             have d2 : decide ((b : Int) = (b : Int)) = true := by simp
             cases (List.range l.Names.length).all fun i => !up l b i || up l b i with
             | false => by_cases hl : b + 1 = l.Names.length <;> simp [hl]
             | true => by_cases hl : b + 1 = l.Names.length <;> simp [hl]
           . have d2 : decide ((b : Int) = (a : Int)) = false := by simp; omega
             have d3 : decide (b = a) = false := by simp [hba]
             simp only [d2, d3]
             cases up l b a with
             | true => by_cases hl : b + 1 = l.Names.length <;> simp [hl]
             | false =>
               cases (List.range l.Names.length).all fun i => !up l b i || up l a i with
               | false => by_cases hl : b + 1 = l.Names.length <;> simp [hl]
               | true => by_cases hl : b + 1 = l.Names.length <;> simp [hl]
theorem zw4 {l : TL} (h : LatIn l) : qW l = zqe l := by
 unfold qW; rw [zm1 l h.u8 h.names h.name]; rfl
open Go
open Go
theorem ztx {g : Nat -> Nat} {n a b c : Nat} (h : bnd g n a b = some c) : c < n /\ g c = g a &&& g b := by
 have key : ∀ {j k : Nat}, zG (fun c => if g c = g a &&& g b then some c else none) k j = some c -> c < k + j /\ g c = g a &&& g b := by
  intro j
  induction j with
  | zero => intro k h; cases h
  | succ j ih =>
    intro k h
    simp only [zG] at h
    split at h
    . rename_i r hr
      cases h
      split at hr
      . rename_i hh; cases hr; exact ⟨by omega, hh⟩
      . cases hr
    . have := ih h
      exact ⟨by omega, this.2⟩
 have := key h
 simpa using this
theorem zdn {l : TL} (h : LatIn l) (k : (qW l).2 = 0) : (∀ a, a < l.Names.length -> zb3 l a = true) /\ ∀ a b, a < l.Names.length -> b < l.Names.length -> ja l a b = false := by
 rw [zw4 h] at k
 unfold zqe at k
 split at k
 case isFalse h0 => exact absurd k h0
 split at k
 case isFalse => cases k
 split at k
 case h_1 r hr =>
  exfalso
  have key : ∀ {j k : Nat}, zG (fun a => if zb3 l a = true then none else some ((a : Int), (6 : Int))) k j = some r -> r.2 = 6 := by
   intro j
   induction j with
   | zero => intro k h; cases h
   | succ j ih =>
     intro k h
     simp only [zG] at h
     split at h
     . rename_i r' hr'
       cases h
       split at hr'
       . cases hr'
       . cases hr'; rfl
     . exact ih h
  rw [key hr] at k; cases k
 case h_2 hord =>
  have key2 : ∀ {a j k : Nat} {r : Int × Int}, zG (fun b => if ja l a b = true then some ((a : Int), (4 : Int)) else none) k j = some r -> r.2 = 4 := by
   intro a j
   induction j with
   | zero => intro k r h; cases h
   | succ j ih =>
     intro k r h
     simp only [zG] at h
     split at h
     . rename_i r' hr'
       cases h
       split at hr'
       . cases hr'; rfl
       . cases hr'
     . exact ih h
  have key : ∀ {j k : Nat} {r : Int × Int}, zG (fun a => zG (fun b => if ja l a b = true then some ((a : Int), (4 : Int)) else none) 0 l.Names.length) k j = some r -> r.2 = 4 := by
   intro j
   induction j with
   | zero => intro k r h; cases h
   | succ j ih =>
     intro k r h
     simp only [zG] at h
     split at h
     . rename_i r' hr'
       cases h
       exact key2 hr'
     . exact ih h
  cases hs : zG (fun a => zG (fun b => if ja l a b = true then some ((a : Int), (4 : Int)) else none) 0 l.Names.length) 0 l.Names.length with
  | some r =>
    rw [hs] at k
    have := key hs
    simp only [Option.getD_some] at k
    rw [this] at k; cases k
  | none =>
    refine ⟨fun a ha => ?_, fun a b ha hb => ?_⟩
    . have h1 := scan_none.1 hord a (by omega) (by omega)
      split at h1
      . assumption
      . cases h1
    . have h1 := scan_none.1 (scan_none.1 hs a (by omega) (by omega)) b (by omega) (by omega)
      split at h1
      . cases h1
      . rename_i h2; simpa using h2
theorem ztt {l : TL} (h : LatIn l) (k : (qW l).2 = 0) {a b : Nat} (ha : a < l.Names.length) (hb : b < l.Names.length) : ∃ c, bnd (dnN l) l.Names.length a b = some c /\ c < l.Names.length /\ dnN l c = dnN l a &&& dnN l b := by
 have h2 := (zdn h k).2 a b ha hb
 unfold ja at h2
 cases e : bnd (dnN l) l.Names.length a b with
 | none => rw [e] at h2; simp at h2
 | some c => exact ⟨c, rfl, ztx e⟩
theorem zti {l : TL} (ok : LatOK l) {a b c : Nat} (ha : a < l.Names.length) (hb : b < l.Names.length) (hc : c < l.Names.length) (h1 : up l a b = true) (h2 : up l b c = true) : up l a c = true := (ok.row a ha b hb h1).2 c hc h2
theorem zxa {l : TL} {b i : Nat} : (dnN l b).testBit i = (decide (i < l.Names.length) && up l i b) := zlf l b l.Names.length i
theorem zo6 {l : TL} {a b c i : Nat} (hi : i < l.Names.length) (hg : dnN l c = dnN l a &&& dnN l b) : up l i c = (up l i a && up l i b) := by
 have h1 := congrArg (fun x => x.testBit i) hg
 simp only [Nat.testBit_and, zxa, hi, decide_true, Bool.true_and] at h1
 exact h1
theorem znn {l : TL} (ok : LatOK l) {a b : Nat} (ha : a < l.Names.length) (hb : b < l.Names.length) (h1 : up l a b = true) (h2 : up l b a = true) : a = b := by
 by_cases e : b = a
 . exact e.symm
 . have := (ok.row a ha b hb h1).1 e
   rw [h2] at this; cases this
theorem zw7 {l : TL} (h : LatIn l) (k : (qW l).2 = 0) : ∃ t, t < l.Names.length /\ ∀ a, a < l.Names.length -> up l t a = true := by
 have ok := jo h k
 have key : ∀ j, j <= l.Names.length -> ∃ t, t < l.Names.length /\ ∀ a, a < j -> up l t a = true := by
  intro j
  induction j with
  | zero => intro _; exact ⟨0, ok.pos, fun a ha => absurd ha (by omega)⟩
  | succ j ih =>
    intro hj
    obtain ⟨t, ht, hall⟩ := ih (by omega)
    obtain ⟨c, _, hc, hg⟩ := ztt h k ht (show j < l.Names.length by omega)
    have hcc := ok.self c hc
    rw [zo6 hc hg, Bool.and_eq_true] at hcc
    refine ⟨c, hc, fun a ha => ?_⟩
    rcases Nat.lt_or_ge a j with g | g
    . exact zti ok hc ht (by omega) hcc.1 (hall a g)
    . have : a = j := by omega
      subst this; exact hcc.2
 exact key _ (Nat.le_refl _)
def wJ (l : TL) : Nat := ((List.range l.Names.length).find? fun b => (List.range l.Names.length).all fun a => up l b a).getD 0
theorem zer {l : TL} (h : LatIn l) (k : (qW l).2 = 0) : wJ l < l.Names.length /\ ∀ a, a < l.Names.length -> up l (wJ l) a = true := by
 obtain ⟨t, ht, hall⟩ := zw7 h k
 unfold wJ
 cases e : (List.range l.Names.length).find? fun b => (List.range l.Names.length).all fun a => up l b a with
 | none =>
   have := List.find?_eq_none.1 e t (by simpa using ht)
   exact absurd (by simp only [List.all_eq_true, List.mem_range]; exact hall) this
 | some b =>
   have h1 := List.find?_some e
   have h2 := List.mem_of_find?_eq_some e
   simp only [List.all_eq_true, List.mem_range] at h1 h2
   exact ⟨h2, h1⟩
theorem zx9 {l : TL} (h : LatIn l) (k : (qW l).2 = 0) {b : Nat} (hb : b < l.Names.length) (hall : ∀ a, a < l.Names.length -> up l b a = true) : b = wJ l := by
 obtain ⟨h1, h2⟩ := zer h k
 exact znn (jo h k) hb h1 (hall _ h1) (h2 _ hb)
theorem ztu {l : TL} (h : LatIn l) (k : (qW l).2 = 0) {b : Nat} (hb : b < l.Names.length) : upN l b = 2 ^ l.Names.length - 1 ↔ b = wJ l := by
 have h1 := (zdn h k).1 b hb
 unfold zb3 at h1
 simp only [Bool.and_eq_true, decide_eq_true_eq] at h1
 constructor
 . intro e
   refine zx9 h k hb fun a ha => ?_
   rw [<- zhc, e, Nat.testBit_two_pow_sub_one]
   simpa using ha
 . rintro rfl
   have h2 := (zer h k).2
   refine Nat.eq_of_testBit_eq fun i => ?_
   rw [Nat.testBit_two_pow_sub_one]
   rcases Nat.lt_or_ge i l.Names.length with g | g
   . rw [zhc, h2 i g]; simp [g]
   . rw [Nat.testBit_lt_two_pow (Nat.lt_of_lt_of_le h1.1.1 (Nat.pow_le_pow_right (by omega) g))]
     simp; omega
open Go
theorem zka (s : List UInt8) (c : Int) : zc2 s c = some (Go.Lib.indexByte s c.toNat.toUInt8) := by
 unfold zc2 qb
 rfl
theorem uT (r : Int) (h0 : 0 <= r) (h1 : r < 256) : xz [] r = some false := by
 unfold xz
 have key : Tot (zg9 [] r) fun x => x < 0 := by
  unfold zg9
  have e0 : decide (0 <= r) = true := by simp [h0]
  simp only [e0, cond_true]
  rw [zH]
  refine ⟨fun _ => ?_, fun h2 => ?_⟩
  . rw [zY, zy, zka]
    simp only [tot_some]
    simp [Go.Lib.indexByte]
  . simp only [decide_eq_false_iff_not] at h2
    obtain ⟨x, y, exy, hy⟩ := zrm (r := r) (by omega) h1
    have e1 : decide (r = 65533) = false := by simp; omega
    simp only [e1, cond_false, exy]
    rw [zy]
    refine (zaq r).mono fun v _ => ?_
    rw [zH]
    refine ⟨fun _ => .mk (by decide), fun _ => ?_⟩
    rw [zY]
    have e2 : IntKind.wrap .i64 (((List.length [x, y] : Nat) : Int) - 1) = 1 := rfl
    rw [e2, zy]
    refine Tot.loop (fun _ => 0) (fun _ => True) (fun _ _ => ?_) trivial
    rw [zH]
    refine ⟨fun h3 => ?_, fun _ => ?_⟩
    . simp only [decide_eq_true_eq, List.length_nil] at h3
      exact absurd h3 (by decide)
    . simp only [tot_some, Sum.elim_inr, Sum.elim_inl]
      decide
 obtain ⟨x, e, hx⟩ := key
 rw [e]
 have : decide (0 <= x) = false := by simp; omega
 simp [this]
theorem zmm (r : Int) (h0 : 0 <= r) (h1 : r < 256) : zcx r = some true := by
 unfold zcx
 have e0 : decide (0 <= r) = true := by simp [h0]
 have e1 : decide (r < 55296) = true := by simp; omega
 simp only [e0, e1, cond_true]
theorem zm3 (r : Int) (h0 : 0 <= r) (h1 : r < 256) : zqi r = some true := by
 unfold zqi
 simp only [zg, zku h0 h1]
 rw [w64 (by omega) (by omega)]
 simp [zmm r h0 h1]
def xm (c : UInt8) : Bool := decide (97 <= c.toNat) && decide (c.toNat <= 122)
def zay (c : UInt8) : Bool := decide (48 <= c.toNat) && decide (c.toNat <= 57)
theorem zmr {cs : List (List UInt8)} (hcs : cs.length = 10) (h : ∀ s ∈ cs, s.length <= 1000 /\ ∀ c ∈ s, c.toNat < 128) (h6 : cs[6]? = some []) (h8 : cs[8]? = some []) (r : Int) (h0 : 0 <= r) (h1 : r < 256) {Q : Unit ⊕ (Int × Int) -> Prop} (hQ : Q (.inl ())) (hQ' : ∀ x, x ≠ 6 -> x ≠ 8 -> Q (.inr (x, 0))) :
 Tot (lpO (fun (s : Int) => cond (decide (s < 10)) (zi cs s fun x => zg (IntKind.wrap IntKind.i32 r) fun y => Option.bind (xz x y) fun z => cond z (some (Sum.inr (Sum.inr (s, (0 : Int))))) (zg (IntKind.wrap IntKind.i64 (s + 1)) fun u => some (Sum.inl u))) (some (Sum.inr (Sum.inl ())))) 0) Q := by
 refine Tot.count 10 (fun k s => s = (k : Int)) ?_ rfl
 rintro k _ hk rfl
 simp only [zH, tot_some, zY, qD, zy, Sum.elim_inl, Sum.elim_inr, decide_eq_true_eq, decide_eq_false_iff_not, Int.toNat_natCast]
 refine ⟨fun hlt => ?_, fun _ => hQ⟩
 obtain ⟨x, hx⟩ := zN (l := cs) (i := k) (by omega)
 have hx' := h x (List.mem_of_getElem? hx)
 refine ⟨by omega, x, hx, ?_⟩
 rw [zku h0 h1]
 have nx : k < 10 /\ IntKind.wrap .i64 ((k : Int) + 1) = ((k + 1 : Nat) : Int) := by
  rw [w64 (by omega) (by omega)]; exact ⟨by omega, by omega⟩
 by_cases g6 : k = 6
 . subst g6
   rw [h6] at hx; cases hx
   rw [uT r h0 h1, tot_some]
   exact ⟨fun e => (by cases e), fun _ => nx⟩
 by_cases g8 : k = 8
 . subst g8
   rw [h8] at hx; cases hx
   rw [uT r h0 h1, tot_some]
   exact ⟨fun e => (by cases e), fun _ => nx⟩
 refine (zc3 x r hx'.2 hx'.1 h0 h1).mono fun _ _ => ⟨fun _ => hQ' _ (by omega) (by omega), fun _ => nx⟩
theorem za6 (c : UInt8) : Tot (zcv (IntKind.wrap .i64 (c.toNat : Int))) fun x => (decide (x.1 = 8) = xm c) /\ (decide (x.1 = 6) = zay c) := by
 have hc := c.toNat_lt
 rw [w64 (by omega) (by omega)]
 have h0 : (0 : Int) <= c.toNat := by omega
 have h1 : (c.toNat : Int) < 256 := by omega
 unfold zcv zeu xm zay
 rw [zm3 _ h0 h1]
 simp only [Option.bind_some, Bool.not_true, cond_false]
 have L : ¬ (48 <= c.toNat /\ c.toNat <= 57) -> ¬ (97 <= c.toNat /\ c.toNat <= 122) -> _ := fun d1 d2 => zmr (cs := [[], [32], [10], [40, 91], [41, 93], [34], [], [45], [], [60, 61]]) rfl (by decide) rfl rfl c.toNat h0 h1 (Q := fun a => Tot (Sum.elim (fun _ => some ((10 : Int), (0 : Int))) some a) fun (x : Int × Int) => (decide (x.1 = 8) = (decide (97 <= c.toNat) && decide (c.toNat <= 122))) /\ (decide (x.1 = 6) = (decide (48 <= c.toNat) && decide (c.toNat <= 57))))
  (.mk (by
    have a1 : (decide (97 <= c.toNat) && decide (c.toNat <= 122)) = false := by simp; omega
    have a2 : (decide (48 <= c.toNat) && decide (c.toNat <= 57)) = false := by simp; omega
    rw [a1, a2]; exact ⟨rfl, rfl⟩)) (fun x e6 e8 => .mk (by
    have a1 : (decide (97 <= c.toNat) && decide (c.toNat <= 122)) = false := by simp; omega
    have a2 : (decide (48 <= c.toNat) && decide (c.toNat <= 57)) = false := by simp; omega
    rw [a1, a2]; simp [e6, e8]))
 simp only [zH, tot_some, zy, decide_eq_true_eq, decide_eq_false_iff_not]
 have six : 48 <= c.toNat -> c.toNat <= 57 -> decide ((6 : Int) = 8) = (decide (97 <= c.toNat) && decide (c.toNat <= 122)) /\ decide ((6 : Int) = 6) = (decide (48 <= c.toNat) && decide (c.toNat <= 57)) := by
  intro d1 d2
  have a1 : (decide (97 <= c.toNat) && decide (c.toNat <= 122)) = false := by simp; omega
  have a2 : (decide (48 <= c.toNat) && decide (c.toNat <= 57)) = true := by simp; omega
  rw [a1, a2]; exact ⟨rfl, rfl⟩
 have eight : 97 <= c.toNat -> c.toNat <= 122 -> decide ((8 : Int) = 8) = (decide (97 <= c.toNat) && decide (c.toNat <= 122)) /\ decide ((8 : Int) = 6) = (decide (48 <= c.toNat) && decide (c.toNat <= 57)) := by
  intro d1 d2
  have a1 : (decide (97 <= c.toNat) && decide (c.toNat <= 122)) = true := by simp; omega
  have a2 : (decide (48 <= c.toNat) && decide (c.toNat <= 57)) = false := by simp; omega
  rw [a1, a2]; exact ⟨rfl, rfl⟩
 refine ⟨fun d1 => ⟨fun d2 => six (by omega) (by omega), fun d2 => ⟨fun d3 => ⟨fun d4 => eight (by omega) (by omega), fun d4 => L (by omega) (by omega)⟩, fun d3 => L (by omega) (by omega)⟩⟩, fun d1 => ⟨fun d3 => ⟨fun d4 => eight (by omega) (by omega), fun d4 => L (by omega) (by omega)⟩, fun d3 => L (by omega) (by omega)⟩⟩
def jZ (s : List UInt8) : Bool := (match s with | [] => false | c :: _ => xm c) && s.all fun c => xm c || zay c
theorem zto {s : List UInt8} {p : UInt8 -> Bool} {k : Nat} {c : UInt8} (h : (s.take k).all p = true) (hc : s[k]? = some c) (hp : p c = true) : (s.take (k + 1)).all p = true := by
 rw [List.take_add_one, hc, List.all_append, h]
 simp [hp]
theorem zfz (s : List UInt8) (h : s.length <= 1000000) : Tot (zo0 (TK.mk 1 0 0 0 s)) fun x => decide (x = 0) = (jZ s && decide (s.length <= 16)) := by
 unfold zo0
 dsimp only
 have e2 : decide ((1 : Int) < 1) = false := rfl
 have e3 : decide ((9 : Int) < 1) = false := rfl
 simp only [e2, e3, decide_true, cond_true, cond_false, Option.bind_some, Sum.elim_inl, Bool.and_self, Bool.not_true]
 rw [zy]
 have Qn : ∀ x : Int, jZ s = false -> Tot (Sum.elim (fun (n : Int) => cond (decide (n < (s.length : Int))) (some (3 : Int)) (some (0 : Int))) some (Sum.inr 6 : Int ⊕ Int)) fun x => decide (x = 0) = (jZ s && decide (s.length <= 16)) := by
  intro _ e
  rw [e]; exact .mk rfl
 have Qy : jZ s = true -> Tot (Sum.elim (fun (n : Int) => cond (decide (n < (s.length : Int))) (some (3 : Int)) (some (0 : Int))) some (Sum.inl 16 : Int ⊕ Int)) fun x => decide (x = 0) = (jZ s && decide (s.length <= 16)) := by
  intro e
  rw [e]
  simp only [Sum.elim_inl, zH, tot_some, decide_eq_true_eq, decide_eq_false_iff_not]
  refine ⟨fun g => ?_, fun g => ?_⟩
  . have : decide (s.length <= 16) = false := by simp; omega
    rw [this]; rfl
  . have : decide (s.length <= 16) = true := by simp; omega
    rw [this]; rfl
 rw [zH]
 refine ⟨fun h1 => ?_, fun h1 => ?_⟩
 . simp only [tot_some]
   refine Qn 0 ?_
   have : s = [] := List.length_eq_zero_iff.1 (by simpa using h1)
   rw [this]; rfl
 simp only [decide_eq_false_iff_not] at h1
 obtain ⟨c, hc⟩ := zN (l := s) (i := 0) (by omega)
 have hs0 : ∃ r, s = c :: r := by
  cases s with
  | nil => simp at hc
  | cons a r => simp at hc; exact ⟨r, by rw [hc]⟩
 have e0 : (0 : Int).toNat = 0 := rfl
 simp only [qD, zY, zy, e0]
 refine ⟨by omega, c, hc, (za6 c).mono fun x hx => ?_⟩
 rw [zH]
 refine ⟨fun g => ?_, fun g => ?_⟩
 . simp only [tot_some]
   refine Qn 0 ?_
   obtain ⟨r, rfl⟩ := hs0
   have : xm c = false := by rw [<- hx.1]; simpa using g
   unfold jZ; simp [this]
 have hlow : xm c = true := by rw [<- hx.1]; simpa using g
 simp only [qD, zY, zy, e0]
 refine ⟨by omega, c, hc, (za6 c).mono fun y hy => ?_⟩
 refine Tot.loop (fun (p : Int × Int) => s.length - p.2.toNat) (fun (p : Int × Int) => 0 <= p.2 /\ p.2 <= (s.length : Int) /\ (s.take p.2.toNat).all (fun c => xm c || zay c) = true /\ ((p.2 = (s.length : Int) /\ p.1 = 10) \/ ∃ d, s[p.2.toNat]? = some d /\ decide (p.1 = 8) = xm d /\ decide (p.1 = 6) = zay d)) ?_ ⟨by simp, by simp, by simp, .inr ⟨c, by simpa using hc, hy⟩⟩
 rintro ⟨k, a⟩ ⟨h2, h3, hall, h4⟩
 simp only at h2 h3 hall h4
 have round : (k = 8 \/ k = 6) -> ∀ {Q : (Bool × Int × Int) ⊕ (Int ⊕ Int) -> Prop}, Tot (zg (IntKind.wrap .i64 (a + 1)) fun (u : Int) => cond (decide ((s.length : Int) <= u)) (some (Sum.inl ((10 : Int), u))) (zi s u fun (v : UInt8) => zg (IntKind.wrap .i64 (v.toNat : Int)) fun (z : Int) => Option.bind (zcv z) fun r => some (Sum.inl (r.1, u)))) (Sum.elim (fun (s' : Int × Int) => (0 <= s'.2 /\ s'.2 <= (s.length : Int) /\ (s.take s'.2.toNat).all (fun c => xm c || zay c) = true /\ ((s'.2 = (s.length : Int) /\ s'.1 = 10) \/ ∃ d, s[s'.2.toNat]? = some d /\ decide (s'.1 = 8) = xm d /\ decide (s'.1 = 6) = zay d)) /\ s.length - s'.2.toNat < s.length - a.toNat) Q) := by
  intro hk Q
  rcases h4 with ⟨g1, g2⟩ | ⟨d, hd, d1, d2⟩
  . omega
  have hlt : a.toNat < s.length := by
   rcases Nat.lt_or_ge a.toNat s.length with g | g
   . exact g
   . rw [List.getElem?_eq_none g] at hd; cases hd
  have hp : (xm d || zay d) = true := by
   rw [<- d1, <- d2]
   rcases hk with rfl | rfl <;> rfl
  have e1 : (a + 1).toNat = a.toNat + 1 := by omega
  have hall' : (s.take (a + 1).toNat).all (fun c => xm c || zay c) = true := by rw [e1]; exact zto hall hd hp
  rw [zY, w64 (by omega) (by omega), zH]
  refine ⟨fun g => ?_, fun g => ?_⟩
  . simp only [decide_eq_true_eq] at g
    simp only [tot_some, Sum.elim_inl]
    exact ⟨⟨by omega, by omega, hall', .inl ⟨by omega, trivial⟩⟩, by omega⟩
  . simp only [decide_eq_false_iff_not] at g
    obtain ⟨d', hd'⟩ := zN (l := s) (i := (a + 1).toNat) (by omega)
    simp only [qD, zY, zy]
    refine ⟨by omega, d', hd', (za6 d').mono fun z hz => ?_⟩
    simp only [tot_some, Sum.elim_inl]
    exact ⟨⟨by omega, by omega, hall', .inr ⟨d', hd', hz⟩⟩, by omega⟩
 rw [zH]
 refine ⟨fun g => round (.inl (by simpa using g)), fun g => ?_⟩
 rw [zH]
 refine ⟨fun g' => round (.inr (by simpa using g')), fun g' => ?_⟩
 simp only [tot_some, Sum.elim_inr, Sum.elim_inl, qK, zH, e0, List.drop_zero]
 refine ⟨by omega, fun hne => ?_, fun heq => ?_⟩
 . refine (tot_some (Q := fun x => decide (x = 0) = (jZ s && decide (s.length <= 16)))).1 (Qn 0 ?_)
   rcases h4 with ⟨g1, _⟩ | ⟨d, hd, d1, d2⟩
   . exfalso
     have : a.toNat = s.length := by omega
     rw [this, List.take_length] at hne
     simp at hne
   . unfold jZ
     have : (s.all fun c => xm c || zay c) = false := by
      rw [List.all_eq_false]
      refine ⟨d, List.mem_of_getElem? hd, ?_⟩
      rw [<- d1, <- d2, g, g']
      simp
     rw [this, Bool.and_false]
 . have ht : s.take a.toNat = s := by simpa using heq
   rw [ht] at hall
   have hw : jZ s = true := by
    unfold jZ
    obtain ⟨r, rfl⟩ := hs0
    simp only [hall, hlow, Bool.and_self]
   rw [hw]
   refine ⟨fun g => ?_, fun g => ?_⟩
   . have : decide (s.length <= 16) = false := by simp at g ⊢; omega
     rw [this]; rfl
   . have : decide (s.length <= 16) = true := by simp at g ⊢; omega
     rw [this]; rfl
open Go
def zbw : List (List UInt8) := [[110, 101, 103], [97, 98, 115], [110, 111, 116], [115, 104, 97, 112, 101], [114, 97, 118, 101, 108], [114, 101, 118, 101, 114, 115, 101], [102, 108, 105, 112], [105, 111, 116, 97], [115, 117, 109], [108, 101, 97, 115, 116], [109, 111, 115, 116], [99, 111, 117, 110, 116], [115, 99, 97, 110], [103, 114, 97, 100, 101], [97, 100, 100], [115, 117, 98], [109, 117, 108], [100, 105, 118], [109, 111, 100], [112, 108, 117, 115], [109, 105, 110, 117, 115], [116, 105, 109, 101, 115], [101, 113], [110, 101], [108, 116], [108, 101], [103, 116], [103, 101], [97, 110, 100], [111, 114], [109, 105, 110], [109, 97, 120], [116, 97, 107, 101], [100, 114, 111, 112], [102, 105, 108, 108], [103, 114, 105, 100], [99, 97, 116], [97, 116], [105, 110], [112, 105, 99, 107]]
theorem zgz (s : List UInt8) : Tot (zll s) fun x => decide (x.2 = 0) = decide (s ∈ zbw) := by
 by_cases hm : s ∈ zbw
 . have h2 : ∀ t ∈ zbw, ∃ x, zll t = some x /\ decide (x.2 = 0) = true := by
    unfold zbw
    simp only [List.forall_mem_cons]
    repeat' constructor
    intro t ht; cases ht
   obtain ⟨x, e, hx⟩ := h2 s hm
   exact ⟨x, e, by show decide (x.2 = 0) = _; rw [hx]; simp [hm]⟩
 . have hd : decide (s ∈ zbw) = false := by simp [hm]
   rw [hd]
   unfold zll
   unfold zbw at hm
   simp only [List.mem_cons, List.not_mem_nil, or_false, not_or] at hm
   have sw : ∀ n : List UInt8, (n = s) = (s = n) := fun n => propext eq_comm
   simp only [sw, hm, decide_false, cond_false, Option.bind_some, Sum.elim_inl, tot_some]
   rfl
def zho : List (List UInt8) := [[118, 97, 114], [100, 101, 102], [111, 117, 116], [105, 102], [101, 108, 115, 101], [119, 104, 105, 108, 101], [101, 110, 100], [114, 101, 108, 101, 97, 115, 101], [105, 110, 116], [99, 104, 97, 114]]
def exN (s : List UInt8) : Bool := !decide (s ∈ zho) && !decide (s ∈ zbw) && (jZ s && decide (s.length <= 16))
theorem za0 (s : List UInt8) (h : s.length <= 1000000) : zg8 s = some (exN s) := by
 apply Tot.eq
 unfold exN
 by_cases hm : s ∈ zho
 . have h2 : ∀ t ∈ zho, zg8 t = some false := by
    unfold zho
    simp only [List.forall_mem_cons]
    repeat' constructor
    intro t ht; cases ht
   rw [h2 s hm, tot_some]
   simp [hm]
 . have hd : decide (s ∈ zho) = false := by simp [hm]
   rw [hd]
   unfold zg8
   unfold zho at hm
   simp only [List.mem_cons, List.not_mem_nil, or_false, not_or] at hm
   change Tot (cond (decide (s = [118, 97, 114])) _ (cond (decide (s = [100, 101, 102])) _ (cond (decide (s = [111, 117, 116])) _ (cond (decide (s = [105, 102])) _ (cond (decide (s = [101, 108, 115, 101])) _ (cond (decide (s = [119, 104, 105, 108, 101])) _ (cond (decide (s = [101, 110, 100])) _ (cond (decide (s = [114, 101, 108, 101, 97, 115, 101])) _ (cond (decide (s = [105, 110, 116])) _ (cond (decide (s = [99, 104, 97, 114])) _ _)))))))))) _
   simp only [hm, decide_false, cond_false, zy]
   refine (zgz s).mono fun x hx => ?_
   rw [hx, zH]
   refine ⟨fun g => ?_, fun g => ?_⟩
   . rw [g]; exact .mk rfl
   . rw [g, zy]
     refine (zfz s h).mono fun y hy => .mk ?_
     rw [hy]; rfl
open Go
open Go
open Go
theorem yh {σ τ ε : Type} {step : σ -> Option (σ ⊕ (ε ⊕ τ))} {k1 : ε -> Option τ} (n : Nat) (S : Nat -> σ) (f : Nat -> Option τ) (e : ε)
 (h1 : ∀ k : Nat, k < n -> step (S k) = some (match f k with | some r => .inr (.inr r) | none => .inl (S (k + 1))))
 (h2 : step (S n) = some (.inr (.inl e))) {s0 : σ} (h0 : S 0 = s0) : (lpO step s0).bind (Sum.elim k1 some) = match zG f 0 n with | some r => some r | none => k1 e := by
 subst h0
 rw [zbk n S (fun k => (f k).map Sum.inr) (.inl e) (fun k hk => by rw [h1 k hk]; cases f k <;> rfl) h2, uF]
 cases zG f 0 n <;> rfl
theorem wX {σ τ ε : Type} {step : σ -> Option (σ ⊕ (ε ⊕ τ))} {k1 : ε -> Option τ} (n : Nat) (S : Nat -> σ) (e : ε)
 (h1 : ∀ k : Nat, k < n -> step (S k) = some (.inl (S (k + 1)))) (h2 : step (S n) = some (.inr (.inl e))) {s0 : σ} (h0 : S 0 = s0) : (lpO step s0).bind (Sum.elim k1 some) = k1 e := by
 subst h0
 rw [zwu n S (.inl e) h1 h2]; rfl
def i64 (n : Int) : Prop := -9223372036854775808 <= n /\ n <= 9223372036854775807
open Go
open Go
open Go
theorem zyz {n : Int} (h : inK .u8 n) : 0 <= n /\ n < 256 := by
 have e1 : IntKind.u8.min = 0 := by decide
 have e2 : IntKind.u8.max = 255 := by decide
 unfold inK at h
 omega
open Go
theorem zmw (x : Int) (h0 : 0 <= x) (h1 : x < 256) : Tot (zkn x) fun y => ∀ n : Nat, n <= 8 -> x.toNat < 2 ^ n -> decide (y < (n : Int)) = !decide (x.toNat = 2 ^ n - 1) := by
 unfold zkn
 rw [qD]
 refine ⟨h0, ?_⟩
 have key : ∀ l : List UInt8, (∀ x : Fin 256, ∀ n : Fin 9, (l[x.val]?.map fun y => decide (x.val < 2 ^ n.val -> decide (IntKind.wrap .i64 (y.toNat : Int) < (n.val : Int)) = !decide (x.val = 2 ^ n.val - 1))) = some true) ->
  ∃ y, l[x.toNat]? = some y /\ Tot (zg (IntKind.wrap .i64 (y.toNat : Int)) fun z => some z) fun y => ∀ n : Nat, n <= 8 -> x.toNat < 2 ^ n -> decide (y < (n : Int)) = !decide (x.toNat = 2 ^ n - 1) := by
  intro l hl
  cases e : l[x.toNat]? with
  | none =>
    have := hl ⟨x.toNat, by omega⟩ ⟨0, by omega⟩
    simp only [e] at this
    cases this
  | some y =>
    refine ⟨y, rfl, .mk fun n hn hx => ?_⟩
    have := hl ⟨x.toNat, by omega⟩ ⟨n, by omega⟩
    simp only [e, Option.map_some, Option.some.injEq, decide_eq_true_eq] at this
    exact this hx
 exact key _ (by decide +kernel)
theorem zsi {l : TL} (h : LatIn l) : zqs l = some (if (qW l).2 = 0 then ((wJ l : Int), 0) else (0, (qW l).2)) := by
 unfold zqs
 rw [zmv h [] (by simp)]
 simp only [Option.bind_some, zug, List.all_nil, if_true]
 by_cases hk : (qW l).2 = 0
 case neg => simp [hk]
 have ok := jo h hk
 simp only [hk, if_true, decide_true, Bool.not_true, cond_false]
 obtain ⟨o, e1, on, ol, _, ou, _⟩ := zk1 l ok.u8 ok.le ok.len
 rw [e1]
 simp only [Option.bind_some]
 have hb := (zer h hk).1
 have hend : zo9 o.up_ o.n_ = some (wJ l : Int) := by
  unfold zo9
  rw [on]
  have hw : IntKind.wrap .i64 ((l.Names.length : Int) - 1) = ((l.Names.length - 1 : Nat) : Int) := by
   have := ok.pos; have := ok.le
   rw [w64 (by omega) (by omega)]; omega
  have hle := ok.le
  have hpos := ok.pos
  have hrun := zbk (step := fun (s585 : Int) =>
   zg (IntKind.wrap IntKind.i64 ((l.Names.length : Int) - (1 : Int))) fun x591 =>
   cond (decide (s585 < x591))
   (zk ((0 : Int) <= s585 /\ s585 < (↑(8 : Nat) : Int)) (
   zi (o.up_) ((↑(Int.toNat s585) : Int)) fun x593 =>
   Option.bind (zkn (x593)) fun x594 =>
   cond (decide (x594 < (l.Names.length : Int)))
   (zg (IntKind.wrap IntKind.i64 (s585 + (1 : Int))) fun x596 =>
   some (Sum.inl (x596)))
   (some (Sum.inr (Sum.inl (β := Int) s585)))))
   (some (Sum.inr (Sum.inl s585)))) (l.Names.length - 1) (fun k => (k : Int)) (fun k => if k = wJ l then some (Sum.inl (k : Int)) else none) (Sum.inl ((l.Names.length - 1 : Nat) : Int)) (fun k hk2 => by
     have hlt : (k : Int) < ((l.Names.length - 1 : Nat) : Int) := by omega
     have n1 : (0 : Int) <= (k : Int) := by omega
     have n2 : (k : Int) < ((8 : Nat) : Int) := by omega
     have hw2 : IntKind.wrap .i64 ((k : Int) + 1) = ((k + 1 : Nat) : Int) := w64 (by omega) (by omega)
     obtain ⟨x, hx⟩ := zN (l := l.Up) (i := k) (by have := ok.len; omega)
     have hx' := ok.u8.get hx
     have hox : o.up_[k]? = some x := by rw [ou k (by omega)]; exact hx
     obtain ⟨y, ey, hy⟩ := zmw x hx'.1 hx'.2
     have hux : x.toNat = upN l k := by unfold upN; rw [List.getD_eq_getElem?_getD, hx]; rfl
     have hf := ztu h hk (b := k) (by omega)
     have hlt2 : x.toNat < 2 ^ l.Names.length := by
      have h1 := (zdn h hk).1 k (by omega)
      unfold zb3 at h1
      simp only [Bool.and_eq_true, decide_eq_true_eq] at h1
      rw [hux]; exact h1.1.1
     have hd := hy l.Names.length hle hlt2
     rw [hux] at hd
     simp only [zg, hw, hlt, decide_true, cond_true, zk, n1, n2, and_self, if_true, zi, Int.toNat_natCast, hox, Option.bind_some, ey, hw2, hd]
     by_cases hq : k = wJ l
     . have := hf.2 hq
       simp only [this, if_pos hq, decide_true, Bool.not_true, cond_false]
     . have : ¬ upN l k = 2 ^ l.Names.length - 1 := fun e => hq (hf.1 e)
       simp only [this, if_neg hq, decide_false, Bool.not_false, cond_true]) (by
     simp only [zg, hw]
     simp)
  have hs0 : ((0 : Nat) : Int) = 0 := rfl
  simp only [hs0] at hrun
  rw [hrun]
  have hsc : (zG (fun k => if k = wJ l then some (Sum.inl (α := Int) (β := Int) (k : Int)) else none) 0 (l.Names.length - 1)).getD (Sum.inl ((l.Names.length - 1 : Nat) : Int)) = Sum.inl (wJ l : Int) := by
   cases e : zG (fun k => if k = wJ l then some (Sum.inl (α := Int) (β := Int) (k : Int)) else none) 0 (l.Names.length - 1) with
   | some r =>
     have : r = Sum.inl (wJ l : Int) := ze5 (v := Sum.inl (wJ l : Int)) (fun i => by
      by_cases hi : i = wJ l
      . exact .inl (by rw [if_pos hi, hi])
      . exact .inr (by rw [if_neg hi])) e
     rw [this]; rfl
   | none =>
     have hn := scan_none.1 e
     rcases Nat.lt_or_ge (wJ l) (l.Names.length - 1) with g | g
     . have := hn (wJ l) (by omega) (by omega)
       simp at this
     . have : wJ l = l.Names.length - 1 := by omega
       rw [this]; rfl
  rw [hsc]
  rfl
 rw [hend]
 rfl
open Go
open Go
theorem zr3 {l : TL} (hu : U8s l.Up) {a b : Nat} (ha : a < l.Up.length) (hb : b <= 8) : zc8 l a b = some (up l a b) := by
 unfold zc8
 obtain ⟨x, hx⟩ := zN ha
 have hx' := hu.get hx
 have key : ∀ u : Fin 256, ∀ b : Fin 9, decide (bits .and .u8 (Int.fdiv (u.val : Int) (2 ^ min b.val (IntKind.bits .u8))) 1 = 1) = Nat.testBit u b := by decide +kernel
 have := key ⟨x.toNat, by omega⟩ ⟨b, by omega⟩
 simp only [Int.toNat_of_nonneg hx'.1] at this
 simp only [Int.natCast_nonneg, zi, Int.toNat_natCast, if_true, hx, Option.bind_some, zk, this, jz hx]
theorem zal {l : TL} (h : LatIn l) (hk : (qW l).2 = 0) (xs : List Int) (hx : xs.length <= 64) (hl : ∀ x ∈ xs, yi l x = true) : zmd l xs = some (0, 0) := by
 unfold zmd
 rw [zbt h]
 have h64 : ¬ (64 : Int) < (xs.length : Int) := by omega
 simp only [Option.bind_some, hk, decide_true, Bool.not_true, cond_false, List.length_map, h64, decide_false]
 refine (wX xs.length (fun k => (k : Int)) () (fun k hk => ?_) (by simp) rfl).trans rfl
 obtain ⟨x, hx⟩ := zN hk
 have hq := hl x (List.mem_of_getElem? hx)
 unfold yi at hq
 simp only [Bool.and_eq_true, decide_eq_true_eq] at hq
 have hlt : (k : Int) < (xs.length : Int) := by omega
 have hw : IntKind.wrap .i64 ((k : Int) + 1) = ((k + 1 : Nat) : Int) := w64 (by omega) (by omega)
 have n1 : (0 : Int) <= (k : Int) := by omega
 have n2 : ¬ x < 0 := by omega
 have n3 : ¬ (l.Names.length : Int) <= x := by omega
 simp only [hlt, decide_true, cond_true, zi, n1, if_true, Int.toNat_natCast, hx, Option.bind_some, zg, hw, n2, n3, decide_false, cond_false]
def flK (l : TL) (xs : List Int) (a : Int) (k : Nat) : Option Int := match xs[k]? with
 | some x => if up l x.toNat a.toNat = true then none else some (k : Int)
 | none => none
def flV (l : TL) (xs : List Int) (a : Int) : Int × Int := match zG (flK l xs a) 0 xs.length with | some r => (r, 25) | none => (0, 0)
theorem zuj {l : TL} (h : LatIn l) (hk : (qW l).2 = 0) (xs : List Int) (hx : xs.length <= 64) (hl : ∀ x ∈ xs, yi l x = true) (a : Int) (ha : yi l a = true) :
 zie l xs a = some (flV l xs a) := by
 have ok := jo h hk
 have hle := ok.le
 have hlen := ok.len
 unfold zie
 rw [zal h hk xs hx hl]
 unfold yi at ha
 simp only [Bool.and_eq_true, decide_eq_true_eq] at ha
 have n2 : ¬ a < 0 := by omega
 have n3 : ¬ (l.Names.length : Int) <= a := by omega
 simp only [Option.bind_some, decide_true, Bool.not_true, cond_false, n2, n3, decide_false, List.length_map]
 have hi : zqo xs (l, a) = some (match zG (flK l xs a) 0 xs.length with | some r => r | none => -1) := by
  unfold zqo
  simp only [List.length_map]
  refine (yh xs.length (fun k => (k : Int)) (flK l xs a) () (fun k hk => ?_) (by simp) rfl).trans ?_
  . obtain ⟨x, hx⟩ := zN hk
    have hq := hl x (List.mem_of_getElem? hx)
    unfold yi at hq
    simp only [Bool.and_eq_true, decide_eq_true_eq] at hq
    have hlt : (k : Int) < (xs.length : Int) := by omega
    have hw : IntKind.wrap .i64 ((k : Int) + 1) = ((k + 1 : Nat) : Int) := w64 (by omega) (by omega)
    have n1 : (0 : Int) <= (k : Int) := by omega
    have hb : zc8 l x a = some (up l x.toNat a.toNat) := by
     have := zr3 ok.u8 (a := x.toNat) (b := a.toNat) (by omega) (by omega)
     rwa [Int.toNat_of_nonneg hq.1, Int.toNat_of_nonneg ha.1] at this
    simp only [hlt, decide_true, cond_true, zi, n1, if_true, Int.toNat_natCast, hx, Option.bind_some, zg, hw, zuv, hb, flK]
    cases up l x.toNat a.toNat <;> simp
  . cases zG (flK l xs a) 0 xs.length <;> rfl
 rw [hi]
 unfold flV
 cases e : zG (flK l xs a) 0 xs.length with
 | none => simp
 | some r =>
   have : 0 <= r := by
    have key : ∀ {j k : Nat} {b : Int}, zG (flK l xs a) k j = some b -> 0 <= b := by
     intro j
     induction j with
     | zero => intro k b h; cases h
     | succ j ih =>
       intro k b h
       simp only [zG] at h
       cases hf : flK l xs a k with
       | none => rw [hf] at h; exact ih h
       | some z =>
         rw [hf] at h
         cases h
         unfold flK at hf
         split at hf
         . split at hf
           . cases hf
           . cases hf; omega
         . cases hf
    exact key e
   simp [this]
open Go
def qw (l : TL) (a : Int) : Bool := decide (0 <= a) && decide (a < (l.Names.length : Int))
theorem yF (l : TL) (a : Int) : jg l a = some (qw l a) := by
 unfold jg qw
 by_cases h : 0 <= a <;> simp [h]
def nmE (s : List UInt8) (before : List (List UInt8)) : Int := if exN s = true then (if s ∈ before then 8 else 0) else 24
theorem inL_iff {α : Type} [DecidableEq α] {a : α} {l : List α} : inL a l = true ↔ a ∈ l := by
 unfold inL; simp
def chK (p : TP) (k : Nat) : Option (Int × Int) := match p.Channels[k]? with
 | some c => if nmE c.s_ ((p.Channels.take k).map (·.s_)) ≠ 0 then some ((k : Int), nmE c.s_ ((p.Channels.take k).map (·.s_))) else if qw p.Lattice c.at_ = true then none else some ((k : Int), 7)
 | none => none
def chC (p : TP) : Int × Int := if (16 : Int) < (p.Channels.length : Int) then (-1, 3) else match zG (chK p) 0 p.Channels.length with | some r => r | none => (0, 0)
theorem zdm (p : TP) (hs : ∀ c ∈ p.Channels, c.s_.length <= 1000000) : zp6 p = some (chC p) := by
 unfold zp6 chC
 simp only [List.length_map]
 by_cases h : (16 : Int) < (p.Channels.length : Int)
 . simp [h]
 simp only [h, decide_false, cond_false, if_false]
 refine (yh p.Channels.length (fun k => ((k : Int), (p.Channels.take k).map (·.s_))) (chK p) () (fun k hk => ?_) ?_ rfl).trans ?_
 . obtain ⟨x, hx⟩ := zN hk
   have hlt : (k : Int) < (p.Channels.length : Int) := by omega
   have hw : IntKind.wrap .i64 ((k : Int) + 1) = ((k + 1 : Nat) : Int) := w64 (by omega) (by omega)
   have n1 : (0 : Int) <= (k : Int) := by omega
   have e : (p.Channels.take (k + 1)).map (·.s_) = (p.Channels.take k).map (·.s_) ++ [x.s_] := by rw [List.take_add_one, hx]; simp
   simp only [hlt, decide_true, cond_true, zi, n1, if_true, Int.toNat_natCast, hx, Option.bind_some, zg, hw, za0 x.s_ (hs x (List.mem_of_getElem? hx)), yF, chK, e]
   unfold nmE
   cases exN x.s_ with
   | false => simp
   | true =>
     cases hi : inL x.s_ ((p.Channels.take k).map (·.s_)) with
     | true =>
       have := inL_iff.1 hi
       simp only [Bool.not_true, cond_false, cond_true, if_true, if_pos this]
       simp
     | false =>
       have : ¬ x.s_ ∈ (p.Channels.take k).map (·.s_) := fun h => by rw [inL_iff.2 h] at hi; cases hi
       simp only [Bool.not_true, cond_false, if_true, if_neg this]
       cases qw p.Lattice x.at_ <;> simp
 . simp
 . cases zG (chK p) 0 p.Channels.length <;> rfl
end Go.Sx.O
noncomputable section
namespace Go.Sx.O
open Go
def zag (l : TL) (t : TY) : Int :=
 if t.Rank < 0 \/ 2 < t.Rank then 7
 else if qw l t.Axes.1 = true /\ qw l t.Axes.2 = true /\ qw l t.Data = true then
  if ([t.Axes.1, t.Axes.2].drop t.Rank.toNat).all (fun x => decide (x = (wJ l : Int))) = true then
   if ([t.Axes.1, t.Axes.2].take t.Rank.toNat).all (fun x => up l x.toNat t.Data.toNat) = true then 0 else 25
  else 6
 else 7
def zd5 (l : TL) (t : TY) : Int := if (qW l).2 = 0 then (if t.Kind = 1 \/ t.Kind = 2 then zag l t else 7) else (qW l).2
theorem zsn {β : Type} (v : β) (b : Int) (xs : List Int) (hx : xs.length <= 2) : zG (fun k => match xs[k]? with | some x => if x = b then none else some v | none => none) 0 xs.length = if xs.all (fun x => decide (x = b)) = true then none else some v := by
 match xs, hx with
 | [], _ => rfl
 | [x], _ => by_cases h : x = b <;> simp [zG, h]
 | [x, y], _ => by_cases h : x = b <;> by_cases g : y = b <;> simp [zG, h, g]
theorem ztw (l : TL) (a : Int) (xs : List Int) (hx : xs.length <= 2) : (flV l xs a).2 = if xs.all (fun x => up l x.toNat a.toNat) = true then 0 else 25 := by
 match xs, hx with
 | [], _ => rfl
 | [x], _ => cases h : up l x.toNat a.toNat <;> simp [flV, zG, flK, h]
 | [x, y], _ => cases h : up l x.toNat a.toNat <;> cases g : up l y.toNat a.toNat <;> simp [flV, zG, flK, h, g]
theorem zrp {l : TL} (h : LatIn l) (hk : (qW l).2 = 0) (t : TY) (hr : ¬ (t.Rank < 0 \/ 2 < t.Rank)) (l1 : qw l t.Axes.1 = true) (l2 : qw l t.Axes.2 = true) (l3 : qw l t.Data = true) :
 (Option.bind (lpO (fun (s612 : Int) =>
 cond (decide (s612 < (↑(List.length (List.drop (Int.toNat t.Rank) (List.take (Int.toNat (↑(2 : Nat) : Int)) [SV.int IntKind.i64 t.Axes.fst, SV.int IntKind.i64 t.Axes.snd]))) : Int)))
 (zi (List.drop (Int.toNat t.Rank) (List.take (Int.toNat (↑(2 : Nat) : Int)) [t.Axes.fst, t.Axes.snd])) (s612) fun x617 =>
 cond (!decide (x617 = (wJ l : Int)))
 (some (Sum.inr (Sum.inr ((6 : Int)))))
 (zg (IntKind.wrap IntKind.i64 (s612 + (1 : Int))) fun x619 =>
 some (Sum.inl (x619))))
 (some (Sum.inr (Sum.inl (()))))) ((0 : Int)))
 (Sum.elim (fun (_ : Unit) =>
 zk ((0 : Int) <= t.Rank /\ t.Rank <= (↑(2 : Nat) : Int)) (
 Option.bind (zie l (List.drop (Int.toNat (0 : Int)) (List.take (Int.toNat t.Rank) [t.Axes.fst, t.Axes.snd])) (t.Data)) fun x653 =>
 cond (!decide (x653.snd = (0 : Int)))
 (some (x653.snd))
 (some ((0 : Int))))) some)) = some (zag l t) := by
 have e0 : List.take (Int.toNat ((2 : Nat) : Int)) [t.Axes.fst, t.Axes.snd] = [t.Axes.fst, t.Axes.snd] := rfl
 have e1 : List.take (Int.toNat ((2 : Nat) : Int)) [SV.int IntKind.i64 t.Axes.fst, SV.int IntKind.i64 t.Axes.snd] = [SV.int IntKind.i64 t.Axes.fst, SV.int IntKind.i64 t.Axes.snd] := rfl
 have e2 : List.drop (Int.toNat 0) (List.take (Int.toNat t.Rank) [t.Axes.fst, t.Axes.snd]) = List.take (Int.toNat t.Rank) [t.Axes.fst, t.Axes.snd] := rfl
 rw [e0, e1, e2]
 have hlen : (List.drop (Int.toNat t.Rank) [SV.int IntKind.i64 t.Axes.fst, SV.int IntKind.i64 t.Axes.snd]).length = (List.drop (Int.toNat t.Rank) [t.Axes.fst, t.Axes.snd]).length := by simp
 rw [hlen]
 have hd2 : (List.drop (Int.toNat t.Rank) [t.Axes.fst, t.Axes.snd]).length <= 2 := by simp
 have ht2 : (List.take (Int.toNat t.Rank) [t.Axes.fst, t.Axes.snd]).length <= 2 := by simp; omega
 have htl : ∀ x ∈ List.take (Int.toNat t.Rank) [t.Axes.fst, t.Axes.snd], yi l x = true := fun x hx => by
  have := List.mem_of_mem_take hx
  simp only [List.mem_cons, List.not_mem_nil, or_false] at this
  rcases this with rfl | rfl
  . exact l1
  . exact l2
 unfold zag
 rw [if_neg hr, if_pos ⟨l1, l2, l3⟩]
 generalize hD : List.drop (Int.toNat t.Rank) [t.Axes.fst, t.Axes.snd] = D at hd2 ⊢
 generalize hT : List.take (Int.toNat t.Rank) [t.Axes.fst, t.Axes.snd] = T at ht2 htl ⊢
 refine (yh D.length (fun k => (k : Int)) (fun k => match D[k]? with | some x => if x = (wJ l : Int) then none else some (6 : Int) | none => none) () (fun k hk => ?_) (by simp) rfl).trans ?_
 . obtain ⟨x, hx⟩ := zN hk
   have hlt : (k : Int) < (D.length : Int) := by omega
   have hw : IntKind.wrap .i64 ((k : Int) + 1) = ((k + 1 : Nat) : Int) := w64 (by omega) (by omega)
   have n1 : (0 : Int) <= (k : Int) := by omega
   simp only [hlt, decide_true, cond_true, zi, n1, if_true, Int.toNat_natCast, hx, Option.bind_some, zg, hw]
   by_cases hb : x = (wJ l : Int) <;> simp [hb]
 . rw [zsn (6 : Int) (wJ l : Int) D hd2]
   by_cases hall : D.all (fun x => decide (x = (wJ l : Int))) = true
   . simp only [hall, if_true]
     unfold zk
     rw [if_pos (by omega), zuj h hk T (by omega) htl t.Data l3]
     have := ztw l t.Data T ht2
     simp only [Option.bind_some]
     rw [this]
     split <;> rfl
   . rw [if_neg hall, if_neg hall]
end Go.Sx.O
end
namespace Go.Sx.O
open Go
theorem zg5 {l : TL} (h : LatIn l) (t : TY) : zh7 l t = some (zd5 l t) := by
 unfold zh7 zd5
 rw [zsi h]
 by_cases hk : (qW l).2 = 0
 case neg => simp [hk]
 simp only [hk, if_true, Option.bind_some, decide_true, Bool.not_true, cond_false, yF]
 by_cases r1 : t.Rank < 0
 . by_cases k1 : t.Kind = 1 <;> by_cases k2 : t.Kind = 2 <;> simp [k1, k2, r1, zag]
 by_cases r2 : 2 < t.Rank
 . by_cases k1 : t.Kind = 1 <;> by_cases k2 : t.Kind = 2 <;> simp [k1, k2, r1, r2, zag]
 have hr : ¬ (t.Rank < 0 \/ 2 < t.Rank) := by omega
 have hside : (0 : Int) <= t.Rank /\ t.Rank <= ((2 : Nat) : Int) := by omega
 cases l1 : qw l t.Axes.fst with
 | false => by_cases k1 : t.Kind = 1 <;> by_cases k2 : t.Kind = 2 <;> simp [k1, k2, r1, r2, zag, l1]
 | true =>
   cases l2 : qw l t.Axes.snd with
   | false => by_cases k1 : t.Kind = 1 <;> by_cases k2 : t.Kind = 2 <;> simp [k1, k2, r1, r2, zag, l1, l2]
   | true =>
     cases l3 : qw l t.Data with
     | false => by_cases k1 : t.Kind = 1 <;> by_cases k2 : t.Kind = 2 <;> simp [k1, k2, r1, r2, zag, l1, l2, l3]
     | true =>
       have key := zrp h hk t hr l1 l2 l3
       simp only [Bool.not_true, cond_false, r1, r2, decide_false]
       by_cases k1 : t.Kind = 1
       . simp only [k1, decide_true, Bool.not_true, cond_false, true_or, if_true]
         rw [zk, if_pos hside]
         exact key
       . by_cases k2 : t.Kind = 2
         . simp only [k1, k2, decide_true, decide_false, Bool.not_true, Bool.not_false, cond_true, cond_false, or_true, if_true]
           rw [zk, if_pos hside]
           exact key
         . simp [k1, k2]
open Go
open Go
def vrK (g : TY -> Int) (p : TP) (k : Nat) : Option (Int × Int) := match p.Vars[k]? with
 | some c => if nmE c.Name ((p.Vars.take k).map (·.Name)) ≠ 0 then some ((k : Int), nmE c.Name ((p.Vars.take k).map (·.Name))) else if g c.Type_ = 0 then none else some ((k : Int), g c.Type_)
 | none => none
def vrC (g : TY -> Int) (p : TP) : Int × Int := if (32 : Int) < (p.Vars.length : Int) then (-1, 3) else match zG (vrK g p) 0 p.Vars.length with | some r => r | none => (0, 0)
theorem zib (g : TY -> Int) (p : TP) (hs : ∀ c ∈ p.Vars, c.Name.length <= 1000000) (hg : ∀ c ∈ p.Vars, zh7 p.Lattice c.Type_ = some (g c.Type_)) : zqk p = some (vrC g p) := by
 unfold zqk vrC
 simp only [List.length_map]
 by_cases h : (32 : Int) < (p.Vars.length : Int)
 . simp [h]
 simp only [h, decide_false, cond_false, if_false]
 refine (yh p.Vars.length (fun k => ((k : Int), (p.Vars.take k).map (·.Name))) (vrK g p) () (fun k hk => ?_) ?_ rfl).trans ?_
 . obtain ⟨x, hx⟩ := zN hk
   have hlt : (k : Int) < (p.Vars.length : Int) := by omega
   have hw : IntKind.wrap .i64 ((k : Int) + 1) = ((k + 1 : Nat) : Int) := w64 (by omega) (by omega)
   have n1 : (0 : Int) <= (k : Int) := by omega
   have e : (p.Vars.take (k + 1)).map (·.Name) = (p.Vars.take k).map (·.Name) ++ [x.Name] := by rw [List.take_add_one, hx]; simp
   simp only [hlt, decide_true, cond_true, zi, n1, if_true, Int.toNat_natCast, hx, Option.bind_some, zg, hw, za0 x.Name (hs x (List.mem_of_getElem? hx)), hg x (List.mem_of_getElem? hx), vrK, e]
   unfold nmE
   cases exN x.Name with
   | false => simp
   | true =>
     cases hi : inL x.Name ((p.Vars.take k).map (·.Name)) with
     | true =>
       have := inL_iff.1 hi
       simp only [Bool.not_true, cond_false, cond_true, if_true, if_pos this]
       simp
     | false =>
       have : ¬ x.Name ∈ (p.Vars.take k).map (·.Name) := fun h => by rw [inL_iff.2 h] at hi; cases hi
       simp only [Bool.not_true, cond_false, if_true, if_neg this]
       by_cases hz : g x.Type_ = 0 <;> simp [hz]
 . simp
 . cases zG (vrK g p) 0 p.Vars.length <;> rfl
open Go
def ckK {α τ : Type} (c : α -> Bool) (v : τ) (L : List α) (j : Nat) : Option τ := match L[j]? with | some y => if c y = true then some v else none | none => none
theorem zet {α τ : Type} (c : α -> Bool) (v : τ) (L : List α) (n : Nat) (hn : n <= L.length) : zG (ckK c v L) 0 n = if (L.take n).any c = true then some v else none := by
 by_cases h : (L.take n).any c = true
 . rw [if_pos h]
   cases e : zG (ckK c v L) 0 n with
   | some r =>
     have : r = v := ze5 (v := v) (fun i => by
      unfold ckK
      cases L[i]? with
      | none => exact .inr rfl
      | some x => by_cases hx : c x = true <;> simp [hx]) e
     rw [this]
   | none =>
     exfalso
     rw [List.any_eq_true] at h
     obtain ⟨x, hx, hc⟩ := h
     obtain ⟨i, hi, hxi⟩ := List.getElem_of_mem hx
     rw [List.length_take] at hi
     have := scan_none.1 e i (by omega) (by omega)
     rw [List.getElem_take] at hxi
     unfold ckK at this
     rw [List.getElem?_eq_getElem (by omega), hxi] at this
     simp [hc] at this
 . rw [if_neg h, scan_none]
   intro i _ hi
   unfold ckK
   obtain ⟨x, hx⟩ := zN (l := L) (i := i) (by omega)
   rw [hx]
   have : ¬ c x = true := fun hc => h (by
    rw [List.any_eq_true]
    exact ⟨x, List.mem_take_iff_getElem.2 ⟨i, by omega, by rw [List.getElem?_eq_getElem (by omega)] at hx; exact Option.some.inj hx⟩, hc⟩)
   simp [this]
def zga (x y : TU) : Bool := decide (y.From = x.From) && decide (y.Goal = x.Goal)
def rlK (p : TP) (k : Nat) : Option (Int × Int) := match p.Rules[k]? with
 | some x => if qw p.Lattice x.From = true then (if qw p.Lattice x.Goal = true then (if x.From = x.Goal then some ((k : Int), 25) else if up p.Lattice x.Goal.toNat x.From.toNat = true then (if (p.Rules.take k).any (zga x) = true then some ((k : Int), 8) else if x.K < 2 then some ((k : Int), 3) else if 400 < x.K then some ((k : Int), 3) else none) else some ((k : Int), 25)) else some ((k : Int), 7)) else some ((k : Int), 7)
 | none => none
def rlC (p : TP) : Int × Int := if (64 : Int) < (p.Rules.length : Int) then (-1, 3) else match zG (rlK p) 0 p.Rules.length with | some r => r | none => (0, 0)
theorem zwl (x : TU) (L : List TU) : inL (x.From, x.Goal) (L.map fun y => (y.From, y.Goal)) = L.any (zga x) := by
 rw [Bool.eq_iff_iff, inL_iff, List.any_eq_true]
 simp only [List.mem_map, Prod.mk.injEq, zga, Bool.and_eq_true, decide_eq_true_eq]
theorem zw6 {x : Int} (h0 : 0 <= x) (h1 : x < 256) {b : Nat} (hb : b <= 8) : decide (bits .and .u8 (Int.fdiv x (2 ^ min b (IntKind.bits .u8))) 1 = 0) = !Nat.testBit x.toNat b := by
 have key : ∀ u : Fin 256, ∀ b : Fin 9, decide (bits .and .u8 (Int.fdiv (u.val : Int) (2 ^ min b.val (IntKind.bits .u8))) 1 = 0) = !Nat.testBit u b := by decide +kernel
 have := key ⟨x.toNat, by omega⟩ ⟨b, by omega⟩
 simpa only [Int.toNat_of_nonneg h0] using this
theorem zfy (p : TP) (h : LatIn p.Lattice) (hk : (qW p.Lattice).2 = 0) : zps p = some (rlC p) := by
 have ok := jo h hk
 have hle := ok.le
 have hlen := ok.len
 unfold zps rlC
 simp only [List.length_map]
 by_cases h6 : (64 : Int) < (p.Rules.length : Int)
 . simp [h6]
 simp only [h6, decide_false, cond_false, if_false]
 refine (yh p.Rules.length (fun k => ((k : Int), (p.Rules.take k).map fun y => (y.From, y.Goal))) (rlK p) () (fun k hk => ?_) ?_ rfl).trans ?_
 . obtain ⟨x, hx⟩ := zN hk
   have hlt : (k : Int) < (p.Rules.length : Int) := by omega
   have hw : IntKind.wrap .i64 ((k : Int) + 1) = ((k + 1 : Nat) : Int) := w64 (by omega) (by omega)
   have n1 : (0 : Int) <= (k : Int) := by omega
   have e : (p.Rules.take (k + 1)).map (fun y => (y.From, y.Goal)) = (p.Rules.take k).map (fun y => (y.From, y.Goal)) ++ [(x.From, x.Goal)] := by rw [List.take_add_one, hx]; simp
   simp only [hlt, decide_true, cond_true, zi, n1, if_true, Int.toNat_natCast, hx, Option.bind_some, zg, hw, yF, rlK, e, zwl]
   cases l1 : qw p.Lattice x.From with
   | false => simp
   | true =>
     cases l2 : qw p.Lattice x.Goal with
     | false => simp
     | true =>
       unfold qw at l1 l2
       simp only [Bool.and_eq_true, decide_eq_true_eq] at l1 l2
       obtain ⟨u, hu⟩ := zN (l := p.Lattice.Up) (i := x.Goal.toNat) (by omega)
       have hu' := ok.u8.get hu
       have hb := zw6 hu'.1 hu'.2 (b := x.From.toNat) (by omega)
       have n2 : (0 : Int) <= x.Goal := l2.1
       have n3 : (0 : Int) <= x.From := l1.1
       simp only [Bool.not_true, cond_false, n2, if_true, hu, Option.bind_some, zk, n3, hb, jz hu]
       by_cases hfg : x.From = x.Goal
       . simp [hfg]
       cases hbt : Nat.testBit u.toNat x.From.toNat with
       | false => simp [hfg]
       | true =>
         cases (p.Rules.take k).any (zga x) with
         | true => simp [hfg]
         | false =>
           by_cases k2 : x.K < 2
           . simp [hfg, k2]
           . by_cases k4 : 400 < x.K <;> simp [hfg, k2, k4]
 . simp
 . cases zG (rlK p) 0 p.Rules.length <;> rfl
end Go.Sx.O
noncomputable section
namespace Go.Sx.O
open Go
structure PolIn (p : TP) : Prop where
 lat : LatIn p.Lattice
 chan : ∀ c ∈ p.Channels, c.s_.length <= 1000000
 var : ∀ c ∈ p.Vars, c.Name.length <= 1000000
def wL (p : TP) : Int × Int × Int :=
 if (qW p.Lattice).2 = 0 then (if (chC p).2 = 0 then (if (vrC (zd5 p.Lattice) p).2 = 0 then (if (rlC p).2 = 0 then (0, 0, 0) else (4, rlC p)) else (3, vrC (zd5 p.Lattice) p)) else (2, chC p)) else (1, qW p.Lattice)
theorem zw2 {τ : Type} {P : τ -> Prop} {f : Nat -> Option τ} (hf : ∀ i r, f i = some r -> P r) : ∀ {n k r}, zG f k n = some r -> P r := by
 intro n
 induction n with
 | zero => intro k r h; cases h
 | succ n ih =>
   intro k r h
   simp only [zG] at h
   split at h
   . rename_i b hb; cases h; exact hf _ _ hb
   . exact ih h
theorem zj4 {p : TP} (h : (rlC p).2 = 0) : rlC p = (0, 0) := by
 unfold rlC at h ⊢
 split at h
 . simp at h
 . rename_i h6
   rw [if_neg h6]
   cases e : zG (rlK p) 0 p.Rules.length with
   | none => rfl
   | some r =>
     exfalso
     rw [e] at h
     have := zw2 (P := fun r : Int × Int => r.2 ≠ 0) (fun i r hr => by
      unfold rlK at hr
      revert hr
      repeat' split
      all_goals (intro hr; cases hr <;> simp)) e
     exact this h
theorem xd {p : TP} (h : PolIn p) : zh9 p = some (wL p) := by
 unfold zh9 wL ztl
 rw [zbt h.lat, zdm p h.chan, zib (zd5 p.Lattice) p h.var (fun c _ => zg5 h.lat _)]
 by_cases hk : (qW p.Lattice).2 = 0
 case neg => simp [hk]
 rw [zfy p h.lat hk]
 by_cases h2 : (chC p).2 = 0
 case neg => simp [hk, h2]
 by_cases h3 : (vrC (zd5 p.Lattice) p).2 = 0
 case neg => simp [hk, h2, h3]
 by_cases h4 : (rlC p).2 = 0
 case neg => simp [hk, h2, h3, h4]
 simp [hk, h2, h3, zj4 h4]
theorem zd4 {p : TP} (h : (wL p).2.2 = 0) : (qW p.Lattice).2 = 0 := by
 unfold wL at h
 by_cases hk : (qW p.Lattice).2 = 0
 . exact hk
 . rw [if_neg hk] at h; exact absurd h hk
theorem zir {p : TP} (h : (wL p).2.2 = 0) : rlC p = (0, 0) := by
 unfold wL at h
 split at h
 . split at h
   . split at h
     . split at h
       . rename_i h4; exact zj4 h4
       . rename_i h4; exact absurd h h4
     . rename_i h4; exact absurd h h4
   . rename_i h4; exact absurd h h4
 . rename_i h4; exact absurd h h4
def rfK (p : TP) (a b : Int) (k : Nat) : Option (Int × Int) := match p.Rules[k]? with
 | some x => if x.From = a then (if x.Goal = b then some (x.K, 0) else none) else none
 | none => none
def zla (p : TP) (a b : Int) : Int × Int :=
 if (wL p).2.2 = 0 then (if qw p.Lattice a = true then (if qw p.Lattice b = true then (match zG (rfK p a b) 0 p.Rules.length with | some r => r | none => (0, 4)) else (0, 7)) else (0, 7)) else (0, (wL p).2.2)
theorem zan {p : TP} (h : (wL p).2.2 = 0) : p.Rules.length <= 64 := by
 have := zir h
 unfold rlC at this
 split at this
 . cases this
 . omega
theorem zhf {p : TP} (h : PolIn p) (a b : Int) : zpm p a b = some (zla p a b) := by
 unfold zpm zla
 rw [xd h]
 by_cases h0 : (wL p).2.2 = 0
 case neg => simp [h0]
 have hl := zan h0
 simp only [Option.bind_some, h0, decide_true, Bool.not_true, cond_false, yF, if_true, List.length_map]
 cases qw p.Lattice a with
 | false => simp
 | true =>
   cases qw p.Lattice b with
   | false => simp
   | true =>
     simp only [Bool.not_true, cond_false, if_true]
     refine (yh p.Rules.length (fun k => (k : Int)) (rfK p a b) () (fun k hk => ?_) ?_ rfl).trans ?_
     . obtain ⟨x, hx⟩ := zN hk
       have hlt : (k : Int) < (p.Rules.length : Int) := by omega
       have hw : IntKind.wrap .i64 ((k : Int) + 1) = ((k + 1 : Nat) : Int) := w64 (by omega) (by omega)
       have n1 : (0 : Int) <= (k : Int) := by omega
       simp only [hlt, decide_true, cond_true, zi, n1, if_true, Int.toNat_natCast, hx, zg, hw, rfK]
       by_cases c1 : x.From = a <;> by_cases c2 : x.Goal = b <;> simp [c1, c2]
     . simp
     . cases zG (rfK p a b) 0 p.Rules.length <;> rfl
theorem zg7 {α : Type} {L : List α} {N : Nat} {c : α -> Bool} (h : (L.take (min L.length N)).any c = false) (hn : L.length <= N) : ∀ x ∈ L, c x = false := by
 rw [Nat.min_eq_left hn, List.take_length] at h
 simpa using h
theorem zm5 (L : List (List UInt8)) : ∃ b, Fz0 L = some b /\ (b = false -> L.length <= 12 /\ ∀ s ∈ L, s.length <= 100) := by
 unfold Fz0
 simp only [List.length_map]
 rw [yh (s0 := (0 : Int)) (min L.length 20) (fun k => (k : Int)) (ckK (fun s : List UInt8 => decide ((100 : Int) < (s.length : Int))) true L) () ?_ ?_ rfl, zet _ _ _ _ (by omega)]
 . cases h : (L.take (min L.length 20)).any (fun s => decide ((100 : Int) < (s.length : Int))) with
   | true => exact ⟨true, rfl, fun h => by cases h⟩
   | false =>
     refine ⟨_, rfl, fun h12 => ?_⟩
     have h12 : L.length <= 12 := by simp at h12; omega
     exact ⟨h12, fun s hs => by have := zg7 h (by omega) s hs; simp at this; omega⟩
 . intro k hk
   obtain ⟨x, hx⟩ := zN (l := L) (i := k) (by omega)
   have hlt : (k : Int) < (L.length : Int) := by omega
   have hlt2 : (k : Int) < 20 := by omega
   have hw : IntKind.wrap .i64 ((k : Int) + 1) = ((k + 1 : Nat) : Int) := w64 (by omega) (by omega)
   have n1 : (0 : Int) <= (k : Int) := by omega
   simp only [hlt, hlt2, decide_true, cond_true, zi, n1, if_true, Int.toNat_natCast, hx, zg, hw, ckK]
   by_cases c1 : (100 : Int) < (x.length : Int) <;> simp [c1]
 . by_cases c1 : ((min L.length 20 : Nat) : Int) < (L.length : Int)
   . have c2 : ¬ ((min L.length 20 : Nat) : Int) < 20 := by omega
     simp only [c1, c2, decide_true, decide_false, cond_true, cond_false]
   . simp only [c1, decide_false, cond_false]
theorem zuw (p : TP) (hu : U8s p.Lattice.Up) : ∃ b, Fz2 p = some b /\ (b = false -> PolIn p) := by
 unfold Fz2
 simp only [List.length_map]
 rw [yh (s0 := (0 : Int)) (min p.Channels.length 25) (fun k => (k : Int)) (ckK (fun s : TR => decide ((100 : Int) < (s.s_.length : Int))) true p.Channels) () ?_ ?_ rfl, zet _ _ _ _ (by omega)]
 rotate_left
 . intro k hk
   obtain ⟨x, hx⟩ := zN (l := p.Channels) (i := k) (by omega)
   have hlt : (k : Int) < (p.Channels.length : Int) := by omega
   have hlt2 : (k : Int) < 25 := by omega
   have hw : IntKind.wrap .i64 ((k : Int) + 1) = ((k + 1 : Nat) : Int) := w64 (by omega) (by omega)
   have n1 : (0 : Int) <= (k : Int) := by omega
   simp only [hlt, hlt2, decide_true, cond_true, zi, n1, if_true, Int.toNat_natCast, hx, zg, hw, ckK]
   by_cases c1 : (100 : Int) < (x.s_.length : Int) <;> simp [c1]
 . by_cases c1 : ((min p.Channels.length 25 : Nat) : Int) < (p.Channels.length : Int)
   . have c2 : ¬ ((min p.Channels.length 25 : Nat) : Int) < 25 := by omega
     simp only [c1, c2, decide_true, decide_false, cond_true, cond_false]
   . simp only [c1, decide_false, cond_false]
 cases hc : (p.Channels.take (min p.Channels.length 25)).any (fun s => decide ((100 : Int) < (s.s_.length : Int))) with
 | true => exact ⟨true, rfl, fun h => by cases h⟩
 | false =>
   simp only [Bool.false_eq_true, if_false]
   rw [yh (s0 := (0 : Int)) (min p.Vars.length 45) (fun k => (k : Int)) (ckK (fun s : TV => decide ((100 : Int) < (s.Name.length : Int))) true p.Vars) () ?_ ?_ rfl, zet _ _ _ _ (by omega)]
   rotate_left
   . intro k hk
     obtain ⟨x, hx⟩ := zN (l := p.Vars) (i := k) (by omega)
     have hlt : (k : Int) < (p.Vars.length : Int) := by omega
     have hlt2 : (k : Int) < 45 := by omega
     have hw : IntKind.wrap .i64 ((k : Int) + 1) = ((k + 1 : Nat) : Int) := w64 (by omega) (by omega)
     have n1 : (0 : Int) <= (k : Int) := by omega
     simp only [hlt, hlt2, decide_true, cond_true, zi, n1, if_true, Int.toNat_natCast, hx, zg, hw, ckK]
     by_cases c1 : (100 : Int) < (x.Name.length : Int) <;> simp [c1]
   . by_cases c1 : ((min p.Vars.length 45 : Nat) : Int) < (p.Vars.length : Int)
     . have c2 : ¬ ((min p.Vars.length 45 : Nat) : Int) < 45 := by omega
       simp only [c1, c2, decide_true, decide_false, cond_true, cond_false]
     . simp only [c1, decide_false, cond_false]
   cases hv : (p.Vars.take (min p.Vars.length 45)).any (fun s => decide ((100 : Int) < (s.Name.length : Int))) with
   | true => exact ⟨true, rfl, fun h => by cases h⟩
   | false =>
     simp only [Bool.false_eq_true, if_false]
     unfold Fz1
     obtain ⟨b, e, hb⟩ := zm5 p.Lattice.Names
     rw [e]
     simp only [Option.bind_some, List.length_map]
     cases b with
     | true => exact ⟨true, rfl, fun h => by cases h⟩
     | false =>
       obtain ⟨hb1, hb2⟩ := hb rfl
       simp only [cond_false, Option.bind_some]
       by_cases h12 : (12 : Int) < (p.Lattice.Up.length : Int)
       . exact ⟨true, by simp [h12], fun h => by cases h⟩
       by_cases h20 : (20 : Int) < (p.Channels.length : Int)
       . exact ⟨true, by simp [h12, h20], fun h => by cases h⟩
       by_cases h40 : (40 : Int) < (p.Vars.length : Int)
       . exact ⟨true, by simp [h12, h20, h40], fun h => by cases h⟩
       simp only [h12, h20, h40, decide_false, cond_false]
       refine ⟨_, rfl, fun _ => ⟨⟨hu, by omega, fun s hs => by have := hb2 s hs; omega⟩, fun c h => ?_, fun c h => ?_⟩⟩
       . have := zg7 hc (by omega) c h; simp at this; omega
       . have := zg7 hv (by omega) c h; simp at this; omega
end Go.Sx.O
end
namespace Go.Sx.O
open Go
open Go
theorem zws {x : Int} (h0 : 0 <= x) (h1 : x < 256) {b : Nat} (hb : b <= 8) : decide (bits .and .u8 (Int.fdiv x (2 ^ min b (IntKind.bits .u8))) 1 = 1) = Nat.testBit x.toNat b := by
 have key : ∀ u : Fin 256, ∀ b : Fin 9, decide (bits .and .u8 (Int.fdiv (u.val : Int) (2 ^ min b.val (IntKind.bits .u8))) 1 = 1) = Nat.testBit u b := by decide +kernel
 have := key ⟨x.toNat, by omega⟩ ⟨b, by omega⟩
 simpa only [Int.toNat_of_nonneg h0] using this
theorem labB_iff {l : TL} {a : Int} : qw l a = true ↔ 0 <= a /\ a < (l.Names.length : Int) := by simp [qw]
theorem zzn {l : TL} (ok : LatOK l) {a b c : Nat} (ha : a < l.Names.length) (hb : b < l.Names.length) (hc : c < l.Names.length) (h1 : up l a b = true) (h2 : up l b c = true) : up l a c = true := (ok.row a ha b hb h1).2 c hc h2
open Go
theorem zxi {l : List Int} (h : jK (inK .u8) l) : U8s l := fun x hx => zyz (h x hx)
open Go
open Go
theorem zba {τ : Type} {f : Nat -> Option τ} {r : τ} : ∀ {n m : Nat}, zG f m n = some r -> ∃ k, m <= k /\ k < m + n /\ f k = some r /\ ∀ j, m <= j -> j < k -> f j = none
 | 0, m, h => by cases h
 | n + 1, m, h => by
   simp only [zG] at h
   cases hf : f m with
   | some q =>
     rw [hf] at h
     cases h
     exact ⟨m, Nat.le_refl _, by omega, hf, fun j a b => by omega⟩
   | none =>
     rw [hf] at h
     obtain ⟨k, k1, k2, k3, k4⟩ := zba h
     refine ⟨k, by omega, by omega, k3, fun j a b => ?_⟩
     by_cases e : j = m
     . subst e; exact hf
     . exact k4 j (by omega) b
open Go
open Go
open Go
open Go
def xe (l : TL) (b k : Nat) : Nat := ((List.range k).filter fun a => up l a b).length
theorem ziy {l : TL} {b k : Nat} : xe l b (k + 1) = xe l b k + if up l k b = true then 1 else 0 := by
 unfold xe
 rw [List.range_succ, List.filter_append, List.length_append]
 cases h : up l k b <;> simp [h]
theorem zh5 {l : TL} {b k : Nat} : xe l b k <= k := by
 have := List.length_filter_le (fun a => up l a b) (List.range k)
 simpa [xe] using this
def lvl (l : TL) (b : Nat) : Nat := xe l b l.Names.length
theorem zn3 {l : TL} (ok : LatOK l) {b : Nat} (hb : b < l.Names.length) : 1 <= lvl l b := by
 unfold lvl xe
 have : b ∈ (List.range l.Names.length).filter fun a => up l a b := by
  rw [List.mem_filter]; exact ⟨List.mem_range.2 hb, ok.self b hb⟩
 exact List.length_pos_of_mem this
def yj (n : Nat) (f : Nat -> Nat) : List Int := (List.range n).map fun i => (f i : Int)
theorem jE {n : Nat} {f : Nat -> Nat} : (yj n f).length = n := by simp [yj]
theorem jB {n : Nat} {f : Nat -> Nat} {i : Nat} (h : i < n) : (yj n f)[i]? = some (f i : Int) := by
 unfold yj
 rw [List.getElem?_map, List.getElem?_range h]; rfl
theorem zu7 {n : Nat} {f : Nat -> Nat} {i v : Nat} : (yj n f).set i (v : Int) = yj n fun j => if j = i then v else f j := by
 refine List.ext_getElem? fun j => ?_
 rw [List.getElem?_set]
 by_cases e : i = j
 . subst e
   rw [if_pos rfl]
   by_cases hi : i < n
   . rw [if_pos (by rw [jE]; exact hi), jB hi, if_pos rfl]
   . rw [if_neg (by rw [jE]; exact hi), List.getElem?_eq_none (by rw [jE]; omega)]
 . rw [if_neg e]
   by_cases hj : j < n
   . rw [jB hj, jB hj, if_neg (fun h => e h.symm)]
   . rw [List.getElem?_eq_none (by rw [jE]; omega), List.getElem?_eq_none (by rw [jE]; omega)]
theorem uu {n : Nat} {f g : Nat -> Nat} (h : ∀ i, i < n -> f i = g i) : yj n f = yj n g := by
 unfold yj
 exact List.map_congr_left fun i hi => by rw [h i (List.mem_range.1 hi)]
def lvS (l : TL) (b k : Nat) (i : Nat) : Nat := if i < b then lvl l i else if i = b then xe l b k else 0
theorem zvf {l : TL} (ok : LatOK l) {a b : Nat} (ha : a < l.Names.length) (hb : b < l.Names.length) : zc8 l (a : Int) (b : Int) = some (up l a b) := by
 have hle := ok.le
 have hlen := ok.len
 unfold zc8 zi
 obtain ⟨x, hx⟩ := zN (l := l.Up) (i := a) (by omega)
 have hu := ok.u8 x (List.mem_of_getElem? hx)
 have n1 : (0 : Int) <= (a : Int) := by omega
 have n2 : (0 : Int) <= (b : Int) := by omega
 simp only [n1, if_true, Int.toNat_natCast, hx, Option.bind_some]
 unfold zk
 rw [if_pos n2, zws hu.1 hu.2 (by omega), jz hx]
def ltL (l : TL) (x y : Int) : Prop := lvl l x.toNat < lvl l y.toNat \/ (lvl l x.toNat = lvl l y.toNat /\ x < y)
theorem zh8 {l : TL} {x : Int} : ¬ ltL l x x := by unfold ltL; omega
theorem zi9 {l : TL} {x y z : Int} (h : ltL l x y) (k : ltL l y z) : ltL l x z := by unfold ltL at *; omega
theorem zxb {l : TL} {x y : Int} (h : x ≠ y) : ltL l x y \/ ltL l y x := by unfold ltL; omega
def lvT (l : TL) : List Int := yj l.Names.length (lvl l)
theorem zn7 {l : TL} {x y : Int} (hx : qw l x = true) (hy : qw l y = true) : Tot (zlv (lvT l) x y) fun r => (r = true ↔ ltL l x y) := by
 obtain ⟨x0, x1⟩ := labB_iff.1 hx
 obtain ⟨y0, y1⟩ := labB_iff.1 hy
 unfold zlv zi
 have e1 : (lvT l)[x.toNat]? = some (lvl l x.toNat : Int) := jB (by omega)
 have e2 : (lvT l)[y.toNat]? = some (lvl l y.toNat : Int) := jB (by omega)
 simp only [x0, y0, if_true, e1, e2, Option.bind_some]
 by_cases e : (lvl l x.toNat : Int) = (lvl l y.toNat : Int)
 . simp only [e, decide_true, Bool.not_true, cond_false, tot_some, decide_eq_true_eq]
   unfold ltL; omega
 . simp only [e, decide_false, Bool.not_false, cond_true, tot_some, decide_eq_true_eq]
   unfold ltL; omega
theorem zyu {l : TL} {x y : Int} (hx : qw l x = true) (hy : qw l y = true) : Tot (zpu x y (lvT l)) fun c => (c < 0 ↔ ltL l x y) := by
 unfold zpu
 obtain ⟨r, e, q⟩ := zn7 hx hy
 obtain ⟨r2, e2, q2⟩ := zn7 hy hx
 rw [e, e2]
 cases r
 . cases r2
   . simp only [Option.bind_some, cond_false, tot_some]
     simpa using q
   . simp only [Option.bind_some, cond_false, cond_true, tot_some]
     simpa using q
 . simp only [Option.bind_some, cond_true, tot_some]
   simpa using q
open Go
theorem zcn {α : Type} {x y : Option α} {Q : α -> Prop} (h : x = y) (k : Tot y Q) : Tot x Q := h ▸ k
theorem zve {σ τ ε : Type} {step : σ -> Option (σ ⊕ (ε ⊕ τ))} {k1 : ε -> Option τ} {s0 : σ} {Q : τ -> Prop} (h : Tot (step s0) fun z => ∃ r, z = .inr (.inr r) /\ Q r) : Tot ((lpO step s0).bind (Sum.elim k1 some)) Q := by
 obtain ⟨z, e, r, rfl, q⟩ := h
 refine zcn ?_ (tot_some.2 q)
 have := zbk (step := step) 1 (fun k => s0) (fun _ => some (.inr r : ε ⊕ τ)) (.inr r) (fun k hk => by rw [e]) 
 rw [this (by rw [e])]
 rfl
theorem zuq {l : TL} {A1 A2 : List Int} {x : Int} (hs : (A1 ++ A2).Pairwise (ltL l)) (h2 : ∀ a ∈ A2, ltL l x a) (h1 : A1 = [] \/ ∃ A0 y, A1 = A0 ++ [y] /\ ltL l y x) : (A1 ++ x :: A2).Pairwise (ltL l) := by
 rw [List.pairwise_append] at hs ⊢
 obtain ⟨p1, p2, p3⟩ := hs
 refine ⟨p1, List.pairwise_cons.2 ⟨h2, p2⟩, fun a ha b hb => ?_⟩
 rcases List.mem_cons.1 hb with rfl | hb
 . rcases h1 with rfl | ⟨A0, y, rfl, hy⟩
   . cases ha
   . rcases List.mem_append.1 ha with ha | ha
     . rw [List.pairwise_append] at p1
       exact zi9 (p1.2.2 a ha y (by simp)) hy
     . simp only [List.mem_cons, List.not_mem_nil, or_false] at ha
       subst ha; exact hy
 . exact p3 a ha b hb
theorem zh0 {A B : List Int} {x : Int} : (A ++ x :: B)[A.length]? = some x := by simp
theorem zhz {A B : List Int} {x y : Int} : (A ++ x :: B).set A.length y = A ++ y :: B := by simp
theorem zsj {n : Nat} (h : n <= 12) : ∃ v, yg (n : Int) = some v := by
 unfold yg
 rw [if_pos (by omega), Int.toNat_natCast]
 exact ⟨zua[n]'(by simp [zua]; omega), List.getElem?_eq_getElem _⟩
set_option maxHeartbeats 1000000 in
theorem zm8 {l : TL} (h : LatIn l) (hk : (qW l).2 = 0) {X : List Int} (hX : ∀ x ∈ X, qw l x = true) (hn : X.Nodup) (hl : X.length <= 12) : Tot (zkf l X) fun Y => Y.Perm X /\ Y.Pairwise (ltL l) := by
 have ok := jo h hk
 have hle := ok.le
 have hlen := ok.len
 unfold zkf
 simp only [List.length_map]
 rw [qK]
 refine ⟨⟨by omega, trivial, by omega, by omega⟩, ?_⟩
 refine zcn (wX l.Names.length (fun b => ((b : Int), yj l.Names.length (lvS l b 0))) (lvT l) (fun b hb => ?_) ?_ ?_) ?_
 . have hbt : (b : Int) < (l.Names.length : Int) := by omega
   have hwb : IntKind.wrap .i64 ((b : Int) + 1) = ((b + 1 : Nat) : Int) := w64 (by omega) (by omega)
   have n1 : (0 : Int) <= (b : Int) := by omega
   simp only [hbt, decide_true, cond_true]
   refine (wX l.Names.length (fun a => ((a : Int), yj l.Names.length (lvS l b a))) (yj l.Names.length (lvS l b l.Names.length)) (fun a ha => ?_) (by simp) rfl).trans ?_
   . have hat : (a : Int) < (l.Names.length : Int) := by omega
     have hwa : IntKind.wrap .i64 ((a : Int) + 1) = ((a + 1 : Nat) : Int) := w64 (by omega) (by omega)
     have hg := jB (f := lvS l b a) hb
     have hv : lvS l b a b = xe l b a := by simp [lvS]
     have hc := zh5 (l := l) (b := b) (k := a)
     have hwc : IntKind.wrap .i64 ((xe l b a : Int) + 1) = ((xe l b a + 1 : Nat) : Int) := w64 (by omega) (by omega)
     rw [hv] at hg
     simp only [hat, decide_true, cond_true, zvf ok ha hb, Option.bind_some]
     cases u : up l a b
     . simp only [cond_false, zg, hwa]
       have : yj l.Names.length (lvS l b a) = yj l.Names.length (lvS l b (a + 1)) := uu fun i _ => by
        unfold lvS
        rw [ziy, u]; simp
       rw [this]
     . simp only [cond_true, jE, zk, n1, hbt, and_self, if_true, zi, Int.toNat_natCast, hg, Option.bind_some, zg, hwc, hwa, zu7]
       have : (yj l.Names.length fun j => if j = b then xe l b a + 1 else lvS l b a j) = yj l.Names.length (lvS l b (a + 1)) := uu fun i _ => by
        unfold lvS
        rw [ziy, u]
        by_cases e : i = b
        . subst e; simp
        . simp [e]
       rw [this]
   . simp only [zg, hwb]
     have : yj l.Names.length (lvS l b l.Names.length) = yj l.Names.length (lvS l (b + 1) 0) := uu fun i _ => by
      unfold lvS
      by_cases e : i = b
      . subst e; simp [lvl]
      . have : (i < b + 1) = (i < b) := by simp; omega
        by_cases e2 : i = b + 1
        . subst e2; simp [xe]; omega
        . simp [e, e2, this]
     rw [this]
 . simp only [Int.lt_irrefl, decide_false, cond_false]
   have : yj l.Names.length (lvS l l.Names.length 0) = lvT l := uu fun i hi => by simp [lvS, hi]
   rw [this]
 . have : yj l.Names.length (lvS l 0 0) = List.replicate l.Names.length (0 : Int) := by
    refine List.ext_getElem? fun i => ?_
    by_cases hi : i < l.Names.length
    . rw [jB hi, List.getElem?_replicate, if_pos hi]
      have : lvS l 0 0 i = 0 := by unfold lvS; split <;> (try split) <;> simp_all [xe]
      rw [this]; rfl
    . rw [List.getElem?_eq_none (by rw [jE]; omega), List.getElem?_eq_none (by simp; omega)]
   simp [this]
 . rw [qK]
   refine ⟨by omega, ?_⟩
   have hw : IntKind.wrap .u64 (X.length : Int) = (X.length : Int) := by
    have : ∀ k : Fin 13, IntKind.wrap .u64 ((k.val : Nat) : Int) = (k.val : Int) := by decide +kernel
    exact this ⟨X.length, by omega⟩
   obtain ⟨v, hv⟩ := zsj hl
   rw [zY, hw, hv]
   simp only [Option.bind_some]
   refine zve ?_
   have hw2 : IntKind.wrap .i64 ((X.length : Int) - 0) = (X.length : Int) := by rw [Int.sub_zero]; exact w64 (by omega) (by omega)
   have hl2 : (X.length : Int) <= 12 := by omega
   rw [zY, hw2]
   simp only [hl2, decide_true, cond_true, zy]
   refine Tot.count (X.length - 1) (fun k s => s.1 = ((k + 1 : Nat) : Int) /\ ∃ A, s.2 = A ++ X.drop (k + 1) /\ A.Perm (X.take (k + 1)) /\ A.Pairwise (ltL l)) (fun k s hkk hP => ?_) ⟨rfl, X.take 1, (List.take_append_drop 1 X).symm, List.Perm.refl _, ?_⟩
   . obtain ⟨s1, s2⟩ := s
     obtain ⟨rfl, A, rfl, hperm, hpw⟩ := hP
     by_cases hlt : k + 1 < X.length
     . have hlt' : ((k + 1 : Nat) : Int) < (X.length : Int) := by omega
       obtain ⟨x, hx⟩ := zN hlt
       have hwk : IntKind.wrap .i64 (((k + 1 : Nat) : Int) + 1) = ((k + 1 + 1 : Nat) : Int) := w64 (by omega) (by omega)
       have hAl : A.length = k + 1 := by rw [hperm.length_eq]; simp; omega
       have hdrop : X.drop (k + 1) = x :: X.drop (k + 1 + 1) := by
        have := List.getElem?_eq_some_iff.1 hx
        obtain ⟨q, rfl⟩ := this
        exact List.drop_eq_getElem_cons q
       have htake : X.take (k + 1 + 1) = X.take (k + 1) ++ [x] := by rw [List.take_add_one, hx]; rfl
       have hxl := hX x (List.mem_of_getElem? hx)
       have hAm : ∀ a ∈ A, qw l a = true /\ a ≠ x := fun a ha => by
        have hm := hperm.mem_iff.1 ha
        refine ⟨hX a (List.mem_of_mem_take hm), fun e => ?_⟩
        have hnd : (X.take (k + 1 + 1)).Nodup := hn.sublist (List.take_sublist _ _)
        rw [htake, List.nodup_append] at hnd
        exact hnd.2.2 a hm x (by simp) e
       simp only [hlt', decide_true, cond_true]
       rw [zy]
       rw [hdrop]
       refine Tot.count (k + 1) (fun m s => s.1 = ((k + 1 : Nat) : Int) - (m : Int) /\ ∃ A1 A2, s.2 = A1 ++ x :: (A2 ++ X.drop (k + 1 + 1)) /\ A1.length + m = k + 1 /\ A1 ++ A2 = A /\ ∀ a ∈ A2, ltL l x a) (fun m s hmm hQ => ?_) ⟨by simp, A, [], by simp, by omega, by simp, by simp⟩
       obtain ⟨s1, s2⟩ := s
       obtain ⟨rfl, A1, A2, rfl, hA1, hA, hA2⟩ := hQ
       have fin : (A1 = [] \/ ∃ A0 y, A1 = A0 ++ [y] /\ ltL l y x) -> ∀ {τ2 : Type} (Q2 : τ2 -> Prop), Tot (zg (IntKind.wrap .i64 (((k + 1 : Nat) : Int) + 1)) fun x962 => (some (Sum.inl (x962, A1 ++ x :: (A2 ++ X.drop (k + 1 + 1)))) : Option ((Int × List Int) ⊕ τ2))) (Sum.elim (fun s' => k < X.length - 1 /\ s'.fst = ((k + 1 + 1 : Nat) : Int) /\ ∃ A, s'.snd = A ++ X.drop (k + 1 + 1) /\ A.Perm (X.take (k + 1 + 1)) /\ A.Pairwise (ltL l)) Q2) := by
        intro h1 τ2 Q2
        rw [zY, hwk, tot_some]
        refine ⟨by omega, rfl, A1 ++ x :: A2, by simp, ?_, zuq (by rw [hA]; exact hpw) hA2 h1⟩
        rw [htake]
        have p1 : (A1 ++ x :: A2).Perm (x :: (A1 ++ A2)) := List.perm_middle
        have p2 : (x :: (A1 ++ A2)).Perm ((A1 ++ A2) ++ [x]) := (List.perm_append_singleton _ _).symm
        exact p1.trans (p2.trans (by rw [hA]; exact hperm.append_right _))
       have hj : ((k + 1 : Nat) : Int) - (m : Int) = (A1.length : Int) := by omega
       have hA1m : ∀ a ∈ A1, qw l a = true /\ a ≠ x := fun a ha => hAm a (by rw [<- hA]; exact List.mem_append_left _ ha)
       rw [hj]
       rcases List.eq_nil_or_concat A1 with rfl | ⟨A0, y, rfl⟩
       . simp only [List.length_nil, Int.ofNat_eq_natCast, Int.natCast_zero, Int.lt_irrefl, decide_false, cond_false, tot_some, Sum.elim_inr, Sum.elim_inl]
         exact fin (.inl rfl) _
       . rw [List.concat_eq_append] at *
         have hyl := hA1m y (by simp)
         have hlen1 : (A0 ++ [y]).length = A0.length + 1 := by simp
         have q0 : (0 : Int) < (((A0 ++ [y]).length : Nat) : Int) := by omega
         have hL : (A0 ++ [y] ++ x :: (A2 ++ X.drop (k + 1 + 1))).length = A0.length + 1 + 1 + (A2.length + (X.drop (k + 1 + 1)).length) := by simp; omega
         have hXb : A0.length + 1 + 1 + (A2.length + (X.drop (k + 1 + 1)).length) <= 100 := by
          have h1 : A0.length + 1 + A2.length = k + 1 := by
           have := congrArg List.length hA
           simp at this; omega
          have h2 : (X.drop (k + 1 + 1)).length <= 12 := by simp; omega
          omega
         have s1 : (0 : Int) <= (((A0 ++ [y]).length : Nat) : Int) /\ (((A0 ++ [y]).length : Nat) : Int) < (((A0 ++ [y] ++ x :: (A2 ++ X.drop (k + 1 + 1))).length : Nat) : Int) := by rw [hL, hlen1]; omega
         have hwj : IntKind.wrap .i64 ((((A0 ++ [y]).length : Nat) : Int) - 1) = (A0.length : Int) := by
          have : (((A0 ++ [y]).length : Nat) : Int) - 1 = (A0.length : Int) := by omega
          rw [this]; exact w64 (by omega) (by omega)
         have s2 : (0 : Int) <= (A0.length : Int) /\ (A0.length : Int) < (((A0 ++ [y] ++ x :: (A2 ++ X.drop (k + 1 + 1))).length : Nat) : Int) := by rw [hL]; omega
         have g1 : (A0 ++ [y] ++ x :: (A2 ++ X.drop (k + 1 + 1)))[(A0 ++ [y]).length]? = some x := zh0
         have g2 : (A0 ++ [y] ++ x :: (A2 ++ X.drop (k + 1 + 1)))[A0.length]? = some y := by
          rw [List.append_assoc]; exact zh0
         have p1 : (0 : Int) <= (((A0 ++ [y]).length : Nat) : Int) := s1.1
         have p2 : (0 : Int) <= (A0.length : Int) := s2.1
         obtain ⟨c, hc, qc⟩ := zyu hxl hyl.1
         simp only [q0, decide_true, cond_true, zk, s1, s2, if_true, and_self, zi, p1, p2, Int.toNat_natCast, g1, g2, Option.bind_some, zg, hwj, hc]
         by_cases hneg : c < 0
         . have hlt2 := qc.1 hneg
           have l3 : (((A0 ++ [y] ++ x :: (A2 ++ X.drop (k + 1 + 1))).map (SV.int IntKind.i64)).set (A0 ++ [y]).length (SV.int IntKind.i64 y)).length = A0.length + 1 + 1 + (A2.length + (X.drop (k + 1 + 1)).length) := by rw [List.length_set, List.length_map, hL]
           have s3 : (0 : Int) <= (A0.length : Int) /\ (A0.length : Int) < (((((A0 ++ [y] ++ x :: (A2 ++ X.drop (k + 1 + 1))).map (SV.int IntKind.i64)).set (A0 ++ [y]).length (SV.int IntKind.i64 y)).length : Nat) : Int) := by rw [l3]; omega
           have g3 : ((A0 ++ [y] ++ x :: (A2 ++ X.drop (k + 1 + 1))).set (A0 ++ [y]).length y)[A0.length]? = some y := by
            rw [zhz, List.append_assoc]; exact zh0
           have sw : ((A0 ++ [y] ++ x :: (A2 ++ X.drop (k + 1 + 1))).set (A0 ++ [y]).length y).set A0.length x = A0 ++ x :: ((y :: A2) ++ X.drop (k + 1 + 1)) := by
            rw [zhz, List.append_assoc]; exact zhz
           simp only [hneg, decide_true, cond_true, s3, if_true, and_self, g3, Option.bind_some, sw, tot_some, Sum.elim_inl]
           refine ⟨by omega, by omega, A0, y :: A2, rfl, by omega, by rw [<- hA]; simp, fun a ha => ?_⟩
           rcases List.mem_cons.1 ha with rfl | ha
           . exact hlt2
           . exact hA2 a ha
         . simp only [hneg, decide_false, cond_false, tot_some, Sum.elim_inr, Sum.elim_inl]
           have gy : ltL l y x := by
            rcases zxb (l := l) hyl.2 with g | g
            . exact g
            . exact absurd (qc.2 g) hneg
           have fx := fin (τ2 := Unit) (.inr ⟨A0, y, rfl, gy⟩) (fun _ => True)
           rw [zY, tot_some] at fx
           exact fx
     . have hlt' : ¬ ((k + 1 : Nat) : Int) < (X.length : Int) := by omega
       have hd : X.drop (k + 1) = [] := List.drop_eq_nil_of_le (by omega)
       have ht : X.take (k + 1) = X := List.take_of_length_le (by omega)
       rw [hd, List.append_nil]
       rw [ht] at hperm
       have hAl := hperm.length_eq
       simp only [hlt', decide_false, cond_false, tot_some, Sum.elim_inr, Sum.elim_inl]
       by_cases h2 : (A.length : Int) < 2
       . simp only [h2, decide_true, cond_true, tot_some]
         exact ⟨A, rfl, hperm, hpw⟩
       . simp only [h2, decide_false, cond_false]
         refine zcn (wX (A.length - 1) (fun i => ((i + 1 : Nat) : Int)) (false, (A.length : Int)) (fun i hi => ?_) ?_ rfl) ?_
         . have hit : ((i + 1 : Nat) : Int) < (A.length : Int) := by omega
           obtain ⟨u, hu⟩ := zN (l := A) (i := i + 1) (by omega)
           obtain ⟨w, hw'⟩ := zN (l := A) (i := i) (by omega)
           have n1 : (0 : Int) <= ((i + 1 : Nat) : Int) := by omega
           have n2 : (0 : Int) <= (i : Int) := by omega
           have n3 : (i : Int) < (A.length : Int) := by omega
           have w1 : IntKind.wrap .i64 (((i + 1 : Nat) : Int) - 1) = (i : Int) := by
            have : ((i + 1 : Nat) : Int) - 1 = (i : Int) := by omega
            rw [this]; exact w64 (by omega) (by omega)
           have w2 : IntKind.wrap .i64 (((i + 1 : Nat) : Int) + 1) = ((i + 1 + 1 : Nat) : Int) := w64 (by omega) (by omega)
           have hne : ¬ u = w := fun e => by
            have h3 := List.pairwise_iff_getElem.1 hpw i (i + 1) (by omega) (by omega) (by omega)
            rw [(List.getElem?_eq_some_iff.1 hu).2, (List.getElem?_eq_some_iff.1 hw').2, e] at h3
            exact zh8 h3
           simp only [hit, decide_true, cond_true, zk, n1, n2, n3, and_self, if_true, zi, Int.toNat_natCast, hu, hw', Option.bind_some, zg, w1, w2, hne, decide_false, cond_false]
         . have e : ((A.length - 1 + 1 : Nat) : Int) = (A.length : Int) := by omega
           simp only [e, Int.lt_irrefl, decide_false, cond_false]
         . exact tot_some.2 ⟨A, rfl, hperm, hpw⟩
   . rcases X with _ | ⟨x, X'⟩
     . simp
     . simp
open Go
def zck (l : TL) (X : List Int) (m a : Nat) : List Int := ((List.range a).filter fun i => decide (lvl l i = m) && decide ((i : Int) ∈ X)).map fun (i : Nat) => (i : Int)
def uE (l : TL) (X : List Int) : Nat -> List Int
 | 0 => []
 | m + 1 => uE l X m ++ zck l X (m + 1) l.Names.length
theorem zsu {l : TL} {X : List Int} {m a : Nat} : zck l X m (a + 1) = zck l X m a ++ if lvl l a = m /\ (a : Int) ∈ X then [(a : Int)] else [] := by
 unfold zck
 rw [List.range_succ, List.filter_append, List.map_append]
 by_cases h : lvl l a = m /\ (a : Int) ∈ X
 . simp [h]
 . rw [if_neg h]
   have : (decide (lvl l a = m) && decide ((a : Int) ∈ X)) = false := by
    simp only [Bool.and_eq_false_iff, decide_eq_false_iff_not]
    by_cases h1 : lvl l a = m
    . exact .inr fun h2 => h ⟨h1, h2⟩
    . exact .inl h1
   simp [this]
theorem mem_layL {l : TL} {X : List Int} {m a : Nat} {x : Int} : x ∈ zck l X m a ↔ ∃ i : Nat, x = (i : Int) /\ i < a /\ lvl l i = m /\ x ∈ X := by
 unfold zck
 rw [List.mem_map]
 constructor
 . rintro ⟨i, hi, rfl⟩
   rw [List.mem_filter, List.mem_range, Bool.and_eq_true, decide_eq_true_iff, decide_eq_true_iff] at hi
   exact ⟨i, rfl, hi.1, hi.2.1, hi.2.2⟩
 . rintro ⟨i, rfl, h1, h2, h3⟩
   exact ⟨i, by rw [List.mem_filter, List.mem_range, Bool.and_eq_true, decide_eq_true_iff, decide_eq_true_iff]; exact ⟨h1, h2, h3⟩, rfl⟩
theorem mem_accL {l : TL} {X : List Int} {x : Int} : ∀ {m : Nat}, x ∈ uE l X m ↔ ∃ i : Nat, x = (i : Int) /\ i < l.Names.length /\ 1 <= lvl l i /\ lvl l i <= m /\ x ∈ X
 | 0 => by
   constructor
   . intro h; cases h
   . rintro ⟨i, _, _, h1, h2, _⟩; omega
 | m + 1 => by
   rw [uE, List.mem_append, mem_accL (m := m), mem_layL]
   constructor
   . rintro (⟨i, h1, h2, h3, h4, h5⟩ | ⟨i, h1, h2, h3, h4⟩)
     . exact ⟨i, h1, h2, h3, by omega, h5⟩
     . exact ⟨i, h1, h2, by omega, by omega, h4⟩
   . rintro ⟨i, h1, h2, h3, h4, h5⟩
     by_cases e : lvl l i = m + 1
     . exact .inr ⟨i, h1, h2, e, h5⟩
     . exact .inl ⟨i, h1, h2, h3, by omega, h5⟩
theorem zwx {l : TL} {X : List Int} {m a : Nat} : (zck l X m a).Pairwise (ltL l) := by
 induction a with
 | zero => simp [zck]
 | succ a ih =>
   rw [zsu, List.pairwise_append]
   refine ⟨ih, by split <;> simp, fun x hx y hy => ?_⟩
   obtain ⟨i, rfl, h1, h2, _⟩ := mem_layL.1 hx
   split at hy
   . rename_i h
     simp only [List.mem_cons, List.not_mem_nil, or_false] at hy
     subst hy
     unfold ltL
     simp only [Int.toNat_natCast]
     omega
   . cases hy
theorem zhh {l : TL} {X : List Int} : ∀ m, (uE l X m).Pairwise (ltL l)
 | 0 => by simp [uE]
 | m + 1 => by
   rw [uE, List.pairwise_append]
   refine ⟨zhh m, zwx, fun x hx y hy => ?_⟩
   obtain ⟨i, rfl, _, _, h1, _⟩ := mem_accL.1 hx
   obtain ⟨j, rfl, _, h2, _⟩ := mem_layL.1 hy
   unfold ltL
   simp only [Int.toNat_natCast]
   omega
theorem zlr {α : Type} {R : α -> α -> Prop} (irr : ∀ a, ¬ R a a) (tr : ∀ a b c, R a b -> R b c -> R a c) : ∀ {l m : List α}, l.Pairwise R -> m.Pairwise R -> (∀ x, x ∈ l ↔ x ∈ m) -> l = m
 | [], [], _, _, _ => rfl
 | [], y :: m, _, _, h => by have := (h y).2 (by simp); cases this
 | x :: l, [], _, _, h => by have := (h x).1 (by simp); cases this
 | x :: l, y :: m, hl, hm, h => by
   obtain ⟨hx, hl'⟩ := List.pairwise_cons.1 hl
   obtain ⟨hy, hm'⟩ := List.pairwise_cons.1 hm
   have exy : x = y := by
    have h1 := (h x).1 (by simp)
    have h2 := (h y).2 (by simp)
    rcases List.mem_cons.1 h1 with e | e
    . exact e
    . rcases List.mem_cons.1 h2 with e2 | e2
      . exact e2.symm
      . exact absurd (tr _ _ _ (hx y e2) (hy x e)) (irr x)
   subst exy
   have : l = m := zlr irr tr hl' hm' fun z => by
    constructor
    . intro hz
      have := (h z).1 (by simp [hz])
      rcases List.mem_cons.1 this with e | e
      . subst e; exact absurd (hx z hz) (irr z)
      . exact e
    . intro hz
      have := (h z).2 (by simp [hz])
      rcases List.mem_cons.1 this with e | e
      . subst e; exact absurd (hy z hz) (irr z)
      . exact e
   rw [this]
theorem zq2 {l : TL} (h : LatIn l) (hk : (qW l).2 = 0) {X : List Int} (hX : ∀ x ∈ X, qw l x = true) (hn : X.Nodup) (hl : X.length <= 12) : zkf l X = some (uE l X l.Names.length) := by
 obtain ⟨Y, e, hp, hw⟩ := zm8 h hk hX hn hl
 rw [e]
 congr 1
 refine zlr (R := ltL l) (fun _ => zh8) (fun _ _ _ => zi9) hw (zhh _) fun x => ?_
 rw [mem_accL]
 constructor
 . intro hx
   have hx := hp.mem_iff.1 hx
   obtain ⟨x0, x1⟩ := labB_iff.1 (hX x hx)
   refine ⟨x.toNat, (Int.toNat_of_nonneg x0).symm, by omega, zn3 (jo h hk) (by omega), zh5, hx⟩
 . rintro ⟨i, rfl, _, _, _, hx⟩
   exact hp.mem_iff.2 hx
open Go
theorem zhw {l : TL} (h : LatIn l) (hk : (qW l).2 = 0) {X : List Int} (hX : ∀ x ∈ X, qw l x = true) (hn : X.Nodup) (hl : X.length <= 12) : zpf l X = some (uE l X l.Names.length, 0) := by
 unfold zpf
 rw [zal h hk X (by omega) (fun x hx => hX x hx)]
 simp only [Option.bind_some, decide_true, Bool.not_true, cond_false, zq2 h hk hX hn hl]
open Go
structure RuleOK (p : TP) (k : Nat) (x : TU) : Prop where
 lf : qw p.Lattice x.From = true
 lg : qw p.Lattice x.Goal = true
 ne : x.From ≠ x.Goal
 up : up p.Lattice x.Goal.toNat x.From.toNat = true
 new : ∀ (j : Nat) y, j < k -> p.Rules[j]? = some y -> ¬ (y.From = x.From /\ y.Goal = x.Goal)
 k2 : 2 <= x.K
 k400 : x.K <= 400
theorem jQ {p : TP} (h : (wL p).2.2 = 0) {k : Nat} {x : TU} (hx : p.Rules[k]? = some x) : RuleOK p k x := by
 have hr := zir h
 have hl := zan h
 unfold rlC at hr
 rw [if_neg (by omega)] at hr
 have hlt : k < p.Rules.length := (List.getElem?_eq_some_iff.1 hx).1
 have key : ∀ (i : Nat) (r : Int × Int), rlK p i = some r -> r ≠ (0, 0) := by
  intro i r hi
  unfold rlK at hi
  split at hi
  . split at hi
    . split at hi
      . split at hi
        . cases hi; simp
        . split at hi
          . split at hi
            . cases hi; simp
            . split at hi
              . cases hi; simp
              . split at hi
                . cases hi; simp
                . cases hi
          . cases hi; simp
      . cases hi; simp
    . cases hi; simp
  . cases hi
 have hs : zG (rlK p) 0 p.Rules.length = none := by
  cases hs : zG (rlK p) 0 p.Rules.length with
  | none => rfl
  | some r =>
    rw [hs] at hr
    obtain ⟨i, _, _, hi, _⟩ := zba hs
    exact absurd hr (key i r hi)
 have := scan_none.1 hs k (by omega) (by omega)
 unfold rlK at this
 rw [hx] at this
 simp only at this
 split at this
 case isFalse => cases this
 rename_i h1
 split at this
 case isFalse => cases this
 rename_i h2
 split at this
 . cases this
 rename_i h3
 split at this
 case isFalse => cases this
 rename_i h4
 split at this
 . cases this
 rename_i h5
 split at this
 . cases this
 rename_i h6
 split at this
 . cases this
 rename_i h7
 refine ⟨h1, h2, h3, h4, fun j y hj hy e => h5 ?_, by omega, by omega⟩
 rw [List.any_eq_true]
 refine ⟨y, ?_, by simp [zga, e.1, e.2]⟩
 refine List.mem_of_getElem? (i := j) ?_
 rw [List.getElem?_take, if_pos hj]; exact hy
def qL (p : TP) (a : Int) (n : Nat) : List Int := ((p.Rules.take n).filter fun x => decide (x.From = a)).map (·.Goal)
theorem zeh {p : TP} {a : Int} {n : Nat} {x : TU} (hx : p.Rules[n]? = some x) : qL p a (n + 1) = qL p a n ++ if x.From = a then [x.Goal] else [] := by
 unfold qL
 rw [List.take_add_one, hx, List.filter_append, List.map_append]
 by_cases e : x.From = a <;> simp [e]
theorem mem_goalsL {p : TP} {a g : Int} {n : Nat} : g ∈ qL p a n ↔ ∃ (k : Nat) (x : TU), k < n /\ p.Rules[k]? = some x /\ x.From = a /\ x.Goal = g := by
 unfold qL
 rw [List.mem_map]
 constructor
 . rintro ⟨x, hx, rfl⟩
   rw [List.mem_filter, decide_eq_true_iff] at hx
   obtain ⟨k, hk⟩ := List.mem_iff_getElem?.1 hx.1
   rw [List.getElem?_take] at hk
   split at hk
   . rename_i h; exact ⟨k, x, h, hk, hx.2, rfl⟩
   . cases hk
 . rintro ⟨k, x, h1, h2, h3, rfl⟩
   refine ⟨x, ?_, rfl⟩
   rw [List.mem_filter, decide_eq_true_iff]
   refine ⟨List.mem_of_getElem? (i := k) ?_, h3⟩
   rw [List.getElem?_take, if_pos h1]; exact h2
theorem zbr {p : TP} (h : (wL p).2.2 = 0) {a : Int} {n : Nat} : ∀ g ∈ qL p a n, qw p.Lattice g = true := fun g hg => by
 obtain ⟨k, x, _, hx, _, rfl⟩ := mem_goalsL.1 hg
 exact (jQ h hx).lg
theorem yS {p : TP} (h : (wL p).2.2 = 0) {a : Int} : ∀ n, n <= p.Rules.length -> (qL p a n).Nodup
 | 0, _ => by simp [qL]
 | n + 1, hn => by
   obtain ⟨x, hx⟩ := zN (l := p.Rules) (i := n) (by omega)
   rw [zeh hx]
   by_cases e : x.From = a
   . rw [if_pos e, List.nodup_append]
     refine ⟨yS h n (by omega), by simp, fun g hg b hb => ?_⟩
     simp only [List.mem_cons, List.not_mem_nil, or_false] at hb
     subst hb
     obtain ⟨k, y, h1, h2, h3, h4⟩ := mem_goalsL.1 hg
     exact fun e2 => (jQ h hx).new k y h1 h2 ⟨h3.trans e.symm, h4.trans e2⟩
   . rw [if_neg e, List.append_nil]
     exact yS h n (by omega)
theorem zdb : ∀ (n : Nat) (X : List Int), X.Nodup -> (∀ x ∈ X, 0 <= x /\ x < (n : Int)) -> X.length <= n
 | 0, X, _, h => by
   cases X with
   | nil => simp
   | cons x X => have := h x (by simp); omega
 | n + 1, X, hn, h => by
   by_cases hm : (n : Int) ∈ X
   . have h1 := zdb n (X.erase (n : Int)) (hn.erase _) (fun x hx => by
      have h2 := h x (List.mem_of_mem_erase hx)
      have h3 : x ≠ (n : Int) := (hn.mem_erase_iff.1 hx).1
      omega)
     rw [List.length_erase_of_mem hm] at h1
     omega
   . have := zdb n X hn (fun x hx => by
      have h2 := h x hx
      have h3 : x ≠ (n : Int) := fun e => hm (e ▸ hx)
      omega)
     omega
theorem zgm {p : TP} (hp : PolIn p) (h : (wL p).2.2 = 0) {a : Int} : (qL p a p.Rules.length).length <= 8 := by
 have ok := jo hp.lat (zd4 h)
 refine Nat.le_trans (zdb p.Lattice.Names.length _ (yS h _ (Nat.le_refl _)) fun x hx => ?_) ok.le
 obtain ⟨x0, x1⟩ := labB_iff.1 (zbr h x hx)
 omega
end Go.Sx.O
noncomputable section
namespace Go.Sx.O
open Go
def zqh (p : TP) (a : Int) : List Int × Int := if (wL p).2.2 = 0 then (if qw p.Lattice a = true then (uE p.Lattice (qL p a p.Rules.length) p.Lattice.Names.length, 0) else ([], 7)) else ([], (wL p).2.2)
theorem zgd {p : TP} (h : PolIn p) (a : Int) : zom p a = some (zqh p a) := by
 unfold zom zqh
 rw [xd h]
 by_cases hk : (wL p).2.2 = 0
 case neg => simp [hk]
 have hl := zan hk
 have hlen := zgm h hk (a := a)
 simp only [Option.bind_some, hk, decide_true, Bool.not_true, cond_false, if_true, yF, List.length_map]
 cases hb : qw p.Lattice a
 . simp
 simp only [Bool.not_true, cond_false, if_true]
 refine (wX p.Rules.length (fun k => ((k : Int), qL p a k)) (qL p a p.Rules.length) (fun k hk' => ?_) (by simp) rfl).trans ?_
 . obtain ⟨x, hx⟩ := zN hk'
   have hlt : (k : Int) < (p.Rules.length : Int) := by omega
   have hw : IntKind.wrap .i64 ((k : Int) + 1) = ((k + 1 : Nat) : Int) := w64 (by omega) (by omega)
   have n1 : (0 : Int) <= (k : Int) := by omega
   have hgl : (qL p a k).length <= k := by
    have := List.length_filter_le (fun x : TU => decide (x.From = a)) (p.Rules.take k)
    simp only [qL, List.length_map]
    have h2 : (p.Rules.take k).length <= k := by simp; omega
    omega
   have hside : ((qL p a k).length + 1) * 8 <= 70368744177664 := by omega
   simp only [hlt, decide_true, cond_true, zi, n1, if_true, Int.toNat_natCast, hx, Option.bind_some, zg, hw, zeh hx]
   by_cases e : x.From = a <;> simp [e, zk, hside]
 . rw [zhw h.lat (zd4 hk) (zbr hk) (yS hk _ (Nat.le_refl _)) (by omega)]
   rfl
end Go.Sx.O
end
namespace Go.Sx.O
open Go
def jJ (f : Nat -> Nat -> Bool) : List (List Bool) := (List.range 8).map fun a => (List.range 8).map fun b => f a b
theorem xu {f : Nat -> Nat -> Bool} {a : Nat} (ha : a < 8) : (jJ f)[a]? = some ((List.range 8).map fun b => f a b) := by
 unfold jJ
 rw [List.getElem?_map, List.getElem?_range ha]; rfl
theorem xl {f : Nat -> Bool} {b : Nat} (hb : b < 8) : ((List.range 8).map f)[b]? = some (f b) := by
 rw [List.getElem?_map, List.getElem?_range hb]; rfl
theorem zui {f : Nat -> Bool} {b : Nat} {v : Bool} : ((List.range 8).map f).set b v = (List.range 8).map fun j => if j = b then v else f j := by
 refine List.ext_getElem? fun j => ?_
 rw [List.getElem?_set]
 by_cases e : b = j
 . subst e
   rw [if_pos rfl]
   by_cases hb : b < 8
   . rw [if_pos (by simpa using hb), xl hb, if_pos rfl]
   . rw [if_neg (by simpa using hb), List.getElem?_eq_none (by simp; omega)]
 . rw [if_neg e]
   by_cases hj : j < 8
   . rw [xl hj, xl hj, if_neg (fun h => e h.symm)]
   . rw [List.getElem?_eq_none (by simp; omega), List.getElem?_eq_none (by simp; omega)]
theorem ztq {f : Nat -> Nat -> Bool} {a b : Nat} {v : Bool} : (jJ f).set a (((List.range 8).map fun j => f a j).set b v) = jJ fun i j => if i = a /\ j = b then v else f i j := by
 refine List.ext_getElem? fun i => ?_
 rw [List.getElem?_set]
 by_cases e : a = i
 . subst e
   rw [if_pos rfl]
   by_cases ha : a < 8
   . rw [if_pos (by simpa [jJ] using ha), xu ha, zui]
     congr 1
     refine List.map_congr_left fun j _ => ?_
     simp
   . rw [if_neg (by simpa [jJ] using ha), List.getElem?_eq_none (by simp [jJ]; omega)]
 . rw [if_neg e]
   by_cases hi : i < 8
   . rw [xu hi, xu hi]
     congr 1
     refine List.map_congr_left fun j _ => ?_
     rw [if_neg (fun h => e h.1.symm)]
   . rw [List.getElem?_eq_none (by simp [jJ]; omega), List.getElem?_eq_none (by simp [jJ]; omega)]
theorem ur {f g : Nat -> Nat -> Bool} (h : ∀ a b, a < 8 -> b < 8 -> f a b = g a b) : jJ f = jJ g := by
 unfold jJ
 refine List.map_congr_left fun a ha => List.map_congr_left fun b hb => h a b (List.mem_range.1 ha) (List.mem_range.1 hb)
def wE (p : TP) (a b : Nat) : Bool := decide ((b : Int) ∈ qL p (a : Int) p.Rules.length)
theorem zct {p : TP} (h : PolIn p) (hk : (wL p).2.2 = 0) {a : Int} (x : Int) : x ∈ uE p.Lattice (qL p a p.Rules.length) p.Lattice.Names.length ↔ x ∈ qL p a p.Rules.length := by
 have ok := jo h.lat (zd4 hk)
 rw [mem_accL]
 constructor
 . rintro ⟨i, rfl, _, _, _, hx⟩; exact hx
 . intro hx
   obtain ⟨x0, x1⟩ := labB_iff.1 (zbr hk x hx)
   exact ⟨x.toNat, (Int.toNat_of_nonneg x0).symm, by omega, zn3 ok (by omega), zh5, hx⟩
def sgL (p : TP) (a : Nat) : List Int := uE p.Lattice (qL p (a : Int) p.Rules.length) p.Lattice.Names.length
theorem zi0 {p : TP} {a : Nat} : (sgL p a).Nodup := by
 have := zhh (l := p.Lattice) (X := qL p (a : Int) p.Rules.length) p.Lattice.Names.length
 unfold List.Nodup sgL
 exact this.imp fun {x y} (h : ltL p.Lattice x y) => fun (e : x = y) => zh8 (l := p.Lattice) (x := x) (by rw [<- e] at h; exact h)
theorem zv2 {p : TP} (h : PolIn p) (hk : (wL p).2.2 = 0) {a : Nat} : (sgL p a).length = (qL p (a : Int) p.Rules.length).length := by
 have p1 : (sgL p a).Perm (qL p (a : Int) p.Rules.length) := (List.perm_ext_iff_of_nodup zi0 (yS hk _ (Nat.le_refl _))).2 fun x => zct h hk x
 exact p1.length_eq
theorem zwk {p : TP} (h : PolIn p) (hk : (wL p).2.2 = 0) {a : Nat} {x : Int} (hx : x ∈ sgL p a) : qw p.Lattice x = true /\ x ≠ (a : Int) /\ up p.Lattice x.toNat a = true /\ wE p a x.toNat = true := by
 have hm := (zct h hk x).1 hx
 obtain ⟨k, r, _, hr, hf, hg⟩ := mem_goalsL.1 hm
 have ro := jQ hk hr
 have hl := ro.lg
 rw [hg] at hl
 obtain ⟨x0, x1⟩ := labB_iff.1 hl
 refine ⟨hl, fun e => ro.ne (by rw [hf, hg, e]), ?_, ?_⟩
 . have := ro.up
   rwa [hg, hf, Int.toNat_natCast] at this
 . unfold wE
   rw [decide_eq_true_iff, Int.toNat_of_nonneg x0]
   exact hm
theorem zdf {p : TP} {a b : Nat} (h : wE p a b = true) : ∃ (k : Nat) (r : TU), p.Rules[k]? = some r /\ r.From = (a : Int) /\ r.Goal = (b : Int) := by
 unfold wE at h
 rw [decide_eq_true_iff] at h
 obtain ⟨k, r, _, h1, h2, h3⟩ := mem_goalsL.1 h
 exact ⟨k, r, h1, h2, h3⟩
theorem zro {p : TP} (hk : (wL p).2.2 = 0) {a b : Nat} (ha : a < p.Lattice.Names.length) (hb : b < p.Lattice.Names.length) : (wE p a b = true /\ ∃ K, zla p (a : Int) (b : Int) = (K, 0) /\ 2 <= K /\ K <= 400) \/ (wE p a b = false /\ zla p (a : Int) (b : Int) = (0, 4)) := by
 have la : qw p.Lattice (a : Int) = true := labB_iff.2 ⟨by omega, by omega⟩
 have lb : qw p.Lattice (b : Int) = true := labB_iff.2 ⟨by omega, by omega⟩
 unfold zla
 rw [if_pos hk, if_pos la, if_pos lb]
 cases hs : zG (rfK p (a : Int) (b : Int)) 0 p.Rules.length with
 | some r =>
   obtain ⟨k, _, h2, h3, _⟩ := zba hs
   obtain ⟨x, hx⟩ := zN (l := p.Rules) (i := k) (by omega)
   unfold rfK at h3
   rw [hx] at h3
   simp only at h3
   split at h3
   case isFalse => cases h3
   rename_i e1
   split at h3
   case isFalse => cases h3
   rename_i e2
   cases h3
   have ro := jQ hk hx
   refine .inl ⟨?_, x.K, rfl, ro.k2, ro.k400⟩
   unfold wE
   rw [decide_eq_true_iff]
   exact mem_goalsL.2 ⟨k, x, by omega, hx, e1, e2⟩
 | none =>
   refine .inr ⟨?_, rfl⟩
   cases hr : wE p a b with
   | false => rfl
   | true =>
     obtain ⟨k, r, h1, h2, h3⟩ := zdf hr
     have hlt : k < p.Rules.length := (List.getElem?_eq_some_iff.1 h1).1
     have := scan_none.1 hs k (by omega) (by omega)
     unfold rfK at this
     rw [h1] at this
     simp [h2, h3] at this
theorem zr6 (L : List TU) (k : Int) : (L.filter fun x => decide (x.From < k + 1)).length = (L.filter fun x => decide (x.From < k)).length + (L.filter fun x => decide (x.From = k)).length := by
 induction L with
 | nil => rfl
 | cons x L ih =>
   simp only [List.filter_cons]
   by_cases h1 : x.From < k
   . have h2 : x.From < k + 1 := by omega
     have h3 : ¬ x.From = k := by omega
     simp only [h1, h2, h3, decide_true, decide_false, if_true, List.length_cons]
     simp; omega
   . by_cases h3 : x.From = k
     . have h2 : x.From < k + 1 := by omega
       have d1 : decide (x.From < k) = false := decide_eq_false h1
       have d2 : decide (x.From < k + 1) = true := decide_eq_true h2
       have d3 : decide (x.From = k) = true := decide_eq_true h3
       rw [d1, d2, d3]
       simp only [if_true, Bool.false_eq_true, if_false, List.length_cons]
       omega
     . have h2 : ¬ x.From < k + 1 := by omega
       simp only [h1, h2, h3, decide_false]
       simpa using ih
def yl (p : TP) (k : Nat) : Nat := (p.Rules.filter fun x => decide (x.From < (k : Int))).length
theorem zo3 {p : TP} {k : Nat} : yl p (k + 1) = yl p k + (qL p (k : Int) p.Rules.length).length := by
 unfold yl qL
 rw [List.take_of_length_le (Nat.le_refl _), List.length_map]
 exact zr6 p.Rules (k : Int)
theorem zsx {p : TP} {k : Nat} : yl p k <= p.Rules.length := List.length_filter_le _ _
theorem zrh {p : TP} (hk : (wL p).2.2 = 0) : yl p p.Lattice.Names.length = p.Rules.length := by
 unfold yl
 rw [List.filter_eq_self.2]
 intro x hx
 obtain ⟨k, hk'⟩ := List.mem_iff_getElem?.1 hx
 obtain ⟨_, h1⟩ := labB_iff.1 (jQ hk hk').lf
 simpa using h1
theorem zox {p : TP} (hk : (wL p).2.2 = 0) : yl p 0 = 0 := by
 unfold yl
 rw [List.length_eq_zero_iff, List.filter_eq_nil_iff]
 intro x hx
 obtain ⟨k, hk'⟩ := List.mem_iff_getElem?.1 hx
 obtain ⟨h0, _⟩ := labB_iff.1 (jQ hk hk').lf
 simp; omega
def ze9 (p : TP) (a : Nat) : List (List Bool) := jJ fun i j => decide (i < a) && wE p i j
def zdq (p : TP) (a i : Nat) : List (List Bool) := jJ fun x y => if x = a then decide ((y : Int) ∈ (sgL p a).take i) else decide (x < a) && wE p x y
theorem zjg (p : TP) (w1 : W_TP p) : zs2 p = some true := by
 unfold zs2
 obtain ⟨b, hb, hf⟩ := zuw p (zxi w1.Lattice.Up)
 rw [hb]
 cases b
 case true => rfl
 have h := hf rfl
 simp only [Option.bind_some, cond_false]
 rw [xd h]
 by_cases hk : (wL p).2.2 = 0
 case neg => simp [hk]
 simp only [Option.bind_some, hk, decide_true, Bool.not_true, cond_false, List.length_map]
 have hlat := zd4 hk
 have ok := jo h.lat hlat
 have hle := ok.le
 have hlen := ok.len
 have hrl := zan hk
 have lab : ∀ k : Nat, k < p.Lattice.Names.length -> qw p.Lattice (k : Int) = true := fun k hk => labB_iff.2 ⟨by omega, by omega⟩
 refine (wX p.Lattice.Names.length (fun a => ((a : Int), (yl p a : Int), ze9 p a)) ((yl p p.Lattice.Names.length : Int), ze9 p p.Lattice.Names.length) (fun a ha => ?_) (by simp) ?_).trans ?_
 . have hat : (a : Int) < (p.Lattice.Names.length : Int) := by omega
   have ha8 : (a : Int) < ((8 : Nat) : Int) := by omega
   have na : (0 : Int) <= (a : Int) := by omega
   have hwa : IntKind.wrap .i64 ((a : Int) + 1) = ((a + 1 : Nat) : Int) := w64 (by omega) (by omega)
   have hsl := zv2 h hk (a := a)
   have hg8 := zgm h hk (a := (a : Int))
   have hgc : zqh p (a : Int) = (sgL p a, 0) := by
    unfold zqh
    rw [if_pos hk, if_pos (lab a ha)]; rfl
   simp only [hat, decide_true, cond_true, zgd h, hgc, Option.bind_some, Bool.not_true, cond_false]
   refine (wX (sgL p a).length (fun i => ((i : Int), ((yl p a + i : Nat) : Int), zdq p a i)) (((yl p a + (sgL p a).length : Nat) : Int), zdq p a (sgL p a).length) (fun i hi => ?_) (by simp) ?_).trans ?_
   . obtain ⟨x, hx⟩ := zN hi
     obtain ⟨lx, nx, ux, _⟩ := zwk h hk (List.mem_of_getElem? hx)
     obtain ⟨x0, x1⟩ := labB_iff.1 lx
     obtain ⟨y, rfl⟩ : ∃ y : Nat, x = (y : Int) := ⟨x.toNat, (Int.toNat_of_nonneg x0).symm⟩
     have hit : (i : Int) < ((sgL p a).length : Int) := by omega
     have ni : (0 : Int) <= (i : Int) := by omega
     have ny : (0 : Int) <= (y : Int) := by omega
     have hy8 : (y : Int) < ((8 : Nat) : Int) := by omega
     have hwi : IntKind.wrap .i64 ((i : Int) + 1) = ((i + 1 : Nat) : Int) := w64 (by omega) (by omega)
     have hml := zsx (p := p) (k := a)
     have hwm : IntKind.wrap .i64 (((yl p a + i : Nat) : Int) + 1) = ((yl p a + i + 1 : Nat) : Int) := w64 (by omega) (by omega)
     have c1 : ¬ (y : Int) < 0 := by omega
     have c2 : ¬ (p.Lattice.Names.length : Int) <= (y : Int) := by omega
     have hbel := zgy ok.u8 (a := y) (b := a) (by omega) (by omega)
     rw [Int.toNat_natCast] at ux
     have g1 := xu (f := fun x y => if x = a then decide ((y : Int) ∈ (sgL p a).take i) else decide (x < a) && wE p x y) (a := a) (by omega)
     have hnot : ¬ (y : Int) ∈ (sgL p a).take i := fun hm => by
      have hnd := zi0 (p := p) (a := a)
      obtain ⟨j, hj⟩ := List.mem_iff_getElem?.1 hm
      rw [List.getElem?_take] at hj
      split at hj
      . rename_i hji
        have e1 := (List.getElem?_eq_some_iff.1 hj).2
        have e2 := (List.getElem?_eq_some_iff.1 hx).2
        have := (List.pairwise_iff_getElem.1 hnd) j i (by omega) (by omega) hji
        exact this (e1.trans e2.symm)
      . cases hj
     have g2 := xl (f := fun b => if a = a then decide ((b : Int) ∈ (sgL p a).take i) else decide (a < a) && wE p a b) (b := y) (by omega)
     simp only [if_true, hnot, decide_false] at g2
     have hset : List.set (zdq p a i) a (List.set ((List.range 8).map fun (b : Nat) => if a = a then decide ((b : Int) ∈ (sgL p a).take i) else decide (a < a) && wE p a b) y true) = zdq p a (i + 1) := by
      unfold zdq
      rw [ztq]
      refine ur fun u v _ _ => ?_
      by_cases e : u = a
      . subst e
        rw [List.take_add_one, hx]
        by_cases e2 : v = y
        . subst e2; simp
        . have : ¬ (v : Int) = (y : Int) := by omega
          simp [e2, this]
      . simp [e]
     have g1' : (zdq p a i)[a]? = some ((List.range 8).map fun (b : Nat) => if a = a then decide ((b : Int) ∈ (sgL p a).take i) else decide (a < a) && wE p a b) := g1
     simp only [if_true] at hset g1'
     simp only [hit, decide_true, cond_true, zi, ni, if_true, Int.toNat_natCast, hx, Option.bind_some, c1, c2, nx, decide_false, cond_false, hbel, ux, Bool.not_true, zk, na, ha8, ny, hy8, and_self, g1', g2, zg, hwm, hwi, hset]
     rfl
   . have : zdq p a 0 = ze9 p a := ur fun u v _ _ => by
      by_cases e : u = a
      . subst e; simp
      . simp [e]
     simp [this]
   . simp only
     have htab : zdq p a (sgL p a).length = ze9 p (a + 1) := ur fun u v _ _ => by
      by_cases e : u = a
      . subst e
        have : decide ((v : Int) ∈ sgL p u) = wE p u v := by
         unfold wE
         exact decide_eq_decide.2 (zct h hk _)
        simp [this]
      . have : decide (u < a) = decide (u < a + 1) := decide_eq_decide.2 (by omega)
        simp [e, this]
     rw [htab]
     refine (wX p.Lattice.Names.length (fun b => (b : Int)) () (fun b hb => ?_) (by simp) rfl).trans ?_
     . have hbt : (b : Int) < (p.Lattice.Names.length : Int) := by omega
       have hb8 : (b : Int) < ((8 : Nat) : Int) := by omega
       have nb : (0 : Int) <= (b : Int) := by omega
       have hwb : IntKind.wrap .i64 ((b : Int) + 1) = ((b + 1 : Nat) : Int) := w64 (by omega) (by omega)
       have g1 := xu (f := fun i j => decide (i < a + 1) && wE p i j) (a := a) (by omega)
       have g2 := xl (f := fun b => decide (a < a + 1) && wE p a b) (b := b) (by omega)
       have e1 : decide (a < a + 1) = true := by simp
       simp only [e1, Bool.true_and] at g1 g2
       have g1' : (ze9 p (a + 1))[a]? = some ((List.range 8).map fun b => wE p a b) := g1
       simp only [hbt, decide_true, cond_true, zhf h, Option.bind_some, zk, na, ha8, nb, hb8, and_self, if_true, zi, Int.toNat_natCast, g1', g2, zg, hwb]
       rcases zro hk ha hb with ⟨r1, K, r2, r3, r4⟩ | ⟨r1, r2⟩
       . have k1 : ¬ K < 2 := by omega
         have k2 : ¬ 400 < K := by omega
         simp [r1, r2, k1, k2]
       . simp [r1, r2]
     . have hm : ((yl p a + (sgL p a).length : Nat) : Int) = (yl p (a + 1) : Int) := by rw [zo3, hsl]
       simp only [zg, hwa, hm]
 . have : ze9 p 0 = jJ fun _ _ => false := ur fun u v _ _ => by simp
   rw [this, zox hk]
   rfl
 . simp only
   have row : ∀ a b : Nat, a < p.Lattice.Names.length -> b < p.Lattice.Names.length -> (ze9 p p.Lattice.Names.length)[a]? = some ((List.range 8).map fun j => wE p a j) /\ ((List.range 8).map fun j => wE p a j)[b]? = some (wE p a b) := fun a b ha hb => by
    have g1 := xu (f := fun i j => decide (i < p.Lattice.Names.length) && wE p i j) (a := a) (by omega)
    simp only [ha, decide_true, Bool.true_and] at g1
    exact ⟨g1, xl (by omega)⟩
   refine (wX p.Lattice.Names.length (fun a => (a : Int)) () (fun a ha => ?_) (by simp) rfl).trans ?_
   . have hat : (a : Int) < (p.Lattice.Names.length : Int) := by omega
     have ha8 : (a : Int) < ((8 : Nat) : Int) := by omega
     have na : (0 : Int) <= (a : Int) := by omega
     have hwa : IntKind.wrap .i64 ((a : Int) + 1) = ((a + 1 : Nat) : Int) := w64 (by omega) (by omega)
     simp only [hat, decide_true, cond_true]
     refine (wX p.Lattice.Names.length (fun b => (b : Int)) () (fun b hb => ?_) (by simp) rfl).trans (by simp only [zg, hwa])
     have hbt : (b : Int) < (p.Lattice.Names.length : Int) := by omega
     have hb8 : (b : Int) < ((8 : Nat) : Int) := by omega
     have nb : (0 : Int) <= (b : Int) := by omega
     have hwb : IntKind.wrap .i64 ((b : Int) + 1) = ((b + 1 : Nat) : Int) := w64 (by omega) (by omega)
     simp only [hbt, decide_true, cond_true]
     refine (wX p.Lattice.Names.length (fun c => (c : Int)) () (fun c hc => ?_) (by simp) rfl).trans (by simp only [zg, hwb])
     have hct : (c : Int) < (p.Lattice.Names.length : Int) := by omega
     have hc8 : (c : Int) < ((8 : Nat) : Int) := by omega
     have nc : (0 : Int) <= (c : Int) := by omega
     have hwc : IntKind.wrap .i64 ((c : Int) + 1) = ((c + 1 : Nat) : Int) := w64 (by omega) (by omega)
     obtain ⟨g1, g2⟩ := row a b ha hb
     obtain ⟨g3, g4⟩ := row b c hb hc
     have hbel := zgy ok.u8 (a := c) (b := a) (by omega) (by omega)
     simp only [hct, decide_true, cond_true, zk, na, ha8, nb, hb8, nc, hc8, and_self, if_true, zi, Int.toNat_natCast, g1, g2, Option.bind_some, g3, g4, zg, hwc, hbel]
     cases q1 : wE p a b
     . simp
     cases q2 : wE p b c
     . simp
     obtain ⟨k1, r1, f1, f2, f3⟩ := zdf q1
     obtain ⟨k2, r2, f4, f5, f6⟩ := zdf q2
     have o1 := jQ hk f1
     have o2 := jQ hk f4
     have u1 := o1.up
     have u2 := o2.up
     rw [f2, f3, Int.toNat_natCast, Int.toNat_natCast] at u1
     rw [f5, f6, Int.toNat_natCast, Int.toNat_natCast] at u2
     have u3 : up p.Lattice c a = true := zzn ok hc hb ha u2 u1
     have hne : ¬ (c : Int) = (a : Int) := fun e => by
      have : c = a := by omega
      subst this
      have := znn ok hb ha u1 u2
      exact o1.ne (by rw [f2, f3, this])
     simp [hne, u3]
   . simp [zrh hk]
end Go.Sx.O
