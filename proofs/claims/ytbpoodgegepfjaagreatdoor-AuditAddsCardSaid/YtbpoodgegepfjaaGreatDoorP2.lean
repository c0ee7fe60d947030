/-
  An own text of this claim.
-/
import Derived.Test.YtbpoodgegepfjaaGreatDoorP1
namespace Go.Sx.O
open Go
def zgl (ns : List (List UInt8)) (i : Nat) : Option (Int × Int) :=
 if zju (ns.getD i []) = true then (if ns.getD i [] ∈ ns.take i then some ((i : Int), 8) else none) else some ((i : Int), 6)
def za6 (ns : List (List UInt8)) : Int × Int := if ns.length < 1 \/ 8 < ns.length then (-1, 3) else (zE (zgl ns) 0 ns.length).getD (0, 0)
theorem zoo {α : Type} {l : List α} {i : Nat} {d x : α} (h : l[i]? = some x) : l.getD i d = x := by rw [List.getD_eq_getElem?_getD, h]; rfl
theorem zut (ns : List (List UInt8)) (h : ns.length <= 20) (hn : ∀ s ∈ ns, s.length <= 1000) : zhq ns = some (za6 ns) := by
 unfold zhq za6
 simp only [List.length_map]
 by_cases h1 : ns.length < 1
 . have : (ns.length : Int) < 1 := by omega
   simp [h1, this]
 by_cases h2 : 8 < ns.length
 . have : (8 : Int) < ns.length := by omega
   have g1 : ¬ (ns.length : Int) < 1 := by omega
   simp [h2, this, g1]
 have g1 : ¬ (ns.length : Int) < 1 := by omega
 have g2 : ¬ (8 : Int) < ns.length := by omega
 simp only [g1, g2, h1, h2, decide_false, cond_false, or_self, if_false]
 rw [xm ns.length (zgl ns) () (fun k hk => ?_) (by simp)]
 . cases zE (zgl ns) 0 ns.length <;> rfl
 . obtain ⟨x, hx⟩ := zN (l := ns) (i := k) hk
   have hxl := hn x (List.mem_of_getElem? hx)
   simp only [Int.ofNat_lt, hk, decide_true, cond_true, zh, Int.toNat_natCast, hx, Option.bind_some, zg, Int.natCast_nonneg, if_true]
   rw [ziv x (by omega), jS _ _ (by simp; omega)]
   unfold zgl
   rw [zoo hx, w64 (by omega) (by omega)]
   cases e : zju x with
   | false => simp
   | true =>
     have hk' : k <= ns.length := by omega
     simp only [Option.bind_some, Bool.not_true, cond_false, Int.toNat_zero, List.drop_zero, if_true]
     by_cases hm : x ∈ ns.take k
     . simp [hm, zq, hk']
     . simp [hm, zq, hk']
open Go
def dn (l : TL) (b : Nat) : Nat -> Nat
 | 0 => 0
 | k + 1 => dn l b k ||| (if up l k b = true then 2 ^ k else 0)
theorem zkv (l : TL) (b : Nat) : ∀ (k i : Nat), (dn l b k).testBit i = (decide (i < k) && up l i b)
 | 0, i => by simp [dn]
 | k + 1, i => by
   simp only [dn, Nat.testBit_or, zkv l b k i]
   by_cases h : up l k b = true
   . simp only [h, if_true, Nat.testBit_two_pow]
     by_cases hik : i = k
     . subst hik; simp [h]
     . have h1 : ¬ k = i := fun e => hik e.symm
       have h2 : (i < k + 1) = (i < k) := by simp; omega
       simp [h1, h2]
   . simp only [h, if_false, Nat.zero_testBit, Bool.or_false]
     by_cases hik : i = k
     . subst hik; simp [h]
     . have h2 : (i < k + 1) = (i < k) := by simp; omega
       simp [h2]
theorem zwa (l : TL) (b : Nat) : ∀ k : Nat, dn l b k < 2 ^ k
 | 0 => by simp [dn]
 | k + 1 => by
   simp only [dn]
   refine Nat.or_lt_two_pow (Nat.lt_of_lt_of_le (zwa l b k) (Nat.pow_le_pow_right (by omega) (by omega))) ?_
   split
   . exact Nat.pow_lt_pow_right (by omega) (by omega)
   . exact Nat.two_pow_pos _
theorem zsp (l : TL) (b : Nat) {k : Nat} (h : k <= 8) : dn l b k < 256 := Nat.lt_of_lt_of_le (zwa l b k) (Nat.pow_le_pow_right (n := 2) (by omega) h)
theorem zw7 {c : Bool} {k : Nat} (h : k < 8) : IntKind.wrap .u8 ((if c = true then (1 : Int) else 0) * 2 ^ min k (IntKind.bits .u8)) = ((if c = true then 2 ^ k else 0 : Nat) : Int) := by
 have key : ∀ (c : Bool) (k : Fin 8), IntKind.wrap .u8 ((if c = true then (1 : Int) else 0) * 2 ^ min k.val (IntKind.bits .u8)) = ((if c = true then 2 ^ k.val else 0 : Nat) : Int) := by decide +kernel
 exact key c ⟨k, h⟩
theorem zzk {a b : Nat} (ha : a < 256) (hb : b < 256) : bits .or .u8 (a : Int) (b : Int) = ((a ||| b : Nat) : Int) := by
 rw [zoj (by omega) (by omega) (by omega) (by omega)]; rfl
theorem zxe {a b : Nat} (ha : a < 256) (hb : b < 256) : bits .and .u8 (a : Int) (b : Int) = ((a &&& b : Nat) : Int) := by
 rw [zb1 (by omega) (by omega) (by omega) (by omega)]; rfl
theorem zAq {c : Bool} {k : Nat} (h : k < 8) : (if c = true then 2 ^ k else 0) < 256 := by
 split
 . exact Nat.lt_of_lt_of_le (Nat.pow_lt_pow_right (a := 2) (by omega) h) (by omega)
 . omega
theorem zol {α : Type} {l : List α} {i j : Nat} {x : α} (h : i < l.length) : (l.set i x)[j]? = if i = j then some x else l[j]? := by
 rw [List.getElem?_set]
 split
 . simp [h]
 . rfl
theorem zlg (l : TL) (hu : U8s l.Up) (hn : l.Names.length <= 8) (hl : l.Up.length = l.Names.length) :
 Tot (zfv l) fun o => o.n_ = l.Names.length /\ o.up_.length = 8 /\ o.down_.length = 8 /\ (∀ j, j < l.Names.length -> o.up_[j]? = l.Up[j]?) /\ ∀ b, b < l.Names.length -> o.down_[b]? = some (dn l b l.Names.length : Int) := by
 unfold zfv
 simp only [zB, List.length_map]
 refine Tot.count l.Up.length (fun k s => s.1 = (k : Int) /\ s.2.1.length = 8 /\ s.2.2.length = 8 /\ (∀ j, j < k -> s.2.1[j]? = l.Up[j]?) /\ ∀ b, b < l.Names.length -> s.2.2[b]? = some (dn l b k : Int)) ?_ ⟨rfl, rfl, rfl, fun j hj => absurd hj (by omega), fun b hb => ?_⟩
 . rintro k ⟨i, up', down⟩ hk ⟨h0, h1, h2, h3, h4⟩
   simp only at h0 h1 h2 h3 h4
   subst h0
   simp only [zw, zJ, ql, qE, wb, zB, Sum.elim_inl, Sum.elim_inr, decide_eq_true_eq, decide_eq_false_iff_not, Int.toNat_natCast]
   refine ⟨fun hlt => ?_, fun hlt => ?_⟩
   . obtain ⟨x, hx⟩ := zN (l := l.Up) (i := k) (by omega)
     obtain ⟨y, hy⟩ := zN (l := up') (i := k) (by omega)
     refine ⟨by omega, x, hx, ⟨by omega, by omega⟩, by omega, y, hy, ?_⟩
     have hx' := hu.get hx
     refine Tot.count l.Names.length (fun j s => s.1 = (j : Int) /\ s.2.length = 8 /\ ∀ b, b < l.Names.length -> s.2[b]? = some (dn l b (if b < j then k + 1 else k) : Int)) ?_ ⟨rfl, h2, fun b hb => by simpa using h4 b hb⟩
     rintro j ⟨i', d⟩ hj ⟨g0, g1, g2⟩
     simp only at g0 g1 g2
     subst g0
     simp only [zw, zJ, ql, qE, wb, zB, Sum.elim_inl, Sum.elim_inr, decide_eq_true_eq, decide_eq_false_iff_not, Int.toNat_natCast]
     refine ⟨fun hlt' => ?_, fun hlt' => ?_⟩
     . have hz := g2 j (by omega)
       rw [if_neg (by omega)] at hz
       rw [w64 (by omega) (by omega)]
       refine ⟨⟨by omega, by omega⟩, by omega, _, hz, by omega, by omega, ⟨by omega, by omega⟩, by omega, _, hz, by omega, by omega, by simpa using g1, fun b hb => ?_⟩
       rw [zol (by omega)]
       by_cases hjb : j = b
       . subst hjb
         rw [if_pos rfl, if_pos (by omega), zcc hx'.1 hx'.2 (by omega), <- jD hx, zw7 (by omega), zzk (zsp l j (by omega)) (zAq (by omega))]
         rfl
       . rw [if_neg hjb, g2 b hb]
         have : (b < j + 1) = (b < j) := by simp; omega
         simp only [this]
     . rw [w64 (by omega) (by omega)]
       refine ⟨by omega, by omega, by simpa using h1, g1, fun q hq => ?_, fun b hb => ?_⟩
       . rw [zol (by omega)]
         by_cases hkq : k = q
         . subst hkq; rw [if_pos rfl, hx]
         . rw [if_neg hkq]; exact h3 q (by omega)
       . rw [g2 b hb, if_pos (by omega)]
   . have hkn : k = l.Names.length := by omega
     subst hkn
     exact ⟨trivial, h1, h2, h3, h4⟩
 . have h8 : ∀ b : Fin 8, ([0, 0, 0, 0, 0, 0, 0, 0] : List Int)[b.val]? = some 0 := by decide
   exact h8 ⟨b, by omega⟩
theorem yB {ρ : Type} {p : Prop} [Decidable p] {x : Option ρ} (h : p) : zq p x = x := by unfold zq; rw [if_pos h]
def bnd (g : Nat -> Nat) (n a b : Nat) : Option Nat := zE (fun c => if g c = g a &&& g b then some c else none) 0 n
def zk2 (g : Nat -> Nat) (n a b : Nat) : Int := match bnd g n a b with | some c => c | none => -1
theorem zep (m : List Int) (g : Nat -> Nat) (n a b : Nat) (hn : n <= 8) (hg : ∀ c, c < n -> m[c]? = some (g c : Int)) (hg8 : ∀ c, c < n -> g c < 256) (hs : ∀ c, c < n -> (g c).testBit c = true) (ha : a < n) (hb : b < n) :
 zg7 m n a b = some (zk2 g n a b) := by
 unfold zg7 zk2 bnd
 have s1 : ((0 : Int) <= (a : Int) /\ (a : Int) < ((8 : Nat) : Int)) := by omega
 have s2 : ((0 : Int) <= (b : Int) /\ (b : Int) < ((8 : Nat) : Int)) := by omega
 simp only [yB s1, yB s2]
 simp only [zh, Int.toNat_natCast, Int.natCast_nonneg, if_true, hg a ha, hg b hb, Option.bind_some, zxe (hg8 a ha) (hg8 b hb)]
 have h8 : g a &&& g b < 256 := zg3 (hg8 a ha)
 generalize g a &&& g b = both at *
 rw [xm n (fun c => if g c = both then some (c : Int) else none) () (fun c hc => ?_) (by simp)]
 . have e : (fun c => if g c = both then some (c : Int) else none) = fun c => (if g c = both then some c else none).map (fun c : Nat => (c : Int)) := by
    funext c; split <;> rfl
   rw [e, uX]
   cases zE (fun c => if g c = both then some c else none) 0 n <;> rfl
 . have s3 : ((0 : Int) <= (c : Int) /\ (c : Int) < ((8 : Nat) : Int)) := by omega
   simp only [yB s3]
   simp only [Int.ofNat_lt, hc, decide_true, cond_true, zq, Int.natCast_nonneg, if_true, hg c hc, Option.bind_some, zg]
   rw [w64 (by omega) (by omega), zcc (by omega) (by omega) (by omega)]
   simp only [Int.toNat_natCast]
   by_cases hbc : both.testBit c = true
   . simp only [hbc, if_true, decide_true, cond_true]
     rw [hg c hc]
     by_cases hgc : g c = both
     . simp [hgc]
     . have : ¬ (g c : Int) = (both : Int) := by omega
       simp [hgc, this]
   . have : g c ≠ both := fun e => hbc (e ▸ hs c hc)
     simp [hbc, this]
open Go
def upN (l : TL) (a : Nat) : Nat := (l.Up.getD a 0).toNat
def zpb (l : TL) (a b : Nat) : Bool := !up l a b || ((decide (b = a) || !up l b a) && (List.range l.Names.length).all fun i => !up l b i || up l a i)
def zb9 (l : TL) (a : Nat) : Bool := decide (upN l a < 2 ^ l.Names.length) && up l a a && (List.range l.Names.length).all fun b => zpb l a b
def dnN (l : TL) (b : Nat) : Nat := dn l b l.Names.length
def jj (l : TL) (a b : Nat) : Bool := (bnd (upN l) l.Names.length a b).isNone || (bnd (dnN l) l.Names.length a b).isNone
def zq1 (l : TL) : Int × Int :=
 if (za6 l.Names).2 = 0 then
  if l.Up.length = l.Names.length then
   match zE (fun a => if zb9 l a = true then none else some ((a : Int), (6 : Int))) 0 l.Names.length with
   | some r => r
   | none => (zE (fun a => zE (fun b => if jj l a b = true then some ((a : Int), (4 : Int)) else none) 0 l.Names.length) 0 l.Names.length).getD (0, 0)
  else (-1, 6)
 else za6 l.Names
theorem zi8 {α : Type} {p : Nat -> Bool} {u v : α} {n : Nat} : ∀ {j k : Nat}, k + j = n -> 0 < j -> zE (fun i => if p i = true then (if i + 1 = n then some u else none) else some v) k j = some (if (List.range j).all (fun i => p (k + i)) = true then u else v)
 | 0, _, _, h => by omega
 | j + 1, k, hk, _ => by
   have e : (List.range (j + 1)).all (fun i => p (k + i)) = (p k && (List.range j).all fun i => p (k + 1 + i)) := by
    rw [List.range_succ_eq_map, List.all_cons, List.all_map]
    congr 1
    congr 1
    funext i
    simp only [Function.comp]
    congr 1; omega
   rw [e]
   simp only [zE]
   cases hp : p k with
   | false => simp
   | true =>
     simp only [if_true, Bool.true_and]
     by_cases hj : j = 0
     . subst hj
       have : k + 1 = n := by omega
       simp [this]
     . have : ¬ k + 1 = n := by omega
       simp only [this, if_false]
       exact zi8 (by omega) (by omega)
theorem zqf (x : Int) (h0 : 0 <= x) (h1 : x < 256) : Tot (zh9 x) fun y => ∀ n : Nat, n <= 8 -> decide ((n : Int) < y) = !decide (x.toNat < 2 ^ n) := by
 unfold zh9
 rw [qE]
 refine ⟨h0, ?_⟩
 have key : ∀ l : List UInt8, (∀ x : Fin 256, ∀ n : Fin 9, (l[x.val]?.map fun y => decide ((n.val : Int) < IntKind.wrap .i64 (y.toNat : Int))) = some (!decide (x.val < 2 ^ n.val))) ->
  ∃ y, l[x.toNat]? = some y /\ Tot (zg (IntKind.wrap .i64 (y.toNat : Int)) fun z => some z) fun y => ∀ n : Nat, n <= 8 -> decide ((n : Int) < y) = !decide (x.toNat < 2 ^ n) := by
  intro l hl
  cases e : l[x.toNat]? with
  | none =>
    have := hl ⟨x.toNat, by omega⟩ ⟨0, by omega⟩
    simp only [e] at this
    cases this
  | some y =>
    refine ⟨y, rfl, .mk fun n hn => ?_⟩
    have := hl ⟨x.toNat, by omega⟩ ⟨n, by omega⟩
    simp only [e] at this
    exact Option.some.inj this
 exact key _ (by decide +kernel)
theorem zgk {l : TL} (hu : U8s l.Up) {a b : Nat} (ha : a < l.Up.length) (hb : b <= 8) : zcl l a b = some (up l a b) := by
 unfold zcl
 obtain ⟨x, hx⟩ := zN ha
 have hx' := hu.get hx
 have key : ∀ u : Fin 256, ∀ b : Fin 9, decide (Int.tmod (Int.fdiv (u.val : Int) (2 ^ min b.val (IntKind.bits .u8))) 2 = 1) = Nat.testBit u b := by decide +kernel
 have := key ⟨x.toNat, by omega⟩ ⟨b, by omega⟩
 simp only [Int.toNat_of_nonneg hx'.1] at this
 simp only [List.length_map, Int.natCast_nonneg, decide_true, cond_true, Int.ofNat_lt, ha, zh, Int.toNat_natCast, if_true, hx, Option.bind_some, zq, this, jD hx]
open Go
theorem zrl {l : TL} {a : Nat} {x : Int} (h : l.Up[a]? = some x) : upN l a = x.toNat := by unfold upN; rw [zoo h]
theorem zhu {l : TL} {a b : Nat} : (upN l a).testBit b = up l a b := rfl
theorem zlf {l : TL} (hu : U8s l.Up) {a : Nat} (ha : a < l.Up.length) : upN l a < 256 := by
 obtain ⟨x, hx⟩ := zN ha
 have := hu.get hx
 rw [zrl hx]; omega
theorem zhx {l : TL} (hu : U8s l.Up) {a : Nat} (ha : a < l.Up.length) : l.Up[a]? = some (upN l a : Int) := by
 obtain ⟨x, hx⟩ := zN ha
 have := hu.get hx
 rw [hx, zrl hx, Int.toNat_of_nonneg this.1]
open Go
theorem ztr (g : Nat -> Nat) (n a b : Nat) : decide (zk2 g n a b < 0) = (bnd g n a b).isNone := by
 unfold zk2
 cases bnd g n a b with
 | none => rfl
 | some c => simp
theorem zya {l : TL} (h8 : l.Names.length <= 8) (b : Nat) : dnN l b < 256 := zsp l b h8
open Go
theorem zns (l : TL) (hu : U8s l.Up) (hn : l.Names.length <= 20) (hs : ∀ s ∈ l.Names, s.length <= 1000) : zax l = some (zq1 l) := by
 unfold zax zq1
 rw [zut _ hn hs]
 simp only [Option.bind_some, List.length_map]
 by_cases h0 : (za6 l.Names).2 = 0
 case neg => simp [h0]
 simp only [h0, decide_true, Bool.not_true, cond_false, if_true]
 by_cases hlen : l.Up.length = l.Names.length
 case neg =>
  have : ¬ (l.Up.length : Int) = l.Names.length := by omega
  simp [hlen, this]
 have h8 : 1 <= l.Names.length /\ l.Names.length <= 8 := by
  unfold za6 at h0
  split at h0
  . cases h0
  . omega
 obtain ⟨h1, h8⟩ := h8
 have g0 : ((0 : Int) <= (l.Names.length : Int)) := by omega
 simp only [hlen, decide_true, Bool.not_true, cond_false, if_true, yB g0, zg, Int.toNat_natCast]
 have hmask := zlr l.Names.length h8
 have hm0 := zm5 (e := IntKind.wrap .u8 (1 * 2 ^ min l.Names.length (IntKind.bits .u8)) - 1)
 rw [xm l.Names.length (fun a => if zb9 l a = true then none else some ((a : Int), (6 : Int))) () (fun a ha => ?_) (by simp)]
 . cases h1 : zE (fun a => if zb9 l a = true then none else some ((a : Int), (6 : Int))) 0 l.Names.length with
   | some r => rfl
   | none =>
     simp only
     have hself : ∀ a, a < l.Names.length -> up l a a = true := by
      intro a ha
      have := scan_none.1 h1 a (by omega) (by omega)
      split at this
      . rename_i h
        unfold zb9 at h
        simp only [Bool.and_eq_true] at h
        exact h.1.2
      . cases this
     obtain ⟨o, eo, _, o1, o2, o3, o4⟩ := zlg l hu h8 hlen
     rw [eo, Option.bind_some]
     rw [xm l.Names.length (fun a => zE (fun b => if jj l a b = true then some ((a : Int), (4 : Int)) else none) 0 l.Names.length) () (fun a ha => ?_) (by simp)]
     . cases zE (fun a => zE (fun b => if jj l a b = true then some ((a : Int), (4 : Int)) else none) 0 l.Names.length) 0 l.Names.length <;> rfl
     . simp only [Int.ofNat_lt, ha, decide_true, cond_true]
       rw [xm l.Names.length (fun b => if jj l a b = true then some (.inr (.inr ((a : Int), (4 : Int)))) else none) () (fun b hb => ?_) (by simp)]
       . have e : (fun b => if jj l a b = true then some (Sum.inr (Sum.inr ((a : Int), (4 : Int))) : Int ⊕ (Unit ⊕ (Int × Int))) else none) = fun b => (if jj l a b = true then some ((a : Int), (4 : Int)) else none).map fun v => .inr (.inr v) := by
          funext b; split <;> rfl
         rw [e, uX]
         cases zE (fun b => if jj l a b = true then some ((a : Int), (4 : Int)) else none) 0 l.Names.length with
         | some r => rfl
         | none =>
           simp only [Option.map_none]
           rw [w64 (by omega) (by omega)]
       . simp only [Int.ofNat_lt, hb, decide_true, cond_true]
         have n1 := zep o.up_ (upN l) l.Names.length a b h8 (fun c hc => by rw [o3 c hc]; exact zhx hu (by omega)) (fun c hc => zlf hu (by omega)) (fun c hc => hself c hc) ha hb
         have n2 : zqw o.down_ l.Names.length a b = some (zk2 (dnN l) l.Names.length a b) := zep o.down_ (dnN l) l.Names.length a b h8 (fun c hc => o4 c hc) (fun c hc => zya h8 c) (fun c hc => by unfold dnN; rw [zkv, hself c hc]; simp [hc]) ha hb
         rw [n1, n2]
         simp only [Option.bind_some, ztr]
         rw [w64 (by omega) (by omega)]
         unfold jj
         cases (bnd (upN l) l.Names.length a b).isNone with
         | true => simp
         | false => cases (bnd (dnN l) l.Names.length a b).isNone <;> simp
 . -- one label's row
   have hxa := zhx hu (a := a) (by omega)
   have hlt := zlf hu (a := a) (by omega)
   obtain ⟨y, ey, hy⟩ := zqf (upN l a : Int) (by omega) (by omega)
   have hy := hy l.Names.length h8
   rw [Int.toNat_natCast] at hy
   have ga : ((0 : Int) <= (a : Int)) := by omega
   have hbit : ∀ b, b < l.Names.length -> bits .and .u8 (Int.fdiv (upN l a : Int) (2 ^ min b (IntKind.bits .u8))) 1 = if up l a b = true then 1 else 0 := fun b hb => by
    rw [zcc (by omega) (by omega) (by omega), Int.toNat_natCast]; rfl
   simp only [Int.ofNat_lt, ha, decide_true, cond_true, zh, Int.toNat_natCast, if_pos ga, hxa, Option.bind_some, ey, hy, yB ga]
   simp only [hbit a ha]
   unfold zb9
   cases e1 : decide (upN l a < 2 ^ l.Names.length) with
   | false => simp
   | true =>
     simp only [Bool.not_true, cond_false, Bool.true_and]
     cases e2 : up l a a with
     | false => simp
     | true =>
       simp only [if_true, Int.reduceEq, decide_false, cond_false, Bool.true_and]
       rw [xm l.Names.length (fun b => if zpb l a b = true then (if b + 1 = l.Names.length then some (.inl ((a : Int) + 1)) else none) else some (.inr (.inr ((a : Int), (6 : Int))))) () (fun b hb => ?_) (by simp)]
       . rw [zi8 (by omega) (by omega)]
         simp only [Nat.zero_add]
         cases (List.range l.Names.length).all fun b => zpb l a b <;> rfl
       . have hxb := zhx hu (a := b) (by omega)
         have hltb := zlf hu (a := b) (by omega)
         have gb : ((0 : Int) <= (b : Int)) := by omega
         have hbit' : bits .and .u8 (Int.fdiv (upN l b : Int) (2 ^ min a (IntKind.bits .u8))) 1 = if up l b a = true then 1 else 0 := by
          rw [zcc (by omega) (by omega) (by omega), Int.toNat_natCast]; rfl
         simp only [Int.ofNat_lt, hb, decide_true, cond_true, Option.bind_some, Int.toNat_natCast, hxb, if_pos gb, yB gb]
         simp only [hbit b hb, hbit', w64 (e := (l.Names.length : Int) - 1) (by omega) (by omega), w64 (e := (a : Int) + 1) (by omega) (by omega), w64 (e := (b : Int) + 1) (by omega) (by omega)]
         have hnot : decide (bits .andNot .u8 (bits .and .u8 (upN l b : Int) (IntKind.wrap .u8 (IntKind.wrap .u8 (1 * 2 ^ min l.Names.length (IntKind.bits .u8)) - 1))) (upN l a : Int) = 0) = (List.range l.Names.length).all fun i => !up l b i || up l a i := by
          revert hmask hm0
          generalize IntKind.wrap .u8 (IntKind.wrap .u8 (1 * 2 ^ min l.Names.length (IntKind.bits .u8)) - 1) = mask
          intro hmask hm0
          have hand : bits .and .u8 (upN l b : Int) mask = ((upN l b &&& mask.toNat : Nat) : Int) := by
           rw [zb1 (by omega) (by omega) hm0.1 hm0.2, Int.toNat_natCast]
          have hlt2 : upN l b &&& mask.toNat < 256 := zg3 hltb
          rw [hand, Bool.eq_iff_iff, decide_eq_true_eq, za0 (by omega) (by omega) (by omega) (by omega), List.all_eq_true]
          simp only [Int.toNat_natCast, Nat.testBit_and, hmask, zhu]
          constructor
          . intro h i hi
            have := h i
            have hi' : i < l.Names.length := by simpa using hi
            cases e : up l b i with
            | false => rfl
            | true => rw [e] at this; simpa [hi'] using this
          . intro h i hi
            simp only [Bool.and_eq_true, decide_eq_true_eq] at hi
            have := h i (by simpa using hi.2)
            rw [hi.1] at this; simpa using this
         simp only [hnot]
         have hlast : decide ((b : Int) = (l.Names.length : Int) - 1) = decide (b + 1 = l.Names.length) := by
          rw [Bool.eq_iff_iff, decide_eq_true_eq, decide_eq_true_eq]; omega
         simp only [hlast]
         unfold zpb
         cases e3 : up l a b with
         | false => by_cases hl : b + 1 = l.Names.length <;> simp [hl]
         | true =>
           by_cases hba : b = a
           . subst hba
             have d2 : decide ((b : Int) = (b : Int)) = true := by simp
             cases (List.range l.Names.length).all fun i => !up l b i || up l b i with
             | false => by_cases hl : b + 1 = l.Names.length <;> simp [hl]
             | true => by_cases hl : b + 1 = l.Names.length <;> simp [hl]
           . have d2 : decide ((b : Int) = (a : Int)) = false := by simp; omega
             have d3 : decide (b = a) = false := by simp [hba]
             simp only [d2, d3]
             cases up l b a with
             | true => by_cases hl : b + 1 = l.Names.length <;> simp [hl]
             | false =>
               cases (List.range l.Names.length).all fun i => !up l b i || up l a i with
               | false => by_cases hl : b + 1 = l.Names.length <;> simp [hl]
               | true => by_cases hl : b + 1 = l.Names.length <;> simp [hl]
theorem zxc {l : TL} (h : LatIn l) : wx l = zq1 l := by
 unfold wx; rw [zns l h.u8 h.names h.name]; rfl
open Go
open Go
theorem zt7 {g : Nat -> Nat} {n a b c : Nat} (h : bnd g n a b = some c) : c < n /\ g c = g a &&& g b := by
 have key : ∀ {j k : Nat}, zE (fun c => if g c = g a &&& g b then some c else none) k j = some c -> c < k + j /\ g c = g a &&& g b := by
  intro j
  induction j with
  | zero => intro k h; cases h
  | succ j ih =>
    intro k h
    simp only [zE] at h
    split at h
    . rename_i r hr
      cases h
      split at hr
      . rename_i hh; cases hr; exact ⟨by omega, hh⟩
      . cases hr
    . have := ih h
      exact ⟨by omega, this.2⟩
 have := key h
 simpa using this
theorem zcv {l : TL} (h : LatIn l) (k : (wx l).2 = 0) : (∀ a, a < l.Names.length -> zb9 l a = true) /\ ∀ a b, a < l.Names.length -> b < l.Names.length -> jj l a b = false := by
 rw [zxc h] at k
 unfold zq1 at k
 split at k
 case isFalse h0 => exact absurd k h0
 split at k
 case isFalse => cases k
 split at k
 case h_1 r hr =>
  exfalso
  have key : ∀ {j k : Nat}, zE (fun a => if zb9 l a = true then none else some ((a : Int), (6 : Int))) k j = some r -> r.2 = 6 := by
   intro j
   induction j with
   | zero => intro k h; cases h
   | succ j ih =>
     intro k h
     simp only [zE] at h
     split at h
     . rename_i r' hr'
       cases h
       split at hr'
       . cases hr'
       . cases hr'; rfl
     . exact ih h
  rw [key hr] at k; cases k
 case h_2 hord =>
  have key2 : ∀ {a j k : Nat} {r : Int × Int}, zE (fun b => if jj l a b = true then some ((a : Int), (4 : Int)) else none) k j = some r -> r.2 = 4 := by
   intro a j
   induction j with
   | zero => intro k r h; cases h
   | succ j ih =>
     intro k r h
     simp only [zE] at h
     split at h
     . rename_i r' hr'
       cases h
       split at hr'
       . cases hr'; rfl
       . cases hr'
     . exact ih h
  have key : ∀ {j k : Nat} {r : Int × Int}, zE (fun a => zE (fun b => if jj l a b = true then some ((a : Int), (4 : Int)) else none) 0 l.Names.length) k j = some r -> r.2 = 4 := by
   intro j
   induction j with
   | zero => intro k r h; cases h
   | succ j ih =>
     intro k r h
     simp only [zE] at h
     split at h
     . rename_i r' hr'
       cases h
       exact key2 hr'
     . exact ih h
  cases hs : zE (fun a => zE (fun b => if jj l a b = true then some ((a : Int), (4 : Int)) else none) 0 l.Names.length) 0 l.Names.length with
  | some r =>
    rw [hs] at k
    have := key hs
    simp only [Option.getD_some] at k
    rw [this] at k; cases k
  | none =>
    refine ⟨fun a ha => ?_, fun a b ha hb => ?_⟩
    . have h1 := scan_none.1 hord a (by omega) (by omega)
      split at h1
      . assumption
      . cases h1
    . have h1 := scan_none.1 (scan_none.1 hs a (by omega) (by omega)) b (by omega) (by omega)
      split at h1
      . cases h1
      . rename_i h2; simpa using h2
theorem zul {l : TL} (h : LatIn l) (k : (wx l).2 = 0) {a b : Nat} (ha : a < l.Names.length) (hb : b < l.Names.length) : ∃ c, bnd (dnN l) l.Names.length a b = some c /\ c < l.Names.length /\ dnN l c = dnN l a &&& dnN l b := by
 have h2 := (zcv h k).2 a b ha hb
 unfold jj at h2
 cases e : bnd (dnN l) l.Names.length a b with
 | none => rw [e] at h2; simp at h2
 | some c => exact ⟨c, rfl, zt7 e⟩
theorem zmb {l : TL} (ok : LatOK l) {a b c : Nat} (ha : a < l.Names.length) (hb : b < l.Names.length) (hc : c < l.Names.length) (h1 : up l a b = true) (h2 : up l b c = true) : up l a c = true := (ok.row a ha b hb h1).2 c hc h2
theorem zw9 {l : TL} {b i : Nat} : (dnN l b).testBit i = (decide (i < l.Names.length) && up l i b) := zkv l b l.Names.length i
theorem zo7 {l : TL} {a b c i : Nat} (hi : i < l.Names.length) (hg : dnN l c = dnN l a &&& dnN l b) : up l i c = (up l i a && up l i b) := by
 have h1 := congrArg (fun x => x.testBit i) hg
 simp only [Nat.testBit_and, zw9, hi, decide_true, Bool.true_and] at h1
 exact h1
theorem zwu {l : TL} (ok : LatOK l) {a b : Nat} (ha : a < l.Names.length) (hb : b < l.Names.length) (h1 : up l a b = true) (h2 : up l b a = true) : a = b := by
 by_cases e : b = a
 . exact e.symm
 . have := (ok.row a ha b hb h1).1 e
   rw [h2] at this; cases this
theorem zxb {l : TL} (h : LatIn l) (k : (wx l).2 = 0) : ∃ t, t < l.Names.length /\ ∀ a, a < l.Names.length -> up l t a = true := by
 have ok := uD h k
 have key : ∀ j, j <= l.Names.length -> ∃ t, t < l.Names.length /\ ∀ a, a < j -> up l t a = true := by
  intro j
  induction j with
  | zero => intro _; exact ⟨0, ok.pos, fun a ha => absurd ha (by omega)⟩
  | succ j ih =>
    intro hj
    obtain ⟨t, ht, hall⟩ := ih (by omega)
    obtain ⟨c, _, hc, hg⟩ := zul h k ht (show j < l.Names.length by omega)
    have hcc := ok.self c hc
    rw [zo7 hc hg, Bool.and_eq_true] at hcc
    refine ⟨c, hc, fun a ha => ?_⟩
    rcases Nat.lt_or_ge a j with g | g
    . exact zmb ok hc ht (by omega) hcc.1 (hall a g)
    . have : a = j := by omega
      subst this; exact hcc.2
 exact key _ (Nat.le_refl _)
def wT (l : TL) : Nat := ((List.range l.Names.length).find? fun b => (List.range l.Names.length).all fun a => up l b a).getD 0
theorem ze1 {l : TL} (h : LatIn l) (k : (wx l).2 = 0) : wT l < l.Names.length /\ ∀ a, a < l.Names.length -> up l (wT l) a = true := by
 obtain ⟨t, ht, hall⟩ := zxb h k
 unfold wT
 cases e : (List.range l.Names.length).find? fun b => (List.range l.Names.length).all fun a => up l b a with
 | none =>
   have := List.find?_eq_none.1 e t (by simpa using ht)
   exact absurd (by simp only [List.all_eq_true, List.mem_range]; exact hall) this
 | some b =>
   have h1 := List.find?_some e
   have h2 := List.mem_of_find?_eq_some e
   simp only [List.all_eq_true, List.mem_range] at h1 h2
   exact ⟨h2, h1⟩
theorem zz2 {l : TL} (h : LatIn l) (k : (wx l).2 = 0) {b : Nat} (hb : b < l.Names.length) (hall : ∀ a, a < l.Names.length -> up l b a = true) : b = wT l := by
 obtain ⟨h1, h2⟩ := ze1 h k
 exact zwu (uD h k) hb h1 (hall _ h1) (h2 _ hb)
theorem zvy {l : TL} (h : LatIn l) (k : (wx l).2 = 0) {b : Nat} (hb : b < l.Names.length) : upN l b = 2 ^ l.Names.length - 1 ↔ b = wT l := by
 have h1 := (zcv h k).1 b hb
 unfold zb9 at h1
 simp only [Bool.and_eq_true, decide_eq_true_eq] at h1
 constructor
 . intro e
   refine zz2 h k hb fun a ha => ?_
   rw [<- zhu, e, Nat.testBit_two_pow_sub_one]
   simpa using ha
 . rintro rfl
   have h2 := (ze1 h k).2
   refine Nat.eq_of_testBit_eq fun i => ?_
   rw [Nat.testBit_two_pow_sub_one]
   rcases Nat.lt_or_ge i l.Names.length with g | g
   . rw [zhu, h2 i g]; simp [g]
   . rw [Nat.testBit_lt_two_pow (Nat.lt_of_lt_of_le h1.1.1 (Nat.pow_le_pow_right (by omega) g))]
     simp; omega
open Go
theorem zlq (s : List UInt8) (c : Int) : zc7 s c = some (Go.Lib.indexByte s c.toNat.toUInt8) := by
 unfold zc7 qc
 rfl
theorem uW (r : Int) (h0 : 0 <= r) (h1 : r < 256) : xu [] r = some false := by
 unfold xu
 have key : Tot (zh3 [] r) fun x => x < 0 := by
  unfold zh3
  have e0 : decide (0 <= r) = true := by simp [h0]
  simp only [e0, cond_true]
  rw [zJ]
  refine ⟨fun _ => ?_, fun h2 => ?_⟩
  . rw [ql, zB, zlq]
    simp only [zw]
    simp [Go.Lib.indexByte]
  . simp only [decide_eq_false_iff_not] at h2
    obtain ⟨x, y, exy, hy⟩ := zsa (r := r) (by omega) h1
    have e1 : decide (r = 65533) = false := by simp; omega
    simp only [e1, cond_false, exy]
    rw [zB]
    refine (zam r).mono fun v _ => ?_
    rw [zJ]
    refine ⟨fun _ => .mk (by decide), fun _ => ?_⟩
    rw [ql]
    have e2 : IntKind.wrap .i64 (((List.length [x, y] : Nat) : Int) - 1) = 1 := rfl
    rw [e2, zB]
    refine Tot.loop (fun _ => 0) (fun _ => True) (fun _ _ => ?_) trivial
    rw [zJ]
    refine ⟨fun h3 => ?_, fun _ => ?_⟩
    . simp only [decide_eq_true_eq, List.length_nil] at h3
      exact absurd h3 (by decide)
    . simp only [zw, Sum.elim_inr, Sum.elim_inl]
      decide
 obtain ⟨x, e, hx⟩ := key
 rw [e]
 have : decide (0 <= x) = false := by simp; omega
 simp [this]
theorem zl2 (r : Int) (h0 : 0 <= r) (h1 : r < 256) : zdk r = some true := by
 unfold zdk
 have e0 : decide (0 <= r) = true := by simp [h0]
 have e1 : decide (r < 55296) = true := by simp; omega
 simp only [e0, e1, cond_true]
theorem znn (r : Int) (h0 : 0 <= r) (h1 : r < 256) : zqb r = some true := by
 unfold zqb
 simp only [zg, zj0 h0 h1]
 rw [w64 (by omega) (by omega)]
 simp [zl2 r h0 h1]
def xt (c : UInt8) : Bool := decide (97 <= c.toNat) && decide (c.toNat <= 122)
def zay (c : UInt8) : Bool := decide (48 <= c.toNat) && decide (c.toNat <= 57)
theorem zne {cs : List (List UInt8)} (hcs : cs.length = 10) (h : ∀ s ∈ cs, s.length <= 1000 /\ ∀ c ∈ s, c.toNat < 128) (h6 : cs[6]? = some []) (h8 : cs[8]? = some []) (r : Int) (h0 : 0 <= r) (h1 : r < 256) {Q : Unit ⊕ (Int × Int) -> Prop} (hQ : Q (.inl ())) (hQ' : ∀ x, x ≠ 6 -> x ≠ 8 -> Q (.inr (x, 0))) :
 Tot (lpO (fun (s : Int) => cond (decide (s < 10)) (zh cs s fun x => zg (IntKind.wrap IntKind.i32 r) fun y => Option.bind (xu x y) fun z => cond z (some (Sum.inr (Sum.inr (s, (0 : Int))))) (zg (IntKind.wrap IntKind.i64 (s + 1)) fun u => some (Sum.inl u))) (some (Sum.inr (Sum.inl ())))) 0) Q := by
 refine Tot.count 10 (fun k s => s = (k : Int)) ?_ rfl
 rintro k _ hk rfl
 simp only [zJ, zw, ql, qE, zB, Sum.elim_inl, Sum.elim_inr, decide_eq_true_eq, decide_eq_false_iff_not, Int.toNat_natCast]
 refine ⟨fun hlt => ?_, fun _ => hQ⟩
 obtain ⟨x, hx⟩ := zN (l := cs) (i := k) (by omega)
 have hx' := h x (List.mem_of_getElem? hx)
 refine ⟨by omega, x, hx, ?_⟩
 rw [zj0 h0 h1]
 have nx : k < 10 /\ IntKind.wrap .i64 ((k : Int) + 1) = ((k + 1 : Nat) : Int) := by
  rw [w64 (by omega) (by omega)]; exact ⟨by omega, by omega⟩
 by_cases g6 : k = 6
 . subst g6
   rw [h6] at hx; cases hx
   rw [uW r h0 h1, zw]
   exact ⟨fun e => (by cases e), fun _ => nx⟩
 by_cases g8 : k = 8
 . subst g8
   rw [h8] at hx; cases hx
   rw [uW r h0 h1, zw]
   exact ⟨fun e => (by cases e), fun _ => nx⟩
 refine (zdj x r hx'.2 hx'.1 h0 h1).mono fun _ _ => ⟨fun _ => hQ' _ (by omega) (by omega), fun _ => nx⟩
theorem zbi (c : UInt8) : Tot (zcx (IntKind.wrap .i64 (c.toNat : Int))) fun x => (decide (x.1 = 8) = xt c) /\ (decide (x.1 = 6) = zay c) := by
 have hc := c.toNat_lt
 rw [w64 (by omega) (by omega)]
 have h0 : (0 : Int) <= c.toNat := by omega
 have h1 : (c.toNat : Int) < 256 := by omega
 unfold zcx zfn xt zay
 rw [znn _ h0 h1]
 simp only [Option.bind_some, Bool.not_true, cond_false]
 have L : ¬ (48 <= c.toNat /\ c.toNat <= 57) -> ¬ (97 <= c.toNat /\ c.toNat <= 122) -> _ := fun d1 d2 => zne (cs := [[], [32], [10], [40, 91], [41, 93], [34], [], [45], [], [60, 61]]) rfl (by decide) rfl rfl c.toNat h0 h1 (Q := fun a => Tot (Sum.elim (fun _ => some ((10 : Int), (0 : Int))) some a) fun (x : Int × Int) => (decide (x.1 = 8) = (decide (97 <= c.toNat) && decide (c.toNat <= 122))) /\ (decide (x.1 = 6) = (decide (48 <= c.toNat) && decide (c.toNat <= 57))))
  (.mk (by
    have a1 : (decide (97 <= c.toNat) && decide (c.toNat <= 122)) = false := by simp; omega
    have a2 : (decide (48 <= c.toNat) && decide (c.toNat <= 57)) = false := by simp; omega
    rw [a1, a2]; exact ⟨rfl, rfl⟩)) (fun x e6 e8 => .mk (by
    have a1 : (decide (97 <= c.toNat) && decide (c.toNat <= 122)) = false := by simp; omega
    have a2 : (decide (48 <= c.toNat) && decide (c.toNat <= 57)) = false := by simp; omega
    rw [a1, a2]; simp [e6, e8]))
 simp only [zJ, zw, zB, decide_eq_true_eq, decide_eq_false_iff_not]
 have six : 48 <= c.toNat -> c.toNat <= 57 -> decide ((6 : Int) = 8) = (decide (97 <= c.toNat) && decide (c.toNat <= 122)) /\ decide ((6 : Int) = 6) = (decide (48 <= c.toNat) && decide (c.toNat <= 57)) := by
  intro d1 d2
  have a1 : (decide (97 <= c.toNat) && decide (c.toNat <= 122)) = false := by simp; omega
  have a2 : (decide (48 <= c.toNat) && decide (c.toNat <= 57)) = true := by simp; omega
  rw [a1, a2]; exact ⟨rfl, rfl⟩
 have eight : 97 <= c.toNat -> c.toNat <= 122 -> decide ((8 : Int) = 8) = (decide (97 <= c.toNat) && decide (c.toNat <= 122)) /\ decide ((8 : Int) = 6) = (decide (48 <= c.toNat) && decide (c.toNat <= 57)) := by
  intro d1 d2
  have a1 : (decide (97 <= c.toNat) && decide (c.toNat <= 122)) = true := by simp; omega
  have a2 : (decide (48 <= c.toNat) && decide (c.toNat <= 57)) = false := by simp; omega
  rw [a1, a2]; exact ⟨rfl, rfl⟩
 refine ⟨fun d1 => ⟨fun d2 => six (by omega) (by omega), fun d2 => ⟨fun d3 => ⟨fun d4 => eight (by omega) (by omega), fun d4 => L (by omega) (by omega)⟩, fun d3 => L (by omega) (by omega)⟩⟩, fun d1 => ⟨fun d3 => ⟨fun d4 => eight (by omega) (by omega), fun d4 => L (by omega) (by omega)⟩, fun d3 => L (by omega) (by omega)⟩⟩
def xe (s : List UInt8) : Bool := (match s with | [] => false | c :: _ => xt c) && s.all fun c => xt c || zay c
theorem zu1 {s : List UInt8} {p : UInt8 -> Bool} {k : Nat} {c : UInt8} (h : (s.take k).all p = true) (hc : s[k]? = some c) (hp : p c = true) : (s.take (k + 1)).all p = true := by
 rw [List.take_add_one, hc, List.all_append, h]
 simp [hp]
theorem zgx (s : List UInt8) (h : s.length <= 1000000) : Tot (zqs (TK.mk 1 0 0 0 s)) fun x => decide (x = 0) = (xe s && decide (s.length <= 16)) := by
 unfold zqs
 dsimp only
 have e2 : decide ((1 : Int) < 1) = false := rfl
 have e3 : decide ((9 : Int) < 1) = false := rfl
 simp only [e2, e3, decide_true, cond_true, cond_false, Option.bind_some, Sum.elim_inl, Bool.and_self, Bool.not_true]
 rw [zB]
 have Qn : ∀ x : Int, xe s = false -> Tot (Sum.elim (fun (n : Int) => cond (decide (n < (s.length : Int))) (some (3 : Int)) (some (0 : Int))) some (Sum.inr 6 : Int ⊕ Int)) fun x => decide (x = 0) = (xe s && decide (s.length <= 16)) := by
  intro _ e
  rw [e]; exact .mk rfl
 have Qy : xe s = true -> Tot (Sum.elim (fun (n : Int) => cond (decide (n < (s.length : Int))) (some (3 : Int)) (some (0 : Int))) some (Sum.inl 16 : Int ⊕ Int)) fun x => decide (x = 0) = (xe s && decide (s.length <= 16)) := by
  intro e
  rw [e]
  simp only [Sum.elim_inl, zJ, zw, decide_eq_true_eq, decide_eq_false_iff_not]
  refine ⟨fun g => ?_, fun g => ?_⟩
  . have : decide (s.length <= 16) = false := by simp; omega
    rw [this]; rfl
  . have : decide (s.length <= 16) = true := by simp; omega
    rw [this]; rfl
 rw [zJ]
 refine ⟨fun h1 => ?_, fun h1 => ?_⟩
 . simp only [zw]
   refine Qn 0 ?_
   have : s = [] := List.length_eq_zero_iff.1 (by simpa using h1)
   rw [this]; rfl
 simp only [decide_eq_false_iff_not] at h1
 obtain ⟨c, hc⟩ := zN (l := s) (i := 0) (by omega)
 have hs0 : ∃ r, s = c :: r := by
  cases s with
  | nil => simp at hc
  | cons a r => simp at hc; exact ⟨r, by rw [hc]⟩
 have e0 : (0 : Int).toNat = 0 := rfl
 simp only [qE, ql, zB, e0]
 refine ⟨by omega, c, hc, (zbi c).mono fun x hx => ?_⟩
 rw [zJ]
 refine ⟨fun g => ?_, fun g => ?_⟩
 . simp only [zw]
   refine Qn 0 ?_
   obtain ⟨r, rfl⟩ := hs0
   have : xt c = false := by rw [<- hx.1]; simpa using g
   unfold xe; simp [this]
 have hlow : xt c = true := by rw [<- hx.1]; simpa using g
 simp only [qE, ql, zB, e0]
 refine ⟨by omega, c, hc, (zbi c).mono fun y hy => ?_⟩
 refine Tot.loop (fun (p : Int × Int) => s.length - p.2.toNat) (fun (p : Int × Int) => 0 <= p.2 /\ p.2 <= (s.length : Int) /\ (s.take p.2.toNat).all (fun c => xt c || zay c) = true /\ ((p.2 = (s.length : Int) /\ p.1 = 10) \/ ∃ d, s[p.2.toNat]? = some d /\ decide (p.1 = 8) = xt d /\ decide (p.1 = 6) = zay d)) ?_ ⟨by simp, by simp, by simp, .inr ⟨c, by simpa using hc, hy⟩⟩
 rintro ⟨k, a⟩ ⟨h2, h3, hall, h4⟩
 simp only at h2 h3 hall h4
 have round : (k = 8 \/ k = 6) -> ∀ {Q : (Bool × Int × Int) ⊕ (Int ⊕ Int) -> Prop}, Tot (zg (IntKind.wrap .i64 (a + 1)) fun (u : Int) => cond (decide ((s.length : Int) <= u)) (some (Sum.inl ((10 : Int), u))) (zh s u fun (v : UInt8) => zg (IntKind.wrap .i64 (v.toNat : Int)) fun (z : Int) => Option.bind (zcx z) fun r => some (Sum.inl (r.1, u)))) (Sum.elim (fun (s' : Int × Int) => (0 <= s'.2 /\ s'.2 <= (s.length : Int) /\ (s.take s'.2.toNat).all (fun c => xt c || zay c) = true /\ ((s'.2 = (s.length : Int) /\ s'.1 = 10) \/ ∃ d, s[s'.2.toNat]? = some d /\ decide (s'.1 = 8) = xt d /\ decide (s'.1 = 6) = zay d)) /\ s.length - s'.2.toNat < s.length - a.toNat) Q) := by
  intro hk Q
  rcases h4 with ⟨g1, g2⟩ | ⟨d, hd, d1, d2⟩
  . omega
  have hlt : a.toNat < s.length := by
   rcases Nat.lt_or_ge a.toNat s.length with g | g
   . exact g
   . rw [List.getElem?_eq_none g] at hd; cases hd
  have hp : (xt d || zay d) = true := by
   rw [<- d1, <- d2]
   rcases hk with rfl | rfl <;> rfl
  have e1 : (a + 1).toNat = a.toNat + 1 := by omega
  have hall' : (s.take (a + 1).toNat).all (fun c => xt c || zay c) = true := by rw [e1]; exact zu1 hall hd hp
  rw [ql, w64 (by omega) (by omega), zJ]
  refine ⟨fun g => ?_, fun g => ?_⟩
  . simp only [decide_eq_true_eq] at g
    simp only [zw, Sum.elim_inl]
    exact ⟨⟨by omega, by omega, hall', .inl ⟨by omega, trivial⟩⟩, by omega⟩
  . simp only [decide_eq_false_iff_not] at g
    obtain ⟨d', hd'⟩ := zN (l := s) (i := (a + 1).toNat) (by omega)
    simp only [qE, ql, zB]
    refine ⟨by omega, d', hd', (zbi d').mono fun z hz => ?_⟩
    simp only [zw, Sum.elim_inl]
    exact ⟨⟨by omega, by omega, hall', .inr ⟨d', hd', hz⟩⟩, by omega⟩
 rw [zJ]
 refine ⟨fun g => round (.inl (by simpa using g)), fun g => ?_⟩
 rw [zJ]
 refine ⟨fun g' => round (.inr (by simpa using g')), fun g' => ?_⟩
 simp only [zw, Sum.elim_inr, Sum.elim_inl, wb, zJ, e0, List.drop_zero]
 refine ⟨by omega, fun hne => ?_, fun heq => ?_⟩
 . refine (zw (Q := fun x => decide (x = 0) = (xe s && decide (s.length <= 16)))).1 (Qn 0 ?_)
   rcases h4 with ⟨g1, _⟩ | ⟨d, hd, d1, d2⟩
   . exfalso
     have : a.toNat = s.length := by omega
     rw [this, List.take_length] at hne
     simp at hne
   . unfold xe
     have : (s.all fun c => xt c || zay c) = false := by
      rw [List.all_eq_false]
      refine ⟨d, List.mem_of_getElem? hd, ?_⟩
      rw [<- d1, <- d2, g, g']
      simp
     rw [this, Bool.and_false]
 . have ht : s.take a.toNat = s := by simpa using heq
   rw [ht] at hall
   have hw : xe s = true := by
    unfold xe
    obtain ⟨r, rfl⟩ := hs0
    simp only [hall, hlow, Bool.and_self]
   rw [hw]
   refine ⟨fun g => ?_, fun g => ?_⟩
   . have : decide (s.length <= 16) = false := by simp at g ⊢; omega
     rw [this]; rfl
   . have : decide (s.length <= 16) = true := by simp at g ⊢; omega
     rw [this]; rfl
open Go
def zbd : List (List UInt8) := [[110, 101, 103], [97, 98, 115], [110, 111, 116], [115, 104, 97, 112, 101], [114, 97, 118, 101, 108], [114, 101, 118, 101, 114, 115, 101], [102, 108, 105, 112], [105, 111, 116, 97], [115, 117, 109], [108, 101, 97, 115, 116], [109, 111, 115, 116], [99, 111, 117, 110, 116], [115, 99, 97, 110], [103, 114, 97, 100, 101], [97, 100, 100], [115, 117, 98], [109, 117, 108], [100, 105, 118], [109, 111, 100], [112, 108, 117, 115], [109, 105, 110, 117, 115], [116, 105, 109, 101, 115], [101, 113], [110, 101], [108, 116], [108, 101], [103, 116], [103, 101], [97, 110, 100], [111, 114], [109, 105, 110], [109, 97, 120], [116, 97, 107, 101], [100, 114, 111, 112], [102, 105, 108, 108], [103, 114, 105, 100], [99, 97, 116], [97, 116], [105, 110], [112, 105, 99, 107]]
theorem zf5 (s : List UInt8) : Tot (zk5 s) fun x => decide (x.2 = 0) = decide (s ∈ zbd) := by
 by_cases hm : s ∈ zbd
 . have h2 : ∀ t ∈ zbd, ∃ x, zk5 t = some x /\ decide (x.2 = 0) = true := by
    unfold zbd
    simp only [List.forall_mem_cons]
    repeat' constructor
    intro t ht; cases ht
   obtain ⟨x, e, hx⟩ := h2 s hm
   exact ⟨x, e, by show decide (x.2 = 0) = _; rw [hx]; simp [hm]⟩
 . have hd : decide (s ∈ zbd) = false := by simp [hm]
   rw [hd]
   unfold zk5
   unfold zbd at hm
   simp only [List.mem_cons, List.not_mem_nil, or_false, not_or] at hm
   have sw : ∀ n : List UInt8, (n = s) = (s = n) := fun n => propext eq_comm
   simp only [sw, hm, decide_false, cond_false, Option.bind_some, Sum.elim_inl, zw]
   rfl
def zhg : List (List UInt8) := [[118, 97, 114], [100, 101, 102], [111, 117, 116], [105, 102], [101, 108, 115, 101], [119, 104, 105, 108, 101], [101, 110, 100], [114, 101, 108, 101, 97, 115, 101], [105, 110, 116], [99, 104, 97, 114]]
def exN (s : List UInt8) : Bool := !decide (s ∈ zhg) && !decide (s ∈ zbd) && (xe s && decide (s.length <= 16))
theorem za2 (s : List UInt8) (h : s.length <= 1000000) : zg9 s = some (exN s) := by
 apply Tot.eq
 unfold exN
 by_cases hm : s ∈ zhg
 . have h2 : ∀ t ∈ zhg, zg9 t = some false := by
    unfold zhg
    simp only [List.forall_mem_cons]
    repeat' constructor
    intro t ht; cases ht
   rw [h2 s hm, zw]
   simp [hm]
 . have hd : decide (s ∈ zhg) = false := by simp [hm]
   rw [hd]
   unfold zg9
   unfold zhg at hm
   simp only [List.mem_cons, List.not_mem_nil, or_false, not_or] at hm
   change Tot (cond (decide (s = [118, 97, 114])) _ (cond (decide (s = [100, 101, 102])) _ (cond (decide (s = [111, 117, 116])) _ (cond (decide (s = [105, 102])) _ (cond (decide (s = [101, 108, 115, 101])) _ (cond (decide (s = [119, 104, 105, 108, 101])) _ (cond (decide (s = [101, 110, 100])) _ (cond (decide (s = [114, 101, 108, 101, 97, 115, 101])) _ (cond (decide (s = [105, 110, 116])) _ (cond (decide (s = [99, 104, 97, 114])) _ _)))))))))) _
   simp only [hm, decide_false, cond_false, zB]
   refine (zf5 s).mono fun x hx => ?_
   rw [hx, zJ]
   refine ⟨fun g => ?_, fun g => ?_⟩
   . rw [g]; exact .mk rfl
   . rw [g, zB]
     refine (zgx s h).mono fun y hy => .mk ?_
     rw [hy]; rfl
open Go
theorem m1 : max (1 : Int) 0 = 1 := by decide
open Go
open Go
theorem wK {σ τ ε : Type} {step : σ -> Option (σ ⊕ (ε ⊕ τ))} {k1 : ε -> Option τ} (n : Nat) (S : Nat -> σ) (f : Nat -> Option τ) (e : ε)
 (h1 : ∀ k : Nat, k < n -> step (S k) = some (match f k with | some r => .inr (.inr r) | none => .inl (S (k + 1))))
 (h2 : step (S n) = some (.inr (.inl e))) {s0 : σ} (h0 : S 0 = s0) : (lpO step s0).bind (Sum.elim k1 some) = match zE f 0 n with | some r => some r | none => k1 e := by
 subst h0
 rw [zfc n S (fun k => (f k).map Sum.inr) (.inl e) (fun k hk => by rw [h1 k hk]; cases f k <;> rfl) h2, uX]
 cases zE f 0 n <;> rfl
theorem yL {σ τ ε : Type} {step : σ -> Option (σ ⊕ (ε ⊕ τ))} {k1 : ε -> Option τ} (n : Nat) (S : Nat -> σ) (e : ε)
 (h1 : ∀ k : Nat, k < n -> step (S k) = some (.inl (S (k + 1)))) (h2 : step (S n) = some (.inr (.inl e))) {s0 : σ} (h0 : S 0 = s0) : (lpO step s0).bind (Sum.elim k1 some) = k1 e := by
 subst h0
 rw [zw6 n S (.inl e) h1 h2]; rfl
def foldN : List (List UInt8) := [[], [115, 117, 109], [99, 111, 117, 110, 116], [108, 101, 97, 115, 116], [109, 111, 115, 116]]
def zd8 (n : Int) : List UInt8 × Int := if n < 1 \/ 4 < n then ([], 2) else (foldN.getD n.toNat [], 0)
theorem zq0 {n : Int} (h : ¬ (n < 1 \/ 4 < n)) : n = 1 \/ n = 2 \/ n = 3 \/ n = 4 := by omega
theorem zni (n : Int) : zpy n = some (zd8 n) := by
 unfold zpy zd8
 by_cases h : n < 1 \/ 4 < n
 . rw [if_pos h]
   rcases h with h | h
   . simp [h]
   . have : ¬ n < 1 := by omega
     simp [this, h]
 . rw [if_neg h]
   rcases zq0 h with rfl | rfl | rfl | rfl <;> rfl
def i64 (n : Int) : Prop := -9223372036854775808 <= n /\ n <= 9223372036854775807
open Go
open Go
open Go
theorem zy9 {n : Int} (h : inK .u8 n) : 0 <= n /\ n < 256 := by
 have e1 : IntKind.u8.min = 0 := by decide
 have e2 : IntKind.u8.max = 255 := by decide
 unfold inK at h
 omega
open Go
theorem zno (x : Int) (h0 : 0 <= x) (h1 : x < 256) : Tot (zmc x) fun y => ∀ n : Nat, n <= 8 -> x.toNat < 2 ^ n -> decide (y < (n : Int)) = !decide (x.toNat = 2 ^ n - 1) := by
 unfold zmc
 rw [qE]
 refine ⟨h0, ?_⟩
 have key : ∀ l : List UInt8, (∀ x : Fin 256, ∀ n : Fin 9, (l[x.val]?.map fun y => decide (x.val < 2 ^ n.val -> decide (IntKind.wrap .i64 (y.toNat : Int) < (n.val : Int)) = !decide (x.val = 2 ^ n.val - 1))) = some true) ->
  ∃ y, l[x.toNat]? = some y /\ Tot (zg (IntKind.wrap .i64 (y.toNat : Int)) fun z => some z) fun y => ∀ n : Nat, n <= 8 -> x.toNat < 2 ^ n -> decide (y < (n : Int)) = !decide (x.toNat = 2 ^ n - 1) := by
  intro l hl
  cases e : l[x.toNat]? with
  | none =>
    have := hl ⟨x.toNat, by omega⟩ ⟨0, by omega⟩
    simp only [e] at this
    cases this
  | some y =>
    refine ⟨y, rfl, .mk fun n hn hx => ?_⟩
    have := hl ⟨x.toNat, by omega⟩ ⟨n, by omega⟩
    simp only [e, Option.map_some, Option.some.injEq, decide_eq_true_eq] at this
    exact this hx
 exact key _ (by decide +kernel)
theorem zrm {l : TL} (h : LatIn l) : zqa l = some (if (wx l).2 = 0 then ((wT l : Int), 0) else (0, (wx l).2)) := by
 unfold zqa
 rw [znr h [] (by simp)]
 simp only [Option.bind_some, zve, List.all_nil, if_true]
 by_cases hk : (wx l).2 = 0
 case neg => simp [hk]
 have ok := uD h hk
 simp only [hk, if_true, decide_true, Bool.not_true, cond_false]
 obtain ⟨o, e1, on, ol, _, ou, _⟩ := zlg l ok.u8 ok.le ok.len
 rw [e1]
 simp only [Option.bind_some]
 have hb := (ze1 h hk).1
 have hend : zqe o.up_ o.n_ = some (wT l : Int) := by
  unfold zqe
  rw [on]
  have hw : IntKind.wrap .i64 ((l.Names.length : Int) - 1) = ((l.Names.length - 1 : Nat) : Int) := by
   have := ok.pos; have := ok.le
   rw [w64 (by omega) (by omega)]; omega
  have hle := ok.le
  have hpos := ok.pos
  have hrun := zfc (step := fun (s585 : Int) =>
   zg (IntKind.wrap IntKind.i64 ((l.Names.length : Int) - (1 : Int))) fun x591 =>
   cond (decide (s585 < x591))
   (zq ((0 : Int) <= s585 /\ s585 < (↑(8 : Nat) : Int)) (
   zh (o.up_) ((↑(Int.toNat s585) : Int)) fun x593 =>
   Option.bind (zmc (x593)) fun x594 =>
   cond (decide (x594 < (l.Names.length : Int)))
   (zg (IntKind.wrap IntKind.i64 (s585 + (1 : Int))) fun x596 =>
   some (Sum.inl (x596)))
   (some (Sum.inr (Sum.inl (β := Int) s585)))))
   (some (Sum.inr (Sum.inl s585)))) (l.Names.length - 1) (fun k => (k : Int)) (fun k => if k = wT l then some (Sum.inl (k : Int)) else none) (Sum.inl ((l.Names.length - 1 : Nat) : Int)) (fun k hk2 => by
     have hlt : (k : Int) < ((l.Names.length - 1 : Nat) : Int) := by omega
     have n1 : (0 : Int) <= (k : Int) := by omega
     have n2 : (k : Int) < ((8 : Nat) : Int) := by omega
     have hw2 : IntKind.wrap .i64 ((k : Int) + 1) = ((k + 1 : Nat) : Int) := w64 (by omega) (by omega)
     obtain ⟨x, hx⟩ := zN (l := l.Up) (i := k) (by have := ok.len; omega)
     have hx' := ok.u8.get hx
     have hox : o.up_[k]? = some x := by rw [ou k (by omega)]; exact hx
     obtain ⟨y, ey, hy⟩ := zno x hx'.1 hx'.2
     have hux : x.toNat = upN l k := by unfold upN; rw [List.getD_eq_getElem?_getD, hx]; rfl
     have hf := zvy h hk (b := k) (by omega)
     have hlt2 : x.toNat < 2 ^ l.Names.length := by
      have h1 := (zcv h hk).1 k (by omega)
      unfold zb9 at h1
      simp only [Bool.and_eq_true, decide_eq_true_eq] at h1
      rw [hux]; exact h1.1.1
     have hd := hy l.Names.length hle hlt2
     rw [hux] at hd
     simp only [zg, hw, hlt, decide_true, cond_true, zq, n1, n2, and_self, if_true, zh, Int.toNat_natCast, hox, Option.bind_some, ey, hw2, hd]
     by_cases hq : k = wT l
     . have := hf.2 hq
       simp only [this, if_pos hq, decide_true, Bool.not_true, cond_false]
     . have : ¬ upN l k = 2 ^ l.Names.length - 1 := fun e => hq (hf.1 e)
       simp only [this, if_neg hq, decide_false, Bool.not_false, cond_true]) (by
     simp only [zg, hw]
     simp)
  have hs0 : ((0 : Nat) : Int) = 0 := rfl
  simp only [hs0] at hrun
  rw [hrun]
  have hsc : (zE (fun k => if k = wT l then some (Sum.inl (α := Int) (β := Int) (k : Int)) else none) 0 (l.Names.length - 1)).getD (Sum.inl ((l.Names.length - 1 : Nat) : Int)) = Sum.inl (wT l : Int) := by
   cases e : zE (fun k => if k = wT l then some (Sum.inl (α := Int) (β := Int) (k : Int)) else none) 0 (l.Names.length - 1) with
   | some r =>
     have : r = Sum.inl (wT l : Int) := zfi (v := Sum.inl (wT l : Int)) (fun i => by
      by_cases hi : i = wT l
      . exact .inl (by rw [if_pos hi, hi])
      . exact .inr (by rw [if_neg hi])) e
     rw [this]; rfl
   | none =>
     have hn := scan_none.1 e
     rcases Nat.lt_or_ge (wT l) (l.Names.length - 1) with g | g
     . have := hn (wT l) (by omega) (by omega)
       simp at this
     . have : wT l = l.Names.length - 1 := by omega
       rw [this]; rfl
  rw [hsc]
  rfl
 rw [hend]
 rfl
open Go
open Go
theorem zse {l : TL} (hu : U8s l.Up) {a b : Nat} (ha : a < l.Up.length) (hb : b <= 8) : zmm l a b = some (up l a b) := by
 unfold zmm
 obtain ⟨x, hx⟩ := zN ha
 have hx' := hu.get hx
 have key : ∀ u : Fin 256, ∀ b : Fin 9, decide (bits .and .u8 (Int.fdiv (u.val : Int) (2 ^ min b.val (IntKind.bits .u8))) 1 = 1) = Nat.testBit u b := by decide +kernel
 have := key ⟨x.toNat, by omega⟩ ⟨b, by omega⟩
 simp only [Int.toNat_of_nonneg hx'.1] at this
 simp only [Int.natCast_nonneg, zh, Int.toNat_natCast, if_true, hx, Option.bind_some, zq, this, jD hx]
theorem zgf {l : TL} (h : LatIn l) (hk : (wx l).2 = 0) (xs : List Int) (hx : xs.length <= 64) (hl : ∀ x ∈ xs, yn l x = true) : zp8 l xs = some (0, 0) := by
 unfold zp8
 rw [zcd h]
 have h64 : ¬ (64 : Int) < (xs.length : Int) := by omega
 simp only [Option.bind_some, hk, decide_true, Bool.not_true, cond_false, List.length_map, h64, decide_false]
 refine (yL xs.length (fun k => (k : Int)) () (fun k hk => ?_) (by simp) rfl).trans rfl
 obtain ⟨x, hx⟩ := zN hk
 have hq := hl x (List.mem_of_getElem? hx)
 unfold yn at hq
 simp only [Bool.and_eq_true, decide_eq_true_eq] at hq
 have hlt : (k : Int) < (xs.length : Int) := by omega
 have hw : IntKind.wrap .i64 ((k : Int) + 1) = ((k + 1 : Nat) : Int) := w64 (by omega) (by omega)
 have n1 : (0 : Int) <= (k : Int) := by omega
 have n2 : ¬ x < 0 := by omega
 have n3 : ¬ (l.Names.length : Int) <= x := by omega
 simp only [hlt, decide_true, cond_true, zh, n1, if_true, Int.toNat_natCast, hx, Option.bind_some, zg, hw, n2, n3, decide_false, cond_false]
def flK (l : TL) (xs : List Int) (a : Int) (k : Nat) : Option Int := match xs[k]? with
 | some x => if up l x.toNat a.toNat = true then none else some (k : Int)
 | none => none
def flV (l : TL) (xs : List Int) (a : Int) : Int × Int := match zE (flK l xs a) 0 xs.length with | some r => (r, 25) | none => (0, 0)
theorem zu8 {l : TL} (h : LatIn l) (hk : (wx l).2 = 0) (xs : List Int) (hx : xs.length <= 64) (hl : ∀ x ∈ xs, yn l x = true) (a : Int) (ha : yn l a = true) :
 zig l xs a = some (flV l xs a) := by
 have ok := uD h hk
 have hle := ok.le
 have hlen := ok.len
 unfold zig
 rw [zgf h hk xs hx hl]
 unfold yn at ha
 simp only [Bool.and_eq_true, decide_eq_true_eq] at ha
 have n2 : ¬ a < 0 := by omega
 have n3 : ¬ (l.Names.length : Int) <= a := by omega
 simp only [Option.bind_some, decide_true, Bool.not_true, cond_false, n2, n3, decide_false, List.length_map]
 have hi : zo6 xs (l, a) = some (match zE (flK l xs a) 0 xs.length with | some r => r | none => -1) := by
  unfold zo6
  simp only [List.length_map]
  refine (wK xs.length (fun k => (k : Int)) (flK l xs a) () (fun k hk => ?_) (by simp) rfl).trans ?_
  . obtain ⟨x, hx⟩ := zN hk
    have hq := hl x (List.mem_of_getElem? hx)
    unfold yn at hq
    simp only [Bool.and_eq_true, decide_eq_true_eq] at hq
    have hlt : (k : Int) < (xs.length : Int) := by omega
    have hw : IntKind.wrap .i64 ((k : Int) + 1) = ((k + 1 : Nat) : Int) := w64 (by omega) (by omega)
    have n1 : (0 : Int) <= (k : Int) := by omega
    have hb : zmm l x a = some (up l x.toNat a.toNat) := by
     have := zse ok.u8 (a := x.toNat) (b := a.toNat) (by omega) (by omega)
     rwa [Int.toNat_of_nonneg hq.1, Int.toNat_of_nonneg ha.1] at this
    simp only [hlt, decide_true, cond_true, zh, n1, if_true, Int.toNat_natCast, hx, Option.bind_some, zg, hw, zuo, hb, flK]
    cases up l x.toNat a.toNat <;> simp
  . cases zE (flK l xs a) 0 xs.length <;> rfl
 rw [hi]
 unfold flV
 cases e : zE (flK l xs a) 0 xs.length with
 | none => simp
 | some r =>
   have : 0 <= r := by
    have key : ∀ {j k : Nat} {b : Int}, zE (flK l xs a) k j = some b -> 0 <= b := by
     intro j
     induction j with
     | zero => intro k b h; cases h
     | succ j ih =>
       intro k b h
       simp only [zE] at h
       cases hf : flK l xs a k with
       | none => rw [hf] at h; exact ih h
       | some z =>
         rw [hf] at h
         cases h
         unfold flK at hf
         split at hf
         . split at hf
           . cases hf
           . cases hf; omega
         . cases hf
    exact key e
   simp [this]
open Go
def qP (l : TL) (a : Int) : Bool := decide (0 <= a) && decide (a < (l.Names.length : Int))
theorem jE (l : TL) (a : Int) : jK l a = some (qP l a) := by
 unfold jK qP
 by_cases h : 0 <= a <;> simp [h]
def nmE (s : List UInt8) (before : List (List UInt8)) : Int := if exN s = true then (if s ∈ before then 8 else 0) else 24
theorem inL_iff {α : Type} [DecidableEq α] {a : α} {l : List α} : inL a l = true ↔ a ∈ l := by
 unfold inL; simp
def chK (p : TP) (k : Nat) : Option (Int × Int) := match p.Channels[k]? with
 | some c => if nmE c.s_ ((p.Channels.take k).map (·.s_)) ≠ 0 then some ((k : Int), nmE c.s_ ((p.Channels.take k).map (·.s_))) else if qP p.Lattice c.at_ = true then none else some ((k : Int), 7)
 | none => none
def chC (p : TP) : Int × Int := if (16 : Int) < (p.Channels.length : Int) then (-1, 3) else match zE (chK p) 0 p.Channels.length with | some r => r | none => (0, 0)
theorem zck (p : TP) (hs : ∀ c ∈ p.Channels, c.s_.length <= 1000000) : zqk p = some (chC p) := by
 unfold zqk chC
 simp only [List.length_map]
 by_cases h : (16 : Int) < (p.Channels.length : Int)
 . simp [h]
 simp only [h, decide_false, cond_false, if_false]
 refine (wK p.Channels.length (fun k => ((k : Int), (p.Channels.take k).map (·.s_))) (chK p) () (fun k hk => ?_) ?_ rfl).trans ?_
 . obtain ⟨x, hx⟩ := zN hk
   have hlt : (k : Int) < (p.Channels.length : Int) := by omega
   have hw : IntKind.wrap .i64 ((k : Int) + 1) = ((k + 1 : Nat) : Int) := w64 (by omega) (by omega)
   have n1 : (0 : Int) <= (k : Int) := by omega
   have e : (p.Channels.take (k + 1)).map (·.s_) = (p.Channels.take k).map (·.s_) ++ [x.s_] := by rw [List.take_add_one, hx]; simp
   simp only [hlt, decide_true, cond_true, zh, n1, if_true, Int.toNat_natCast, hx, Option.bind_some, zg, hw, za2 x.s_ (hs x (List.mem_of_getElem? hx)), jE, chK, e]
   unfold nmE
   cases exN x.s_ with
   | false => simp
   | true =>
     cases hi : inL x.s_ ((p.Channels.take k).map (·.s_)) with
     | true =>
       have := inL_iff.1 hi
       simp only [Bool.not_true, cond_false, cond_true, if_true, if_pos this]
       simp
     | false =>
       have : ¬ x.s_ ∈ (p.Channels.take k).map (·.s_) := fun h => by rw [inL_iff.2 h] at hi; cases hi
       simp only [Bool.not_true, cond_false, if_true, if_neg this]
       cases qP p.Lattice x.at_ <;> simp
 . simp
 . cases zE (chK p) 0 p.Channels.length <;> rfl
end Go.Sx.O
noncomputable section
namespace Go.Sx.O
open Go
def zar (l : TL) (t : TY) : Int :=
 if t.Rank < 0 \/ 2 < t.Rank then 7
 else if qP l t.Axes.1 = true /\ qP l t.Axes.2 = true /\ qP l t.Data = true then
  if ([t.Axes.1, t.Axes.2].drop t.Rank.toNat).all (fun x => decide (x = (wT l : Int))) = true then
   if ([t.Axes.1, t.Axes.2].take t.Rank.toNat).all (fun x => up l x.toNat t.Data.toNat) = true then 0 else 25
  else 6
 else 7
def zd3 (l : TL) (t : TY) : Int := if (wx l).2 = 0 then (if t.Kind = 1 \/ t.Kind = 2 then zar l t else 7) else (wx l).2
theorem zs2 {β : Type} (v : β) (b : Int) (xs : List Int) (hx : xs.length <= 2) : zE (fun k => match xs[k]? with | some x => if x = b then none else some v | none => none) 0 xs.length = if xs.all (fun x => decide (x = b)) = true then none else some v := by
 match xs, hx with
 | [], _ => rfl
 | [x], _ => by_cases h : x = b <;> simp [zE, h]
 | [x, y], _ => by_cases h : x = b <;> by_cases g : y = b <;> simp [zE, h, g]
theorem zvc (l : TL) (a : Int) (xs : List Int) (hx : xs.length <= 2) : (flV l xs a).2 = if xs.all (fun x => up l x.toNat a.toNat) = true then 0 else 25 := by
 match xs, hx with
 | [], _ => rfl
 | [x], _ => cases h : up l x.toNat a.toNat <;> simp [flV, zE, flK, h]
 | [x, y], _ => cases h : up l x.toNat a.toNat <;> cases g : up l y.toNat a.toNat <;> simp [flV, zE, flK, h, g]
theorem zr6 {l : TL} (h : LatIn l) (hk : (wx l).2 = 0) (t : TY) (hr : ¬ (t.Rank < 0 \/ 2 < t.Rank)) (l1 : qP l t.Axes.1 = true) (l2 : qP l t.Axes.2 = true) (l3 : qP l t.Data = true) :
 (Option.bind (lpO (fun (s612 : Int) =>
 cond (decide (s612 < (↑(List.length (List.drop (Int.toNat t.Rank) (List.take (Int.toNat (↑(2 : Nat) : Int)) [SV.int IntKind.i64 t.Axes.fst, SV.int IntKind.i64 t.Axes.snd]))) : Int)))
 (zh (List.drop (Int.toNat t.Rank) (List.take (Int.toNat (↑(2 : Nat) : Int)) [t.Axes.fst, t.Axes.snd])) (s612) fun x617 =>
 cond (!decide (x617 = (wT l : Int)))
 (some (Sum.inr (Sum.inr ((6 : Int)))))
 (zg (IntKind.wrap IntKind.i64 (s612 + (1 : Int))) fun x619 =>
 some (Sum.inl (x619))))
 (some (Sum.inr (Sum.inl (()))))) ((0 : Int)))
 (Sum.elim (fun (_ : Unit) =>
 zq ((0 : Int) <= t.Rank /\ t.Rank <= (↑(2 : Nat) : Int)) (
 Option.bind (zig l (List.drop (Int.toNat (0 : Int)) (List.take (Int.toNat t.Rank) [t.Axes.fst, t.Axes.snd])) (t.Data)) fun x653 =>
 cond (!decide (x653.snd = (0 : Int)))
 (some (x653.snd))
 (some ((0 : Int))))) some)) = some (zar l t) := by
 have e0 : List.take (Int.toNat ((2 : Nat) : Int)) [t.Axes.fst, t.Axes.snd] = [t.Axes.fst, t.Axes.snd] := rfl
 have e1 : List.take (Int.toNat ((2 : Nat) : Int)) [SV.int IntKind.i64 t.Axes.fst, SV.int IntKind.i64 t.Axes.snd] = [SV.int IntKind.i64 t.Axes.fst, SV.int IntKind.i64 t.Axes.snd] := rfl
 have e2 : List.drop (Int.toNat 0) (List.take (Int.toNat t.Rank) [t.Axes.fst, t.Axes.snd]) = List.take (Int.toNat t.Rank) [t.Axes.fst, t.Axes.snd] := rfl
 rw [e0, e1, e2]
 have hlen : (List.drop (Int.toNat t.Rank) [SV.int IntKind.i64 t.Axes.fst, SV.int IntKind.i64 t.Axes.snd]).length = (List.drop (Int.toNat t.Rank) [t.Axes.fst, t.Axes.snd]).length := by simp
 rw [hlen]
 have hd2 : (List.drop (Int.toNat t.Rank) [t.Axes.fst, t.Axes.snd]).length <= 2 := by simp
 have ht2 : (List.take (Int.toNat t.Rank) [t.Axes.fst, t.Axes.snd]).length <= 2 := by simp; omega
 have htl : ∀ x ∈ List.take (Int.toNat t.Rank) [t.Axes.fst, t.Axes.snd], yn l x = true := fun x hx => by
  have := List.mem_of_mem_take hx
  simp only [List.mem_cons, List.not_mem_nil, or_false] at this
  rcases this with rfl | rfl
  . exact l1
  . exact l2
 unfold zar
 rw [if_neg hr, if_pos ⟨l1, l2, l3⟩]
 generalize hD : List.drop (Int.toNat t.Rank) [t.Axes.fst, t.Axes.snd] = D at hd2 ⊢
 generalize hT : List.take (Int.toNat t.Rank) [t.Axes.fst, t.Axes.snd] = T at ht2 htl ⊢
 refine (wK D.length (fun k => (k : Int)) (fun k => match D[k]? with | some x => if x = (wT l : Int) then none else some (6 : Int) | none => none) () (fun k hk => ?_) (by simp) rfl).trans ?_
 . obtain ⟨x, hx⟩ := zN hk
   have hlt : (k : Int) < (D.length : Int) := by omega
   have hw : IntKind.wrap .i64 ((k : Int) + 1) = ((k + 1 : Nat) : Int) := w64 (by omega) (by omega)
   have n1 : (0 : Int) <= (k : Int) := by omega
   simp only [hlt, decide_true, cond_true, zh, n1, if_true, Int.toNat_natCast, hx, Option.bind_some, zg, hw]
   by_cases hb : x = (wT l : Int) <;> simp [hb]
 . rw [zs2 (6 : Int) (wT l : Int) D hd2]
   by_cases hall : D.all (fun x => decide (x = (wT l : Int))) = true
   . simp only [hall, if_true]
     unfold zq
     rw [if_pos (by omega), zu8 h hk T (by omega) htl t.Data l3]
     have := zvc l t.Data T ht2
     simp only [Option.bind_some]
     rw [this]
     split <;> rfl
   . rw [if_neg hall, if_neg hall]
end Go.Sx.O
end
namespace Go.Sx.O
open Go
theorem zg8 {l : TL} (h : LatIn l) (t : TY) : zhv l t = some (zd3 l t) := by
 unfold zhv zd3
 rw [zrm h]
 by_cases hk : (wx l).2 = 0
 case neg => simp [hk]
 simp only [hk, if_true, Option.bind_some, decide_true, Bool.not_true, cond_false, jE]
 by_cases r1 : t.Rank < 0
 . by_cases k1 : t.Kind = 1 <;> by_cases k2 : t.Kind = 2 <;> simp [k1, k2, r1, zar]
 by_cases r2 : 2 < t.Rank
 . by_cases k1 : t.Kind = 1 <;> by_cases k2 : t.Kind = 2 <;> simp [k1, k2, r1, r2, zar]
 have hr : ¬ (t.Rank < 0 \/ 2 < t.Rank) := by omega
 have hside : (0 : Int) <= t.Rank /\ t.Rank <= ((2 : Nat) : Int) := by omega
 cases l1 : qP l t.Axes.fst with
 | false => by_cases k1 : t.Kind = 1 <;> by_cases k2 : t.Kind = 2 <;> simp [k1, k2, r1, r2, zar, l1]
 | true =>
   cases l2 : qP l t.Axes.snd with
   | false => by_cases k1 : t.Kind = 1 <;> by_cases k2 : t.Kind = 2 <;> simp [k1, k2, r1, r2, zar, l1, l2]
   | true =>
     cases l3 : qP l t.Data with
     | false => by_cases k1 : t.Kind = 1 <;> by_cases k2 : t.Kind = 2 <;> simp [k1, k2, r1, r2, zar, l1, l2, l3]
     | true =>
       have key := zr6 h hk t hr l1 l2 l3
       simp only [Bool.not_true, cond_false, r1, r2, decide_false]
       by_cases k1 : t.Kind = 1
       . simp only [k1, decide_true, Bool.not_true, cond_false, true_or, if_true]
         rw [zq, if_pos hside]
         exact key
       . by_cases k2 : t.Kind = 2
         . simp only [k1, k2, decide_true, decide_false, Bool.not_true, Bool.not_false, cond_true, cond_false, or_true, if_true]
           rw [zq, if_pos hside]
           exact key
         . simp [k1, k2]
open Go
open Go
def vrK (g : TY -> Int) (p : TP) (k : Nat) : Option (Int × Int) := match p.Vars[k]? with
 | some c => if nmE c.Name ((p.Vars.take k).map (·.Name)) ≠ 0 then some ((k : Int), nmE c.Name ((p.Vars.take k).map (·.Name))) else if g c.Type_ = 0 then none else some ((k : Int), g c.Type_)
 | none => none
def vrC (g : TY -> Int) (p : TP) : Int × Int := if (32 : Int) < (p.Vars.length : Int) then (-1, 3) else match zE (vrK g p) 0 p.Vars.length with | some r => r | none => (0, 0)
theorem zh5 (g : TY -> Int) (p : TP) (hs : ∀ c ∈ p.Vars, c.Name.length <= 1000000) (hg : ∀ c ∈ p.Vars, zhv p.Lattice c.Type_ = some (g c.Type_)) : zq4 p = some (vrC g p) := by
 unfold zq4 vrC
 simp only [List.length_map]
 by_cases h : (32 : Int) < (p.Vars.length : Int)
 . simp [h]
 simp only [h, decide_false, cond_false, if_false]
 refine (wK p.Vars.length (fun k => ((k : Int), (p.Vars.take k).map (·.Name))) (vrK g p) () (fun k hk => ?_) ?_ rfl).trans ?_
 . obtain ⟨x, hx⟩ := zN hk
   have hlt : (k : Int) < (p.Vars.length : Int) := by omega
   have hw : IntKind.wrap .i64 ((k : Int) + 1) = ((k + 1 : Nat) : Int) := w64 (by omega) (by omega)
   have n1 : (0 : Int) <= (k : Int) := by omega
   have e : (p.Vars.take (k + 1)).map (·.Name) = (p.Vars.take k).map (·.Name) ++ [x.Name] := by rw [List.take_add_one, hx]; simp
   simp only [hlt, decide_true, cond_true, zh, n1, if_true, Int.toNat_natCast, hx, Option.bind_some, zg, hw, za2 x.Name (hs x (List.mem_of_getElem? hx)), hg x (List.mem_of_getElem? hx), vrK, e]
   unfold nmE
   cases exN x.Name with
   | false => simp
   | true =>
     cases hi : inL x.Name ((p.Vars.take k).map (·.Name)) with
     | true =>
       have := inL_iff.1 hi
       simp only [Bool.not_true, cond_false, cond_true, if_true, if_pos this]
       simp
     | false =>
       have : ¬ x.Name ∈ (p.Vars.take k).map (·.Name) := fun h => by rw [inL_iff.2 h] at hi; cases hi
       simp only [Bool.not_true, cond_false, if_true, if_neg this]
       by_cases hz : g x.Type_ = 0 <;> simp [hz]
 . simp
 . cases zE (vrK g p) 0 p.Vars.length <;> rfl
open Go
def ckK {α τ : Type} (c : α -> Bool) (v : τ) (L : List α) (j : Nat) : Option τ := match L[j]? with | some y => if c y = true then some v else none | none => none
theorem ze4 {α τ : Type} (c : α -> Bool) (v : τ) (L : List α) (n : Nat) (hn : n <= L.length) : zE (ckK c v L) 0 n = if (L.take n).any c = true then some v else none := by
 by_cases h : (L.take n).any c = true
 . rw [if_pos h]
   cases e : zE (ckK c v L) 0 n with
   | some r =>
     have : r = v := zfi (v := v) (fun i => by
      unfold ckK
      cases L[i]? with
      | none => exact .inr rfl
      | some x => by_cases hx : c x = true <;> simp [hx]) e
     rw [this]
   | none =>
     exfalso
     rw [List.any_eq_true] at h
     obtain ⟨x, hx, hc⟩ := h
     obtain ⟨i, hi, hxi⟩ := List.getElem_of_mem hx
     rw [List.length_take] at hi
     have := scan_none.1 e i (by omega) (by omega)
     rw [List.getElem_take] at hxi
     unfold ckK at this
     rw [List.getElem?_eq_getElem (by omega), hxi] at this
     simp [hc] at this
 . rw [if_neg h, scan_none]
   intro i _ hi
   unfold ckK
   obtain ⟨x, hx⟩ := zN (l := L) (i := i) (by omega)
   rw [hx]
   have : ¬ c x = true := fun hc => h (by
    rw [List.any_eq_true]
    exact ⟨x, List.mem_take_iff_getElem.2 ⟨i, by omega, by rw [List.getElem?_eq_getElem (by omega)] at hx; exact Option.some.inj hx⟩, hc⟩)
   simp [this]
def zjr (x y : TU) : Bool := decide (y.From = x.From) && decide (y.Goal = x.Goal)
def rlK (p : TP) (k : Nat) : Option (Int × Int) := match p.Rules[k]? with
 | some x => if qP p.Lattice x.From = true then (if qP p.Lattice x.Goal = true then (if x.From = x.Goal then some ((k : Int), 25) else if up p.Lattice x.Goal.toNat x.From.toNat = true then (if (p.Rules.take k).any (zjr x) = true then some ((k : Int), 8) else if x.K < 2 then some ((k : Int), 3) else if 400 < x.K then some ((k : Int), 3) else none) else some ((k : Int), 25)) else some ((k : Int), 7)) else some ((k : Int), 7)
 | none => none
def rlC (p : TP) : Int × Int := if (64 : Int) < (p.Rules.length : Int) then (-1, 3) else match zE (rlK p) 0 p.Rules.length with | some r => r | none => (0, 0)
theorem zxl (x : TU) (L : List TU) : inL (x.From, x.Goal) (L.map fun y => (y.From, y.Goal)) = L.any (zjr x) := by
 rw [Bool.eq_iff_iff, inL_iff, List.any_eq_true]
 simp only [List.mem_map, Prod.mk.injEq, zjr, Bool.and_eq_true, decide_eq_true_eq]
theorem zw4 {x : Int} (h0 : 0 <= x) (h1 : x < 256) {b : Nat} (hb : b <= 8) : decide (bits .and .u8 (Int.fdiv x (2 ^ min b (IntKind.bits .u8))) 1 = 0) = !Nat.testBit x.toNat b := by
 have key : ∀ u : Fin 256, ∀ b : Fin 9, decide (bits .and .u8 (Int.fdiv (u.val : Int) (2 ^ min b.val (IntKind.bits .u8))) 1 = 0) = !Nat.testBit u b := by decide +kernel
 have := key ⟨x.toNat, by omega⟩ ⟨b, by omega⟩
 simpa only [Int.toNat_of_nonneg h0] using this
theorem zf2 (p : TP) (h : LatIn p.Lattice) (hk : (wx p.Lattice).2 = 0) : zpp p = some (rlC p) := by
 have ok := uD h hk
 have hle := ok.le
 have hlen := ok.len
 unfold zpp rlC
 simp only [List.length_map]
 by_cases h6 : (64 : Int) < (p.Rules.length : Int)
 . simp [h6]
 simp only [h6, decide_false, cond_false, if_false]
 refine (wK p.Rules.length (fun k => ((k : Int), (p.Rules.take k).map fun y => (y.From, y.Goal))) (rlK p) () (fun k hk => ?_) ?_ rfl).trans ?_
 . obtain ⟨x, hx⟩ := zN hk
   have hlt : (k : Int) < (p.Rules.length : Int) := by omega
   have hw : IntKind.wrap .i64 ((k : Int) + 1) = ((k + 1 : Nat) : Int) := w64 (by omega) (by omega)
   have n1 : (0 : Int) <= (k : Int) := by omega
   have e : (p.Rules.take (k + 1)).map (fun y => (y.From, y.Goal)) = (p.Rules.take k).map (fun y => (y.From, y.Goal)) ++ [(x.From, x.Goal)] := by rw [List.take_add_one, hx]; simp
   simp only [hlt, decide_true, cond_true, zh, n1, if_true, Int.toNat_natCast, hx, Option.bind_some, zg, hw, jE, rlK, e, zxl]
   cases l1 : qP p.Lattice x.From with
   | false => simp
   | true =>
     cases l2 : qP p.Lattice x.Goal with
     | false => simp
     | true =>
       unfold qP at l1 l2
       simp only [Bool.and_eq_true, decide_eq_true_eq] at l1 l2
       obtain ⟨u, hu⟩ := zN (l := p.Lattice.Up) (i := x.Goal.toNat) (by omega)
       have hu' := ok.u8.get hu
       have hb := zw4 hu'.1 hu'.2 (b := x.From.toNat) (by omega)
       have n2 : (0 : Int) <= x.Goal := l2.1
       have n3 : (0 : Int) <= x.From := l1.1
       simp only [Bool.not_true, cond_false, n2, if_true, hu, Option.bind_some, zq, n3, hb, jD hu]
       by_cases hfg : x.From = x.Goal
       . simp [hfg]
       cases hbt : Nat.testBit u.toNat x.From.toNat with
       | false => simp [hfg]
       | true =>
         cases (p.Rules.take k).any (zjr x) with
         | true => simp [hfg]
         | false =>
           by_cases k2 : x.K < 2
           . simp [hfg, k2]
           . by_cases k4 : 400 < x.K <;> simp [hfg, k2, k4]
 . simp
 . cases zE (rlK p) 0 p.Rules.length <;> rfl
end Go.Sx.O
noncomputable section
namespace Go.Sx.O
open Go
structure PolIn (p : TP) : Prop where
 lat : LatIn p.Lattice
 chan : ∀ c ∈ p.Channels, c.s_.length <= 1000000
 var : ∀ c ∈ p.Vars, c.Name.length <= 1000000
def yv (p : TP) : Int × Int × Int :=
 if (wx p.Lattice).2 = 0 then (if (chC p).2 = 0 then (if (vrC (zd3 p.Lattice) p).2 = 0 then (if (rlC p).2 = 0 then (0, 0, 0) else (4, rlC p)) else (3, vrC (zd3 p.Lattice) p)) else (2, chC p)) else (1, wx p.Lattice)
theorem zhs {τ : Type} {P : τ -> Prop} {f : Nat -> Option τ} (hf : ∀ i r, f i = some r -> P r) : ∀ {n k r}, zE f k n = some r -> P r := by
 intro n
 induction n with
 | zero => intro k r h; cases h
 | succ n ih =>
   intro k r h
   simp only [zE] at h
   split at h
   . rename_i b hb; cases h; exact hf _ _ hb
   . exact ih h
theorem zmt {p : TP} (h : (rlC p).2 = 0) : rlC p = (0, 0) := by
 unfold rlC at h ⊢
 split at h
 . simp at h
 . rename_i h6
   rw [if_neg h6]
   cases e : zE (rlK p) 0 p.Rules.length with
   | none => rfl
   | some r =>
     exfalso
     rw [e] at h
     have := zhs (P := fun r : Int × Int => r.2 ≠ 0) (fun i r hr => by
      unfold rlK at hr
      revert hr
      repeat' split
      all_goals (intro hr; cases hr <;> simp)) e
     exact this h
theorem xi {p : TP} (h : PolIn p) : zif p = some (yv p) := by
 unfold zif yv zu9
 rw [zcd h.lat, zck p h.chan, zh5 (zd3 p.Lattice) p h.var (fun c _ => zg8 h.lat _)]
 by_cases hk : (wx p.Lattice).2 = 0
 case neg => simp [hk]
 rw [zf2 p h.lat hk]
 by_cases h2 : (chC p).2 = 0
 case neg => simp [hk, h2]
 by_cases h3 : (vrC (zd3 p.Lattice) p).2 = 0
 case neg => simp [hk, h2, h3]
 by_cases h4 : (rlC p).2 = 0
 case neg => simp [hk, h2, h3, h4]
 simp [hk, h2, h3, zmt h4]
theorem zok {p : TP} (h : (yv p).2.2 = 0) : (wx p.Lattice).2 = 0 := by
 unfold yv at h
 by_cases hk : (wx p.Lattice).2 = 0
 . exact hk
 . rw [if_neg hk] at h; exact absurd h hk
theorem zsv {p : TP} (h : (yv p).2.2 = 0) : rlC p = (0, 0) := by
 unfold yv at h
 split at h
 . split at h
   . split at h
     . split at h
       . rename_i h4; exact zmt h4
       . rename_i h4; exact absurd h h4
     . rename_i h4; exact absurd h h4
   . rename_i h4; exact absurd h h4
 . rename_i h4; exact absurd h h4
def rfK (p : TP) (a b : Int) (k : Nat) : Option (Int × Int) := match p.Rules[k]? with
 | some x => if x.From = a then (if x.Goal = b then some (x.K, 0) else none) else none
 | none => none
def zbt (p : TP) (a b : Int) : Int × Int :=
 if (yv p).2.2 = 0 then (if qP p.Lattice a = true then (if qP p.Lattice b = true then (match zE (rfK p a b) 0 p.Rules.length with | some r => r | none => (0, 4)) else (0, 7)) else (0, 7)) else (0, (yv p).2.2)
theorem zsf {p : TP} (h : (yv p).2.2 = 0) : p.Rules.length <= 64 := by
 have := zsv h
 unfold rlC at this
 split at this
 . cases this
 . omega
theorem zib {p : TP} (h : PolIn p) (a b : Int) : zqd p a b = some (zbt p a b) := by
 unfold zqd zbt
 rw [xi h]
 by_cases h0 : (yv p).2.2 = 0
 case neg => simp [h0]
 have hl := zsf h0
 simp only [Option.bind_some, h0, decide_true, Bool.not_true, cond_false, jE, if_true, List.length_map]
 cases qP p.Lattice a with
 | false => simp
 | true =>
   cases qP p.Lattice b with
   | false => simp
   | true =>
     simp only [Bool.not_true, cond_false, if_true]
     refine (wK p.Rules.length (fun k => (k : Int)) (rfK p a b) () (fun k hk => ?_) ?_ rfl).trans ?_
     . obtain ⟨x, hx⟩ := zN hk
       have hlt : (k : Int) < (p.Rules.length : Int) := by omega
       have hw : IntKind.wrap .i64 ((k : Int) + 1) = ((k + 1 : Nat) : Int) := w64 (by omega) (by omega)
       have n1 : (0 : Int) <= (k : Int) := by omega
       simp only [hlt, decide_true, cond_true, zh, n1, if_true, Int.toNat_natCast, hx, zg, hw, rfK]
       by_cases c1 : x.From = a <;> by_cases c2 : x.Goal = b <;> simp [c1, c2]
     . simp
     . cases zE (rfK p a b) 0 p.Rules.length <;> rfl
theorem zid {α : Type} {L : List α} {N : Nat} {c : α -> Bool} (h : (L.take (min L.length N)).any c = false) (hn : L.length <= N) : ∀ x ∈ L, c x = false := by
 rw [Nat.min_eq_left hn, List.take_length] at h
 simpa using h
theorem zna (L : List (List UInt8)) : ∃ b, Fz0 L = some b /\ (b = false -> L.length <= 12 /\ ∀ s ∈ L, s.length <= 100) := by
 unfold Fz0
 simp only [List.length_map]
 rw [wK (s0 := (0 : Int)) (min L.length 20) (fun k => (k : Int)) (ckK (fun s : List UInt8 => decide ((100 : Int) < (s.length : Int))) true L) () ?_ ?_ rfl, ze4 _ _ _ _ (by omega)]
 . cases h : (L.take (min L.length 20)).any (fun s => decide ((100 : Int) < (s.length : Int))) with
   | true => exact ⟨true, rfl, fun h => by cases h⟩
   | false =>
     refine ⟨_, rfl, fun h12 => ?_⟩
     have h12 : L.length <= 12 := by simp at h12; omega
     exact ⟨h12, fun s hs => by have := zid h (by omega) s hs; simp at this; omega⟩
 . intro k hk
   obtain ⟨x, hx⟩ := zN (l := L) (i := k) (by omega)
   have hlt : (k : Int) < (L.length : Int) := by omega
   have hlt2 : (k : Int) < 20 := by omega
   have hw : IntKind.wrap .i64 ((k : Int) + 1) = ((k + 1 : Nat) : Int) := w64 (by omega) (by omega)
   have n1 : (0 : Int) <= (k : Int) := by omega
   simp only [hlt, hlt2, decide_true, cond_true, zh, n1, if_true, Int.toNat_natCast, hx, zg, hw, ckK]
   by_cases c1 : (100 : Int) < (x.length : Int) <;> simp [c1]
 . by_cases c1 : ((min L.length 20 : Nat) : Int) < (L.length : Int)
   . have c2 : ¬ ((min L.length 20 : Nat) : Int) < 20 := by omega
     simp only [c1, c2, decide_true, decide_false, cond_true, cond_false]
   . simp only [c1, decide_false, cond_false]
theorem zuc (p : TP) (hu : U8s p.Lattice.Up) : ∃ b, Fz2 p = some b /\ (b = false -> PolIn p) := by
 unfold Fz2
 simp only [List.length_map]
 rw [wK (s0 := (0 : Int)) (min p.Channels.length 25) (fun k => (k : Int)) (ckK (fun s : TR => decide ((100 : Int) < (s.s_.length : Int))) true p.Channels) () ?_ ?_ rfl, ze4 _ _ _ _ (by omega)]
 rotate_left
 . intro k hk
   obtain ⟨x, hx⟩ := zN (l := p.Channels) (i := k) (by omega)
   have hlt : (k : Int) < (p.Channels.length : Int) := by omega
   have hlt2 : (k : Int) < 25 := by omega
   have hw : IntKind.wrap .i64 ((k : Int) + 1) = ((k + 1 : Nat) : Int) := w64 (by omega) (by omega)
   have n1 : (0 : Int) <= (k : Int) := by omega
   simp only [hlt, hlt2, decide_true, cond_true, zh, n1, if_true, Int.toNat_natCast, hx, zg, hw, ckK]
   by_cases c1 : (100 : Int) < (x.s_.length : Int) <;> simp [c1]
 . by_cases c1 : ((min p.Channels.length 25 : Nat) : Int) < (p.Channels.length : Int)
   . have c2 : ¬ ((min p.Channels.length 25 : Nat) : Int) < 25 := by omega
     simp only [c1, c2, decide_true, decide_false, cond_true, cond_false]
   . simp only [c1, decide_false, cond_false]
 cases hc : (p.Channels.take (min p.Channels.length 25)).any (fun s => decide ((100 : Int) < (s.s_.length : Int))) with
 | true => exact ⟨true, rfl, fun h => by cases h⟩
 | false =>
   simp only [Bool.false_eq_true, if_false]
   rw [wK (s0 := (0 : Int)) (min p.Vars.length 45) (fun k => (k : Int)) (ckK (fun s : TV => decide ((100 : Int) < (s.Name.length : Int))) true p.Vars) () ?_ ?_ rfl, ze4 _ _ _ _ (by omega)]
   rotate_left
   . intro k hk
     obtain ⟨x, hx⟩ := zN (l := p.Vars) (i := k) (by omega)
     have hlt : (k : Int) < (p.Vars.length : Int) := by omega
     have hlt2 : (k : Int) < 45 := by omega
     have hw : IntKind.wrap .i64 ((k : Int) + 1) = ((k + 1 : Nat) : Int) := w64 (by omega) (by omega)
     have n1 : (0 : Int) <= (k : Int) := by omega
     simp only [hlt, hlt2, decide_true, cond_true, zh, n1, if_true, Int.toNat_natCast, hx, zg, hw, ckK]
     by_cases c1 : (100 : Int) < (x.Name.length : Int) <;> simp [c1]
   . by_cases c1 : ((min p.Vars.length 45 : Nat) : Int) < (p.Vars.length : Int)
     . have c2 : ¬ ((min p.Vars.length 45 : Nat) : Int) < 45 := by omega
       simp only [c1, c2, decide_true, decide_false, cond_true, cond_false]
     . simp only [c1, decide_false, cond_false]
   cases hv : (p.Vars.take (min p.Vars.length 45)).any (fun s => decide ((100 : Int) < (s.Name.length : Int))) with
   | true => exact ⟨true, rfl, fun h => by cases h⟩
   | false =>
     simp only [Bool.false_eq_true, if_false]
     unfold Fz1
     obtain ⟨b, e, hb⟩ := zna p.Lattice.Names
     rw [e]
     simp only [Option.bind_some, List.length_map]
     cases b with
     | true => exact ⟨true, rfl, fun h => by cases h⟩
     | false =>
       obtain ⟨hb1, hb2⟩ := hb rfl
       simp only [cond_false, Option.bind_some]
       by_cases h12 : (12 : Int) < (p.Lattice.Up.length : Int)
       . exact ⟨true, by simp [h12], fun h => by cases h⟩
       by_cases h20 : (20 : Int) < (p.Channels.length : Int)
       . exact ⟨true, by simp [h12, h20], fun h => by cases h⟩
       by_cases h40 : (40 : Int) < (p.Vars.length : Int)
       . exact ⟨true, by simp [h12, h20, h40], fun h => by cases h⟩
       simp only [h12, h20, h40, decide_false, cond_false]
       refine ⟨_, rfl, fun _ => ⟨⟨hu, by omega, fun s hs => by have := hb2 s hs; omega⟩, fun c h => ?_, fun c h => ?_⟩⟩
       . have := zid hc (by omega) c h; simp at this; omega
       . have := zid hv (by omega) c h; simp at this; omega
end Go.Sx.O
end
noncomputable section
namespace Go.Sx.O
open Go
def zgy (x : TE) (k : Int) : Bool := if x.Cells < k then decide (x.Value.1 = 0) && decide (x.Value.2 = 0) else decide (x.Value.1 = 1) && (!decide (x.Fold = 2) || (decide (0 <= x.Value.2) && decide (x.Value.2 <= x.Cells)))
def zdf (p : TP) (x : TE) : Int :=
 if (yv p).2.2 = 0 then (if (zd8 x.Fold).2 = 0 then (if x.Site < 0 \/ 1000000000 < x.Site \/ x.Cells < 0 \/ 400 < x.Cells then 7 else if (zbt p x.From x.Goal).2 = 0 then (if zgy x (zbt p x.From x.Goal).1 = true then 0 else 6) else (zbt p x.From x.Goal).2) else (zd8 x.Fold).2) else (yv p).2.2
theorem zj8 (x : TE) (k : Int) : zrb x k = some (zgy x k) := by
 unfold zrb zgy
 by_cases h : x.Cells < k
 . simp [h]
 by_cases h1 : x.Value.1 = 1
 case neg => simp [h, h1]
 by_cases h2 : x.Fold = 2
 case neg => simp [h, h1, h2]
 by_cases h3 : 0 <= x.Value.2 <;> simp [h, h1, h2, h3]
theorem zkn {p : TP} (h : PolIn p) (x : TE) : zpm p x = some (zdf p x) := by
 unfold zpm zdf
 rw [xi h, zni, zib h]
 simp only [Option.bind_some, zj8]
 by_cases h0 : (yv p).2.2 = 0
 case neg => simp [h0]
 by_cases h1 : (zd8 x.Fold).2 = 0
 case neg => simp [h0, h1]
 by_cases h2 : x.Site < 0
 . simp [h0, h1, h2]
 by_cases h3 : 1000000000 < x.Site
 . simp [h0, h1, h2, h3]
 by_cases h4 : x.Cells < 0
 . simp [h0, h1, h2, h3, h4]
 by_cases h5 : 400 < x.Cells
 . simp [h0, h1, h2, h3, h4, h5]
 by_cases h6 : (zbt p x.From x.Goal).2 = 0
 case neg => simp [h0, h1, h2, h3, h4, h5, h6]
 cases h7 : zgy x (zbt p x.From x.Goal).1 <;> simp [h0, h1, h2, h3, h4, h5, h6, h7]
theorem zyb {l : List Int} (h : yX (inK .u8) l) : U8s l := fun x hx => zy9 (h x hx)
end Go.Sx.O
end
noncomputable section
namespace Go.Sx.O
open Go
def auK (p : TP) (l : List TE) (k : Nat) : Option (Int × Int) := match l[k]? with
 | some x => if zdf p x = 0 then (if x.Site = 0 then some ((k : Int), 6) else none) else some ((k : Int), zdf p x)
 | none => none
def qQ (p : TP) (l : List TE) : Int × Int := if (yv p).2.2 = 0 then (if (2000 : Int) < (l.length : Int) then (-1, 3) else match zE (auK p l) 0 l.length with | some r => r | none => (0, 0)) else (-1, (yv p).2.2)
theorem zba {p : TP} (h : PolIn p) (l : List TE) (hl : l.length <= 1000000) : zkf p l = some (qQ p l) := by
 unfold zkf qQ
 rw [xi h]
 simp only [Option.bind_some, List.length_map]
 by_cases hk : (yv p).2.2 = 0
 case neg => simp [hk]
 simp only [hk, decide_true, Bool.not_true, cond_false, if_true]
 by_cases h2 : (2000 : Int) < (l.length : Int)
 . simp [h2]
 simp only [h2, decide_false, cond_false, if_false]
 refine (wK l.length (fun k => (k : Int)) (auK p l) () (fun k hk => ?_) (by simp) rfl).trans ?_
 . obtain ⟨x, hx⟩ := zN hk
   have hlt : (k : Int) < (l.length : Int) := by omega
   have hw : IntKind.wrap .i64 ((k : Int) + 1) = ((k + 1 : Nat) : Int) := w64 (by omega) (by omega)
   have n1 : (0 : Int) <= (k : Int) := by omega
   simp only [hlt, decide_true, cond_true, zh, n1, if_true, Int.toNat_natCast, hx, Option.bind_some, zg, hw, zkn h, auK]
   by_cases c1 : zdf p x = 0 <;> by_cases c2 : x.Site = 0 <;> simp [c1, c2]
 . cases zE (auK p l) 0 l.length <;> rfl
theorem zlc {p : TP} {x : TE} (h : zdf p x = 0) : qP p.Lattice x.Goal = true := by
 unfold zdf at h
 by_cases h1 : (yv p).2.2 = 0
 case neg => rw [if_neg h1] at h; exact absurd h h1
 rw [if_pos h1] at h
 by_cases h2 : (zd8 x.Fold).2 = 0
 case neg => rw [if_neg h2] at h; exact absurd h h2
 rw [if_pos h2] at h
 split at h
 . cases h
 by_cases h3 : (zbt p x.From x.Goal).2 = 0
 case neg => rw [if_neg h3] at h; exact absurd h h3
 unfold zbt at h3
 rw [if_pos h1] at h3
 by_cases h4 : qP p.Lattice x.From = true
 case neg => rw [if_neg h4] at h3; exact absurd h3 (by decide)
 rw [if_pos h4] at h3
 by_cases h5 : qP p.Lattice x.Goal = true
 . exact h5
 . rw [if_neg h5] at h3; exact absurd h3 (by decide)
theorem zs6 {p : TP} {l : List TE} (h : (qQ p l).2 = 0) : (yv p).2.2 = 0 /\ l.length <= 2000 /\ ∀ x ∈ l, qP p.Lattice x.Goal = true := by
 unfold qQ at h
 by_cases hk : (yv p).2.2 = 0
 case neg => rw [if_neg hk] at h; exact absurd h hk
 rw [if_pos hk] at h
 by_cases h2 : (2000 : Int) < (l.length : Int)
 . rw [if_pos h2] at h; exact absurd h (by decide)
 rw [if_neg h2] at h
 refine ⟨hk, by omega, fun x hx => ?_⟩
 cases hs : zE (auK p l) 0 l.length with
 | some r =>
   rw [hs] at h
   have : r.2 ≠ 0 := zhs (P := fun r => r.2 ≠ 0) (fun i r hr => by
    unfold auK at hr
    split at hr
    . split at hr
      . split at hr
        . cases hr; exact (by decide : (6 : Int) ≠ 0)
        . cases hr
      . cases hr; assumption
    . cases hr) hs
   exact absurd h this
 | none =>
   obtain ⟨i, hi, e⟩ := List.getElem_of_mem hx
   have := scan_none.1 hs i (by omega) (by omega)
   unfold auK at this
   rw [List.getElem?_eq_getElem hi, e] at this
   simp only at this
   split at this
   . rename_i hc; exact zlc hc
   . cases this
def qO (p : TP) (l : List TE) (o : Int) : List TE := l.filter fun x => up p.Lattice x.Goal.toNat o.toNat
theorem zsx {p : TP} {l : List TE} {o : Int} {k : Nat} {x : TE} (hx : l[k]? = some x) : qO p (l.take (k + 1)) o = if up p.Lattice x.Goal.toNat o.toNat = true then qO p (l.take k) o ++ [x] else qO p (l.take k) o := by
 unfold qO
 rw [List.take_add_one, hx, List.filter_append]
 by_cases c : up p.Lattice x.Goal.toNat o.toNat = true <;> simp [c]
theorem zur {p : TP} {l : List TE} {o : Int} {k : Nat} : (qO p (l.take k) o).length <= k := by
 unfold qO
 exact Nat.le_trans (List.length_filter_le _ _) (by simp; omega)
theorem zjf {p : TP} (h : PolIn p) {l : List TE} (hl : (qQ p l).2 = 0) {o : Int} (ho : qP p.Lattice o = true) : zpa p l o = some (qO p l o) := by
 obtain ⟨hk, h2, hg⟩ := zs6 hl
 have ok := uD h.lat (zok hk)
 have hle := ok.le
 have hlen := ok.len
 unfold qP at ho
 simp only [Bool.and_eq_true, decide_eq_true_eq] at ho
 unfold zpa
 simp only [List.length_map]
 refine (yL l.length (fun k => ((k : Int), qO p (l.take k) o)) (qO p l o) (fun k hkn => ?_) ?_ rfl).trans rfl
 . obtain ⟨x, hx⟩ := zN hkn
   have hgx := hg x (List.mem_of_getElem? hx)
   unfold qP at hgx
   simp only [Bool.and_eq_true, decide_eq_true_eq] at hgx
   obtain ⟨y, hy⟩ := zN (l := p.Lattice.Up) (i := x.Goal.toNat) (by omega)
   have hy' := ok.u8.get hy
   have hlt : (k : Int) < (l.length : Int) := by omega
   have hw : IntKind.wrap .i64 ((k : Int) + 1) = ((k + 1 : Nat) : Int) := w64 (by omega) (by omega)
   have n1 : (0 : Int) <= (k : Int) := by omega
   have key : ∀ u : Fin 256, ∀ b : Fin 9, decide (bits .and .u8 (Int.fdiv (u.val : Int) (2 ^ min b.val (IntKind.bits .u8))) 1 = 1) = Nat.testBit u b := by decide +kernel
   have hb := key ⟨y.toNat, by omega⟩ ⟨o.toNat, by omega⟩
   simp only [Int.toNat_of_nonneg hy'.1] at hb
   have hside : ((qO p (l.take k) o).length + 1) * 56 <= 70368744177664 := by have := zur (p := p) (l := l) (o := o) (k := k); omega
   have hst := zsx (p := p) (o := o) hx
   have hi : ∀ {ρ : Type} (f : Int -> Option ρ), zh p.Lattice.Up x.Goal f = f y := fun f => by
    unfold zh
    rw [if_pos hgx.1, hy]
    rfl
   have hiL : ∀ {ρ : Type} (f : TE -> Option ρ), zh l (k : Int) f = f x := fun f => by
    unfold zh
    rw [if_pos n1, Int.toNat_natCast, hx]
    rfl
   have hu : decide (bits .and .u8 (Int.fdiv y (2 ^ min o.toNat (IntKind.bits .u8))) 1 = 1) = up p.Lattice x.Goal.toNat o.toNat := by rw [hb, jD hy]
   simp only [hlt, decide_true, cond_true, hiL, hi, yB ho.1, hu, yB hside, zg, hw, hst]
   cases up p.Lattice x.Goal.toNat o.toNat <;> simp
 . simp
end Go.Sx.O
end
noncomputable section
namespace Go.Sx.O
open Go
def zpr (p : TP) (o : Int) (ls : List (List TE)) : Int := match zE (fun k => match ls[k]? with | some l => if (qQ p l).2 = 0 then none else some (qQ p l).2 | none => none) 0 ls.length with
 | some e => e
 | none => if qP p.Lattice o = true then 0 else 7
theorem zha {p : TP} (h : PolIn p) (o : Int) (ls : List (List TE)) (hls : ls.length <= 1000) (hl : ∀ l ∈ ls, l.length <= 1000000) : zqo p o ls = some (zpr p o ls) := by
 unfold zqo zpr
 simp only [List.length_map]
 refine (wK ls.length (fun k => (k : Int)) (fun k => match ls[k]? with | some l => if (qQ p l).2 = 0 then none else some (qQ p l).2 | none => none) () (fun k hk => ?_) (by simp) rfl).trans ?_
 . obtain ⟨x, hx⟩ := zN hk
   have hlt : (k : Int) < (ls.length : Int) := by omega
   have hw : IntKind.wrap .i64 ((k : Int) + 1) = ((k + 1 : Nat) : Int) := w64 (by omega) (by omega)
   have n1 : (0 : Int) <= (k : Int) := by omega
   simp only [hlt, decide_true, cond_true, zh, n1, if_true, Int.toNat_natCast, hx, Option.bind_some, zg, hw, zba h x (hl x (List.mem_of_getElem? hx))]
   by_cases c1 : (qQ p x).2 = 0 <;> simp [c1]
 . cases zE (fun k => match ls[k]? with | some l => if (qQ p l).2 = 0 then none else some (qQ p l).2 | none => none) 0 ls.length with
   | some e => rfl
   | none =>
     simp only [qP]
     by_cases c1 : o < 0
     . have : ¬ 0 <= o := by omega
       simp [c1, this]
     . have c1' : 0 <= o := by omega
       by_cases c2 : (p.Lattice.Names.length : Int) <= o
       . have : ¬ o < (p.Lattice.Names.length : Int) := by omega
         simp [c1, c2, this]
       . have : o < (p.Lattice.Names.length : Int) := by omega
         simp [c1, c1', c2, this]
def zl6 (p : TP) (l : List TE) (o : Int) : List TE × Int := if (qQ p l).2 = 0 then (if qP p.Lattice o = true then (qO p l o, 0) else ([], 7)) else ([], (qQ p l).2)
theorem xz {p : TP} (h : PolIn p) (l : List TE) (hl : l.length <= 1000000) (o : Int) : zdl p l o = some (zl6 p l o) := by
 unfold zdl zl6
 rw [zha h o [l] (by simp) (by simpa using hl)]
 have ha : zpr p o [l] = if (qQ p l).2 = 0 then (if qP p.Lattice o = true then 0 else 7) else (qQ p l).2 := by
  unfold zpr
  by_cases c : (qQ p l).2 = 0 <;> simp [zE, c]
 rw [ha]
 by_cases c : (qQ p l).2 = 0
 case neg => simp [c]
 by_cases d : qP p.Lattice o = true
 . simp [c, d, zjf h c d]
 . simp [c, d]
theorem zbh {p : TP} {l : List TE} {o : Int} : (qO p l o).length <= l.length := List.length_filter_le _ _
end Go.Sx.O
end
namespace Go.Sx.O
open Go
theorem zfx (a : List TE) (ha : a.length <= 1000000) : zmu a a = some true := by
 unfold zmu
 simp only [List.length_map, decide_true, Bool.not_true, cond_false]
 refine (yL a.length (fun k => (k : Int)) () (fun k hk => ?_) (by simp) rfl).trans rfl
 obtain ⟨u, hu⟩ := zN hk
 have hlt : (k : Int) < (a.length : Int) := by omega
 have hw : IntKind.wrap .i64 ((k : Int) + 1) = ((k + 1 : Nat) : Int) := w64 (by omega) (by omega)
 have n1 : (0 : Int) <= (k : Int) := by omega
 simp only [hlt, decide_true, cond_true, zh, n1, if_true, Int.toNat_natCast, hu, Option.bind_some, zg, hw, Bool.and_true, Bool.not_true, cond_false]
open Go
theorem aud_iff {p : TP} {l : List TE} : (qQ p l).2 = 0 ↔ (yv p).2.2 = 0 /\ l.length <= 2000 /\ ∀ x ∈ l, zdf p x = 0 /\ x.Site ≠ 0 := by
 constructor
 . intro h
   obtain ⟨h1, h2, _⟩ := zs6 h
   refine ⟨h1, h2, fun x hx => ?_⟩
   unfold qQ at h
   rw [if_pos h1, if_neg (by omega)] at h
   cases hs : zE (auK p l) 0 l.length with
   | some r =>
     rw [hs] at h
     have : r.2 ≠ 0 := zhs (P := fun r => r.2 ≠ 0) (fun i r hr => by
      unfold auK at hr
      split at hr
      . split at hr
        . split at hr
          . cases hr; exact (by decide : (6 : Int) ≠ 0)
          . cases hr
        . cases hr; assumption
      . cases hr) hs
     exact absurd h this
   | none =>
     obtain ⟨i, hi, e⟩ := List.getElem_of_mem hx
     have := scan_none.1 hs i (by omega) (by omega)
     unfold auK at this
     rw [List.getElem?_eq_getElem hi, e] at this
     simp only at this
     split at this
     . rename_i hc
       refine ⟨hc, fun hs => ?_⟩
       rw [if_pos hs] at this
       cases this
     . cases this
 . rintro ⟨h1, h2, h3⟩
   unfold qQ
   rw [if_pos h1, if_neg (by omega)]
   have : zE (auK p l) 0 l.length = none := by
    rw [scan_none]
    intro i _ hi
    obtain ⟨x, hx⟩ := zN (l := l) (i := i) (by omega)
    obtain ⟨c1, c2⟩ := h3 x (List.mem_of_getElem? hx)
    unfold auK
    rw [hx]
    simp [c1, c2]
   rw [this]
abbrev Key := Int × Int × Int
theorem leK_iff {x y : Key} : leK x y = true ↔ x.1 < y.1 \/ x.1 = y.1 /\ (x.2.1 < y.2.1 \/ x.2.1 = y.2.1 /\ x.2.2 <= y.2.2) := by
 unfold leK
 simp only [Bool.or_eq_true, Bool.and_eq_true, decide_eq_true_eq]
theorem zr2 (x y : Key) : leK x y = true \/ leK y x = true := by
 rw [leK_iff, leK_iff]; omega
theorem zrs {x y z : Key} (h : leK x y = true) (k : leK y z = true) : leK x z = true := by
 rw [leK_iff] at *; omega
theorem zty {x y : Key} (h : leK x y = true) (k : leK y x = true) : x = y := by
 rw [leK_iff] at *
 obtain ⟨a, b, c⟩ := x
 obtain ⟨d, e, f⟩ := y
 simp only at *
 have h1 : a = d := by omega
 have h2 : b = e := by omega
 have h3 : c = f := by omega
 rw [h1, h2, h3]
theorem insK_perm {x : Key} : ∀ {l : List Key}, (zhk x l).Perm (x :: l)
 | [] => .refl _
 | y :: r => by
   unfold zhk
   split
   . exact List.Perm.refl _
   . exact (List.Perm.cons y insK_perm).trans (.swap x y r)
theorem sortK_perm : ∀ {l : List Key}, (sortK l).Perm l
 | [] => .refl _
 | x :: r => insK_perm.trans (List.Perm.cons x sortK_perm)
theorem zej {x : Key} : ∀ {l : List Key}, l.Pairwise (fun a b => leK a b = true) -> (zhk x l).Pairwise (fun a b => leK a b = true)
 | [], _ => List.pairwise_singleton _ _
 | y :: r, h => by
   obtain ⟨h1, h2⟩ := List.pairwise_cons.1 h
   unfold zhk
   split
   . rename_i e
     refine List.pairwise_cons.2 ⟨fun z hz => ?_, h⟩
     rcases List.mem_cons.1 hz with rfl | hz
     . exact e
     . exact zrs e (h1 z hz)
   . rename_i e
     refine List.pairwise_cons.2 ⟨fun z hz => ?_, zej h2⟩
     rcases List.mem_cons.1 (insK_perm.mem_iff.1 hz) with rfl | hz
     . exact (zr2 z y).resolve_left e
     . exact h1 z hz
theorem sortK_sorted : ∀ {l : List Key}, (sortK l).Pairwise (fun a b => leK a b = true)
 | [] => List.Pairwise.nil
 | _ :: _ => zej sortK_sorted
theorem sorted_uniq : ∀ {l m : List Key}, l.Perm m -> l.Pairwise (fun a b => leK a b = true) -> m.Pairwise (fun a b => leK a b = true) -> l = m
 | [], m, h, _, _ => (List.Perm.nil_eq h)
 | x :: r, m, h, h1, h2 => by
   match m with
   | [] => exact absurd h.length_eq (by simp)
   | y :: s =>
     obtain ⟨a1, a2⟩ := List.pairwise_cons.1 h1
     obtain ⟨b1, b2⟩ := List.pairwise_cons.1 h2
     have e : x = y := by
      have hx : x ∈ y :: s := h.mem_iff.1 (by simp)
      have hy : y ∈ x :: r := h.mem_iff.2 (by simp)
      rcases List.mem_cons.1 hx with e | hx
      . exact e
      rcases List.mem_cons.1 hy with e | hy
      . exact e.symm
      exact zty (a1 y hy) (b1 x hx)
     subst e
     rw [sorted_uniq (List.Perm.cons_inv h) a2 b2]
open Go
theorem zxx {κ ν ρ : Type} [DecidableEq κ] {ks : List κ} {f : κ -> ν} {k : κ} {no : Option ρ} {yes : Nat -> ν -> Option ρ} (h : k ∉ ks) : ui (ks.map fun q => (q, f q)) k no yes = no := by
 unfold ui
 have : (ks.map fun q => (q, f q)).findIdx? (fun p => decide (k = p.1)) = none := by
  rw [List.findIdx?_eq_none_iff]
  intro x hx
  obtain ⟨q, hq, rfl⟩ := List.mem_map.1 hx
  exact decide_eq_false fun e => h (e ▸ hq)
 rw [this]
theorem zkc {κ ν : Type} [DecidableEq κ] {ks : List κ} {f : κ -> ν} {k : κ} (h : k ∈ ks) : ∃ j, ks[j]? = some k /\ ∀ (ρ : Type) (no : Option ρ) (yes : Nat -> ν -> Option ρ), ui (ks.map fun q => (q, f q)) k no yes = yes j (f k) := by
 cases e : (ks.map fun q => (q, f q)).findIdx? (fun p => decide (k = p.1)) with
 | none =>
   rw [List.findIdx?_eq_none_iff] at e
   have := e (k, f k) (List.mem_map.2 ⟨k, h, rfl⟩)
   simp at this
 | some j =>
   obtain ⟨hj, hk, _⟩ := List.findIdx?_eq_some_iff_getElem.1 e
   simp only [List.getElem_map, decide_eq_true_eq] at hk
   simp only [List.length_map] at hj
   refine ⟨j, ?_, fun ρ no yes => ?_⟩
   . rw [List.getElem?_eq_getElem hj, <- hk]
   . unfold ui
     rw [e]
     simp only [List.getElem?_map, List.getElem?_eq_getElem hj, Option.map_some, Option.bind_some, <- hk]
theorem map_set {κ ν : Type} [DecidableEq κ] {ks : List κ} {f g : κ -> ν} {j : Nat} {k : κ} (hn : ks.Nodup) (hj : ks[j]? = some k) (hg : ∀ q, q ≠ k -> g q = f q) : (ks.map fun q => (q, f q)).set j (k, g k) = ks.map fun q => (q, g q) := by
 refine List.ext_getElem? fun i => ?_
 rw [List.getElem?_set, List.getElem?_map, List.getElem?_map, List.length_map]
 have hlt := (List.getElem?_eq_some_iff.1 hj).1
 by_cases e : j = i
 . subst e
   rw [if_pos rfl, if_pos hlt, hj]; rfl
 . rw [if_neg e]
   cases hi : ks[i]? with
   | none => rfl
   | some q =>
     have : q ≠ k := fun eq => by
      subst eq
      obtain ⟨h1, h2⟩ := List.getElem?_eq_some_iff.1 hi
      obtain ⟨h3, h4⟩ := List.getElem?_eq_some_iff.1 hj
      exact e ((List.getElem_inj hn).1 (h4.trans h2.symm))
     simp only [Option.map_some, hg q this]
def qa (x : TE) : Key := (x.From, x.Goal, x.Fold)
def qo (k : Key) (l : List TE) : Int := ((l.filter fun x => decide (k = qa x)).length : Nat)
def qR (k : Key) (l : List TE) : Int := ((l.filter fun x => decide (k = qa x) && decide (x.Value.1 = 0)).length : Nat)
def qM (l : List TE) (k : Key) : Int × Int × Int × Int × Int := (k.1, k.2.1, k.2.2, qo k l, qR k l)
def qw : List TE -> List Key -> List Key
 | [], ks => ks
 | x :: r, ks => qw r (if qa x ∈ ks then ks else ks ++ [qa x])
theorem zgw : ∀ {l : List TE} {ks : List Key} {x : TE}, qw (l ++ [x]) ks = if qa x ∈ qw l ks then qw l ks else qw l ks ++ [qa x]
 | [], _, _ => rfl
 | _ :: r, _, _ => zgw (l := r)
theorem zaz : ∀ {l : List TE} {ks : List Key}, ks.Nodup -> (qw l ks).Nodup
 | [], _, h => h
 | x :: r, ks, h => by
   unfold qw
   refine zaz ?_
   split
   . exact h
   . rename_i e
     refine List.nodup_append.2 ⟨h, by simp, fun a ha b hb => ?_⟩
     rw [List.mem_singleton.1 hb]
     exact fun eq => e (eq ▸ ha)
theorem keysT_mem : ∀ {l : List TE} {ks : List Key} {k : Key}, k ∈ qw l ks ↔ k ∈ ks \/ ∃ x ∈ l, qa x = k
 | [], ks, k => by simp [qw]
 | x :: r, ks, k => by
   unfold qw
   rw [keysT_mem]
   split
   . rename_i e
     constructor
     . rintro (h | ⟨y, hy, rfl⟩)
       . exact .inl h
       . exact .inr ⟨y, List.mem_cons_of_mem _ hy, rfl⟩
     . rintro (h | ⟨y, hy, rfl⟩)
       . exact .inl h
       . rcases List.mem_cons.1 hy with rfl | hy
         . exact .inl e
         . exact .inr ⟨y, hy, rfl⟩
   . constructor
     . rintro (h | ⟨y, hy, rfl⟩)
       . rcases List.mem_append.1 h with h | h
         . exact .inl h
         . rw [List.mem_singleton.1 h]; exact .inr ⟨x, List.mem_cons_self, rfl⟩
       . exact .inr ⟨y, List.mem_cons_of_mem _ hy, rfl⟩
     . rintro (h | ⟨y, hy, rfl⟩)
       . exact .inl (List.mem_append.2 (.inl h))
       . rcases List.mem_cons.1 hy with rfl | hy
         . exact .inl (List.mem_append.2 (.inr (List.mem_singleton.2 rfl)))
         . exact .inr ⟨y, hy, rfl⟩
theorem zac : ∀ {l : List TE} {ks : List Key}, (qw l ks).length <= ks.length + l.length
 | [], _ => Nat.le_refl _
 | x :: r, ks => by
   unfold qw
   refine Nat.le_trans zac ?_
   split
   . simp only [List.length_cons]; omega
   . simp only [List.length_append, List.length_cons, List.length_nil]; omega
theorem zi9 {l : List TE} {x : TE} {q : Key} (h : q ≠ qa x) : qM (l ++ [x]) q = qM l q := by
 unfold qM qo qR
 simp [List.filter_append, h]
theorem zj5 {l : List TE} {q : Key} (h : ∀ x ∈ l, qa x ≠ q) : qo q l = 0 /\ qR q l = 0 := by
 unfold qo qR
 constructor
 . rw [List.filter_eq_nil_iff.2]
   . rfl
   . intro x hx; simpa using fun e => h x hx e.symm
 . rw [List.filter_eq_nil_iff.2]
   . rfl
   . intro x hx
     have := fun e => h x hx e
     simp only [Bool.and_eq_true, decide_eq_true_eq]
     exact fun e => this e.1.symm
theorem zmp {l : List TE} {x : TE} : qo (qa x) (l ++ [x]) = qo (qa x) l + 1 := by
 unfold qo; simp [List.filter_append]
theorem zlb {l : List TE} {x : TE} : qR (qa x) (l ++ [x]) = qR (qa x) l + if x.Value.1 = 0 then 1 else 0 := by
 unfold qR
 rw [List.filter_append]
 by_cases h : x.Value.1 = 0 <;> simp [h]
theorem za9 {l : List TE} {k : Key} : 0 <= qo k l /\ qo k l <= l.length := by
 unfold qo
 have := List.length_filter_le (fun x => decide (k = qa x)) l
 omega
theorem zge {l : List TE} {k : Key} : 0 <= qR k l /\ qR k l <= l.length := by
 unfold qR
 have := List.length_filter_le (fun x => decide (k = qa x) && decide (x.Value.1 = 0)) l
 omega
end Go.Sx.O
noncomputable section
namespace Go.Sx.O
open Go
def zkx (p : TP) (l : List TE) : List (Int × Int × Int × Int × Int) × Int := if (qQ p l).2 = 0 then ((sortK (qw l [])).map (qM l), 0) else ([], (qQ p l).2)
theorem zw2 {l : List TE} {x : TE} (h : qa x ∉ qw l []) : qM (l ++ [x]) (qa x) = (x.From, x.Goal, x.Fold, 1, if x.Value.1 = 0 then 1 else 0) := by
 have hn : ∀ y ∈ l, qa y ≠ qa x := fun y hy e => h (keysT_mem.2 (.inr ⟨y, hy, e⟩))
 obtain ⟨h1, h2⟩ := zj5 hn
 unfold qM
 rw [zmp, zlb, h1, h2, Int.zero_add, Int.zero_add]
 rfl
theorem zxw {l : List TE} {x : TE} : qM (l ++ [x]) (qa x) = (x.From, x.Goal, x.Fold, qo (qa x) l + 1, qR (qa x) l + if x.Value.1 = 0 then 1 else 0) := by
 unfold qM
 rw [zmp, zlb]
 rfl
theorem jW {p : TP} (h : PolIn p) (l : List TE) (hl : l.length <= 1000000) : zia p l = some (zkx p l) := by
 unfold zia zkx
 rw [zba h l hl]
 simp only [Option.bind_some]
 by_cases e : (qQ p l).2 = 0
 case neg => simp [e]
 simp only [e, decide_true, Bool.not_true, cond_false, if_true]
 refine (yL l.length (fun k => ((k : Int), qw (l.take k) [], (qw (l.take k) []).map fun q => (q, qM (l.take k) q))) (qw l [], (qw l []).map fun q => (q, qM l q)) (fun k hk => ?_) (by simp) rfl).trans ?_
 . obtain ⟨x, hx⟩ := zN hk
   have hlt : (k : Int) < (l.length : Int) := by omega
   have hwr : IntKind.wrap .i64 ((k : Int) + 1) = ((k + 1 : Nat) : Int) := w64 (by omega) (by omega)
   have n1 : (0 : Int) <= (k : Int) := by omega
   have ht : l.take (k + 1) = l.take k ++ [x] := by rw [List.take_add_one, hx]; rfl
   have hlen := zac (l := l.take k) (ks := [])
   have htl : (l.take k).length = k := by rw [List.length_take]; omega
   rw [htl, List.length_nil] at hlen
   have c0 := za9 (l := l.take k) (k := qa x)
   have m0 := zge (l := l.take k) (k := qa x)
   rw [htl] at c0 m0
   have hc : IntKind.wrap .i64 (qo (qa x) (l.take k) + 1) = qo (qa x) (l.take k) + 1 := w64 (by omega) (by omega)
   have hmk : IntKind.wrap .i64 (qR (qa x) (l.take k) + 1) = qR (qa x) (l.take k) + 1 := w64 (by omega) (by omega)
   have hnd := zaz (l := l.take k) (ks := []) List.nodup_nil
   rw [ht, zgw]
   have hs : ((qw (l.take k) []).length + 1) * 24 <= 70368744177664 := by omega
   simp only [List.length_map, hlt, decide_true, cond_true, zh, n1, if_true, Int.toNat_natCast, hx, Option.bind_some, zq, hs]
   have hkey : ((x.From, x.Goal, x.Fold) : Key) = qa x := rfl
   rw [hkey]
   by_cases hm : qa x ∈ qw (l.take k) []
   . obtain ⟨j, hj, hy⟩ := zkc (f := qM (l.take k)) hm
     rw [if_pos hm]
     have hset := map_set (f := qM (l.take k)) (g := qM (l.take k ++ [x])) hnd hj (fun q hq => zi9 hq)
     rw [zxw] at hset
     simp only [hy, zg, hwr]
     by_cases hv : x.Value.1 = 0
     . rw [if_pos hv] at hset
       have e1 : (qM (l.take k) (qa x)).2.2.2.1 = qo (qa x) (l.take k) := rfl
       have e2 : (qM (l.take k) (qa x)).2.2.2.2 = qR (qa x) (l.take k) := rfl
       simp only [hv, decide_true, cond_true, e1, e2, hc, hmk]
       rw [<- hset]; rfl
     . rw [if_neg hv, Int.add_zero] at hset
       have e1 : (qM (l.take k) (qa x)).2.2.2.1 = qo (qa x) (l.take k) := rfl
       simp only [hv, decide_false, cond_false, e1, hc]
       rw [<- hset]; rfl
   . rw [if_neg hm]
     have hmap : (qw (l.take k) [] ++ [qa x]).map (fun q => (q, qM (l.take k ++ [x]) q)) = (qw (l.take k) []).map (fun q => (q, qM (l.take k) q)) ++ [(qa x, x.From, x.Goal, x.Fold, 1, if x.Value.1 = 0 then 1 else 0)] := by
      rw [List.map_append]
      congr 1
      . refine List.map_congr_left fun q hq => ?_
        rw [zi9 fun e => hm (e ▸ hq)]
      . show [(qa x, qM (l.take k ++ [x]) (qa x))] = _
        rw [zw2 hm]
     rw [hmap]
     simp only [zxx (f := qM (l.take k)) hm, zg, hwr]
     by_cases hv : x.Value.1 = 0
     . simp only [hv, decide_true, cond_true, if_true]
     . simp only [hv, decide_false, cond_false, if_false]
 . have hks := zac (l := l) (ks := [])
   rw [List.length_nil] at hks
   have hsl : (sortK (qw l [])).length = (qw l []).length := sortK_perm.length_eq
   have hs1 : (qw l []).length <= 1000000 := by omega
   simp only [zq, hs1, if_true]
   refine (yL (sortK (qw l [])).length (fun k => ((k : Int), ((sortK (qw l [])).take k).map (qM l))) ((sortK (qw l [])).map (qM l)) (fun k hk => ?_) (by simp) rfl).trans rfl
   obtain ⟨q, hq⟩ := zN hk
   have hlt : (k : Int) < ((sortK (qw l [])).length : Int) := by omega
   have hwr : IntKind.wrap .i64 ((k : Int) + 1) = ((k + 1 : Nat) : Int) := w64 (by omega) (by omega)
   have n1 : (0 : Int) <= (k : Int) := by omega
   have hm : q ∈ qw l [] := sortK_perm.mem_iff.1 (List.mem_of_getElem? hq)
   obtain ⟨j, hj, hy⟩ := zkc (f := qM l) hm
   have ht : (sortK (qw l [])).take (k + 1) = (sortK (qw l [])).take k ++ [q] := by rw [List.take_add_one, hq]; rfl
   have htl : ((sortK (qw l [])).take k).length = k := by rw [List.length_take]; omega
   have hs : (k + 1) * 40 <= 70368744177664 := by omega
   simp only [List.length_map, hlt, n1, and_self, decide_true, cond_true, zq, zh, if_true, Int.toNat_natCast, hq, Option.bind_some, hy, zg, hwr, ht, htl, hs, List.map_append, List.map_cons, List.map_nil]
end Go.Sx.O
end
namespace Go.Sx.O
open Go
def k3 (f g : Int) (m : Nat) : List Key := (List.range m).map fun (i : Nat) => (f, g, (i : Int) + 1)
def k2 (f : Int) (m : Nat) : List Key := (List.range m).flatMap fun (g : Nat) => k3 f (g : Int) 4
def k1 (n m : Nat) : List Key := (List.range m).flatMap fun (f : Nat) => k2 (f : Int) n
theorem cnt_pos {l : List TE} {q : Key} : 0 < qo q l ↔ ∃ x ∈ l, qa x = q := by
 unfold qo
 constructor
 . intro h
   obtain ⟨x, hx⟩ := List.exists_mem_of_length_pos (l := l.filter fun x => decide (q = qa x)) (by omega)
   obtain ⟨h1, h2⟩ := List.mem_filter.1 hx
   exact ⟨x, h1, (of_decide_eq_true h2).symm⟩
 . rintro ⟨x, hx, rfl⟩
   have : x ∈ l.filter fun y => decide (qa x = qa y) := List.mem_filter.2 ⟨hx, by simp⟩
   have := List.length_pos_of_mem this
   omega
theorem labB_iff' {l : TL} {a : Int} : qP l a = true ↔ 0 <= a /\ a < (l.Names.length : Int) := by simp [qP]
theorem take_cnt {l : List TE} {x : TE} {q : Key} : qo q (l ++ [x]) = (if q = qa x then qo q l + 1 else qo q l) /\ qR q (l ++ [x]) = (if q = qa x /\ x.Value.1 = 0 then qR q l + 1 else qR q l) := by
 unfold qo qR
 rw [List.filter_append, List.filter_append]
 by_cases e : q = qa x
 . by_cases v : x.Value.1 = 0 <;> simp [e, v]
 . simp [e]
open Go
theorem zra {a b : List TE} {q : Key} : qo q (a ++ b) = qo q a + qo q b := by
 unfold qo; rw [List.filter_append, List.length_append]; omega
theorem zrk {a b : List TE} {q : Key} : qR q (a ++ b) = qR q a + qR q b := by
 unfold qR; rw [List.filter_append, List.length_append]; omega
theorem zxr {l : List TE} {q : Key} : qR q l <= qo q l := by
 unfold qR qo
 have : (l.filter fun x => decide (q = qa x) && decide (x.Value.1 = 0)).length <= (l.filter fun x => decide (q = qa x)).length := by
  induction l with
  | nil => simp
  | cons x r ih =>
    by_cases e : q = qa x
    . by_cases v : x.Value.1 = 0
      . simp only [List.filter_cons, e, v, decide_true, Bool.and_self, if_true, List.length_cons] at ih ⊢; omega
      . simp only [List.filter_cons, e, v, decide_true, decide_false, Bool.and_false, if_true, List.length_cons] at ih ⊢; simp; omega
    . simp only [List.filter_cons, e, decide_false, Bool.false_and] at ih ⊢; simpa using ih
 omega
def wD (ks : List Key) (l : List TE) : Int := (ks.map fun q => qo q l).sum
theorem zkq : ∀ {ks : List Key}, wD ks [] = 0
 | [] => rfl
 | q :: r => by
   have := zkq (ks := r)
   unfold wD at *
   simp only [List.map_cons, List.sum_cons, this]
   rfl
theorem zkt : ∀ {ks : List Key} {l : List TE} {x : TE}, ks.Nodup -> wD ks (l ++ [x]) = wD ks l + if qa x ∈ ks then 1 else 0
 | [], l, x, _ => by simp [wD]
 | q :: r, l, x, h => by
   obtain ⟨h1, h2⟩ := List.nodup_cons.1 h
   have ih := zkt (ks := r) (l := l) (x := x) h2
   unfold wD at *
   have hq : qo q (l ++ [x]) = if q = qa x then qo q l + 1 else qo q l := take_cnt.1
   simp only [List.map_cons, List.sum_cons, ih, List.mem_cons]
   rw [hq]
   by_cases e : q = qa x
   . subst e
     rw [if_pos rfl, if_neg h1, if_pos (.inl rfl)]; omega
   . rw [if_neg e]
     by_cases m : qa x ∈ r
     . rw [if_pos m, if_pos (.inr m)]; omega
     . rw [if_neg m, if_neg (fun o => o.elim (fun y => e y.symm) m)]; omega
theorem zke {ks : List Key} (hn : ks.Nodup) : ∀ (n : Nat) {l : List TE}, l.length = n -> (∀ x ∈ l, qa x ∈ ks) -> wD ks l = n
 | 0, l, h, _ => by rw [List.length_eq_zero_iff.1 h, zkq]; rfl
 | n + 1, l, h, hx => by
   have hne : l ≠ [] := fun e => by rw [e] at h; cases h
   have e := List.dropLast_concat_getLast hne
   have hl : l.dropLast.length = n := by rw [List.length_dropLast]; omega
   have ih := zke hn n hl (fun x m => hx x (List.dropLast_subset _ m))
   rw [<- e, zkt hn, ih, if_pos (hx _ (List.getLast_mem hne))]
   omega
open Go
theorem zcr {p : TP} {l : List TE} {o : Int} (h : (qQ p l).2 = 0) : (qQ p (qO p l o)).2 = 0 := by
 obtain ⟨h1, h2, h3⟩ := aud_iff.1 h
 exact aud_iff.2 ⟨h1, by have := zbh (p := p) (l := l) (o := o); omega, fun x hx => h3 x (by unfold qO at hx; exact (List.mem_filter.1 hx).1)⟩
open Go
theorem zvt {p : TP} {l : List TE} : (zkx p l).2 = (qQ p l).2 := by
 unfold zkx; split
 . rename_i h; rw [h]
 . rfl
theorem zq7 {p : TP} {a b : List TE} (ha : a.length <= 40) (hb : b.length <= 40) : (qQ p (a ++ b)).2 = 0 ↔ (qQ p a).2 = 0 /\ (qQ p b).2 = 0 := by
 simp only [aud_iff, List.length_append, List.mem_append]
 constructor
 . rintro ⟨h1, h2, h3⟩
   exact ⟨⟨h1, by omega, fun x hx => h3 x (.inl hx)⟩, h1, by omega, fun x hx => h3 x (.inr hx)⟩
 . rintro ⟨⟨h1, _, h3⟩, _, _, h5⟩
   exact ⟨h1, by omega, fun x hx => hx.elim (h3 x) (h5 x)⟩
def ksT (l : List TE) : List Key := sortK (qw l [])
theorem ksT_mem {l : List TE} {q : Key} : q ∈ ksT l ↔ ∃ x ∈ l, qa x = q := by
 unfold ksT
 rw [sortK_perm.mem_iff, keysT_mem]
 simp
theorem ziq {l : List TE} : (ksT l).Nodup := sortK_perm.nodup_iff.2 (zaz List.nodup_nil)
theorem zn9 {l : List TE} : (ksT l).length <= l.length := by
 unfold ksT; rw [sortK_perm.length_eq]; simpa using zac (l := l) (ks := [])
theorem zhj {p : TP} {l : List TE} (h : (qQ p l).2 = 0) : zkx p l = ((ksT l).map (qM l), 0) := if_pos h
def stT (q : Key) (l : List TE) (ks : List Key) : Int × Int := if q ∈ ks then (qo q l, qR q l) else (0, 0)
theorem zvp {q : Key} {l : List TE} {ks : List Key} (hn : ks.Nodup) {k : Nat} {x : Key} (hx : ks[k]? = some x) : stT q l (ks.take (k + 1)) = if x = q then ((stT q l (ks.take k)).1 + qo q l, (stT q l (ks.take k)).2 + qR q l) else stT q l (ks.take k) := by
 have ht : ks.take (k + 1) = ks.take k ++ [x] := by rw [List.take_add_one, hx]; rfl
 unfold stT
 rw [ht]
 simp only [List.mem_append, List.mem_singleton]
 by_cases e : x = q
 . subst e
   have hnot : x ∉ ks.take k := fun m => by
    have hn' : (ks.take (k + 1)).Nodup := hn.sublist (List.take_sublist _ _)
    rw [ht, List.nodup_append] at hn'
    exact hn'.2.2 x m x (by simp) rfl
   simp [hnot]
 . simp [e, Ne.symm e]
theorem zw8 {q : Key} {l : List TE} : stT q l (ksT l) = (qo q l, qR q l) := by
 unfold stT
 by_cases h : q ∈ ksT l
 . rw [if_pos h]
 . rw [if_neg h]
   obtain ⟨h1, h2⟩ := zj5 (l := l) (q := q) (fun x hx e => h (ksT_mem.2 ⟨x, hx, e⟩))
   rw [h1, h2]
theorem zr3 {p : TP} {l : List TE} {o q : Int} (h : ∀ x ∈ l, up p.Lattice x.Goal.toNat o.toNat = true -> up p.Lattice x.Goal.toNat q.toNat = true) : qO p (qO p l q) o = qO p l o := by
 unfold qO
 rw [List.filter_filter]
 refine List.filter_congr fun x hx => ?_
 cases e : up p.Lattice x.Goal.toNat o.toNat with
 | false => rfl
 | true => rw [h x hx e]; rfl
theorem zui {p : TP} {l : List TE} {o : Int} (h : ∀ x ∈ l, up p.Lattice x.Goal.toNat o.toNat = true) : qO p l o = l := List.filter_eq_self.2 h
open Go
theorem zzg {q : Key} {l : List TE} {ks : List Key} : 0 <= (stT q l ks).1 /\ (stT q l ks).1 <= l.length /\ 0 <= (stT q l ks).2 /\ (stT q l ks).2 <= l.length := by
 unfold stT
 have h1 := za9 (l := l) (k := q)
 have h2 := zge (l := l) (k := q)
 split
 . exact ⟨h1.1, h1.2, h2.1, h2.2⟩
 . exact ⟨by simp, by simp, by simp, by simp⟩
theorem zmx {ρ : Type} {k1 : Int × Int -> Option ρ} (l : List TE) (v : List (Int × Int × Int × Int × Int)) (j : Nat) (y : Int × Int × Int × Int × Int) (hy : v[j]? = some y) (hl : l.length <= 1000) (c m : Int) (c0 : 0 <= c) (c1 : c <= 1000) (m0 : 0 <= m) (m1 : m <= 1000) :
 (lpO (fun (s219 : Int × Int × Int) =>
 cond (decide (s219.fst < (↑(ksT l).length : Int)))
 (zh ((ksT l).map (qM l)) (s219.fst) fun x235 =>
 zh v (j : Int) fun x236 =>
 cond (decide (x235.fst = x236.fst))
 (zh ((ksT l).map (qM l)) (s219.fst) fun x238 =>
 zh v (j : Int) fun x239 =>
 cond (decide (x238.snd.fst = x239.snd.fst))
 (zh ((ksT l).map (qM l)) (s219.fst) fun x241 =>
 zh v (j : Int) fun x242 =>
 cond (decide (x241.snd.snd.fst = x242.snd.snd.fst))
 (zh ((ksT l).map (qM l)) (s219.fst) fun x244 =>
 zg (IntKind.wrap IntKind.i64 (s219.snd.fst + x244.snd.snd.snd.fst)) fun x245 =>
 zh ((ksT l).map (qM l)) (s219.fst) fun x246 =>
 zg (IntKind.wrap IntKind.i64 (s219.snd.snd + x246.snd.snd.snd.snd)) fun x247 =>
 zg (IntKind.wrap IntKind.i64 (s219.fst + (1 : Int))) fun x248 =>
 some (Sum.inl ((x248, x245, x247))))
 (zg (IntKind.wrap IntKind.i64 (s219.fst + (1 : Int))) fun x249 =>
 some (Sum.inl ((x249, s219.snd)))))
 (zg (IntKind.wrap IntKind.i64 (s219.fst + (1 : Int))) fun x250 =>
 some (Sum.inl ((x250, s219.snd)))))
 (zg (IntKind.wrap IntKind.i64 (s219.fst + (1 : Int))) fun x251 =>
 some (Sum.inl ((x251, s219.snd)))))
 (some (Sum.inr (Sum.inl (s219.snd))))) ((0 : Int), c, m)).bind (Sum.elim k1 some) = k1 (c + qo (y.1, y.2.1, y.2.2.1) l, m + qR (y.1, y.2.1, y.2.2.1) l) := by
 generalize hq : (y.1, y.2.1, y.2.2.1) = q
 have hkl := zn9 (l := l)
 refine yL (ksT l).length (fun k => ((k : Int), c + (stT q l ((ksT l).take k)).1, m + (stT q l ((ksT l).take k)).2)) (c + qo q l, m + qR q l) (fun k hk => ?_) ?_ (by simp [stT])
 . obtain ⟨x, hx⟩ := zN hk
   have hX : ((ksT l).map (qM l))[k]? = some (qM l x) := by rw [List.getElem?_map, hx]; rfl
   have hlt : (k : Int) < ((ksT l).length : Int) := by omega
   have hwr : IntKind.wrap .i64 ((k : Int) + 1) = ((k + 1 : Nat) : Int) := w64 (by omega) (by omega)
   have n1 : (0 : Int) <= (k : Int) := by omega
   have n2 : (0 : Int) <= (j : Int) := by omega
   have hbd := zzg (q := q) (l := l) (ks := (ksT l).take k)
   have b1 := za9 (l := l) (k := x)
   have b2 := zge (l := l) (k := x)
   have hst := zvp (q := q) (l := l) ziq hx
   have w1 : IntKind.wrap .i64 (c + (stT q l ((ksT l).take k)).1 + qo x l) = c + (stT q l ((ksT l).take k)).1 + qo x l := w64 (by omega) (by omega)
   have w2 : IntKind.wrap .i64 (m + (stT q l ((ksT l).take k)).2 + qR x l) = m + (stT q l ((ksT l).take k)).2 + qR x l := w64 (by omega) (by omega)
   simp only [hlt, decide_true, cond_true, zh, n1, n2, if_true, Int.toNat_natCast, hX, hy, Option.bind_some, zg, hwr, qM, w1, w2]
   have hxq : x = q ↔ x.1 = y.1 /\ x.2.1 = y.2.1 /\ x.2.2 = y.2.2.1 := by rw [<- hq]; simp [Prod.ext_iff]
   rw [hst]
   by_cases e1 : x.1 = y.1
   case neg => simp [e1, hxq]
   by_cases e2 : x.2.1 = y.2.1
   case neg => simp [e1, e2, hxq]
   by_cases e3 : x.2.2 = y.2.2.1
   case neg => simp [e1, e2, e3, hxq]
   have e : x = q := hxq.2 ⟨e1, e2, e3⟩
   simp only [e1, e2, e3, decide_true, cond_true]
   rw [if_pos e]
   simp only [e, Int.add_assoc]
 . have hlt : ¬ ((ksT l).length : Int) < ((ksT l).length : Int) := by omega
   simp only [hlt, decide_false, cond_false, List.take_length, zw8]
theorem zij {l : List TE} {x : Key} : ∀ {ks : List Key}, wD (ks ++ [x]) l = wD ks l + qo x l
 | [] => by simp [wD]
 | q :: r => by
   have := zij (l := l) (x := x) (ks := r)
   unfold wD at *
   simp only [List.cons_append, List.map_cons, List.sum_cons, this]
   omega
theorem zn6 {l : List TE} (hl : l.length <= 80) : ∀ {ks : List Key}, 0 <= wD ks l /\ wD ks l <= 80 * (ks.length : Int)
 | [] => by simp [wD]
 | q :: r => by
   have ih := zn6 hl (ks := r)
   have h1 := za9 (l := l) (k := q)
   unfold wD at *
   simp only [List.map_cons, List.sum_cons, List.length_cons]
   omega
def zft (l : TL) (o k : Nat) : Bool := (List.range k).all fun q => up l q o
theorem zsu {l : TL} {o k : Nat} : zft l o (k + 1) = (zft l o k && up l k o) := by
 unfold zft; rw [List.range_succ, List.all_append]; simp
theorem znj (p : TP) (a b : List TE) (w1 : W_TP p) (_ : yX W_TE a) (_ : yX W_TE b) : zvd p a b = some true := by
 unfold zvd
 obtain ⟨f, hf, hq⟩ := zuc p (zyb w1.Lattice.Up)
 rw [hf]
 cases f with
 | true => rfl
 | false =>
 have h := hq rfl
 simp only [Option.bind_some, cond_false, List.length_map, List.nil_append, List.length_append]
 by_cases la : (40 : Int) < (a.length : Int)
 . simp only [la, decide_true, cond_true]
 by_cases lb : (40 : Int) < (b.length : Int)
 . simp only [la, lb, decide_true, decide_false, cond_true, cond_false]
 have la' : a.length <= 40 := by omega
 have lb' : b.length <= 40 := by omega
 have lab : (a ++ b).length <= 80 := by rw [List.length_append]; omega
 have s1 : (0 + a.length) * 56 <= 70368744177664 := by omega
 have s2 : (a.length + b.length) * 56 <= 70368744177664 := by omega
 simp only [la, lb, decide_false, cond_false, zq, s1, s2, if_true, jW h a (by omega), jW h b (by omega), jW h (a ++ b) (by omega), Option.bind_some, zvt]
 have hap := zq7 (p := p) la' lb'
 by_cases ea : (qQ p a).2 = 0
 case neg =>
  have : ¬ (qQ p (a ++ b)).2 = 0 := fun e => ea (hap.1 e).1
  simp only [ea, this, decide_false, Bool.not_false, cond_true]
 by_cases eb : (qQ p b).2 = 0
 case neg =>
  have : ¬ (qQ p (a ++ b)).2 = 0 := fun e => eb (hap.1 e).2
  simp only [ea, eb, this, decide_true, decide_false, Bool.not_true, Bool.not_false, cond_true, cond_false]
 have eab := hap.2 ⟨ea, eb⟩
 simp only [ea, eb, eab, decide_true, Bool.not_true, cond_false, zhj ea, zhj eb, zhj eab, List.length_map]
 have hkl := zn9 (l := a ++ b)
 refine (yL (ksT (a ++ b)).length (fun k => ((k : Int), wD ((ksT (a ++ b)).take k) (a ++ b))) (wD (ksT (a ++ b)) (a ++ b)) (fun k hk => ?_) ?_ (by simp [wD])).trans ?_
 . obtain ⟨x, hx⟩ := zN hk
   have hX : ((ksT (a ++ b)).map (qM (a ++ b)))[k]? = some (qM (a ++ b) x) := by rw [List.getElem?_map, hx]; rfl
   have hlt : (k : Int) < ((ksT (a ++ b)).length : Int) := by omega
   have hwr : IntKind.wrap .i64 ((k : Int) + 1) = ((k + 1 : Nat) : Int) := w64 (by omega) (by omega)
   have n1 : (0 : Int) <= (k : Int) := by omega
   simp only [hlt, decide_true, cond_true]
   have ca := za9 (l := a) (k := x)
   have ma := zge (l := a) (k := x)
   refine (zmx a _ k (qM (a ++ b) x) hX (by omega) 0 0 (by omega) (by omega) (by omega) (by omega)).trans ?_
   refine (zmx b _ k (qM (a ++ b) x) hX (by omega) (0 + qo x a) (0 + qR x a) (by omega) (by omega) (by omega) (by omega)).trans ?_
   have hm := zxr (l := a ++ b) (q := x)
   have hp : 0 < qo x (a ++ b) := cnt_pos.2 (ksT_mem.1 (List.mem_of_getElem? hx))
   have hle := za9 (l := a ++ b) (k := x)
   have hsb := zn6 lab (ks := (ksT (a ++ b)).take k)
   have htk : ((ksT (a ++ b)).take k).length <= 80 := by rw [List.length_take]; omega
   have e1 : 0 + qo x a + qo x b = qo x (a ++ b) := by rw [zra]; omega
   have e2 : 0 + qR x a + qR x b = qR x (a ++ b) := by rw [zrk]; omega
   have d1 : ¬ qo x (a ++ b) < qR x (a ++ b) := by omega
   have d2 : ¬ qo x (a ++ b) < 1 := by omega
   have ww : IntKind.wrap .i64 (wD ((ksT (a ++ b)).take k) (a ++ b) + qo x (a ++ b)) = wD ((ksT (a ++ b)).take k) (a ++ b) + qo x (a ++ b) := w64 (by omega) (by omega)
   have ht : (ksT (a ++ b)).take (k + 1) = (ksT (a ++ b)).take k ++ [x] := by rw [List.take_add_one, hx]; rfl
   simp only [zh, n1, if_true, Int.toNat_natCast, hX, Option.bind_some, qM, e1, e2, decide_true, Bool.and_true, Bool.not_true, cond_false, d1, d2, decide_false, zg, ww, hwr, ht, zij]
 . have hlt : ¬ ((ksT (a ++ b)).length : Int) < ((ksT (a ++ b)).length : Int) := by omega
   simp only [hlt, decide_false, cond_false, List.take_length]
 have hs : wD (ksT (a ++ b)) (a ++ b) = ((a.length + b.length : Nat) : Int) := by
  rw [zke ziq (a ++ b).length rfl (fun x hx => ksT_mem.2 ⟨x, hx, rfl⟩), List.length_append]
 simp only [hs, decide_true, Bool.not_true, cond_false]
 obtain ⟨hpol, _, hch⟩ := aud_iff.1 eab
 have ok := uD h.lat (zok hpol)
 have hle := ok.le
 have hlen := ok.len
 have hbel : ∀ (l : List TE) (o : Nat), (qQ p l).2 = 0 -> o < p.Lattice.Names.length -> zl6 p l (o : Int) = (qO p l (o : Int), 0) := fun l o e ho => by
  unfold zl6
  rw [if_pos e, if_pos (labB_iff'.2 ⟨by omega, by omega⟩)]
 have hg : ∀ x ∈ a ++ b, x.Goal.toNat < p.Lattice.Names.length := fun x hx => by
  have := labB_iff'.1 (zlc (hch x hx).1)
  omega
 refine (yL p.Lattice.Names.length (fun k => (k : Int)) () (fun k hk => ?_) ?_ rfl).trans rfl
 . have hlt : (k : Int) < (p.Lattice.Names.length : Int) := by omega
   have hwr : IntKind.wrap .i64 ((k : Int) + 1) = ((k + 1 : Nat) : Int) := w64 (by omega) (by omega)
   simp only [hlt, decide_true, cond_true, xz h (a ++ b) (by omega), hbel (a ++ b) k eab hk, Option.bind_some, Bool.not_true, cond_false]
   refine (yL p.Lattice.Names.length (fun j => ((j : Int), zft p.Lattice k j)) (zft p.Lattice k p.Lattice.Names.length) (fun j hj => ?_) ?_ rfl).trans ?_
   . have hlt' : (j : Int) < (p.Lattice.Names.length : Int) := by omega
     have hwr' : IntKind.wrap .i64 ((j : Int) + 1) = ((j + 1 : Nat) : Int) := w64 (by omega) (by omega)
     have B1 : zcl p.Lattice (j : Int) (k : Int) = some (up p.Lattice j k) := zgk ok.u8 (by omega) (by omega)
     have B2 : zcl p.Lattice (k : Int) (j : Int) = some (up p.Lattice k j) := zgk ok.u8 (by omega) (by omega)
     have hsl := zbh (p := p) (l := a ++ b) (o := (j : Int))
     have hsk := zbh (p := p) (l := a ++ b) (o := (k : Int))
     have hall : up p.Lattice k j = true -> zl6 p (qO p (a ++ b) (j : Int)) (k : Int) = (qO p (a ++ b) (k : Int), 0) := fun e => by
      rw [hbel _ k (zcr eab) hk, zr3 (fun x hx e' => ?_)]
      rw [Int.toNat_natCast] at *
      exact zmb ok (hg x hx) hk hj e' e
     have hln : up p.Lattice k j = true -> ¬ ((qO p (a ++ b) (j : Int)).length : Int) < ((qO p (a ++ b) (k : Int)).length : Int) := fun e => by
      have h1 := hall e
      rw [hbel _ k (zcr eab) hk] at h1
      have h2 := congrArg (fun z => z.1.length) h1
      simp only at h2
      have h3 := zbh (p := p) (l := qO p (a ++ b) (j : Int)) (o := (k : Int))
      omega
     have hsame := zfx (qO p (a ++ b) (k : Int)) (by omega)
     rw [zsu]
     cases hu : zft p.Lattice k j <;> cases hv : up p.Lattice k j
     . simp only [hlt', decide_true, cond_true, cond_false, B2, hv, Option.bind_some, Bool.not_false, zg, hwr', Bool.false_and]
     . simp only [hlt', decide_true, cond_true, cond_false, B2, hv, Option.bind_some, Bool.not_true, zg, hwr', Bool.false_and, hbel (a ++ b) j eab hj, xz h (qO p (a ++ b) (j : Int)) (by omega), hall hv, hln hv, decide_false, hsame]
     . simp only [hlt', decide_true, cond_true, B1, B2, hv, Option.bind_some, Bool.not_false, zg, hwr', Bool.true_and]
     . simp only [hlt', decide_true, cond_true, cond_false, B1, B2, hv, Option.bind_some, Bool.not_true, zg, hwr', Bool.true_and, hbel (a ++ b) j eab hj, xz h (qO p (a ++ b) (j : Int)) (by omega), hall hv, hln hv, decide_false, hsame]
   . have hlt' : ¬ (p.Lattice.Names.length : Int) < (p.Lattice.Names.length : Int) := by omega
     simp only [hlt', decide_false, cond_false]
   . cases hu : zft p.Lattice k p.Lattice.Names.length with
     | false => simp only [cond_false, zg, hwr]
     | true =>
       have hs : qO p (a ++ b) (k : Int) = a ++ b := zui fun x hx => by
        rw [Int.toNat_natCast]
        exact List.all_eq_true.1 hu _ (List.mem_range.2 (hg x hx))
       simp only [cond_true, hs, List.length_append, decide_true, Bool.not_true, cond_false, zg, hwr]
 . have hlt : ¬ (p.Lattice.Names.length : Int) < (p.Lattice.Names.length : Int) := by omega
   simp only [hlt, decide_false, cond_false]
end Go.Sx.O
