/-
  PLAIN LAWS: the lattice's check, exactly; the reference's too: names. An own text.
  PLAIN LAWS: lattice.of, .bound, exactly. An own text.
  PLAIN LAWS: the order's check, exactly, the program's and the reference's. An own text.
  PLAIN LAWS: the reference's check of a lattice, exactly. An own text.
  PLAIN LAWS: lattice.Check and the reference's Check say the same. An own text.
  PLAIN LAWS: lattice.Check, exactly. An own text.
  PLAIN LAWS: the reference's Leq; events that are the same. An own text.
  PLAIN LAWS: lattices: joins, meets, top, bottom. An own text.
  PLAIN LAWS: names, exactly: runes.Class, lexer.Check of a word, prims.Find, expr.Name, on both sides. An own text.
  PLAIN LAWS: expr.Name is the reference's. An own text.
  PLAIN LAWS: arrays.Check is the reference's. An own text.
  PLAIN LAWS: arrays.Check is the reference's, cells. An own text.
  PLAIN LAWS of layer 28: folds, names, values: the program's and the reference's. An own text.
  PLAIN LAWS of layer 28: the sum that stays at the ends; the values of folds. An own text.
  PLAIN LAWS of layer 28: the values of folds; Value. An own text.
  THE LAW ReleaseValues FOR DATA AS THEY COME. An own text.
  PLAIN LAWS of layer 19: labels, channels: the program's and the reference's. An own text.
  PLAIN LAWS of layer 19: variables: the program's and the reference's, where both find types alike good. An own text.
  PLAIN LAWS of layer 3: the bottom that the program finds. An own text.
  PLAIN LAWS of layer 3: the bottom that the reference finds. An own text.
  PLAIN LAWS of layer 18's labels: Check, Flows. An own text.
  PLAIN LAWS of layer 19: Good types: the program's. An own text.
  PLAIN LAWS of layer 19: policy.Good. An own text.
  PLAIN LAWS of layer 19: the reference's Good. An own text.
  PLAIN LAWS of layer 19: the reference's Good; the rules of both. An own text.
  PLAIN LAWS of layer 19: Check, Rule of both; what is not far. An own text.
  PLAIN LAWS: arrays of any length; workspaces: Wide, Fits, Zero of both. An own text.
  THE LAW PolicyFirst FOR DATA AS THEY COME. An own text.
-/
import Derived.Test.YtpblckfedfcdkaaGreatDoorP1
namespace Go.Sx.O
open Go
def zdl (ns : List (List UInt8)) (i : Nat) : Option (Int × Int) :=
 if zfv (ns.getD i []) = true then (if ns.getD i [] ∈ ns.take i then some ((i : Int), 8) else none) else some ((i : Int), 6)
def xN (ns : List (List UInt8)) : Int × Int := if ns.length < 1 \/ 8 < ns.length then (-1, 3) else (scan (zdl ns) 0 ns.length).getD (0, 0)
theorem zjk {α : Type} {l : List α} {i : Nat} {d x : α} (h : l[i]? = some x) : l.getD i d = x := by rw [List.getD_eq_getElem?_getD, h]; rfl
theorem zm9 (ns : List (List UInt8)) (h : ns.length <= 20) (hn : ∀ s ∈ ns, s.length <= 1000) : Fz24 ns = some (xN ns) := by
 unfold Fz24 xN
 simp only [List.length_map]
 by_cases h1 : ns.length < 1
 · have : (ns.length : Int) < 1 := by omega
   simp [h1, this]
 by_cases h2 : 8 < ns.length
 · have : (8 : Int) < ns.length := by omega
   have g1 : ¬ (ns.length : Int) < 1 := by omega
   simp [h2, this, g1]
 have g1 : ¬ (ns.length : Int) < 1 := by omega
 have g2 : ¬ (8 : Int) < ns.length := by omega
 simp only [g1, g2, h1, h2, decide_false, cond_false, or_self, if_false]
 rw [jc ns.length (zdl ns) () (fun k hk => ?_) (by simp)]
 · cases scan (zdl ns) 0 ns.length <;> rfl
 · obtain ⟨x, hx⟩ := zy (l := ns) (i := k) hk
   have hxl := hn x (List.mem_of_getElem? hx)
   simp only [Int.ofNat_lt, hk, decide_true, cond_true, idxO, Int.toNat_natCast, hx, Option.bind_some, letO, Int.natCast_nonneg, if_true]
   rw [zfc x (by omega), yI _ _ (by simp; omega)]
   unfold zdl
   rw [zjk hx, w64 (by omega) (by omega)]
   cases e : zfv x with
   | false => simp
   | true =>
     have hk' : k <= ns.length := by omega
     simp only [Option.bind_some, Bool.not_true, cond_false, Int.toNat_zero, List.drop_zero, if_true]
     by_cases hm : x ∈ ns.take k
     · simp [hm, zl, hk']
     · simp [hm, zl, hk']
end Go.Sx.O
namespace Go.Sx.O
open Go
def dn (l : TL) (b : Nat) : Nat -> Nat
 | 0 => 0
 | k + 1 => dn l b k ||| (if up l k b = true then 2 ^ k else 0)
theorem zhb (l : TL) (b : Nat) : ∀ (k i : Nat), (dn l b k).testBit i = (decide (i < k) && up l i b)
 | 0, i => by simp [dn]
 | k + 1, i => by
   simp only [dn, Nat.testBit_or, zhb l b k i]
   by_cases h : up l k b = true
   · simp only [h, if_true, Nat.testBit_two_pow]
     by_cases hik : i = k
     · subst hik; simp [h]
     · have h1 : ¬ k = i := fun e => hik e.symm
       have h2 : (i < k + 1) = (i < k) := by simp; omega
       simp [h1, h2]
   · simp only [h, if_false, Nat.zero_testBit, Bool.or_false]
     by_cases hik : i = k
     · subst hik; simp [h]
     · have h2 : (i < k + 1) = (i < k) := by simp; omega
       simp [h2]
theorem zoa (l : TL) (b : Nat) : ∀ k : Nat, dn l b k < 2 ^ k
 | 0 => by simp [dn]
 | k + 1 => by
   simp only [dn]
   refine Nat.or_lt_two_pow (Nat.lt_of_lt_of_le (zoa l b k) (Nat.pow_le_pow_right (by omega) (by omega))) ?_
   split
   · exact Nat.pow_lt_pow_right (by omega) (by omega)
   · exact Nat.two_pow_pos _
theorem zl7 (l : TL) (b : Nat) {k : Nat} (h : k <= 8) : dn l b k < 256 := Nat.lt_of_lt_of_le (zoa l b k) (Nat.pow_le_pow_right (n := 2) (by omega) h)
theorem zpo {c : Bool} {k : Nat} (h : k < 8) : IntKind.wrap .u8 ((if c = true then (1 : Int) else 0) * 2 ^ min k (IntKind.bits .u8)) = ((if c = true then 2 ^ k else 0 : Nat) : Int) := by
 have key : ∀ (c : Bool) (k : Fin 8), IntKind.wrap .u8 ((if c = true then (1 : Int) else 0) * 2 ^ min k.val (IntKind.bits .u8)) = ((if c = true then 2 ^ k.val else 0 : Nat) : Int) := by decide +kernel
 exact key c ⟨k, h⟩
theorem zp5 {a b : Nat} (ha : a < 256) (hb : b < 256) : bits .or .u8 (a : Int) (b : Int) = ((a ||| b : Nat) : Int) := by
 rw [zjd (by omega) (by omega) (by omega) (by omega)]; rfl
theorem zpf {a b : Nat} (ha : a < 256) (hb : b < 256) : bits .and .u8 (a : Int) (b : Int) = ((a &&& b : Nat) : Int) := by
 rw [ul (by omega) (by omega) (by omega) (by omega)]; rfl
theorem zrd {c : Bool} {k : Nat} (h : k < 8) : (if c = true then 2 ^ k else 0) < 256 := by
 split
 · exact Nat.lt_of_lt_of_le (Nat.pow_lt_pow_right (a := 2) (by omega) h) (by omega)
 · omega
theorem zje {α : Type} {l : List α} {i j : Nat} {x : α} (h : i < l.length) : (l.set i x)[j]? = if i = j then some x else l[j]? := by
 rw [List.getElem?_set]
 split
 · simp [h]
 · rfl
theorem zhf (l : TL) (hu : U8s l.Up) (hn : l.Names.length <= 8) (hl : l.Up.length = l.Names.length) :
 Tot (Fz26 l) fun o => o.n_ = l.Names.length /\ o.up_.length = 8 /\ o.down_.length = 8 /\ (∀ j, j < l.Names.length -> o.up_[j]? = l.Up[j]?) /\ ∀ b, b < l.Names.length -> o.down_[b]? = some (dn l b l.Names.length : Int) := by
 unfold Fz26
 simp only [zr, List.length_map]
 refine Tot.count l.Up.length (fun k s => s.1 = (k : Int) /\ s.2.1.length = 8 /\ s.2.2.length = 8 /\ (∀ j, j < k -> s.2.1[j]? = l.Up[j]?) /\ ∀ b, b < l.Names.length -> s.2.2[b]? = some (dn l b k : Int)) ?_ ⟨rfl, rfl, rfl, fun j hj => absurd hj (by omega), fun b hb => ?_⟩
 · rintro k ⟨i, up', down⟩ hk ⟨h0, h1, h2, h3, h4⟩
   simp only at h0 h1 h2 h3 h4
   subst h0
   simp only [zo, zw, zW, qf, qv, zr, Sum.elim_inl, Sum.elim_inr, decide_eq_true_eq, decide_eq_false_iff_not, Int.toNat_natCast]
   refine ⟨fun hlt => ?_, fun hlt => ?_⟩
   · obtain ⟨x, hx⟩ := zy (l := l.Up) (i := k) (by omega)
     obtain ⟨y, hy⟩ := zy (l := up') (i := k) (by omega)
     refine ⟨by omega, x, hx, ⟨by omega, by omega⟩, by omega, y, hy, ?_⟩
     have hx' := hu.get hx
     refine Tot.count l.Names.length (fun j s => s.1 = (j : Int) /\ s.2.length = 8 /\ ∀ b, b < l.Names.length -> s.2[b]? = some (dn l b (if b < j then k + 1 else k) : Int)) ?_ ⟨rfl, h2, fun b hb => by simpa using h4 b hb⟩
     rintro j ⟨i', d⟩ hj ⟨g0, g1, g2⟩
     simp only at g0 g1 g2
     subst g0
     simp only [zo, zw, zW, qf, qv, zr, Sum.elim_inl, Sum.elim_inr, decide_eq_true_eq, decide_eq_false_iff_not, Int.toNat_natCast]
     refine ⟨fun hlt' => ?_, fun hlt' => ?_⟩
     · have hz := g2 j (by omega)
       rw [if_neg (by omega)] at hz
       rw [w64 (by omega) (by omega)]
       refine ⟨⟨by omega, by omega⟩, by omega, _, hz, by omega, by omega, ⟨by omega, by omega⟩, by omega, _, hz, by omega, by omega, by simpa using g1, fun b hb => ?_⟩
       rw [zje (by omega)]
       by_cases hjb : j = b
       · subst hjb
         rw [if_pos rfl, if_pos (by omega), uq hx'.1 hx'.2 (by omega), <- jm hx, zpo (by omega), zp5 (zl7 l j (by omega)) (zrd (by omega))]
         rfl
       · rw [if_neg hjb, g2 b hb]
         have : (b < j + 1) = (b < j) := by simp; omega
         simp only [this]
     · rw [w64 (by omega) (by omega)]
       refine ⟨by omega, by omega, by simpa using h1, g1, fun q hq => ?_, fun b hb => ?_⟩
       · rw [zje (by omega)]
         by_cases hkq : k = q
         · subst hkq; rw [if_pos rfl, hx]
         · rw [if_neg hkq]; exact h3 q (by omega)
       · rw [g2 b hb, if_pos (by omega)]
   · have hkn : k = l.Names.length := by omega
     subst hkn
     exact ⟨trivial, h1, h2, h3, h4⟩
 · have h8 : ∀ b : Fin 8, ([0, 0, 0, 0, 0, 0, 0, 0] : List Int)[b.val]? = some 0 := by decide
   exact h8 ⟨b, by omega⟩
theorem qG {ρ : Type} {p : Prop} [Decidable p] {x : Option ρ} (h : p) : zl p x = x := by unfold zl; rw [if_pos h]
def bnd (g : Nat -> Nat) (n a b : Nat) : Option Nat := scan (fun c => if g c = g a &&& g b then some c else none) 0 n
def bndI (g : Nat -> Nat) (n a b : Nat) : Int := match bnd g n a b with | some c => c | none => -1
theorem zbd (m : List Int) (g : Nat -> Nat) (n a b : Nat) (hn : n <= 8) (hg : ∀ c, c < n -> m[c]? = some (g c : Int)) (hg8 : ∀ c, c < n -> g c < 256) (hs : ∀ c, c < n -> (g c).testBit c = true) (ha : a < n) (hb : b < n) :
 Fz27 m n a b = some (bndI g n a b) := by
 unfold Fz27 bndI bnd
 have s1 : ((0 : Int) <= (a : Int) /\ (a : Int) < ((8 : Nat) : Int)) := by omega
 have s2 : ((0 : Int) <= (b : Int) /\ (b : Int) < ((8 : Nat) : Int)) := by omega
 simp only [qG s1, qG s2]
 simp only [idxO, Int.toNat_natCast, Int.natCast_nonneg, if_true, hg a ha, hg b hb, Option.bind_some, zpf (hg8 a ha) (hg8 b hb)]
 have h8 : g a &&& g b < 256 := zc3 (hg8 a ha)
 generalize g a &&& g b = both at *
 rw [jc n (fun c => if g c = both then some (c : Int) else none) () (fun c hc => ?_) (by simp)]
 · have e : (fun c => if g c = both then some (c : Int) else none) = fun c => (if g c = both then some c else none).map (fun c : Nat => (c : Int)) := by
    funext c; split <;> rfl
   rw [e, xp]
   cases scan (fun c => if g c = both then some c else none) 0 n <;> rfl
 · have s3 : ((0 : Int) <= (c : Int) /\ (c : Int) < ((8 : Nat) : Int)) := by omega
   simp only [qG s3]
   simp only [Int.ofNat_lt, hc, decide_true, cond_true, zl, Int.natCast_nonneg, if_true, hg c hc, Option.bind_some, letO]
   rw [w64 (by omega) (by omega), uq (by omega) (by omega) (by omega)]
   simp only [Int.toNat_natCast]
   by_cases hbc : both.testBit c = true
   · simp only [hbc, if_true, decide_true, cond_true]
     rw [hg c hc]
     by_cases hgc : g c = both
     · simp [hgc]
     · have : ¬ (g c : Int) = (both : Int) := by omega
       simp [hgc, this]
   · have : g c ≠ both := fun e => hbc (e ▸ hs c hc)
     simp [hbc, this]
end Go.Sx.O
namespace Go.Sx.O
open Go
def upN (l : TL) (a : Nat) : Nat := (l.Up.getD a 0).toNat
def ordB (l : TL) (a b : Nat) : Bool := !up l a b || ((decide (b = a) || !up l b a) && (List.range l.Names.length).all fun i => !up l b i || up l a i)
def ordA (l : TL) (a : Nat) : Bool := decide (upN l a < 2 ^ l.Names.length) && up l a a && (List.range l.Names.length).all fun b => ordB l a b
def dnN (l : TL) (b : Nat) : Nat := dn l b l.Names.length
def wX (l : TL) (a b : Nat) : Bool := (bnd (upN l) l.Names.length a b).isNone || (bnd (dnN l) l.Names.length a b).isNone
def latC (l : TL) : Int × Int :=
 if (xN l.Names).2 = 0 then
  if l.Up.length = l.Names.length then
   match scan (fun a => if ordA l a = true then none else some ((a : Int), (6 : Int))) 0 l.Names.length with
   | some r => r
   | none => (scan (fun a => scan (fun b => if wX l a b = true then some ((a : Int), (4 : Int)) else none) 0 l.Names.length) 0 l.Names.length).getD (0, 0)
  else (-1, 6)
 else xN l.Names
theorem zey {α : Type} {p : Nat -> Bool} {u v : α} {n : Nat} : ∀ {j k : Nat}, k + j = n -> 0 < j -> scan (fun i => if p i = true then (if i + 1 = n then some u else none) else some v) k j = some (if (List.range j).all (fun i => p (k + i)) = true then u else v)
 | 0, _, _, h => by omega
 | j + 1, k, hk, _ => by
   have e : (List.range (j + 1)).all (fun i => p (k + i)) = (p k && (List.range j).all fun i => p (k + 1 + i)) := by
    rw [List.range_succ_eq_map, List.all_cons, List.all_map]
    congr 1
    congr 1
    funext i
    simp only [Function.comp]
    congr 1; omega
   rw [e]
   simp only [scan]
   cases hp : p k with
   | false => simp
   | true =>
     simp only [if_true, Bool.true_and]
     by_cases hj : j = 0
     · subst hj
       have : k + 1 = n := by omega
       simp [this]
     · have : ¬ k + 1 = n := by omega
       simp only [this, if_false]
       exact zey (by omega) (by omega)
theorem zjw (x : Int) (h0 : 0 <= x) (h1 : x < 256) : Tot (Fz25 x) fun y => ∀ n : Nat, n <= 8 -> decide ((n : Int) < y) = !decide (x.toNat < 2 ^ n) := by
 unfold Fz25
 rw [qf]
 refine ⟨h0, ?_⟩
 have key : ∀ l : List UInt8, (∀ x : Fin 256, ∀ n : Fin 9, (l[x.val]?.map fun y => decide ((n.val : Int) < IntKind.wrap .i64 (y.toNat : Int))) = some (!decide (x.val < 2 ^ n.val))) ->
  ∃ y, l[x.toNat]? = some y /\ Tot (letO (IntKind.wrap .i64 (y.toNat : Int)) fun z => some z) fun y => ∀ n : Nat, n <= 8 -> decide ((n : Int) < y) = !decide (x.toNat < 2 ^ n) := by
  intro l hl
  cases e : l[x.toNat]? with
  | none =>
    have := hl ⟨x.toNat, by omega⟩ ⟨0, by omega⟩
    simp only [e] at this
    cases this
  | some y =>
    refine ⟨y, rfl, .mk fun n hn => ?_⟩
    have := hl ⟨x.toNat, by omega⟩ ⟨n, by omega⟩
    simp only [e] at this
    exact Option.some.inj this
 exact key _ (by decide +kernel)
end Go.Sx.O
namespace Go.Sx.O
open Go
theorem zlj {l : TL} {a : Nat} {x : Int} (h : l.Up[a]? = some x) : upN l a = x.toNat := by unfold upN; rw [zjk h]
theorem zea {l : TL} {a b : Nat} : (upN l a).testBit b = up l a b := rfl
theorem zgu {l : TL} (hu : U8s l.Up) {a : Nat} (ha : a < l.Up.length) : upN l a < 256 := by
 obtain ⟨x, hx⟩ := zy ha
 have := hu.get hx
 rw [zlj hx]; omega
theorem zd7 {l : TL} (hu : U8s l.Up) {a : Nat} (ha : a < l.Up.length) : l.Up[a]? = some (upN l a : Int) := by
 obtain ⟨x, hx⟩ := zy ha
 have := hu.get hx
 rw [hx, zlj hx, Int.toNat_of_nonneg this.1]
end Go.Sx.O
namespace Go.Sx.O
open Go
theorem zmq (g : Nat -> Nat) (n a b : Nat) : decide (bndI g n a b < 0) = (bnd g n a b).isNone := by
 unfold bndI
 cases bnd g n a b with
 | none => rfl
 | some c => simp
theorem zqs {l : TL} (h8 : l.Names.length <= 8) (b : Nat) : dnN l b < 256 := zl7 l b h8
end Go.Sx.O
namespace Go.Sx.O
open Go
theorem zh7 (l : TL) (hu : U8s l.Up) (hn : l.Names.length <= 20) (hs : ∀ s ∈ l.Names, s.length <= 1000) : Fz29 l = some (latC l) := by
 unfold Fz29 latC
 rw [zm9 _ hn hs]
 simp only [Option.bind_some, List.length_map]
 by_cases h0 : (xN l.Names).2 = 0
 case neg => simp [h0]
 simp only [h0, decide_true, Bool.not_true, cond_false, if_true]
 by_cases hlen : l.Up.length = l.Names.length
 case neg =>
  have : ¬ (l.Up.length : Int) = l.Names.length := by omega
  simp [hlen, this]
 have h8 : 1 <= l.Names.length /\ l.Names.length <= 8 := by
  unfold xN at h0
  split at h0
  · cases h0
  · omega
 obtain ⟨h1, h8⟩ := h8
 have g0 : ((0 : Int) <= (l.Names.length : Int)) := by omega
 simp only [hlen, decide_true, Bool.not_true, cond_false, if_true, qG g0, letO, Int.toNat_natCast]
 have hmask := zg6 l.Names.length h8
 have hm0 := zgs (e := IntKind.wrap .u8 (1 * 2 ^ min l.Names.length (IntKind.bits .u8)) - 1)
 rw [jc l.Names.length (fun a => if ordA l a = true then none else some ((a : Int), (6 : Int))) () (fun a ha => ?_) (by simp)]
 · cases h1 : scan (fun a => if ordA l a = true then none else some ((a : Int), (6 : Int))) 0 l.Names.length with
   | some r => rfl
   | none =>
     simp only
     have hself : ∀ a, a < l.Names.length -> up l a a = true := by
      intro a ha
      have := scan_none.1 h1 a (by omega) (by omega)
      split at this
      · rename_i h
        unfold ordA at h
        simp only [Bool.and_eq_true] at h
        exact h.1.2
      · cases this
     obtain ⟨o, eo, _, o1, o2, o3, o4⟩ := zhf l hu h8 hlen
     rw [eo, Option.bind_some]
     rw [jc l.Names.length (fun a => scan (fun b => if wX l a b = true then some ((a : Int), (4 : Int)) else none) 0 l.Names.length) () (fun a ha => ?_) (by simp)]
     · cases scan (fun a => scan (fun b => if wX l a b = true then some ((a : Int), (4 : Int)) else none) 0 l.Names.length) 0 l.Names.length <;> rfl
     · simp only [Int.ofNat_lt, ha, decide_true, cond_true]
       rw [jc l.Names.length (fun b => if wX l a b = true then some (.inr (.inr ((a : Int), (4 : Int)))) else none) () (fun b hb => ?_) (by simp)]
       · have e : (fun b => if wX l a b = true then some (Sum.inr (Sum.inr ((a : Int), (4 : Int))) : Int ⊕ (Unit ⊕ (Int × Int))) else none) = fun b => (if wX l a b = true then some ((a : Int), (4 : Int)) else none).map fun v => .inr (.inr v) := by
          funext b; split <;> rfl
         rw [e, xp]
         cases scan (fun b => if wX l a b = true then some ((a : Int), (4 : Int)) else none) 0 l.Names.length with
         | some r => rfl
         | none =>
           simp only [Option.map_none]
           rw [w64 (by omega) (by omega)]
       · simp only [Int.ofNat_lt, hb, decide_true, cond_true]
         have n1 := zbd o.up_ (upN l) l.Names.length a b h8 (fun c hc => by rw [o3 c hc]; exact zd7 hu (by omega)) (fun c hc => zgu hu (by omega)) (fun c hc => hself c hc) ha hb
         have n2 : Fz28 o.down_ l.Names.length a b = some (bndI (dnN l) l.Names.length a b) := zbd o.down_ (dnN l) l.Names.length a b h8 (fun c hc => o4 c hc) (fun c hc => zqs h8 c) (fun c hc => by unfold dnN; rw [zhb, hself c hc]; simp [hc]) ha hb
         rw [n1, n2]
         simp only [Option.bind_some, zmq]
         rw [w64 (by omega) (by omega)]
         unfold wX
         cases (bnd (upN l) l.Names.length a b).isNone with
         | true => simp
         | false => cases (bnd (dnN l) l.Names.length a b).isNone <;> simp
 · -- one label's row
   have hxa := zd7 hu (a := a) (by omega)
   have hlt := zgu hu (a := a) (by omega)
   obtain ⟨y, ey, hy⟩ := zjw (upN l a : Int) (by omega) (by omega)
   have hy := hy l.Names.length h8
   rw [Int.toNat_natCast] at hy
   have ga : ((0 : Int) <= (a : Int)) := by omega
   have hbit : ∀ b, b < l.Names.length -> bits .and .u8 (Int.fdiv (upN l a : Int) (2 ^ min b (IntKind.bits .u8))) 1 = if up l a b = true then 1 else 0 := fun b hb => by
    rw [uq (by omega) (by omega) (by omega), Int.toNat_natCast]; rfl
   simp only [Int.ofNat_lt, ha, decide_true, cond_true, idxO, Int.toNat_natCast, if_pos ga, hxa, Option.bind_some, ey, hy, qG ga]
   simp only [hbit a ha]
   unfold ordA
   cases e1 : decide (upN l a < 2 ^ l.Names.length) with
   | false => simp
   | true =>
     simp only [Bool.not_true, cond_false, Bool.true_and]
     cases e2 : up l a a with
     | false => simp
     | true =>
       simp only [if_true, Int.reduceEq, decide_false, cond_false, Bool.true_and]
       rw [jc l.Names.length (fun b => if ordB l a b = true then (if b + 1 = l.Names.length then some (.inl ((a : Int) + 1)) else none) else some (.inr (.inr ((a : Int), (6 : Int))))) () (fun b hb => ?_) (by simp)]
       · rw [zey (by omega) (by omega)]
         simp only [Nat.zero_add]
         cases (List.range l.Names.length).all fun b => ordB l a b <;> rfl
       · have hxb := zd7 hu (a := b) (by omega)
         have hltb := zgu hu (a := b) (by omega)
         have gb : ((0 : Int) <= (b : Int)) := by omega
         have hbit' : bits .and .u8 (Int.fdiv (upN l b : Int) (2 ^ min a (IntKind.bits .u8))) 1 = if up l b a = true then 1 else 0 := by
          rw [uq (by omega) (by omega) (by omega), Int.toNat_natCast]; rfl
         simp only [Int.ofNat_lt, hb, decide_true, cond_true, Option.bind_some, Int.toNat_natCast, hxb, if_pos gb, qG gb]
         simp only [hbit b hb, hbit', w64 (e := (l.Names.length : Int) - 1) (by omega) (by omega), w64 (e := (a : Int) + 1) (by omega) (by omega), w64 (e := (b : Int) + 1) (by omega) (by omega)]
         have hnot : decide (bits .andNot .u8 (bits .and .u8 (upN l b : Int) (IntKind.wrap .u8 (IntKind.wrap .u8 (1 * 2 ^ min l.Names.length (IntKind.bits .u8)) - 1))) (upN l a : Int) = 0) = (List.range l.Names.length).all fun i => !up l b i || up l a i := by
          revert hmask hm0
          generalize IntKind.wrap .u8 (IntKind.wrap .u8 (1 * 2 ^ min l.Names.length (IntKind.bits .u8)) - 1) = mask
          intro hmask hm0
          have hand : bits .and .u8 (upN l b : Int) mask = ((upN l b &&& mask.toNat : Nat) : Int) := by
           rw [ul (by omega) (by omega) hm0.1 hm0.2, Int.toNat_natCast]
          have hlt2 : upN l b &&& mask.toNat < 256 := zc3 hltb
          rw [hand, Bool.eq_iff_iff, decide_eq_true_eq, xL (by omega) (by omega) (by omega) (by omega), List.all_eq_true]
          simp only [Int.toNat_natCast, Nat.testBit_and, hmask, zea]
          constructor
          · intro h i hi
            have := h i
            have hi' : i < l.Names.length := by simpa using hi
            cases e : up l b i with
            | false => rfl
            | true => rw [e] at this; simpa [hi'] using this
          · intro h i hi
            simp only [Bool.and_eq_true, decide_eq_true_eq] at hi
            have := h i (by simpa using hi.2)
            rw [hi.1] at this; simpa using this
         simp only [hnot]
         have hlast : decide ((b : Int) = (l.Names.length : Int) - 1) = decide (b + 1 = l.Names.length) := by
          rw [Bool.eq_iff_iff, decide_eq_true_eq, decide_eq_true_eq]; omega
         simp only [hlast]
         unfold ordB
         cases e3 : up l a b with
         | false => by_cases hl : b + 1 = l.Names.length <;> simp [hl]
         | true =>
           by_cases hba : b = a
           · subst hba
             have d2 : decide ((b : Int) = (b : Int)) = true := by simp
             cases (List.range l.Names.length).all fun i => !up l b i || up l b i with
             | false => by_cases hl : b + 1 = l.Names.length <;> simp [hl]
             | true => by_cases hl : b + 1 = l.Names.length <;> simp [hl]
           · have d2 : decide ((b : Int) = (a : Int)) = false := by simp; omega
             have d3 : decide (b = a) = false := by simp [hba]
             simp only [d2, d3]
             cases up l b a with
             | true => by_cases hl : b + 1 = l.Names.length <;> simp [hl]
             | false =>
               cases (List.range l.Names.length).all fun i => !up l b i || up l a i with
               | false => by_cases hl : b + 1 = l.Names.length <;> simp [hl]
               | true => by_cases hl : b + 1 = l.Names.length <;> simp [hl]
theorem zo7 {l : TL} (h : LatIn l) : latR l = latC l := by
 unfold latR; rw [zh7 l h.u8 h.names h.name]; rfl
end Go.Sx.O
namespace Go.Sx.O
open Go
end Go.Sx.O
namespace Go.Sx.O
open Go
theorem znt {g : Nat -> Nat} {n a b c : Nat} (h : bnd g n a b = some c) : c < n /\ g c = g a &&& g b := by
 have key : ∀ {j k : Nat}, scan (fun c => if g c = g a &&& g b then some c else none) k j = some c -> c < k + j /\ g c = g a &&& g b := by
  intro j
  induction j with
  | zero => intro k h; cases h
  | succ j ih =>
    intro k h
    simp only [scan] at h
    split at h
    · rename_i r hr
      cases h
      split at hr
      · rename_i hh; cases hr; exact ⟨by omega, hh⟩
      · cases hr
    · have := ih h
      exact ⟨by omega, this.2⟩
 have := key h
 simpa using this
theorem zao {l : TL} (h : LatIn l) (k : (latR l).2 = 0) : (∀ a, a < l.Names.length -> ordA l a = true) /\ ∀ a b, a < l.Names.length -> b < l.Names.length -> wX l a b = false := by
 rw [zo7 h] at k
 unfold latC at k
 split at k
 case isFalse h0 => exact absurd k h0
 split at k
 case isFalse => cases k
 split at k
 case h_1 r hr =>
  exfalso
  have key : ∀ {j k : Nat}, scan (fun a => if ordA l a = true then none else some ((a : Int), (6 : Int))) k j = some r -> r.2 = 6 := by
   intro j
   induction j with
   | zero => intro k h; cases h
   | succ j ih =>
     intro k h
     simp only [scan] at h
     split at h
     · rename_i r' hr'
       cases h
       split at hr'
       · cases hr'
       · cases hr'; rfl
     · exact ih h
  rw [key hr] at k; cases k
 case h_2 hord =>
  have key2 : ∀ {a j k : Nat} {r : Int × Int}, scan (fun b => if wX l a b = true then some ((a : Int), (4 : Int)) else none) k j = some r -> r.2 = 4 := by
   intro a j
   induction j with
   | zero => intro k r h; cases h
   | succ j ih =>
     intro k r h
     simp only [scan] at h
     split at h
     · rename_i r' hr'
       cases h
       split at hr'
       · cases hr'; rfl
       · cases hr'
     · exact ih h
  have key : ∀ {j k : Nat} {r : Int × Int}, scan (fun a => scan (fun b => if wX l a b = true then some ((a : Int), (4 : Int)) else none) 0 l.Names.length) k j = some r -> r.2 = 4 := by
   intro j
   induction j with
   | zero => intro k r h; cases h
   | succ j ih =>
     intro k r h
     simp only [scan] at h
     split at h
     · rename_i r' hr'
       cases h
       exact key2 hr'
     · exact ih h
  cases hs : scan (fun a => scan (fun b => if wX l a b = true then some ((a : Int), (4 : Int)) else none) 0 l.Names.length) 0 l.Names.length with
  | some r =>
    rw [hs] at k
    have := key hs
    simp only [Option.getD_some] at k
    rw [this] at k; cases k
  | none =>
    refine ⟨fun a ha => ?_, fun a b ha hb => ?_⟩
    · have h1 := scan_none.1 hord a (by omega) (by omega)
      split at h1
      · assumption
      · cases h1
    · have h1 := scan_none.1 (scan_none.1 hs a (by omega) (by omega)) b (by omega) (by omega)
      split at h1
      · cases h1
      · rename_i h2; simpa using h2
theorem znv {l : TL} (h : LatIn l) (k : (latR l).2 = 0) {a b : Nat} (ha : a < l.Names.length) (hb : b < l.Names.length) : ∃ c, bnd (dnN l) l.Names.length a b = some c /\ c < l.Names.length /\ dnN l c = dnN l a &&& dnN l b := by
 have h2 := (zao h k).2 a b ha hb
 unfold wX at h2
 cases e : bnd (dnN l) l.Names.length a b with
 | none => rw [e] at h2; simp at h2
 | some c => exact ⟨c, rfl, znt e⟩
theorem zno {l : TL} (ok : LatOK l) {a b c : Nat} (ha : a < l.Names.length) (hb : b < l.Names.length) (hc : c < l.Names.length) (h1 : up l a b = true) (h2 : up l b c = true) : up l a c = true := (ok.row a ha b hb h1).2 c hc h2
theorem zol {l : TL} {b i : Nat} : (dnN l b).testBit i = (decide (i < l.Names.length) && up l i b) := zhb l b l.Names.length i
theorem zj4 {l : TL} {a b c i : Nat} (hi : i < l.Names.length) (hg : dnN l c = dnN l a &&& dnN l b) : up l i c = (up l i a && up l i b) := by
 have h1 := congrArg (fun x => x.testBit i) hg
 simp only [Nat.testBit_and, zol, hi, decide_true, Bool.true_and] at h1
 exact h1
theorem zon {l : TL} (ok : LatOK l) {a b : Nat} (ha : a < l.Names.length) (hb : b < l.Names.length) (h1 : up l a b = true) (h2 : up l b a = true) : a = b := by
 by_cases e : b = a
 · exact e.symm
 · have := (ok.row a ha b hb h1).1 e
   rw [h2] at this; cases this
theorem zo8 {l : TL} (h : LatIn l) (k : (latR l).2 = 0) : ∃ t, t < l.Names.length /\ ∀ a, a < l.Names.length -> up l t a = true := by
 have ok := uT h k
 have key : ∀ j, j <= l.Names.length -> ∃ t, t < l.Names.length /\ ∀ a, a < j -> up l t a = true := by
  intro j
  induction j with
  | zero => intro _; exact ⟨0, ok.pos, fun a ha => absurd ha (by omega)⟩
  | succ j ih =>
    intro hj
    obtain ⟨t, ht, hall⟩ := ih (by omega)
    obtain ⟨c, _, hc, hg⟩ := znv h k ht (show j < l.Names.length by omega)
    have hcc := ok.self c hc
    rw [zj4 hc hg, Bool.and_eq_true] at hcc
    refine ⟨c, hc, fun a ha => ?_⟩
    rcases Nat.lt_or_ge a j with g | g
    · exact zno ok hc ht (by omega) hcc.1 (hall a g)
    · have : a = j := by omega
      subst this; exact hcc.2
 exact key _ (Nat.le_refl _)
def botN (l : TL) : Nat := ((List.range l.Names.length).find? fun b => (List.range l.Names.length).all fun a => up l b a).getD 0
theorem zbt {l : TL} (h : LatIn l) (k : (latR l).2 = 0) : botN l < l.Names.length /\ ∀ a, a < l.Names.length -> up l (botN l) a = true := by
 obtain ⟨t, ht, hall⟩ := zo8 h k
 unfold botN
 cases e : (List.range l.Names.length).find? fun b => (List.range l.Names.length).all fun a => up l b a with
 | none =>
   have := List.find?_eq_none.1 e t (by simpa using ht)
   exact absurd (by simp only [List.all_eq_true, List.mem_range]; exact hall) this
 | some b =>
   have h1 := List.find?_some e
   have h2 := List.mem_of_find?_eq_some e
   simp only [List.all_eq_true, List.mem_range] at h1 h2
   exact ⟨h2, h1⟩
theorem zqv {l : TL} (h : LatIn l) (k : (latR l).2 = 0) {b : Nat} (hb : b < l.Names.length) (hall : ∀ a, a < l.Names.length -> up l b a = true) : b = botN l := by
 obtain ⟨h1, h2⟩ := zbt h k
 exact zon (uT h k) hb h1 (hall _ h1) (h2 _ hb)
theorem zmo {l : TL} (h : LatIn l) (k : (latR l).2 = 0) {b : Nat} (hb : b < l.Names.length) : upN l b = 2 ^ l.Names.length - 1 ↔ b = botN l := by
 have h1 := (zao h k).1 b hb
 unfold ordA at h1
 simp only [Bool.and_eq_true, decide_eq_true_eq] at h1
 constructor
 · intro e
   refine zqv h k hb fun a ha => ?_
   rw [<- zea, e, Nat.testBit_two_pow_sub_one]
   simpa using ha
 · rintro rfl
   have h2 := (zbt h k).2
   refine Nat.eq_of_testBit_eq fun i => ?_
   rw [Nat.testBit_two_pow_sub_one]
   rcases Nat.lt_or_ge i l.Names.length with g | g
   · rw [zea, h2 i g]; simp [g]
   · rw [Nat.testBit_lt_two_pow (Nat.lt_of_lt_of_le h1.1.1 (Nat.pow_le_pow_right (by omega) g))]
     simp; omega
end Go.Sx.O
namespace Go.Sx.O
open Go
theorem zf5 (s : List UInt8) (c : Int) : Fz14 s c = some (Go.Lib.indexByte s c.toNat.toUInt8) := by
 unfold Fz14 zQ
 rfl
theorem xf (r : Int) (h0 : 0 <= r) (h1 : r < 256) : Fz17 [] r = some false := by
 unfold Fz17
 have key : Tot (Fz16 [] r) fun x => x < 0 := by
  unfold Fz16
  have e0 : decide (0 <= r) = true := by simp [h0]
  simp only [e0, cond_true]
  rw [zw]
  refine ⟨fun _ => ?_, fun h2 => ?_⟩
  · rw [zW, zr, zf5]
    simp only [zo]
    simp [Go.Lib.indexByte]
  · simp only [decide_eq_false_iff_not] at h2
    obtain ⟨x, y, exy, hy⟩ := zl9 (r := r) (by omega) h1
    have e1 : decide (r = 65533) = false := by simp; omega
    simp only [e1, cond_false, exy]
    rw [zr]
    refine (xF r).mono fun v _ => ?_
    rw [zw]
    refine ⟨fun _ => .mk (by decide), fun _ => ?_⟩
    rw [zW]
    have e2 : IntKind.wrap .i64 (((List.length [x, y] : Nat) : Int) - 1) = 1 := rfl
    rw [e2, zr]
    refine Tot.loop (fun _ => 0) (fun _ => True) (fun _ _ => ?_) trivial
    rw [zw]
    refine ⟨fun h3 => ?_, fun _ => ?_⟩
    · simp only [decide_eq_true_eq, List.length_nil] at h3
      exact absurd h3 (by decide)
    · simp only [zo, Sum.elim_inr, Sum.elim_inl]
      decide
 obtain ⟨x, e, hx⟩ := key
 rw [e]
 have : decide (0 <= x) = false := by simp; omega
 simp [this]
theorem zga (r : Int) (h0 : 0 <= r) (h1 : r < 256) : Fz15 r = some true := by
 unfold Fz15
 have e0 : decide (0 <= r) = true := by simp [h0]
 have e1 : decide (r < 55296) = true := by simp; omega
 simp only [e0, e1, cond_true]
theorem zh2 (r : Int) (h0 : 0 <= r) (h1 : r < 256) : Fz32 r = some true := by
 unfold Fz32
 simp only [letO, zhh h0 h1]
 rw [w64 (by omega) (by omega)]
 simp [zga r h0 h1]
def lowB (c : UInt8) : Bool := decide (97 <= c.toNat) && decide (c.toNat <= 122)
def digB (c : UInt8) : Bool := decide (48 <= c.toNat) && decide (c.toNat <= 57)
theorem zh6 {cs : List (List UInt8)} (hcs : cs.length = 10) (h : ∀ s ∈ cs, s.length <= 1000 /\ ∀ c ∈ s, c.toNat < 128) (h6 : cs[6]? = some []) (h8 : cs[8]? = some []) (r : Int) (h0 : 0 <= r) (h1 : r < 256) {Q : Unit ⊕ (Int × Int) -> Prop} (hQ : Q (.inl ())) (hQ' : ∀ x, x ≠ 6 -> x ≠ 8 -> Q (.inr (x, 0))) :
 Tot (lpO (fun (s : Int) => cond (decide (s < 10)) (idxO cs s fun x => letO (IntKind.wrap IntKind.i32 r) fun y => Option.bind (Fz17 x y) fun z => cond z (some (Sum.inr (Sum.inr (s, (0 : Int))))) (letO (IntKind.wrap IntKind.i64 (s + 1)) fun u => some (Sum.inl u))) (some (Sum.inr (Sum.inl ())))) 0) Q := by
 refine Tot.count 10 (fun k s => s = (k : Int)) ?_ rfl
 rintro k _ hk rfl
 simp only [zw, zo, zW, qf, zr, Sum.elim_inl, Sum.elim_inr, decide_eq_true_eq, decide_eq_false_iff_not, Int.toNat_natCast]
 refine ⟨fun hlt => ?_, fun _ => hQ⟩
 obtain ⟨x, hx⟩ := zy (l := cs) (i := k) (by omega)
 have hx' := h x (List.mem_of_getElem? hx)
 refine ⟨by omega, x, hx, ?_⟩
 rw [zhh h0 h1]
 have nx : k < 10 /\ IntKind.wrap .i64 ((k : Int) + 1) = ((k + 1 : Nat) : Int) := by
  rw [w64 (by omega) (by omega)]; exact ⟨by omega, by omega⟩
 by_cases g6 : k = 6
 · subst g6
   rw [h6] at hx; cases hx
   rw [xf r h0 h1, zo]
   exact ⟨fun e => (by cases e), fun _ => nx⟩
 by_cases g8 : k = 8
 · subst g8
   rw [h8] at hx; cases hx
   rw [xf r h0 h1, zo]
   exact ⟨fun e => (by cases e), fun _ => nx⟩
 refine (zaa x r hx'.2 hx'.1 h0 h1).mono fun _ _ => ⟨fun _ => hQ' _ (by omega) (by omega), fun _ => nx⟩
theorem xX (c : UInt8) : Tot (Fz34 (IntKind.wrap .i64 (c.toNat : Int))) fun x => (decide (x.1 = 8) = lowB c) /\ (decide (x.1 = 6) = digB c) := by
 have hc := c.toNat_lt
 rw [w64 (by omega) (by omega)]
 have h0 : (0 : Int) <= c.toNat := by omega
 have h1 : (c.toNat : Int) < 256 := by omega
 unfold Fz34 Fz33 lowB digB
 rw [zh2 _ h0 h1]
 simp only [Option.bind_some, Bool.not_true, cond_false]
 have L : ¬ (48 <= c.toNat /\ c.toNat <= 57) -> ¬ (97 <= c.toNat /\ c.toNat <= 122) -> _ := fun d1 d2 => zh6 (cs := [[], [32], [10], [40, 91], [41, 93], [34], [], [45], [], [60, 61]]) rfl (by decide) rfl rfl c.toNat h0 h1 (Q := fun a => Tot (Sum.elim (fun _ => some ((10 : Int), (0 : Int))) some a) fun (x : Int × Int) => (decide (x.1 = 8) = (decide (97 <= c.toNat) && decide (c.toNat <= 122))) /\ (decide (x.1 = 6) = (decide (48 <= c.toNat) && decide (c.toNat <= 57))))
  (.mk (by
    have a1 : (decide (97 <= c.toNat) && decide (c.toNat <= 122)) = false := by simp; omega
    have a2 : (decide (48 <= c.toNat) && decide (c.toNat <= 57)) = false := by simp; omega
    rw [a1, a2]; exact ⟨rfl, rfl⟩)) (fun x e6 e8 => .mk (by
    have a1 : (decide (97 <= c.toNat) && decide (c.toNat <= 122)) = false := by simp; omega
    have a2 : (decide (48 <= c.toNat) && decide (c.toNat <= 57)) = false := by simp; omega
    rw [a1, a2]; simp [e6, e8]))
 simp only [zw, zo, zr, decide_eq_true_eq, decide_eq_false_iff_not]
 have six : 48 <= c.toNat -> c.toNat <= 57 -> decide ((6 : Int) = 8) = (decide (97 <= c.toNat) && decide (c.toNat <= 122)) /\ decide ((6 : Int) = 6) = (decide (48 <= c.toNat) && decide (c.toNat <= 57)) := by
  intro d1 d2
  have a1 : (decide (97 <= c.toNat) && decide (c.toNat <= 122)) = false := by simp; omega
  have a2 : (decide (48 <= c.toNat) && decide (c.toNat <= 57)) = true := by simp; omega
  rw [a1, a2]; exact ⟨rfl, rfl⟩
 have eight : 97 <= c.toNat -> c.toNat <= 122 -> decide ((8 : Int) = 8) = (decide (97 <= c.toNat) && decide (c.toNat <= 122)) /\ decide ((8 : Int) = 6) = (decide (48 <= c.toNat) && decide (c.toNat <= 57)) := by
  intro d1 d2
  have a1 : (decide (97 <= c.toNat) && decide (c.toNat <= 122)) = true := by simp; omega
  have a2 : (decide (48 <= c.toNat) && decide (c.toNat <= 57)) = false := by simp; omega
  rw [a1, a2]; exact ⟨rfl, rfl⟩
 refine ⟨fun d1 => ⟨fun d2 => six (by omega) (by omega), fun d2 => ⟨fun d3 => ⟨fun d4 => eight (by omega) (by omega), fun d4 => L (by omega) (by omega)⟩, fun d3 => L (by omega) (by omega)⟩⟩, fun d1 => ⟨fun d3 => ⟨fun d4 => eight (by omega) (by omega), fun d4 => L (by omega) (by omega)⟩, fun d3 => L (by omega) (by omega)⟩⟩
def yQ (s : List UInt8) : Bool := (match s with | [] => false | c :: _ => lowB c) && s.all fun c => lowB c || digB c
theorem zmk {s : List UInt8} {p : UInt8 -> Bool} {k : Nat} {c : UInt8} (h : (s.take k).all p = true) (hc : s[k]? = some c) (hp : p c = true) : (s.take (k + 1)).all p = true := by
 rw [List.take_add_one, hc, List.all_append, h]
 simp [hp]
theorem zc8 (s : List UInt8) (h : s.length <= 1000000) : Tot (Fz37 (TK.mk 1 0 0 0 s)) fun x => decide (x = 0) = (yQ s && decide (s.length <= 16)) := by
 unfold Fz37
 dsimp only
 have e2 : decide ((1 : Int) < 1) = false := rfl
 have e3 : decide ((9 : Int) < 1) = false := rfl
 simp only [e2, e3, decide_true, cond_true, cond_false, Option.bind_some, Sum.elim_inl, Bool.and_self, Bool.not_true]
 rw [zr]
 have Qn : ∀ x : Int, yQ s = false -> Tot (Sum.elim (fun (n : Int) => cond (decide (n < (s.length : Int))) (some (3 : Int)) (some (0 : Int))) some (Sum.inr 6 : Int ⊕ Int)) fun x => decide (x = 0) = (yQ s && decide (s.length <= 16)) := by
  intro _ e
  rw [e]; exact .mk rfl
 have Qy : yQ s = true -> Tot (Sum.elim (fun (n : Int) => cond (decide (n < (s.length : Int))) (some (3 : Int)) (some (0 : Int))) some (Sum.inl 16 : Int ⊕ Int)) fun x => decide (x = 0) = (yQ s && decide (s.length <= 16)) := by
  intro e
  rw [e]
  simp only [Sum.elim_inl, zw, zo, decide_eq_true_eq, decide_eq_false_iff_not]
  refine ⟨fun g => ?_, fun g => ?_⟩
  · have : decide (s.length <= 16) = false := by simp; omega
    rw [this]; rfl
  · have : decide (s.length <= 16) = true := by simp; omega
    rw [this]; rfl
 rw [zw]
 refine ⟨fun h1 => ?_, fun h1 => ?_⟩
 · simp only [zo]
   refine Qn 0 ?_
   have : s = [] := List.length_eq_zero_iff.1 (by simpa using h1)
   rw [this]; rfl
 simp only [decide_eq_false_iff_not] at h1
 obtain ⟨c, hc⟩ := zy (l := s) (i := 0) (by omega)
 have hs0 : ∃ r, s = c :: r := by
  cases s with
  | nil => simp at hc
  | cons a r => simp at hc; exact ⟨r, by rw [hc]⟩
 have e0 : (0 : Int).toNat = 0 := rfl
 simp only [qf, zW, zr, e0]
 refine ⟨by omega, c, hc, (xX c).mono fun x hx => ?_⟩
 rw [zw]
 refine ⟨fun g => ?_, fun g => ?_⟩
 · simp only [zo]
   refine Qn 0 ?_
   obtain ⟨r, rfl⟩ := hs0
   have : lowB c = false := by rw [<- hx.1]; simpa using g
   unfold yQ; simp [this]
 have hlow : lowB c = true := by rw [<- hx.1]; simpa using g
 simp only [qf, zW, zr, e0]
 refine ⟨by omega, c, hc, (xX c).mono fun y hy => ?_⟩
 refine Tot.loop (fun (p : Int × Int) => s.length - p.2.toNat) (fun (p : Int × Int) => 0 <= p.2 /\ p.2 <= (s.length : Int) /\ (s.take p.2.toNat).all (fun c => lowB c || digB c) = true /\ ((p.2 = (s.length : Int) /\ p.1 = 10) \/ ∃ d, s[p.2.toNat]? = some d /\ decide (p.1 = 8) = lowB d /\ decide (p.1 = 6) = digB d)) ?_ ⟨by simp, by simp, by simp, .inr ⟨c, by simpa using hc, hy⟩⟩
 rintro ⟨k, a⟩ ⟨h2, h3, hall, h4⟩
 simp only at h2 h3 hall h4
 have round : (k = 8 \/ k = 6) -> ∀ {Q : (Bool × Int × Int) ⊕ (Int ⊕ Int) -> Prop}, Tot (letO (IntKind.wrap .i64 (a + 1)) fun (u : Int) => cond (decide ((s.length : Int) <= u)) (some (Sum.inl ((10 : Int), u))) (idxO s u fun (v : UInt8) => letO (IntKind.wrap .i64 (v.toNat : Int)) fun (z : Int) => Option.bind (Fz34 z) fun r => some (Sum.inl (r.1, u)))) (Sum.elim (fun (s' : Int × Int) => (0 <= s'.2 /\ s'.2 <= (s.length : Int) /\ (s.take s'.2.toNat).all (fun c => lowB c || digB c) = true /\ ((s'.2 = (s.length : Int) /\ s'.1 = 10) \/ ∃ d, s[s'.2.toNat]? = some d /\ decide (s'.1 = 8) = lowB d /\ decide (s'.1 = 6) = digB d)) /\ s.length - s'.2.toNat < s.length - a.toNat) Q) := by
  intro hk Q
  rcases h4 with ⟨g1, g2⟩ | ⟨d, hd, d1, d2⟩
  · omega
  have hlt : a.toNat < s.length := by
   rcases Nat.lt_or_ge a.toNat s.length with g | g
   · exact g
   · rw [List.getElem?_eq_none g] at hd; cases hd
  have hp : (lowB d || digB d) = true := by
   rw [<- d1, <- d2]
   rcases hk with rfl | rfl <;> rfl
  have e1 : (a + 1).toNat = a.toNat + 1 := by omega
  have hall' : (s.take (a + 1).toNat).all (fun c => lowB c || digB c) = true := by rw [e1]; exact zmk hall hd hp
  rw [zW, w64 (by omega) (by omega), zw]
  refine ⟨fun g => ?_, fun g => ?_⟩
  · simp only [decide_eq_true_eq] at g
    simp only [zo, Sum.elim_inl]
    exact ⟨⟨by omega, by omega, hall', .inl ⟨by omega, trivial⟩⟩, by omega⟩
  · simp only [decide_eq_false_iff_not] at g
    obtain ⟨d', hd'⟩ := zy (l := s) (i := (a + 1).toNat) (by omega)
    simp only [qf, zW, zr]
    refine ⟨by omega, d', hd', (xX d').mono fun z hz => ?_⟩
    simp only [zo, Sum.elim_inl]
    exact ⟨⟨by omega, by omega, hall', .inr ⟨d', hd', hz⟩⟩, by omega⟩
 rw [zw]
 refine ⟨fun g => round (.inl (by simpa using g)), fun g => ?_⟩
 rw [zw]
 refine ⟨fun g' => round (.inr (by simpa using g')), fun g' => ?_⟩
 simp only [zo, Sum.elim_inr, Sum.elim_inl, qv, zw, e0, List.drop_zero]
 refine ⟨by omega, fun hne => ?_, fun heq => ?_⟩
 · refine (zo (Q := fun x => decide (x = 0) = (yQ s && decide (s.length <= 16)))).1 (Qn 0 ?_)
   rcases h4 with ⟨g1, _⟩ | ⟨d, hd, d1, d2⟩
   · exfalso
     have : a.toNat = s.length := by omega
     rw [this, List.take_length] at hne
     simp at hne
   · unfold yQ
     have : (s.all fun c => lowB c || digB c) = false := by
      rw [List.all_eq_false]
      refine ⟨d, List.mem_of_getElem? hd, ?_⟩
      rw [<- d1, <- d2, g, g']
      simp
     rw [this, Bool.and_false]
 · have ht : s.take a.toNat = s := by simpa using heq
   rw [ht] at hall
   have hw : yQ s = true := by
    unfold yQ
    obtain ⟨r, rfl⟩ := hs0
    simp only [hall, hlow, Bool.and_self]
   rw [hw]
   refine ⟨fun g => ?_, fun g => ?_⟩
   · have : decide (s.length <= 16) = false := by simp at g ⊢; omega
     rw [this]; rfl
   · have : decide (s.length <= 16) = true := by simp at g ⊢; omega
     rw [this]; rfl
end Go.Sx.O
namespace Go.Sx.O
open Go
def uC : List (List UInt8) := [[110, 101, 103], [97, 98, 115], [110, 111, 116], [115, 104, 97, 112, 101], [114, 97, 118, 101, 108], [114, 101, 118, 101, 114, 115, 101], [102, 108, 105, 112], [105, 111, 116, 97], [115, 117, 109], [108, 101, 97, 115, 116], [109, 111, 115, 116], [99, 111, 117, 110, 116], [115, 99, 97, 110], [103, 114, 97, 100, 101], [97, 100, 100], [115, 117, 98], [109, 117, 108], [100, 105, 118], [109, 111, 100], [112, 108, 117, 115], [109, 105, 110, 117, 115], [116, 105, 109, 101, 115], [101, 113], [110, 101], [108, 116], [108, 101], [103, 116], [103, 101], [97, 110, 100], [111, 114], [109, 105, 110], [109, 97, 120], [116, 97, 107, 101], [100, 114, 111, 112], [102, 105, 108, 108], [103, 114, 105, 100], [99, 97, 116], [97, 116], [105, 110], [112, 105, 99, 107]]
theorem zc9 (s : List UInt8) : Tot (Fz31 s) fun x => decide (x.2 = 0) = decide (s ∈ uC) := by
 by_cases hm : s ∈ uC
 · have h2 : ∀ t ∈ uC, ∃ x, Fz31 t = some x /\ decide (x.2 = 0) = true := by
    unfold uC
    simp only [List.forall_mem_cons]
    repeat' constructor
    intro t ht; cases ht
   obtain ⟨x, e, hx⟩ := h2 s hm
   exact ⟨x, e, by show decide (x.2 = 0) = _; rw [hx]; simp [hm]⟩
 · have hd : decide (s ∈ uC) = false := by simp [hm]
   rw [hd]
   unfold Fz31
   unfold uC at hm
   simp only [List.mem_cons, List.not_mem_nil, or_false, not_or] at hm
   have sw : ∀ n : List UInt8, (n = s) = (s = n) := fun n => propext eq_comm
   simp only [sw, hm, decide_false, cond_false, Option.bind_some, Sum.elim_inl, zo]
   rfl
def resN : List (List UInt8) := [[118, 97, 114], [100, 101, 102], [111, 117, 116], [105, 102], [101, 108, 115, 101], [119, 104, 105, 108, 101], [101, 110, 100], [114, 101, 108, 101, 97, 115, 101], [105, 110, 116], [99, 104, 97, 114]]
def exN (s : List UInt8) : Bool := !decide (s ∈ resN) && !decide (s ∈ uC) && (yQ s && decide (s.length <= 16))
theorem xU (s : List UInt8) (h : s.length <= 1000000) : Fz38 s = some (exN s) := by
 apply Tot.eq
 unfold exN
 by_cases hm : s ∈ resN
 · have h2 : ∀ t ∈ resN, Fz38 t = some false := by
    unfold resN
    simp only [List.forall_mem_cons]
    repeat' constructor
    intro t ht; cases ht
   rw [h2 s hm, zo]
   simp [hm]
 · have hd : decide (s ∈ resN) = false := by simp [hm]
   rw [hd]
   unfold Fz38
   unfold resN at hm
   simp only [List.mem_cons, List.not_mem_nil, or_false, not_or] at hm
   change Tot (cond (decide (s = [118, 97, 114])) _ (cond (decide (s = [100, 101, 102])) _ (cond (decide (s = [111, 117, 116])) _ (cond (decide (s = [105, 102])) _ (cond (decide (s = [101, 108, 115, 101])) _ (cond (decide (s = [119, 104, 105, 108, 101])) _ (cond (decide (s = [101, 110, 100])) _ (cond (decide (s = [114, 101, 108, 101, 97, 115, 101])) _ (cond (decide (s = [105, 110, 116])) _ (cond (decide (s = [99, 104, 97, 114])) _ _)))))))))) _
   simp only [hm, decide_false, cond_false, zr]
   refine (zc9 s).mono fun x hx => ?_
   rw [hx, zw]
   refine ⟨fun g => ?_, fun g => ?_⟩
   · rw [g]; exact .mk rfl
   · rw [g, zr]
     refine (zc8 s h).mono fun y hy => .mk ?_
     rw [hy]; rfl
end Go.Sx.O
namespace Go.Sx.O
open Go
def yx (r : Int) (l : Int × Int) : Int := if r = 2 then l.1 * l.2 else if r = 1 then l.1 else 1
def shC (r : Int) (l : Int × Int) : Int :=
 if r = 0 then (if l.1 = 0 then (if l.2 = 0 then 0 else 6) else 6)
 else if r = 1 then (if l.1 < 0 then 7 else if l.2 = 0 then (if 400 < l.1 then 15 else 0) else 6)
 else if r = 2 then (if l.1 < 0 then 7 else if l.2 < 0 then 7 else if 400 < l.1 then 15 else if 400 < l.2 then 15 else if 400 < l.1 * l.2 then 15 else 0)
 else 7
theorem zkt {a b : Int} (h0 : 0 <= a) (h1 : a <= 400) (h2 : 0 <= b) (h3 : b <= 400) : 0 <= a * b /\ a * b <= 160000 :=
 ⟨Int.mul_nonneg h0 h2, by have := Int.mul_le_mul h1 h3 h2 (by omega : (0 : Int) <= 400); omega⟩
theorem uZ (r : Int) (l : Int × Int) (h : shC r l = 0) : Fz65 r l = some (yx r l) := by
 unfold Fz65 yx
 unfold shC at h
 by_cases h2 : r = 2
 · subst h2
   simp only [decide_true, cond_true, letO, if_true]
   simp (config := { decide := true }) only [if_false, if_true] at h
   split at h
   · cases h
   split at h
   · cases h
   split at h
   · cases h
   split at h
   · cases h
   have hm := zkt (a := l.1) (b := l.2) (by omega) (by omega) (by omega) (by omega)
   rw [w64 (e := 1 * l.2) (by omega) (by omega), Int.one_mul, Int.mul_comm l.2 l.1, w64 (by omega) (by omega)]
 by_cases h1 : r = 1
 · subst h1
   simp (config := { decide := true }) only [if_false, if_true] at h ⊢
   split at h
   · cases h
   split at h
   case isFalse => cases h
   split at h
   · cases h
   simp only [decide_true, cond_true, decide_false, cond_false, letO]
   rw [w64 (e := 1 * l.1) (by omega) (by omega), Int.one_mul]
 · simp [h1, h2]
theorem za8 (r : Int) (l : Int × Int) : Fz66 r l = some (shC r l) := by
 unfold Fz66
 by_cases hr : r < 0
 · have : shC r l = 7 := by unfold shC; rw [if_neg (by omega), if_neg (by omega), if_neg (by omega)]
   simp [hr, this]
 by_cases hr2 : 2 < r
 · have : shC r l = 7 := by unfold shC; rw [if_neg (by omega), if_neg (by omega), if_neg (by omega)]
   simp [hr, hr2, this]
 have e1 : decide (r < 0) = false := by simp; omega
 have e2 : decide (2 < r) = false := by simp; omega
 simp only [e1, e2, cond_false]
 rw [qG ⟨by omega, by omega⟩, qG ⟨by omega, by omega⟩]
 rw [zfm _ (by simp; omega), zfg _ (by simp; omega), zfk _ (by simp; omega)]
 obtain ⟨a, b⟩ := l
 have hp := uZ r (a, b)
 rcases (by omega : r = 0 \/ r = 1 \/ r = 2) with rfl | rfl | rfl
 · by_cases ha : a = 0 <;> by_cases hb : b = 0 <;> simp [shC, ha, hb, Fz65]
 · by_cases ha : a < 0
   · simp [shC, ha]
   by_cases hb : b = 0
   case neg => simp [shC, ha, hb]
   by_cases h4 : 400 < a
   · simp [shC, ha, hb, h4]
   have hs : shC 1 (a, b) = 0 := by simp [shC, ha, hb, h4]
   have hp' := hp hs
   rw [hb] at hp' hs
   simp [hp', hs, ha, hb, h4, yx]
 · by_cases ha : a < 0
   · simp [shC, ha]
   by_cases hb : b < 0
   · simp [shC, ha, hb]
   by_cases h4 : 400 < a
   · simp [shC, ha, hb, h4]
   by_cases h5 : 400 < b
   · simp [shC, ha, hb, h4, h5]
   have hm := zkt (a := a) (b := b) (by omega) (by omega) (by omega) (by omega)
   have hq : Fz65 2 (a, b) = some (a * b) := by
    unfold Fz65
    simp only [decide_true, cond_true, letO]
    rw [w64 (e := 1 * b) (by omega) (by omega), Int.one_mul, Int.mul_comm b a, w64 (by omega) (by omega)]
   by_cases h6 : 400 < a * b
   · simp [shC, ha, hb, h4, h5, h6, hq]
   · simp [shC, ha, hb, h4, h5, h6, hq]
theorem jJ (r : Int) (l : Int × Int) : Fz67 r l = some (if shC r l = 0 then yx r l else 0, shC r l) := by
 unfold Fz67
 rw [za8, Option.bind_some]
 by_cases h : shC r l = 0
 · simp [h, uZ r l h]
 · simp [h]
end Go.Sx.O
namespace Go.Sx.O
open Go
def wE (c : Int) : Bool := decide (0 <= c) && decide (c <= 1114111) && (decide (c < 55296) || decide (57343 < c))
def arrC (a : TA) : Int :=
 if a.Kind = 1 \/ a.Kind = 2 then
  if shC a.Rank a.Lens = 0 then
   if (a.Cells.length : Int) = yx a.Rank a.Lens then
    if a.Kind = 2 /\ (a.Cells.any fun c => !wE c) = true then 7 else 0
   else 6
  else shC a.Rank a.Lens
 else 2
theorem zk0 {r : Int} (h0 : 0 <= r) (h1 : r <= 1114111) : IntKind.wrap .i32 r = r := by
 simp only [IntKind.wrap, IntKind.signed, IntKind.bits]
 have h3 : (2 : Int) ^ 32 = 4294967296 := by decide
 have h4 : (2 : Int) ^ (32 - 1) = 2147483648 := by decide
 simp only [h3, h4, Bool.true_and, decide_eq_true_eq, ge_iff_le]
 split <;> omega
theorem zd9 (c : Int) : Fz15 c = some (wE c) := by
 unfold Fz15 wE
 by_cases h0 : 0 <= c <;> by_cases h1 : c < 55296 <;> by_cases h2 : 57343 < c <;> by_cases h3 : c <= 1114111 <;> simp [h0, h1, h2, h3] <;> omega
theorem zjp (k c : Int) : Fz68 k c = some (decide (k = 1) || wE c) := by
 unfold Fz68
 by_cases hk : k = 1
 · simp [hk]
 by_cases h0 : 0 <= c
 case neg => simp [hk, h0, wE]
 by_cases h1 : c <= 1114111
 case neg => simp [hk, h0, h1, wE]
 simp only [hk, h0, h1, decide_true, decide_false, cond_true, cond_false, letO, zk0 h0 h1, zd9, Option.bind_some, Bool.false_or]
theorem zae (l : List Int) (a : TA) (h : l.length <= 1000000000) : Fz71 l a = some (l.any fun c => !(decide (a.Kind = 1) || wE c)) := by
 unfold Fz71 Fz70
 refine uv (l := l) (fun c => !(decide (a.Kind = 1) || wE c)) (e := ()) rfl (fun k x hx hlt => ?_) (by simp)
 simp only [List.length_map, Int.ofNat_lt, hlt, decide_true, cond_true, idxO, Int.toNat_natCast, hx, Option.bind_some, letO, Int.natCast_nonneg, if_true, Fz69, zjp]
 rw [w64 (by omega) (by omega)]
 cases decide (a.Kind = 1) || wE x <;> rfl
theorem zbb (a : TA) (h : a.Cells.length <= 1000000000) : Fz72 a = some (arrC a) := by
 unfold Fz72 arrC
 rw [jJ, zae _ _ h]
 simp only [Option.bind_some, List.length_map]
 have key : cond (!decide (shC a.Rank a.Lens = 0)) (some (shC a.Rank a.Lens)) (cond (!decide ((a.Cells.length : Int) = if shC a.Rank a.Lens = 0 then yx a.Rank a.Lens else 0)) (some 6) (cond (a.Cells.any fun c => !(decide (a.Kind = 1) || wE c)) (some 7) (some (0 : Int)))) = some (if shC a.Rank a.Lens = 0 then if (a.Cells.length : Int) = yx a.Rank a.Lens then if (a.Cells.any fun c => !(decide (a.Kind = 1) || wE c)) = true then 7 else 0 else 6 else shC a.Rank a.Lens) := by
  by_cases h1 : shC a.Rank a.Lens = 0
  case neg => simp [h1]
  by_cases h2 : (a.Cells.length : Int) = yx a.Rank a.Lens
  case neg => simp [h1, h2]
  simp only [h1, h2, if_true, decide_true, Bool.not_true, cond_false]
  cases (a.Cells.any fun c => !(decide (a.Kind = 1) || wE c)) <;> rfl
 rw [key]
 by_cases k1 : a.Kind = 1
 · have : (a.Cells.any fun c => !(decide (a.Kind = 1) || wE c)) = false := by
    rw [List.any_eq_false]; intro c _; simp [k1]
   rw [this]
   simp [k1]
 by_cases k2 : a.Kind = 2
 · have : (a.Cells.any fun c => !(decide (a.Kind = 1) || wE c)) = a.Cells.any fun c => !wE c := by
    congr 1; funext c; simp [k1]
   rw [this]
   simp [k2]
 · simp [k1, k2]
end Go.Sx.O
namespace Go.Sx.O
open Go
theorem wa {σ τ ε : Type} {step : σ -> Option (σ ⊕ (ε ⊕ τ))} {k1 : ε -> Option τ} (n : Nat) (S : Nat -> σ) (f : Nat -> Option τ) (e : ε)
 (h1 : ∀ k : Nat, k < n -> step (S k) = some (match f k with | some r => .inr (.inr r) | none => .inl (S (k + 1))))
 (h2 : step (S n) = some (.inr (.inl e))) {s0 : σ} (h0 : S 0 = s0) : (lpO step s0).bind (Sum.elim k1 some) = match scan f 0 n with | some r => some r | none => k1 e := by
 subst h0
 rw [zbz n S (fun k => (f k).map Sum.inr) (.inl e) (fun k hk => by rw [h1 k hk]; cases f k <;> rfl) h2, xp]
 cases scan f 0 n <;> rfl
theorem zb8 {σ τ ε : Type} {step : σ -> Option (σ ⊕ (ε ⊕ τ))} {k1 : ε -> Option τ} (n : Nat) (S : Nat -> σ) (e : ε)
 (h1 : ∀ k : Nat, k < n -> step (S k) = some (.inl (S (k + 1)))) (h2 : step (S n) = some (.inr (.inl e))) {s0 : σ} (h0 : S 0 = s0) : (lpO step s0).bind (Sum.elim k1 some) = k1 e := by
 subst h0
 rw [zpl n S (.inl e) h1 h2]; rfl
def i64 (n : Int) : Prop := -9223372036854775808 <= n /\ n <= 9223372036854775807
end Go.Sx.O
namespace Go.Sx.O
open Go
end Go.Sx.O
namespace Go.Sx.O
open Go
end Go.Sx.O
namespace Go.Sx.O
open Go
theorem zpz {n : Int} (h : inK .u8 n) : 0 <= n /\ n < 256 := by
 have e1 : IntKind.u8.min = 0 := by decide
 have e2 : IntKind.u8.max = 255 := by decide
 unfold inK at h
 omega
end Go.Sx.O
namespace Go.Sx.O
open Go
def labB (l : TL) (a : Int) : Bool := decide (0 <= a) && decide (a < (l.Names.length : Int))
theorem jG (l : TL) (a : Int) : Fz39 l a = some (labB l a) := by
 unfold Fz39 labB
 by_cases h : 0 <= a <;> simp [h]
def nmE (s : List UInt8) (before : List (List UInt8)) : Int := if exN s = true then (if s ∈ before then 8 else 0) else 24
theorem inL_iff {α : Type} [DecidableEq α] {a : α} {l : List α} : inL a l = true ↔ a ∈ l := by
 unfold inL; simp
def chK (p : TP) (k : Nat) : Option (Int × Int) := match p.Channels[k]? with
 | some c => if nmE c.s_ ((p.Channels.take k).map (·.s_)) ≠ 0 then some ((k : Int), nmE c.s_ ((p.Channels.take k).map (·.s_))) else if labB p.Lattice c.at_ = true then none else some ((k : Int), 7)
 | none => none
def chC (p : TP) : Int × Int := if (16 : Int) < (p.Channels.length : Int) then (-1, 3) else match scan (chK p) 0 p.Channels.length with | some r => r | none => (0, 0)
theorem uO (p : TP) (hs : ∀ c ∈ p.Channels, c.s_.length <= 1000000) : Fz40 p = some (chC p) := by
 unfold Fz40 chC
 simp only [List.length_map]
 by_cases h : (16 : Int) < (p.Channels.length : Int)
 · simp [h]
 simp only [h, decide_false, cond_false, if_false]
 refine (wa p.Channels.length (fun k => ((k : Int), (p.Channels.take k).map (·.s_))) (chK p) () (fun k hk => ?_) ?_ rfl).trans ?_
 · obtain ⟨x, hx⟩ := zy hk
   have hlt : (k : Int) < (p.Channels.length : Int) := by omega
   have hw : IntKind.wrap .i64 ((k : Int) + 1) = ((k + 1 : Nat) : Int) := w64 (by omega) (by omega)
   have n1 : (0 : Int) <= (k : Int) := by omega
   have e : (p.Channels.take (k + 1)).map (·.s_) = (p.Channels.take k).map (·.s_) ++ [x.s_] := by rw [List.take_add_one, hx]; simp
   simp only [hlt, decide_true, cond_true, idxO, n1, if_true, Int.toNat_natCast, hx, Option.bind_some, letO, hw, xU x.s_ (hs x (List.mem_of_getElem? hx)), jG, chK, e]
   unfold nmE
   cases exN x.s_ with
   | false => simp
   | true =>
     cases hi : inL x.s_ ((p.Channels.take k).map (·.s_)) with
     | true =>
       have := inL_iff.1 hi
       simp only [Bool.not_true, cond_false, cond_true, if_true, if_pos this]
       simp
     | false =>
       have : ¬ x.s_ ∈ (p.Channels.take k).map (·.s_) := fun h => by rw [inL_iff.2 h] at hi; cases hi
       simp only [Bool.not_true, cond_false, if_true, if_neg this]
       cases labB p.Lattice x.at_ <;> simp
 · simp
 · cases scan (chK p) 0 p.Channels.length <;> rfl
end Go.Sx.O
namespace Go.Sx.O
open Go
def vrK (g : TY -> Int) (p : TP) (k : Nat) : Option (Int × Int) := match p.Vars[k]? with
 | some c => if nmE c.Name ((p.Vars.take k).map (·.Name)) ≠ 0 then some ((k : Int), nmE c.Name ((p.Vars.take k).map (·.Name))) else if g c.Type_ = 0 then none else some ((k : Int), g c.Type_)
 | none => none
def vrC (g : TY -> Int) (p : TP) : Int × Int := if (32 : Int) < (p.Vars.length : Int) then (-1, 3) else match scan (vrK g p) 0 p.Vars.length with | some r => r | none => (0, 0)
theorem zds (g : TY -> Int) (p : TP) (hs : ∀ c ∈ p.Vars, c.Name.length <= 1000000) (hg : ∀ c ∈ p.Vars, Fz50 p.Lattice c.Type_ = some (g c.Type_)) : Fz51 p = some (vrC g p) := by
 unfold Fz51 vrC
 simp only [List.length_map]
 by_cases h : (32 : Int) < (p.Vars.length : Int)
 · simp [h]
 simp only [h, decide_false, cond_false, if_false]
 refine (wa p.Vars.length (fun k => ((k : Int), (p.Vars.take k).map (·.Name))) (vrK g p) () (fun k hk => ?_) ?_ rfl).trans ?_
 · obtain ⟨x, hx⟩ := zy hk
   have hlt : (k : Int) < (p.Vars.length : Int) := by omega
   have hw : IntKind.wrap .i64 ((k : Int) + 1) = ((k + 1 : Nat) : Int) := w64 (by omega) (by omega)
   have n1 : (0 : Int) <= (k : Int) := by omega
   have e : (p.Vars.take (k + 1)).map (·.Name) = (p.Vars.take k).map (·.Name) ++ [x.Name] := by rw [List.take_add_one, hx]; simp
   simp only [hlt, decide_true, cond_true, idxO, n1, if_true, Int.toNat_natCast, hx, Option.bind_some, letO, hw, xU x.Name (hs x (List.mem_of_getElem? hx)), hg x (List.mem_of_getElem? hx), vrK, e]
   unfold nmE
   cases exN x.Name with
   | false => simp
   | true =>
     cases hi : inL x.Name ((p.Vars.take k).map (·.Name)) with
     | true =>
       have := inL_iff.1 hi
       simp only [Bool.not_true, cond_false, cond_true, if_true, if_pos this]
       simp
     | false =>
       have : ¬ x.Name ∈ (p.Vars.take k).map (·.Name) := fun h => by rw [inL_iff.2 h] at hi; cases hi
       simp only [Bool.not_true, cond_false, if_true, if_neg this]
       by_cases hz : g x.Type_ = 0 <;> simp [hz]
 · simp
 · cases scan (vrK g p) 0 p.Vars.length <;> rfl
end Go.Sx.O
namespace Go.Sx.O
open Go
theorem zib (x : Int) (h0 : 0 <= x) (h1 : x < 256) : Tot (Fz42 x) fun y => ∀ n : Nat, n <= 8 -> x.toNat < 2 ^ n -> decide (y < (n : Int)) = !decide (x.toNat = 2 ^ n - 1) := by
 unfold Fz42
 rw [qf]
 refine ⟨h0, ?_⟩
 have key : ∀ l : List UInt8, (∀ x : Fin 256, ∀ n : Fin 9, (l[x.val]?.map fun y => decide (x.val < 2 ^ n.val -> decide (IntKind.wrap .i64 (y.toNat : Int) < (n.val : Int)) = !decide (x.val = 2 ^ n.val - 1))) = some true) ->
  ∃ y, l[x.toNat]? = some y /\ Tot (letO (IntKind.wrap .i64 (y.toNat : Int)) fun z => some z) fun y => ∀ n : Nat, n <= 8 -> x.toNat < 2 ^ n -> decide (y < (n : Int)) = !decide (x.toNat = 2 ^ n - 1) := by
  intro l hl
  cases e : l[x.toNat]? with
  | none =>
    have := hl ⟨x.toNat, by omega⟩ ⟨0, by omega⟩
    simp only [e] at this
    cases this
  | some y =>
    refine ⟨y, rfl, .mk fun n hn hx => ?_⟩
    have := hl ⟨x.toNat, by omega⟩ ⟨n, by omega⟩
    simp only [e, Option.map_some, Option.some.injEq, decide_eq_true_eq] at this
    exact this hx
 exact key _ (by decide +kernel)
theorem zme {l : TL} (h : LatIn l) : Fz44 l = some (if (latR l).2 = 0 then ((botN l : Int), 0) else (0, (latR l).2)) := by
 unfold Fz44
 rw [zh0 h [] (by simp)]
 simp only [Option.bind_some, askE, List.all_nil, if_true]
 by_cases hk : (latR l).2 = 0
 case neg => simp [hk]
 have ok := uT h hk
 simp only [hk, if_true, decide_true, Bool.not_true, cond_false]
 obtain ⟨o, e1, on, ol, _, ou, _⟩ := zhf l ok.u8 ok.le ok.len
 rw [e1]
 simp only [Option.bind_some]
 have hb := (zbt h hk).1
 have hend : Fz43 o.up_ o.n_ = some (botN l : Int) := by
  unfold Fz43
  rw [on]
  have hw : IntKind.wrap .i64 ((l.Names.length : Int) - 1) = ((l.Names.length - 1 : Nat) : Int) := by
   have := ok.pos; have := ok.le
   rw [w64 (by omega) (by omega)]; omega
  have hle := ok.le
  have hpos := ok.pos
  have hrun := zbz (step := fun (s585 : Int) =>
   letO (IntKind.wrap IntKind.i64 ((l.Names.length : Int) - (1 : Int))) fun x591 =>
   cond (decide (s585 < x591))
   (zl ((0 : Int) <= s585 /\ s585 < (↑(8 : Nat) : Int)) (
   idxO (o.up_) ((↑(Int.toNat s585) : Int)) fun x593 =>
   Option.bind (Fz42 (x593)) fun x594 =>
   cond (decide (x594 < (l.Names.length : Int)))
   (letO (IntKind.wrap IntKind.i64 (s585 + (1 : Int))) fun x596 =>
   some (Sum.inl (x596)))
   (some (Sum.inr (Sum.inl (β := Int) s585)))))
   (some (Sum.inr (Sum.inl s585)))) (l.Names.length - 1) (fun k => (k : Int)) (fun k => if k = botN l then some (Sum.inl (k : Int)) else none) (Sum.inl ((l.Names.length - 1 : Nat) : Int)) (fun k hk2 => by
     have hlt : (k : Int) < ((l.Names.length - 1 : Nat) : Int) := by omega
     have n1 : (0 : Int) <= (k : Int) := by omega
     have n2 : (k : Int) < ((8 : Nat) : Int) := by omega
     have hw2 : IntKind.wrap .i64 ((k : Int) + 1) = ((k + 1 : Nat) : Int) := w64 (by omega) (by omega)
     obtain ⟨x, hx⟩ := zy (l := l.Up) (i := k) (by have := ok.len; omega)
     have hx' := ok.u8.get hx
     have hox : o.up_[k]? = some x := by rw [ou k (by omega)]; exact hx
     obtain ⟨y, ey, hy⟩ := zib x hx'.1 hx'.2
     have hux : x.toNat = upN l k := by unfold upN; rw [List.getD_eq_getElem?_getD, hx]; rfl
     have hf := zmo h hk (b := k) (by omega)
     have hlt2 : x.toNat < 2 ^ l.Names.length := by
      have h1 := (zao h hk).1 k (by omega)
      unfold ordA at h1
      simp only [Bool.and_eq_true, decide_eq_true_eq] at h1
      rw [hux]; exact h1.1.1
     have hd := hy l.Names.length hle hlt2
     rw [hux] at hd
     simp only [letO, hw, hlt, decide_true, cond_true, zl, n1, n2, and_self, if_true, idxO, Int.toNat_natCast, hox, Option.bind_some, ey, hw2, hd]
     by_cases hq : k = botN l
     · have := hf.2 hq
       simp only [this, if_pos hq, decide_true, Bool.not_true, cond_false]
     · have : ¬ upN l k = 2 ^ l.Names.length - 1 := fun e => hq (hf.1 e)
       simp only [this, if_neg hq, decide_false, Bool.not_false, cond_true]) (by
     simp only [letO, hw]
     simp)
  have hs0 : ((0 : Nat) : Int) = 0 := rfl
  simp only [hs0] at hrun
  rw [hrun]
  have hsc : (scan (fun k => if k = botN l then some (Sum.inl (α := Int) (β := Int) (k : Int)) else none) 0 (l.Names.length - 1)).getD (Sum.inl ((l.Names.length - 1 : Nat) : Int)) = Sum.inl (botN l : Int) := by
   cases e : scan (fun k => if k = botN l then some (Sum.inl (α := Int) (β := Int) (k : Int)) else none) 0 (l.Names.length - 1) with
   | some r =>
     have : r = Sum.inl (botN l : Int) := zb5 (v := Sum.inl (botN l : Int)) (fun i => by
      by_cases hi : i = botN l
      · exact .inl (by rw [if_pos hi, hi])
      · exact .inr (by rw [if_neg hi])) e
     rw [this]; rfl
   | none =>
     have hn := scan_none.1 e
     rcases Nat.lt_or_ge (botN l) (l.Names.length - 1) with g | g
     · have := hn (botN l) (by omega) (by omega)
       simp at this
     · have : botN l = l.Names.length - 1 := by omega
       rw [this]; rfl
  rw [hsc]
  rfl
 rw [hend]
 rfl
end Go.Sx.O
namespace Go.Sx.O
open Go
end Go.Sx.O
namespace Go.Sx.O
open Go
theorem zkn {l : TL} (hu : U8s l.Up) {a b : Nat} (ha : a < l.Up.length) (hb : b <= 8) : Fz46 l a b = some (up l a b) := by
 unfold Fz46
 obtain ⟨x, hx⟩ := zy ha
 have hx' := hu.get hx
 have key : ∀ u : Fin 256, ∀ b : Fin 9, decide (bits .and .u8 (Int.fdiv (u.val : Int) (2 ^ min b.val (IntKind.bits .u8))) 1 = 1) = Nat.testBit u b := by decide +kernel
 have := key ⟨x.toNat, by omega⟩ ⟨b, by omega⟩
 simp only [Int.toNat_of_nonneg hx'.1] at this
 simp only [Int.natCast_nonneg, idxO, Int.toNat_natCast, if_true, hx, Option.bind_some, zl, this, jm hx]
theorem zct {l : TL} (h : LatIn l) (hk : (latR l).2 = 0) (xs : List Int) (hx : xs.length <= 64) (hl : ∀ x ∈ xs, wv l x = true) : Fz45 l xs = some (0, 0) := by
 unfold Fz45
 rw [xW h]
 have h64 : ¬ (64 : Int) < (xs.length : Int) := by omega
 simp only [Option.bind_some, hk, decide_true, Bool.not_true, cond_false, List.length_map, h64, decide_false]
 refine (zb8 xs.length (fun k => (k : Int)) () (fun k hk => ?_) (by simp) rfl).trans rfl
 obtain ⟨x, hx⟩ := zy hk
 have hq := hl x (List.mem_of_getElem? hx)
 unfold wv at hq
 simp only [Bool.and_eq_true, decide_eq_true_eq] at hq
 have hlt : (k : Int) < (xs.length : Int) := by omega
 have hw : IntKind.wrap .i64 ((k : Int) + 1) = ((k + 1 : Nat) : Int) := w64 (by omega) (by omega)
 have n1 : (0 : Int) <= (k : Int) := by omega
 have n2 : ¬ x < 0 := by omega
 have n3 : ¬ (l.Names.length : Int) <= x := by omega
 simp only [hlt, decide_true, cond_true, idxO, n1, if_true, Int.toNat_natCast, hx, Option.bind_some, letO, hw, n2, n3, decide_false, cond_false]
def flK (l : TL) (xs : List Int) (a : Int) (k : Nat) : Option Int := match xs[k]? with
 | some x => if up l x.toNat a.toNat = true then none else some (k : Int)
 | none => none
def flV (l : TL) (xs : List Int) (a : Int) : Int × Int := match scan (flK l xs a) 0 xs.length with | some r => (r, 25) | none => (0, 0)
theorem znf {l : TL} (h : LatIn l) (hk : (latR l).2 = 0) (xs : List Int) (hx : xs.length <= 64) (hl : ∀ x ∈ xs, wv l x = true) (a : Int) (ha : wv l a = true) :
 Fz49 l xs a = some (flV l xs a) := by
 have ok := uT h hk
 have hle := ok.le
 have hlen := ok.len
 unfold Fz49
 rw [zct h hk xs hx hl]
 unfold wv at ha
 simp only [Bool.and_eq_true, decide_eq_true_eq] at ha
 have n2 : ¬ a < 0 := by omega
 have n3 : ¬ (l.Names.length : Int) <= a := by omega
 simp only [Option.bind_some, decide_true, Bool.not_true, cond_false, n2, n3, decide_false, List.length_map]
 have hi : Fz48 xs (l, a) = some (match scan (flK l xs a) 0 xs.length with | some r => r | none => -1) := by
  unfold Fz48
  simp only [List.length_map]
  refine (wa xs.length (fun k => (k : Int)) (flK l xs a) () (fun k hk => ?_) (by simp) rfl).trans ?_
  · obtain ⟨x, hx⟩ := zy hk
    have hq := hl x (List.mem_of_getElem? hx)
    unfold wv at hq
    simp only [Bool.and_eq_true, decide_eq_true_eq] at hq
    have hlt : (k : Int) < (xs.length : Int) := by omega
    have hw : IntKind.wrap .i64 ((k : Int) + 1) = ((k + 1 : Nat) : Int) := w64 (by omega) (by omega)
    have n1 : (0 : Int) <= (k : Int) := by omega
    have hb : Fz46 l x a = some (up l x.toNat a.toNat) := by
     have := zkn ok.u8 (a := x.toNat) (b := a.toNat) (by omega) (by omega)
     rwa [Int.toNat_of_nonneg hq.1, Int.toNat_of_nonneg ha.1] at this
    simp only [hlt, decide_true, cond_true, idxO, n1, if_true, Int.toNat_natCast, hx, Option.bind_some, letO, hw, Fz47, hb, flK]
    cases up l x.toNat a.toNat <;> simp
  · cases scan (flK l xs a) 0 xs.length <;> rfl
 rw [hi]
 unfold flV
 cases e : scan (flK l xs a) 0 xs.length with
 | none => simp
 | some r =>
   have : 0 <= r := by
    have key : ∀ {j k : Nat} {b : Int}, scan (flK l xs a) k j = some b -> 0 <= b := by
     intro j
     induction j with
     | zero => intro k b h; cases h
     | succ j ih =>
       intro k b h
       simp only [scan] at h
       cases hf : flK l xs a k with
       | none => rw [hf] at h; exact ih h
       | some z =>
         rw [hf] at h
         cases h
         unfold flK at hf
         split at hf
         · split at hf
           · cases hf
           · cases hf; omega
         · cases hf
    exact key e
   simp [this]
end Go.Sx.O
namespace Go.Sx.O
open Go
noncomputable def jR (l : TL) (t : TY) : Int :=
 if t.Rank < 0 \/ 2 < t.Rank then 7
 else if labB l t.Axes.1 = true /\ labB l t.Axes.2 = true /\ labB l t.Data = true then
  if ([t.Axes.1, t.Axes.2].drop t.Rank.toNat).all (fun x => decide (x = (botN l : Int))) = true then
   if ([t.Axes.1, t.Axes.2].take t.Rank.toNat).all (fun x => up l x.toNat t.Data.toNat) = true then 0 else 25
  else 6
 else 7
noncomputable def yg (l : TL) (t : TY) : Int := if (latR l).2 = 0 then (if t.Kind = 1 \/ t.Kind = 2 then jR l t else 7) else (latR l).2
theorem zlv {β : Type} (v : β) (b : Int) (xs : List Int) (hx : xs.length <= 2) : scan (fun k => match xs[k]? with | some x => if x = b then none else some v | none => none) 0 xs.length = if xs.all (fun x => decide (x = b)) = true then none else some v := by
 match xs, hx with
 | [], _ => rfl
 | [x], _ => by_cases h : x = b <;> simp [scan, h]
 | [x, y], _ => by_cases h : x = b <;> by_cases g : y = b <;> simp [scan, h, g]
theorem zmj (l : TL) (a : Int) (xs : List Int) (hx : xs.length <= 2) : (flV l xs a).2 = if xs.all (fun x => up l x.toNat a.toNat) = true then 0 else 25 := by
 match xs, hx with
 | [], _ => rfl
 | [x], _ => cases h : up l x.toNat a.toNat <;> simp [flV, scan, flK, h]
 | [x, y], _ => cases h : up l x.toNat a.toNat <;> cases g : up l y.toNat a.toNat <;> simp [flV, scan, flK, h, g]
theorem zk2 {l : TL} (h : LatIn l) (hk : (latR l).2 = 0) (t : TY) (hr : ¬ (t.Rank < 0 \/ 2 < t.Rank)) (l1 : labB l t.Axes.1 = true) (l2 : labB l t.Axes.2 = true) (l3 : labB l t.Data = true) :
 (Option.bind (lpO (fun (s612 : Int) =>
 cond (decide (s612 < (↑(List.length (List.drop (Int.toNat t.Rank) (List.take (Int.toNat (↑(2 : Nat) : Int)) [SV.int IntKind.i64 t.Axes.fst, SV.int IntKind.i64 t.Axes.snd]))) : Int)))
 (idxO (List.drop (Int.toNat t.Rank) (List.take (Int.toNat (↑(2 : Nat) : Int)) [t.Axes.fst, t.Axes.snd])) (s612) fun x617 =>
 cond (!decide (x617 = (botN l : Int)))
 (some (Sum.inr (Sum.inr ((6 : Int)))))
 (letO (IntKind.wrap IntKind.i64 (s612 + (1 : Int))) fun x619 =>
 some (Sum.inl (x619))))
 (some (Sum.inr (Sum.inl (()))))) ((0 : Int)))
 (Sum.elim (fun (_ : Unit) =>
 zl ((0 : Int) <= t.Rank /\ t.Rank <= (↑(2 : Nat) : Int)) (
 Option.bind (Fz49 l (List.drop (Int.toNat (0 : Int)) (List.take (Int.toNat t.Rank) [t.Axes.fst, t.Axes.snd])) (t.Data)) fun x653 =>
 cond (!decide (x653.snd = (0 : Int)))
 (some (x653.snd))
 (some ((0 : Int))))) some)) = some (jR l t) := by
 have e0 : List.take (Int.toNat ((2 : Nat) : Int)) [t.Axes.fst, t.Axes.snd] = [t.Axes.fst, t.Axes.snd] := rfl
 have e1 : List.take (Int.toNat ((2 : Nat) : Int)) [SV.int IntKind.i64 t.Axes.fst, SV.int IntKind.i64 t.Axes.snd] = [SV.int IntKind.i64 t.Axes.fst, SV.int IntKind.i64 t.Axes.snd] := rfl
 have e2 : List.drop (Int.toNat 0) (List.take (Int.toNat t.Rank) [t.Axes.fst, t.Axes.snd]) = List.take (Int.toNat t.Rank) [t.Axes.fst, t.Axes.snd] := rfl
 rw [e0, e1, e2]
 have hlen : (List.drop (Int.toNat t.Rank) [SV.int IntKind.i64 t.Axes.fst, SV.int IntKind.i64 t.Axes.snd]).length = (List.drop (Int.toNat t.Rank) [t.Axes.fst, t.Axes.snd]).length := by simp
 rw [hlen]
 have hd2 : (List.drop (Int.toNat t.Rank) [t.Axes.fst, t.Axes.snd]).length <= 2 := by simp
 have ht2 : (List.take (Int.toNat t.Rank) [t.Axes.fst, t.Axes.snd]).length <= 2 := by simp; omega
 have htl : ∀ x ∈ List.take (Int.toNat t.Rank) [t.Axes.fst, t.Axes.snd], wv l x = true := fun x hx => by
  have := List.mem_of_mem_take hx
  simp only [List.mem_cons, List.not_mem_nil, or_false] at this
  rcases this with rfl | rfl
  · exact l1
  · exact l2
 unfold jR
 rw [if_neg hr, if_pos ⟨l1, l2, l3⟩]
 generalize hD : List.drop (Int.toNat t.Rank) [t.Axes.fst, t.Axes.snd] = D at hd2 ⊢
 generalize hT : List.take (Int.toNat t.Rank) [t.Axes.fst, t.Axes.snd] = T at ht2 htl ⊢
 refine (wa D.length (fun k => (k : Int)) (fun k => match D[k]? with | some x => if x = (botN l : Int) then none else some (6 : Int) | none => none) () (fun k hk => ?_) (by simp) rfl).trans ?_
 · obtain ⟨x, hx⟩ := zy hk
   have hlt : (k : Int) < (D.length : Int) := by omega
   have hw : IntKind.wrap .i64 ((k : Int) + 1) = ((k + 1 : Nat) : Int) := w64 (by omega) (by omega)
   have n1 : (0 : Int) <= (k : Int) := by omega
   simp only [hlt, decide_true, cond_true, idxO, n1, if_true, Int.toNat_natCast, hx, Option.bind_some, letO, hw]
   by_cases hb : x = (botN l : Int) <;> simp [hb]
 · rw [zlv (6 : Int) (botN l : Int) D hd2]
   by_cases hall : D.all (fun x => decide (x = (botN l : Int))) = true
   · simp only [hall, if_true]
     unfold zl
     rw [if_pos (by omega), znf h hk T (by omega) htl t.Data l3]
     have := zmj l t.Data T ht2
     simp only [Option.bind_some]
     rw [this]
     split <;> rfl
   · rw [if_neg hall, if_neg hall]
end Go.Sx.O
namespace Go.Sx.O
open Go
theorem zd3 {l : TL} (h : LatIn l) (t : TY) : Fz50 l t = some (yg l t) := by
 unfold Fz50 yg
 rw [zme h]
 by_cases hk : (latR l).2 = 0
 case neg => simp [hk]
 simp only [hk, if_true, Option.bind_some, decide_true, Bool.not_true, cond_false, jG]
 by_cases r1 : t.Rank < 0
 · by_cases k1 : t.Kind = 1 <;> by_cases k2 : t.Kind = 2 <;> simp [k1, k2, r1, jR]
 by_cases r2 : 2 < t.Rank
 · by_cases k1 : t.Kind = 1 <;> by_cases k2 : t.Kind = 2 <;> simp [k1, k2, r1, r2, jR]
 have hr : ¬ (t.Rank < 0 \/ 2 < t.Rank) := by omega
 have hside : (0 : Int) <= t.Rank /\ t.Rank <= ((2 : Nat) : Int) := by omega
 cases l1 : labB l t.Axes.fst with
 | false => by_cases k1 : t.Kind = 1 <;> by_cases k2 : t.Kind = 2 <;> simp [k1, k2, r1, r2, jR, l1]
 | true =>
   cases l2 : labB l t.Axes.snd with
   | false => by_cases k1 : t.Kind = 1 <;> by_cases k2 : t.Kind = 2 <;> simp [k1, k2, r1, r2, jR, l1, l2]
   | true =>
     cases l3 : labB l t.Data with
     | false => by_cases k1 : t.Kind = 1 <;> by_cases k2 : t.Kind = 2 <;> simp [k1, k2, r1, r2, jR, l1, l2, l3]
     | true =>
       have key := zk2 h hk t hr l1 l2 l3
       simp only [Bool.not_true, cond_false, r1, r2, decide_false]
       by_cases k1 : t.Kind = 1
       · simp only [k1, decide_true, Bool.not_true, cond_false, true_or, if_true]
         rw [zl, if_pos hside]
         exact key
       · by_cases k2 : t.Kind = 2
         · simp only [k1, k2, decide_true, decide_false, Bool.not_true, Bool.not_false, cond_true, cond_false, or_true, if_true]
           rw [zl, if_pos hside]
           exact key
         · simp [k1, k2]
end Go.Sx.O
namespace Go.Sx.O
open Go
end Go.Sx.O
namespace Go.Sx.O
open Go
def ckK {α τ : Type} (c : α -> Bool) (v : τ) (L : List α) (j : Nat) : Option τ := match L[j]? with | some y => if c y = true then some v else none | none => none
theorem zb6 {α τ : Type} (c : α -> Bool) (v : τ) (L : List α) (n : Nat) (hn : n <= L.length) : scan (ckK c v L) 0 n = if (L.take n).any c = true then some v else none := by
 by_cases h : (L.take n).any c = true
 · rw [if_pos h]
   cases e : scan (ckK c v L) 0 n with
   | some r =>
     have : r = v := zb5 (v := v) (fun i => by
      unfold ckK
      cases L[i]? with
      | none => exact .inr rfl
      | some x => by_cases hx : c x = true <;> simp [hx]) e
     rw [this]
   | none =>
     exfalso
     rw [List.any_eq_true] at h
     obtain ⟨x, hx, hc⟩ := h
     obtain ⟨i, hi, hxi⟩ := List.getElem_of_mem hx
     rw [List.length_take] at hi
     have := scan_none.1 e i (by omega) (by omega)
     rw [List.getElem_take] at hxi
     unfold ckK at this
     rw [List.getElem?_eq_getElem (by omega), hxi] at this
     simp [hc] at this
 · rw [if_neg h, scan_none]
   intro i _ hi
   unfold ckK
   obtain ⟨x, hx⟩ := zy (l := L) (i := i) (by omega)
   rw [hx]
   have : ¬ c x = true := fun hc => h (by
    rw [List.any_eq_true]
    exact ⟨x, List.mem_take_iff_getElem.2 ⟨i, by omega, by rw [List.getElem?_eq_getElem (by omega)] at hx; exact Option.some.inj hx⟩, hc⟩)
   simp [this]
def zft (x y : TU) : Bool := decide (y.From = x.From) && decide (y.Goal = x.Goal)
def rlK (p : TP) (k : Nat) : Option (Int × Int) := match p.Rules[k]? with
 | some x => if labB p.Lattice x.From = true then (if labB p.Lattice x.Goal = true then (if x.From = x.Goal then some ((k : Int), 25) else if up p.Lattice x.Goal.toNat x.From.toNat = true then (if (p.Rules.take k).any (zft x) = true then some ((k : Int), 8) else if x.K < 2 then some ((k : Int), 3) else if 400 < x.K then some ((k : Int), 3) else none) else some ((k : Int), 25)) else some ((k : Int), 7)) else some ((k : Int), 7)
 | none => none
def rlC (p : TP) : Int × Int := if (64 : Int) < (p.Rules.length : Int) then (-1, 3) else match scan (rlK p) 0 p.Rules.length with | some r => r | none => (0, 0)
theorem zoy (x : TU) (L : List TU) : inL (x.From, x.Goal) (L.map fun y => (y.From, y.Goal)) = L.any (zft x) := by
 rw [Bool.eq_iff_iff, inL_iff, List.any_eq_true]
 simp only [List.mem_map, Prod.mk.injEq, zft, Bool.and_eq_true, decide_eq_true_eq]
theorem zpk {x : Int} (h0 : 0 <= x) (h1 : x < 256) {b : Nat} (hb : b <= 8) : decide (bits .and .u8 (Int.fdiv x (2 ^ min b (IntKind.bits .u8))) 1 = 0) = !Nat.testBit x.toNat b := by
 have key : ∀ u : Fin 256, ∀ b : Fin 9, decide (bits .and .u8 (Int.fdiv (u.val : Int) (2 ^ min b.val (IntKind.bits .u8))) 1 = 0) = !Nat.testBit u b := by decide +kernel
 have := key ⟨x.toNat, by omega⟩ ⟨b, by omega⟩
 simpa only [Int.toNat_of_nonneg h0] using this
theorem zdo (p : TP) (h : LatIn p.Lattice) (hk : (latR p.Lattice).2 = 0) : Fz52 p = some (rlC p) := by
 have ok := uT h hk
 have hle := ok.le
 have hlen := ok.len
 unfold Fz52 rlC
 simp only [List.length_map]
 by_cases h6 : (64 : Int) < (p.Rules.length : Int)
 · simp [h6]
 simp only [h6, decide_false, cond_false, if_false]
 refine (wa p.Rules.length (fun k => ((k : Int), (p.Rules.take k).map fun y => (y.From, y.Goal))) (rlK p) () (fun k hk => ?_) ?_ rfl).trans ?_
 · obtain ⟨x, hx⟩ := zy hk
   have hlt : (k : Int) < (p.Rules.length : Int) := by omega
   have hw : IntKind.wrap .i64 ((k : Int) + 1) = ((k + 1 : Nat) : Int) := w64 (by omega) (by omega)
   have n1 : (0 : Int) <= (k : Int) := by omega
   have e : (p.Rules.take (k + 1)).map (fun y => (y.From, y.Goal)) = (p.Rules.take k).map (fun y => (y.From, y.Goal)) ++ [(x.From, x.Goal)] := by rw [List.take_add_one, hx]; simp
   simp only [hlt, decide_true, cond_true, idxO, n1, if_true, Int.toNat_natCast, hx, Option.bind_some, letO, hw, jG, rlK, e, zoy]
   cases l1 : labB p.Lattice x.From with
   | false => simp
   | true =>
     cases l2 : labB p.Lattice x.Goal with
     | false => simp
     | true =>
       unfold labB at l1 l2
       simp only [Bool.and_eq_true, decide_eq_true_eq] at l1 l2
       obtain ⟨u, hu⟩ := zy (l := p.Lattice.Up) (i := x.Goal.toNat) (by omega)
       have hu' := ok.u8.get hu
       have hb := zpk hu'.1 hu'.2 (b := x.From.toNat) (by omega)
       have n2 : (0 : Int) <= x.Goal := l2.1
       have n3 : (0 : Int) <= x.From := l1.1
       simp only [Bool.not_true, cond_false, n2, if_true, hu, Option.bind_some, zl, n3, hb, jm hu]
       by_cases hfg : x.From = x.Goal
       · simp [hfg]
       cases hbt : Nat.testBit u.toNat x.From.toNat with
       | false => simp [hfg]
       | true =>
         cases (p.Rules.take k).any (zft x) with
         | true => simp [hfg]
         | false =>
           by_cases k2 : x.K < 2
           · simp [hfg, k2]
           · by_cases k4 : 400 < x.K <;> simp [hfg, k2, k4]
 · simp
 · cases scan (rlK p) 0 p.Rules.length <;> rfl
end Go.Sx.O
namespace Go.Sx.O
open Go
structure PolIn (p : TP) : Prop where
 lat : LatIn p.Lattice
 chan : ∀ c ∈ p.Channels, c.s_.length <= 1000000
 var : ∀ c ∈ p.Vars, c.Name.length <= 1000000
noncomputable def polC (p : TP) : Int × Int × Int :=
 if (latR p.Lattice).2 = 0 then (if (chC p).2 = 0 then (if (vrC (yg p.Lattice) p).2 = 0 then (if (rlC p).2 = 0 then (0, 0, 0) else (4, rlC p)) else (3, vrC (yg p.Lattice) p)) else (2, chC p)) else (1, latR p.Lattice)
theorem zay {τ : Type} {P : τ -> Prop} {f : Nat -> Option τ} (hf : ∀ i r, f i = some r -> P r) : ∀ {n k r}, scan f k n = some r -> P r := by
 intro n
 induction n with
 | zero => intro k r h; cases h
 | succ n ih =>
   intro k r h
   simp only [scan] at h
   split at h
   · rename_i b hb; cases h; exact hf _ _ hb
   · exact ih h
theorem znd {p : TP} (h : (rlC p).2 = 0) : rlC p = (0, 0) := by
 unfold rlC at h ⊢
 split at h
 · simp at h
 · rename_i h6
   rw [if_neg h6]
   cases e : scan (rlK p) 0 p.Rules.length with
   | none => rfl
   | some r =>
     exfalso
     rw [e] at h
     have := zay (P := fun r : Int × Int => r.2 ≠ 0) (fun i r hr => by
      unfold rlK at hr
      revert hr
      repeat' split
      all_goals (intro hr; cases hr <;> simp)) e
     exact this h
theorem yL {p : TP} (h : PolIn p) : Fz53 p = some (polC p) := by
 unfold Fz53 polC Fz30
 rw [xW h.lat, uO p h.chan, zds (yg p.Lattice) p h.var (fun c _ => zd3 h.lat _)]
 by_cases hk : (latR p.Lattice).2 = 0
 case neg => simp [hk]
 rw [zdo p h.lat hk]
 by_cases h2 : (chC p).2 = 0
 case neg => simp [hk, h2]
 by_cases h3 : (vrC (yg p.Lattice) p).2 = 0
 case neg => simp [hk, h2, h3]
 by_cases h4 : (rlC p).2 = 0
 case neg => simp [hk, h2, h3, h4]
 simp [hk, h2, h3, znd h4]
theorem zd4 {α : Type} {L : List α} {N : Nat} {c : α -> Bool} (h : (L.take (min L.length N)).any c = false) (hn : L.length <= N) : ∀ x ∈ L, c x = false := by
 rw [Nat.min_eq_left hn, List.take_length] at h
 simpa using h
theorem zhx (L : List (List UInt8)) : ∃ b, Fz0 L = some b /\ (b = false -> L.length <= 12 /\ ∀ s ∈ L, s.length <= 100) := by
 unfold Fz0
 simp only [List.length_map]
 rw [wa (s0 := (0 : Int)) (min L.length 20) (fun k => (k : Int)) (ckK (fun s : List UInt8 => decide ((100 : Int) < (s.length : Int))) true L) () ?_ ?_ rfl, zb6 _ _ _ _ (by omega)]
 · cases h : (L.take (min L.length 20)).any (fun s => decide ((100 : Int) < (s.length : Int))) with
   | true => exact ⟨true, rfl, fun h => by cases h⟩
   | false =>
     refine ⟨_, rfl, fun h12 => ?_⟩
     have h12 : L.length <= 12 := by simp at h12; omega
     exact ⟨h12, fun s hs => by have := zd4 h (by omega) s hs; simp at this; omega⟩
 · intro k hk
   obtain ⟨x, hx⟩ := zy (l := L) (i := k) (by omega)
   have hlt : (k : Int) < (L.length : Int) := by omega
   have hlt2 : (k : Int) < 20 := by omega
   have hw : IntKind.wrap .i64 ((k : Int) + 1) = ((k + 1 : Nat) : Int) := w64 (by omega) (by omega)
   have n1 : (0 : Int) <= (k : Int) := by omega
   simp only [hlt, hlt2, decide_true, cond_true, idxO, n1, if_true, Int.toNat_natCast, hx, letO, hw, ckK]
   by_cases c1 : (100 : Int) < (x.length : Int) <;> simp [c1]
 · by_cases c1 : ((min L.length 20 : Nat) : Int) < (L.length : Int)
   · have c2 : ¬ ((min L.length 20 : Nat) : Int) < 20 := by omega
     simp only [c1, c2, decide_true, decide_false, cond_true, cond_false]
   · simp only [c1, decide_false, cond_false]
theorem znl (p : TP) (hu : U8s p.Lattice.Up) : ∃ b, Fz2 p = some b /\ (b = false -> PolIn p) := by
 unfold Fz2
 simp only [List.length_map]
 rw [wa (s0 := (0 : Int)) (min p.Channels.length 25) (fun k => (k : Int)) (ckK (fun s : TR => decide ((100 : Int) < (s.s_.length : Int))) true p.Channels) () ?_ ?_ rfl, zb6 _ _ _ _ (by omega)]
 rotate_left
 · intro k hk
   obtain ⟨x, hx⟩ := zy (l := p.Channels) (i := k) (by omega)
   have hlt : (k : Int) < (p.Channels.length : Int) := by omega
   have hlt2 : (k : Int) < 25 := by omega
   have hw : IntKind.wrap .i64 ((k : Int) + 1) = ((k + 1 : Nat) : Int) := w64 (by omega) (by omega)
   have n1 : (0 : Int) <= (k : Int) := by omega
   simp only [hlt, hlt2, decide_true, cond_true, idxO, n1, if_true, Int.toNat_natCast, hx, letO, hw, ckK]
   by_cases c1 : (100 : Int) < (x.s_.length : Int) <;> simp [c1]
 · by_cases c1 : ((min p.Channels.length 25 : Nat) : Int) < (p.Channels.length : Int)
   · have c2 : ¬ ((min p.Channels.length 25 : Nat) : Int) < 25 := by omega
     simp only [c1, c2, decide_true, decide_false, cond_true, cond_false]
   · simp only [c1, decide_false, cond_false]
 cases hc : (p.Channels.take (min p.Channels.length 25)).any (fun s => decide ((100 : Int) < (s.s_.length : Int))) with
 | true => exact ⟨true, rfl, fun h => by cases h⟩
 | false =>
   simp only [Bool.false_eq_true, if_false]
   rw [wa (s0 := (0 : Int)) (min p.Vars.length 45) (fun k => (k : Int)) (ckK (fun s : TV => decide ((100 : Int) < (s.Name.length : Int))) true p.Vars) () ?_ ?_ rfl, zb6 _ _ _ _ (by omega)]
   rotate_left
   · intro k hk
     obtain ⟨x, hx⟩ := zy (l := p.Vars) (i := k) (by omega)
     have hlt : (k : Int) < (p.Vars.length : Int) := by omega
     have hlt2 : (k : Int) < 45 := by omega
     have hw : IntKind.wrap .i64 ((k : Int) + 1) = ((k + 1 : Nat) : Int) := w64 (by omega) (by omega)
     have n1 : (0 : Int) <= (k : Int) := by omega
     simp only [hlt, hlt2, decide_true, cond_true, idxO, n1, if_true, Int.toNat_natCast, hx, letO, hw, ckK]
     by_cases c1 : (100 : Int) < (x.Name.length : Int) <;> simp [c1]
   · by_cases c1 : ((min p.Vars.length 45 : Nat) : Int) < (p.Vars.length : Int)
     · have c2 : ¬ ((min p.Vars.length 45 : Nat) : Int) < 45 := by omega
       simp only [c1, c2, decide_true, decide_false, cond_true, cond_false]
     · simp only [c1, decide_false, cond_false]
   cases hv : (p.Vars.take (min p.Vars.length 45)).any (fun s => decide ((100 : Int) < (s.Name.length : Int))) with
   | true => exact ⟨true, rfl, fun h => by cases h⟩
   | false =>
     simp only [Bool.false_eq_true, if_false]
     unfold Fz1
     obtain ⟨b, e, hb⟩ := zhx p.Lattice.Names
     rw [e]
     simp only [Option.bind_some, List.length_map]
     cases b with
     | true => exact ⟨true, rfl, fun h => by cases h⟩
     | false =>
       obtain ⟨hb1, hb2⟩ := hb rfl
       simp only [cond_false, Option.bind_some]
       by_cases h12 : (12 : Int) < (p.Lattice.Up.length : Int)
       · exact ⟨true, by simp [h12], fun h => by cases h⟩
       by_cases h20 : (20 : Int) < (p.Channels.length : Int)
       · exact ⟨true, by simp [h12, h20], fun h => by cases h⟩
       by_cases h40 : (40 : Int) < (p.Vars.length : Int)
       · exact ⟨true, by simp [h12, h20, h40], fun h => by cases h⟩
       simp only [h12, h20, h40, decide_false, cond_false]
       refine ⟨_, rfl, fun _ => ⟨⟨hu, by omega, fun s hs => by have := hb2 s hs; omega⟩, fun c h => ?_, fun c h => ?_⟩⟩
       · have := zd4 hc (by omega) c h; simp at this; omega
       · have := zd4 hv (by omega) c h; simp at this; omega
end Go.Sx.O
namespace Go.Sx.O
open Go
theorem zox {r : Int} {l : Int × Int} (h : shC r l = 0) : 0 <= yx r l /\ yx r l <= 400 := by
 unfold shC at h
 unfold yx
 by_cases r0 : r = 0
 · simp [r0]
 by_cases r1 : r = 1
 · rw [if_neg r0, if_pos r1] at h
   rw [if_neg (by omega), if_pos r1]
   by_cases c1 : l.1 < 0
   · rw [if_pos c1] at h; omega
   rw [if_neg c1] at h
   by_cases c2 : l.2 = 0
   · rw [if_pos c2] at h
     by_cases c3 : 400 < l.1
     · rw [if_pos c3] at h; omega
     · omega
   · rw [if_neg c2] at h; omega
 by_cases r2 : r = 2
 · rw [if_neg r0, if_neg r1, if_pos r2] at h
   rw [if_pos r2]
   by_cases c1 : l.1 < 0
   · rw [if_pos c1] at h; omega
   by_cases c2 : l.2 < 0
   · rw [if_neg c1, if_pos c2] at h; omega
   rw [if_neg c1, if_neg c2] at h
   have := Int.mul_nonneg (a := l.1) (b := l.2) (by omega) (by omega)
   by_cases c3 : 400 < l.1
   · rw [if_pos c3] at h; omega
   by_cases c4 : 400 < l.2
   · rw [if_neg c3, if_pos c4] at h; omega
   by_cases c5 : 400 < l.1 * l.2
   · rw [if_neg c3, if_neg c4, if_pos c5] at h; omega
   · omega
 · rw [if_neg r0, if_neg r1, if_neg r2] at h; omega
theorem zbu (a : TA) : Fz72 a = some (arrC a) := by
 by_cases hl : a.Cells.length <= 1000000000
 · exact zbb a hl
 unfold Fz72 arrC
 rw [jJ]
 simp only [Option.bind_some, List.length_map]
 by_cases hs : shC a.Rank a.Lens = 0
 · have hm := zox hs
   have hne : ¬ (a.Cells.length : Int) = yx a.Rank a.Lens := by omega
   simp only [hs, if_true, decide_true, Bool.not_true, cond_false, hne, decide_false, Bool.not_false, cond_true, if_false]
   by_cases k1 : a.Kind = 1 <;> by_cases k2 : a.Kind = 2 <;> simp [k1, k2]
 · simp only [hs, if_false, decide_false, Bool.not_false, cond_true]
   by_cases k1 : a.Kind = 1 <;> by_cases k2 : a.Kind = 2 <;> simp [k1, k2]
theorem zko (w : List TW) : ∃ b, Fz3 w = some b /\ (b = false -> w.length <= 40 /\ ∀ x ∈ w, x.Name.length <= 100) := by
 have key : Tot (Fz3 w) fun b => b = false -> w.length <= 40 /\ ∀ x ∈ w, x.Name.length <= 100 := by
  unfold Fz3
  rw [zr]
  refine Tot.count (min w.length 50) (fun k s => s.1 = (k : Int) /\ ∀ x ∈ w.take k, x.Name.length <= 100) ?_ ⟨rfl, by simp⟩
  rintro k ⟨i, n⟩ hk ⟨h0, h1⟩
  simp only at h0
  subst h0
  simp only [zw, zo, zW, qf, Sum.elim_inl, Sum.elim_inr, decide_eq_true_eq, decide_eq_false_iff_not, Int.toNat_natCast, List.length_map]
  refine ⟨fun hlt => ⟨fun h5 => ?_, fun h5 => ?_⟩, fun hge => ?_⟩
  · obtain ⟨x, hx⟩ := zy (l := w) (i := k) (by omega)
    refine ⟨by omega, x, hx, by omega, x, hx, fun hc => ?_, fun hc => ?_⟩
    · intro h; cases h
    · rw [w64 (by omega) (by omega)]
      refine ⟨by omega, by omega, ?_⟩
      rw [List.take_add_one, hx]
      intro y hy
      simp only [List.mem_append, Option.toList_some, List.mem_singleton] at hy
      rcases hy with hy | rfl
      · exact h1 y hy
      · omega
  · refine ⟨fun _ => (fun h => by cases h), fun _ h4 => ?_⟩
    simp at h4
    omega
  · refine ⟨fun _ => (fun h => by cases h), fun _ h4 => ?_⟩
    simp at h4
    have : w.take k = w := List.take_of_length_le (by omega)
    rw [this] at h1
    exact ⟨by omega, h1⟩
 obtain ⟨b, e, h⟩ := key
 exact ⟨b, e, h⟩
noncomputable def fitK (p : TP) (w : List TW) (k : Nat) : Option (Int × Int) := match w[k]?, p.Vars[k]? with
 | some x, some v => if x.Name = v.Name then (if arrC x.Value = 0 then (if x.Value.Kind = v.Type_.Kind then (if x.Value.Rank = v.Type_.Rank then none else some ((k : Int), 22)) else some ((k : Int), 21)) else some ((k : Int), arrC x.Value)) else some ((k : Int), 24)
 | _, _ => none
noncomputable def fitC (p : TP) (w : List TW) : Int × Int := if (polC p).2.2 = 0 then (if w.length = p.Vars.length then (match scan (fitK p w) 0 w.length with | some r => r | none => (0, 0)) else (-1, 3)) else (-1, (polC p).2.2)
theorem ye {p : TP} (h : PolIn p) (w : List TW) (hw : w.length <= 1000000) : Fz73 p w = some (fitC p w) := by
 unfold Fz73 fitC
 rw [yL h]
 simp only [Option.bind_some, List.length_map]
 by_cases hk : (polC p).2.2 = 0
 case neg => simp [hk]
 simp only [hk, decide_true, Bool.not_true, cond_false, if_true]
 by_cases hl : w.length = p.Vars.length
 case neg =>
  have : ¬ (w.length : Int) = (p.Vars.length : Int) := by omega
  simp [hl, this]
 have hl' : (w.length : Int) = (p.Vars.length : Int) := by omega
 simp only [hl', hl, decide_true, Bool.not_true, cond_false, if_true]
 refine (wa p.Vars.length (fun k => (k : Int)) (fitK p w) () (fun k hk => ?_) (by simp) rfl).trans ?_
 · obtain ⟨v, hv⟩ := zy hk
   obtain ⟨x, hx⟩ := zy (l := w) (i := k) (by omega)
   have hlt : (k : Int) < (p.Vars.length : Int) := by omega
   have hw : IntKind.wrap .i64 ((k : Int) + 1) = ((k + 1 : Nat) : Int) := w64 (by omega) (by omega)
   have n1 : (0 : Int) <= (k : Int) := by omega
   simp only [hlt, decide_true, cond_true, idxO, n1, if_true, Int.toNat_natCast, hx, hv, Option.bind_some, letO, hw, zbu, fitK]
   by_cases c1 : x.Name = v.Name <;> by_cases c2 : arrC x.Value = 0 <;> by_cases c3 : x.Value.Kind = v.Type_.Kind <;> by_cases c4 : x.Value.Rank = v.Type_.Rank <;> simp [c1, c2, c3, c4]
 · cases scan (fitK p w) 0 p.Vars.length <;> rfl
def zA (k r : Int) : TA := TA.mk k r (0, 0) (if r = 0 then [0] else [])
theorem zeh {k r : Int} (hk : k = 1 \/ k = 2) (hr : 0 <= r /\ r <= 2) : Fz54 k r = some (zA k r, 0) := by
 have n1 : ¬ r < 0 := by omega
 have n2 : ¬ 2 < r := by omega
 unfold Fz54 zA
 by_cases e : r = 0
 · rcases hk with rfl | rfl <;> simp [e]
 · rcases hk with rfl | rfl <;> simp [e, n1, n2]
theorem zg9 {l : TL} {t : TY} (h : yg l t = 0) : (t.Kind = 1 \/ t.Kind = 2) /\ 0 <= t.Rank /\ t.Rank <= 2 := by
 unfold yg at h
 by_cases hk : (latR l).2 = 0
 case neg => rw [if_neg hk] at h; exact absurd h hk
 rw [if_pos hk] at h
 by_cases k : t.Kind = 1 \/ t.Kind = 2
 case neg => rw [if_neg k] at h; omega
 rw [if_pos k] at h
 unfold jR at h
 by_cases r : t.Rank < 0 \/ 2 < t.Rank
 · rw [if_pos r] at h; omega
 · exact ⟨k, by omega, by omega⟩
theorem uE {p : TP} (h : (polC p).2.2 = 0) : p.Vars.length <= 32 /\ ∀ v ∈ p.Vars, yg p.Lattice v.Type_ = 0 := by
 unfold polC at h
 by_cases h1 : (latR p.Lattice).2 = 0
 case neg => rw [if_neg h1] at h; exact absurd h h1
 rw [if_pos h1] at h
 by_cases h2 : (chC p).2 = 0
 case neg => rw [if_neg h2] at h; exact absurd h h2
 rw [if_pos h2] at h
 by_cases h3 : (vrC (yg p.Lattice) p).2 = 0
 case neg => rw [if_neg h3] at h; exact absurd h h3
 unfold vrC at h3
 by_cases h6 : (32 : Int) < (p.Vars.length : Int)
 · rw [if_pos h6] at h3; exact absurd h3 (by decide)
 rw [if_neg h6] at h3
 refine ⟨by omega, fun v hv => ?_⟩
 cases hs : scan (vrK (yg p.Lattice) p) 0 p.Vars.length with
 | some r =>
   rw [hs] at h3
   have : r.2 ≠ 0 := zay (P := fun r => r.2 ≠ 0) (fun i r hr => by
    unfold vrK at hr
    split at hr
    · split at hr
      · cases hr; assumption
      · split at hr
        · cases hr
        · cases hr; assumption
    · cases hr) hs
   exact absurd h3 this
 | none =>
   obtain ⟨i, hi, e⟩ := List.getElem_of_mem hv
   have := scan_none.1 hs i (by omega) (by omega)
   unfold vrK at this
   rw [List.getElem?_eq_getElem hi, e] at this
   simp only at this
   split at this
   · cases this
   · split at this
     · assumption
     · cases this
def qR (p : TP) : List TW := p.Vars.map fun v => TW.mk v.Name (zA v.Type_.Kind v.Type_.Rank)
noncomputable def zaz (p : TP) : List TW × Int := if (polC p).2.2 = 0 then (qR p, 0) else ([], (polC p).2.2)
theorem zdw {p : TP} (h : PolIn p) : Fz55 p = some (zaz p) := by
 unfold Fz55 zaz
 rw [yL h]
 simp only [Option.bind_some, List.length_map]
 by_cases hk : (polC p).2.2 = 0
 case neg => simp [hk]
 obtain ⟨hv, hg⟩ := uE hk
 simp only [hk, decide_true, Bool.not_true, cond_false, if_true]
 refine (zb8 p.Vars.length (fun k => ((k : Int), (qR p).take k)) (qR p) (fun k hkn => ?_) ?_ rfl).trans rfl
 · obtain ⟨v, hx⟩ := zy hkn
   have hlt : (k : Int) < (p.Vars.length : Int) := by omega
   have hw : IntKind.wrap .i64 ((k : Int) + 1) = ((k + 1 : Nat) : Int) := w64 (by omega) (by omega)
   have n1 : (0 : Int) <= (k : Int) := by omega
   obtain ⟨g1, g2⟩ := zg9 (hg v (List.mem_of_getElem? hx))
   have hside : (((qR p).take k).length + 1) * 72 <= 70368744177664 := by simp [qR]; omega
   have ht : (qR p).take (k + 1) = (qR p).take k ++ [TW.mk v.Name (zA v.Type_.Kind v.Type_.Rank)] := by
    rw [List.take_add_one]; simp [qR, hx]
   simp only [hlt, decide_true, cond_true, idxO, n1, if_true, Int.toNat_natCast, hx, Option.bind_some, letO, hw, zeh g1 g2, Bool.not_true, cond_false, zl, hside, ht]
 · have hT : (qR p).take p.Vars.length = qR p := List.take_of_length_le (by simp [qR])
   simp [hT]
end Go.Sx.O
namespace Go.Sx.O
open Go
theorem zee {τ : Type} {f : Nat -> Option τ} {r : τ} : ∀ {n m k : Nat}, m <= k -> k < m + n -> (∀ j, m <= j -> j < k -> f j = none) -> f k = some r -> scan f m n = some r
 | 0, m, k, h1, h2, _, _ => by omega
 | n + 1, m, k, h1, h2, h3, h4 => by
   unfold scan
   rcases Nat.lt_or_ge m k with g | g
   · rw [h3 m (Nat.le_refl _) g]
     exact zee (by omega) (by omega) (fun j a b => h3 j (by omega) b) h4
   · have : m = k := by omega
     subst this
     rw [h4]
theorem zrm {k r : Int} (hk : k = 1 \/ k = 2) (hr : 0 <= r /\ r <= 2) : arrC (zA k r) = 0 := by
 have hr' : r = 0 \/ r = 1 \/ r = 2 := by omega
 rcases hk with rfl | rfl <;> rcases hr' with rfl | rfl | rfl <;> decide
theorem zmn {p : TP} (hk : (polC p).2.2 = 0) : fitC p (qR p) = (0, 0) := by
 obtain ⟨_, hg⟩ := uE hk
 unfold fitC
 have hl : (qR p).length = p.Vars.length := by simp [qR]
 rw [if_pos hk, if_pos hl]
 have : scan (fitK p (qR p)) 0 (qR p).length = none := by
  rw [scan_none]
  intro i _ hi
  obtain ⟨v, hv⟩ := zy (l := p.Vars) (i := i) (by omega)
  obtain ⟨g1, g2⟩ := zg9 (hg v (List.mem_of_getElem? hv))
  have hz : (qR p)[i]? = some (TW.mk v.Name (zA v.Type_.Kind v.Type_.Rank)) := by simp [qR, hv]
  unfold fitK
  rw [hz, hv]
  simp only [zrm g1 g2, if_true]
  simp [zA]
 rw [this]
theorem zlm {p : TP} {w : List TW} (h : (fitC p w).2 = 0) : (polC p).2.2 = 0 /\ w.length = p.Vars.length /\ fitC p w = (0, 0) /\ ∀ (k : Nat) x v, w[k]? = some x -> p.Vars[k]? = some v -> x.Name = v.Name /\ arrC x.Value = 0 /\ x.Value.Kind = v.Type_.Kind /\ x.Value.Rank = v.Type_.Rank := by
 unfold fitC at h ⊢
 by_cases hk : (polC p).2.2 = 0
 case neg => rw [if_neg hk] at h; exact absurd h hk
 rw [if_pos hk] at h ⊢
 by_cases hl : w.length = p.Vars.length
 case neg => rw [if_neg hl] at h; exact absurd h (by decide)
 rw [if_pos hl] at h ⊢
 cases hs : scan (fitK p w) 0 w.length with
 | some r =>
   rw [hs] at h
   have : r.2 ≠ 0 := zay (P := fun r => r.2 ≠ 0) (fun i r hr => by
    unfold fitK at hr
    split at hr
    · split at hr
      · split at hr
        · split at hr
          · split at hr
            · cases hr
            · cases hr; exact (by decide : (22 : Int) ≠ 0)
          · cases hr; exact (by decide : (21 : Int) ≠ 0)
        · cases hr; assumption
      · cases hr; exact (by decide : (24 : Int) ≠ 0)
    · cases hr) hs
   exact absurd h this
 | none =>
   refine ⟨hk, hl, rfl, fun k x v hx hv => ?_⟩
   have hlt : k < w.length := (List.getElem?_eq_some_iff.1 hx).1
   have := scan_none.1 hs k (by omega) (by omega)
   unfold fitK at this
   rw [hx, hv] at this
   simp only at this
   by_cases c1 : x.Name = v.Name
   case neg => rw [if_neg c1] at this; cases this
   rw [if_pos c1] at this
   by_cases c2 : arrC x.Value = 0
   case neg => rw [if_neg c2] at this; cases this
   rw [if_pos c2] at this
   by_cases c3 : x.Value.Kind = v.Type_.Kind
   case neg => rw [if_neg c3] at this; cases this
   rw [if_pos c3] at this
   by_cases c4 : x.Value.Rank = v.Type_.Rank
   case neg => rw [if_neg c4] at this; cases this
   exact ⟨c1, c2, c3, c4⟩
theorem zlb {p : TP} (h : (polC p).2.2 = 0) {i j : Nat} {v u : TV} (hv : p.Vars[i]? = some v) (hu : p.Vars[j]? = some u) (hij : j < i) : u.Name ≠ v.Name := by
 unfold polC at h
 by_cases h1 : (latR p.Lattice).2 = 0
 case neg => rw [if_neg h1] at h; exact absurd h h1
 rw [if_pos h1] at h
 by_cases h2 : (chC p).2 = 0
 case neg => rw [if_neg h2] at h; exact absurd h h2
 rw [if_pos h2] at h
 by_cases h3 : (vrC (yg p.Lattice) p).2 = 0
 case neg => rw [if_neg h3] at h; exact absurd h h3
 unfold vrC at h3
 by_cases h6 : (32 : Int) < (p.Vars.length : Int)
 · rw [if_pos h6] at h3; exact absurd h3 (by decide)
 rw [if_neg h6] at h3
 have hlt : i < p.Vars.length := (List.getElem?_eq_some_iff.1 hv).1
 cases hs : scan (vrK (yg p.Lattice) p) 0 p.Vars.length with
 | some r =>
   rw [hs] at h3
   have : r.2 ≠ 0 := zay (P := fun r => r.2 ≠ 0) (fun i r hr => by
    unfold vrK at hr
    split at hr
    · split at hr
      · cases hr; assumption
      · split at hr
        · cases hr
        · cases hr; assumption
    · cases hr) hs
   exact absurd h3 this
 | none =>
   have := scan_none.1 hs i (by omega) (by omega)
   unfold vrK at this
   rw [hv] at this
   simp only at this
   split at this
   · cases this
   · rename_i hne
     intro he
     have hm : v.Name ∈ (p.Vars.take i).map (·.Name) := by
      rw [List.mem_map]
      refine ⟨u, List.mem_of_getElem? (i := j) ?_, he⟩
      rw [List.getElem?_take]
      simp [hij, hu]
     apply hne
     unfold nmE
     by_cases hx : exN v.Name = true
     · rw [if_pos hx, if_pos hm]; decide
     · rw [if_neg hx]; decide
theorem zqd {p : TP} (hp : PolIn p) (hk : (polC p).2.2 = 0) {i : Nat} {v : TV} (hv : p.Vars[i]? = some v) : Fz74 p v.Name = some (v.Type_, 0) := by
 unfold Fz74
 rw [yL hp]
 obtain ⟨h32, _⟩ := uE hk
 have hlt : i < p.Vars.length := (List.getElem?_eq_some_iff.1 hv).1
 simp only [Option.bind_some, hk, decide_true, Bool.not_true, cond_false, List.length_map]
 refine (wa p.Vars.length (fun k => (k : Int)) (fun k => match p.Vars[k]? with | some u => if u.Name = v.Name then some (u.Type_, (0 : Int)) else none | none => none) () (fun k hkn => ?_) (by simp) rfl).trans ?_
 · obtain ⟨u, hu⟩ := zy hkn
   have hlt : (k : Int) < (p.Vars.length : Int) := by omega
   have hw : IntKind.wrap .i64 ((k : Int) + 1) = ((k + 1 : Nat) : Int) := w64 (by omega) (by omega)
   have n1 : (0 : Int) <= (k : Int) := by omega
   simp only [hlt, decide_true, cond_true, idxO, n1, if_true, Int.toNat_natCast, hu, letO, hw]
   by_cases c : u.Name = v.Name <;> simp [c]
 · rw [zee (k := i) (r := (v.Type_, (0 : Int))) (by omega) (by omega) (fun j _ hj => ?_) (by simp [hv])]
   obtain ⟨u, hu⟩ := zy (l := p.Vars) (i := j) (by omega)
   have := zlb hk hv hu hj
   simp [hu, this]
theorem zpw {l : List Int} (h : allW (inK .u8) l) : U8s l := fun x hx => zpz (h x hx)
set_option maxRecDepth 10000 in
theorem zfj (p : TP) (w : List TW) (w1 : W_TP p) (_ : allW W_TW w) : Fz75 p w = some true := by
 unfold Fz75
 obtain ⟨b, hb, hf⟩ := znl p (zpw w1.Lattice.Up)
 rw [hb]
 cases b with
 | true => rfl
 | false =>
 have hp := hf rfl
 obtain ⟨c, hc, hw⟩ := zko w
 rw [hc]
 cases c with
 | true => rfl
 | false =>
 obtain ⟨hl, hn⟩ := hw rfl
 rw [zdw hp]
 simp only [Option.bind_some, cond_false]
 by_cases hk : (polC p).2.2 = 0
 case neg =>
  have : zaz p = ([], (polC p).2.2) := by unfold zaz; rw [if_neg hk]
  simp [this, hk]
 have hz : zaz p = (qR p, 0) := by unfold zaz; rw [if_pos hk]
 have hzl : (qR p).length = p.Vars.length := by simp [qR]
 obtain ⟨h32, _⟩ := uE hk
 simp only [hz, decide_true, Bool.not_true, cond_false, ye hp (qR p) (by omega), zmn hk, Option.bind_some, List.length_map, hzl, ye hp w (by omega)]
 by_cases hfw : (fitC p w).2 = 0
 case neg => simp [hfw]
 obtain ⟨_, hlen, hfe, hfacts⟩ := zlm hfw
 simp only [hfe, decide_true, Bool.not_true, cond_false]
 refine (zb8 w.length (fun k => (k : Int)) () (fun k hkn => ?_) (by simp) rfl).trans ?_
 · obtain ⟨x, hx⟩ := zy hkn
   obtain ⟨v, hv⟩ := zy (l := p.Vars) (i := k) (by omega)
   obtain ⟨f1, f2, f3, f4⟩ := hfacts k x v hx hv
   have hlt : (k : Int) < (w.length : Int) := by omega
   have hw : IntKind.wrap .i64 ((k : Int) + 1) = ((k + 1 : Nat) : Int) := w64 (by omega) (by omega)
   have n1 : (0 : Int) <= (k : Int) := by omega
   simp only [hlt, decide_true, cond_true, idxO, n1, if_true, Int.toNat_natCast, hx, Option.bind_some, letO, hw, f1, zqd hp hk hv, f3, f4, Bool.not_true, cond_false]
 by_cases h0 : w.length = 0
 · have : ((w.length : Int) = 0) := by omega
   simp [this]
 have h0' : ¬ ((w.length : Int) = 0) := by omega
 have hw1 : IntKind.wrap .i64 ((w.length : Int) - 1) = ((w.length - 1 : Nat) : Int) := by
  rw [w64 (by omega) (by omega)]; omega
 obtain ⟨x, hx⟩ := zy (l := w) (i := w.length - 1) (by omega)
 obtain ⟨v, hv⟩ := zy (l := p.Vars) (i := w.length - 1) (by omega)
 obtain ⟨f1, f2, f3, f4⟩ := hfacts _ x v hx hv
 have hxn : x.Name.length <= 100 := hn x (List.mem_of_getElem? hx)
 have s1 : (0 : Int) <= ((w.length - 1 : Nat) : Int) /\ ((w.length - 1 : Nat) : Int) <= (w.length : Int) := by omega
 have s2 : (0 + w.length) * 72 <= 70368744177664 := by omega
 have s3 : (0 : Int) <= ((w.length - 1 : Nat) : Int) /\ ((w.length - 1 : Nat) : Int) < (w.length : Int) := by omega
 have s4 : ((x.Name.length + 1 : Nat) : Int) <= 9223372036854775807 := by omega
 have s5 : (0 : Int) <= ((w.length - 1 : Nat) : Int) := by omega
 have e1 : fitC p (w.take (w.length - 1)) = (-1, 3) := by
  unfold fitC
  have : ¬ (w.take (w.length - 1)).length = p.Vars.length := by rw [List.length_take]; omega
  rw [if_pos hk, if_neg this]
 have e2 : ∀ y, y ≠ v.Name -> fitC p (w.set (w.length - 1) (TW.mk y x.Value)) = (((w.length - 1 : Nat) : Int), 24) := by
  intro y hy
  unfold fitC
  have hl2 : (w.set (w.length - 1) (TW.mk y x.Value)).length = p.Vars.length := by rw [List.length_set]; exact hlen
  have hA : ∀ j, 0 <= j -> j < w.length - 1 -> fitK p (w.set (w.length - 1) (TW.mk y x.Value)) j = none := fun j _ hj => by
   obtain ⟨z, hz⟩ := zy (l := w) (i := j) (by omega)
   obtain ⟨u, hu⟩ := zy (l := p.Vars) (i := j) (by omega)
   obtain ⟨g1, g2, g3, g4⟩ := hfacts j z u hz hu
   unfold fitK
   rw [List.getElem?_set_ne (by omega), hz, hu]
   simp [g1, g2, g3, g4]
  have hB : fitK p (w.set (w.length - 1) (TW.mk y x.Value)) (w.length - 1) = some (((w.length - 1 : Nat) : Int), 24) := by
   unfold fitK
   rw [List.getElem?_set_self (by omega), hv]
   simp [hy]
  rw [if_pos hk, if_pos hl2, zee (k := w.length - 1) (r := (((w.length - 1 : Nat) : Int), (24 : Int))) (by omega) (by omega) hA hB]
 have hy : x.Name ++ (ByteArray.mk #[(120 : UInt8)]).data.toList ≠ v.Name := by
  rw [f1]
  intro h
  have := congrArg List.length h
  simp at this
 have t1 : (w.take (w.length - 1)).length <= 1000000 := by rw [List.length_take]; omega
 have t2 : ∀ y, (w.set (w.length - 1) y).length <= 1000000 := fun y => by rw [List.length_set]; omega
 have hidx : ∀ (f : TW -> Option Bool), idxO w ((w.length - 1 : Nat) : Int) f = f x := fun f => by
  unfold idxO
  rw [if_pos s5, Int.toNat_natCast, hx]
  rfl
 simp only [h0', decide_false, cond_false, letO, hw1, List.length_map, List.nil_append, Int.toNat_natCast, Int.toNat_zero, List.drop_zero]
 rw [qG s1, ye hp _ t1, e1]
 simp only [Option.bind_some]
 rw [qG s2, qG s3, hidx, qG s4, qG s3, hidx, ye hp _ (t2 _), e2 _ hy]
 simp only [Option.bind_some, decide_true, cond_true]
end Go.Sx.O
