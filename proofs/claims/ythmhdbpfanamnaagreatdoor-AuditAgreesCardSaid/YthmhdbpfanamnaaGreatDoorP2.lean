/-
  PLAIN LAWS: the lattice's check, exactly; the reference's too: names. An own text.
  PLAIN LAWS: lattice.of, .bound, exactly. An own text.
  PLAIN LAWS: the order's check, exactly, the program's and the reference's. An own text.
  PLAIN LAWS: the reference's check of a lattice, exactly. An own text.
  PLAIN LAWS: lattice.Check and the reference's Check say the same. An own text.
  PLAIN LAWS: lattice.Check, exactly. An own text.
  PLAIN LAWS: the reference's Leq; events that are the same. An own text.
  PLAIN LAWS: lattices: joins, meets, top, bottom. An own text.
  PLAIN LAWS: names, exactly: runes.Class, lexer.Check of a word, prims.Find, expr.Name, on both sides. An own text.
  PLAIN LAWS: expr.Name is the reference's. An own text.
  PLAIN LAWS: arrays.Check is the reference's. An own text.
  PLAIN LAWS: arrays.Check is the reference's, cells. An own text.
  PLAIN LAWS of layer 28: folds, names, values: the program's and the reference's. An own text.
  PLAIN LAWS of layer 28: the sum that stays at the ends; the values of folds. An own text.
  PLAIN LAWS of layer 28: the values of folds; Value. An own text.
  THE LAW ReleaseValues FOR DATA AS THEY COME. An own text.
  PLAIN LAWS of layer 19: labels, channels: the program's and the reference's. An own text.
  PLAIN LAWS of layer 19: variables: the program's and the reference's, where both find types alike good. An own text.
  PLAIN LAWS of layer 3: the bottom that the program finds. An own text.
  PLAIN LAWS of layer 3: the bottom that the reference finds. An own text.
  PLAIN LAWS of layer 18's labels: Check, Flows. An own text.
  PLAIN LAWS of layer 19: Good types: the program's. An own text.
  PLAIN LAWS of layer 19: policy.Good. An own text.
  PLAIN LAWS of layer 19: the reference's Good. An own text.
  PLAIN LAWS of layer 19: the reference's Good; the rules of both. An own text.
  PLAIN LAWS of layer 19: Check, Rule of both; what is not far. An own text.
  PLAIN LAWS of layer 28: Check; the law ReleaseChecks. An own text.
  PLAIN LAWS of layer 30: Check, Below, Agree of both. An own text.
  PLAIN LAWS of layer 30: Below, Agree of both; THE LAW AuditViews. An own text.
  PLAIN LAWS of layer 30: Agree of the reference; equality of logs; THE LAW AuditViews. An own text.
  PLAIN LAWS of layer 30: what AuditAgrees wants: a checked log, its beginnings; agreeing goes both ways. An own text.
  PLAIN LAWS of layer 30: beginnings of views; views with other sites. An own text.
  PLAIN LAWS of layer 30: the first place where two views differ; other sites; THE LAW AuditAgrees. An own text.
  PLAIN LAWS of layer 30: THE LAW AuditAgrees. An own text.
-/
import Derived.Test.YthmhdbpfanamnaaGreatDoorP1
namespace Go.Sx.O
open Go
def zcq (ns : List (List UInt8)) (i : Nat) : Option (Int × Int) :=
 if zfn (ns.getD i []) = true then (if ns.getD i [] ∈ ns.take i then some ((i : Int), 8) else none) else some ((i : Int), 6)
def ug (ns : List (List UInt8)) : Int × Int := if ns.length < 1 \/ 8 < ns.length then (-1, 3) else (scan (zcq ns) 0 ns.length).getD (0, 0)
theorem zi8 {α : Type} {l : List α} {i : Nat} {d x : α} (h : l[i]? = some x) : l.getD i d = x := by rw [List.getD_eq_getElem?_getD, h]; rfl
theorem zne (ns : List (List UInt8)) (h : ns.length <= 20) (hn : ∀ s ∈ ns, s.length <= 1000) : Fz23 ns = some (ug ns) := by
 unfold Fz23 ug
 simp only [List.length_map]
 by_cases h1 : ns.length < 1
 · have : (ns.length : Int) < 1 := by omega
   simp [h1, this]
 by_cases h2 : 8 < ns.length
 · have : (8 : Int) < ns.length := by omega
   have g1 : ¬ (ns.length : Int) < 1 := by omega
   simp [h2, this, g1]
 have g1 : ¬ (ns.length : Int) < 1 := by omega
 have g2 : ¬ (8 : Int) < ns.length := by omega
 simp only [g1, g2, h1, h2, decide_false, cond_false, or_self, if_false]
 rw [jg ns.length (zcq ns) () (fun k hk => ?_) (by simp)]
 · cases scan (zcq ns) 0 ns.length <;> rfl
 · obtain ⟨x, hx⟩ := zB (l := ns) (i := k) hk
   have hxl := hn x (List.mem_of_getElem? hx)
   simp only [Int.ofNat_lt, hk, decide_true, cond_true, idxO, Int.toNat_natCast, hx, Option.bind_some, letO, Int.natCast_nonneg, if_true]
   rw [ze3 x (by omega), yJ _ _ (by simp; omega)]
   unfold zcq
   rw [zi8 hx, w64 (by omega) (by omega)]
   cases e : zfn x with
   | false => simp
   | true =>
     have hk' : k <= ns.length := by omega
     simp only [Option.bind_some, Bool.not_true, cond_false, Int.toNat_zero, List.drop_zero, if_true]
     by_cases hm : x ∈ ns.take k
     · simp [hm, zm, hk']
     · simp [hm, zm, hk']
end Go.Sx.O
namespace Go.Sx.O
open Go
def dn (l : TL) (b : Nat) : Nat -> Nat
 | 0 => 0
 | k + 1 => dn l b k ||| (if up l k b = true then 2 ^ k else 0)
theorem zgx (l : TL) (b : Nat) : ∀ (k i : Nat), (dn l b k).testBit i = (decide (i < k) && up l i b)
 | 0, i => by simp [dn]
 | k + 1, i => by
   simp only [dn, Nat.testBit_or, zgx l b k i]
   by_cases h : up l k b = true
   · simp only [h, if_true, Nat.testBit_two_pow]
     by_cases hik : i = k
     · subst hik; simp [h]
     · have h1 : ¬ k = i := fun e => hik e.symm
       have h2 : (i < k + 1) = (i < k) := by simp; omega
       simp [h1, h2]
   · simp only [h, if_false, Nat.zero_testBit, Bool.or_false]
     by_cases hik : i = k
     · subst hik; simp [h]
     · have h2 : (i < k + 1) = (i < k) := by simp; omega
       simp [h2]
theorem zox (l : TL) (b : Nat) : ∀ k : Nat, dn l b k < 2 ^ k
 | 0 => by simp [dn]
 | k + 1 => by
   simp only [dn]
   refine Nat.or_lt_two_pow (Nat.lt_of_lt_of_le (zox l b k) (Nat.pow_le_pow_right (by omega) (by omega))) ?_
   split
   · exact Nat.pow_lt_pow_right (by omega) (by omega)
   · exact Nat.two_pow_pos _
theorem zlz (l : TL) (b : Nat) {k : Nat} (h : k <= 8) : dn l b k < 256 := Nat.lt_of_lt_of_le (zox l b k) (Nat.pow_le_pow_right (n := 2) (by omega) h)
theorem zpx {c : Bool} {k : Nat} (h : k < 8) : IntKind.wrap .u8 ((if c = true then (1 : Int) else 0) * 2 ^ min k (IntKind.bits .u8)) = ((if c = true then 2 ^ k else 0 : Nat) : Int) := by
 have key : ∀ (c : Bool) (k : Fin 8), IntKind.wrap .u8 ((if c = true then (1 : Int) else 0) * 2 ^ min k.val (IntKind.bits .u8)) = ((if c = true then 2 ^ k.val else 0 : Nat) : Int) := by decide +kernel
 exact key c ⟨k, h⟩
theorem zq4 {a b : Nat} (ha : a < 256) (hb : b < 256) : bits .or .u8 (a : Int) (b : Int) = ((a ||| b : Nat) : Int) := by
 rw [zjg (by omega) (by omega) (by omega) (by omega)]; rfl
theorem zpd {a b : Nat} (ha : a < 256) (hb : b < 256) : bits .and .u8 (a : Int) (b : Int) = ((a &&& b : Nat) : Int) := by
 rw [ul (by omega) (by omega) (by omega) (by omega)]; rfl
theorem zru {c : Bool} {k : Nat} (h : k < 8) : (if c = true then 2 ^ k else 0) < 256 := by
 split
 · exact Nat.lt_of_lt_of_le (Nat.pow_lt_pow_right (a := 2) (by omega) h) (by omega)
 · omega
theorem ziu {α : Type} {l : List α} {i j : Nat} {x : α} (h : i < l.length) : (l.set i x)[j]? = if i = j then some x else l[j]? := by
 rw [List.getElem?_set]
 split
 · simp [h]
 · rfl
theorem zfx (l : TL) (hu : U8s l.Up) (hn : l.Names.length <= 8) (hl : l.Up.length = l.Names.length) :
 Tot (Fz25 l) fun o => o.n_ = l.Names.length /\ o.up_.length = 8 /\ o.down_.length = 8 /\ (∀ j, j < l.Names.length -> o.up_[j]? = l.Up[j]?) /\ ∀ b, b < l.Names.length -> o.down_[b]? = some (dn l b l.Names.length : Int) := by
 unfold Fz25
 simp only [zt, List.length_map]
 refine Tot.count l.Up.length (fun k s => s.1 = (k : Int) /\ s.2.1.length = 8 /\ s.2.2.length = 8 /\ (∀ j, j < k -> s.2.1[j]? = l.Up[j]?) /\ ∀ b, b < l.Names.length -> s.2.2[b]? = some (dn l b k : Int)) ?_ ⟨rfl, rfl, rfl, fun j hj => absurd hj (by omega), fun b hb => ?_⟩
 · rintro k ⟨i, up', down⟩ hk ⟨h0, h1, h2, h3, h4⟩
   simp only at h0 h1 h2 h3 h4
   subst h0
   simp only [zp, zA, zZ, qi, qv, zt, Sum.elim_inl, Sum.elim_inr, decide_eq_true_eq, decide_eq_false_iff_not, Int.toNat_natCast]
   refine ⟨fun hlt => ?_, fun hlt => ?_⟩
   · obtain ⟨x, hx⟩ := zB (l := l.Up) (i := k) (by omega)
     obtain ⟨y, hy⟩ := zB (l := up') (i := k) (by omega)
     refine ⟨by omega, x, hx, ⟨by omega, by omega⟩, by omega, y, hy, ?_⟩
     have hx' := hu.get hx
     refine Tot.count l.Names.length (fun j s => s.1 = (j : Int) /\ s.2.length = 8 /\ ∀ b, b < l.Names.length -> s.2[b]? = some (dn l b (if b < j then k + 1 else k) : Int)) ?_ ⟨rfl, h2, fun b hb => by simpa using h4 b hb⟩
     rintro j ⟨i', d⟩ hj ⟨g0, g1, g2⟩
     simp only at g0 g1 g2
     subst g0
     simp only [zp, zA, zZ, qi, qv, zt, Sum.elim_inl, Sum.elim_inr, decide_eq_true_eq, decide_eq_false_iff_not, Int.toNat_natCast]
     refine ⟨fun hlt' => ?_, fun hlt' => ?_⟩
     · have hz := g2 j (by omega)
       rw [if_neg (by omega)] at hz
       rw [w64 (by omega) (by omega)]
       refine ⟨⟨by omega, by omega⟩, by omega, _, hz, by omega, by omega, ⟨by omega, by omega⟩, by omega, _, hz, by omega, by omega, by simpa using g1, fun b hb => ?_⟩
       rw [ziu (by omega)]
       by_cases hjb : j = b
       · subst hjb
         rw [if_pos rfl, if_pos (by omega), uh hx'.1 hx'.2 (by omega), <- yQ hx, zpx (by omega), zq4 (zlz l j (by omega)) (zru (by omega))]
         rfl
       · rw [if_neg hjb, g2 b hb]
         have : (b < j + 1) = (b < j) := by simp; omega
         simp only [this]
     · rw [w64 (by omega) (by omega)]
       refine ⟨by omega, by omega, by simpa using h1, g1, fun q hq => ?_, fun b hb => ?_⟩
       · rw [ziu (by omega)]
         by_cases hkq : k = q
         · subst hkq; rw [if_pos rfl, hx]
         · rw [if_neg hkq]; exact h3 q (by omega)
       · rw [g2 b hb, if_pos (by omega)]
   · have hkn : k = l.Names.length := by omega
     subst hkn
     exact ⟨trivial, h1, h2, h3, h4⟩
 · have h8 : ∀ b : Fin 8, ([0, 0, 0, 0, 0, 0, 0, 0] : List Int)[b.val]? = some 0 := by decide
   exact h8 ⟨b, by omega⟩
theorem qO {ρ : Type} {p : Prop} [Decidable p] {x : Option ρ} (h : p) : zm p x = x := by unfold zm; rw [if_pos h]
def bnd (g : Nat -> Nat) (n a b : Nat) : Option Nat := scan (fun c => if g c = g a &&& g b then some c else none) 0 n
def bndI (g : Nat -> Nat) (n a b : Nat) : Int := match bnd g n a b with | some c => c | none => -1
theorem zbk (m : List Int) (g : Nat -> Nat) (n a b : Nat) (hn : n <= 8) (hg : ∀ c, c < n -> m[c]? = some (g c : Int)) (hg8 : ∀ c, c < n -> g c < 256) (hs : ∀ c, c < n -> (g c).testBit c = true) (ha : a < n) (hb : b < n) :
 Fz26 m n a b = some (bndI g n a b) := by
 unfold Fz26 bndI bnd
 have s1 : ((0 : Int) <= (a : Int) /\ (a : Int) < ((8 : Nat) : Int)) := by omega
 have s2 : ((0 : Int) <= (b : Int) /\ (b : Int) < ((8 : Nat) : Int)) := by omega
 simp only [qO s1, qO s2]
 simp only [idxO, Int.toNat_natCast, Int.natCast_nonneg, if_true, hg a ha, hg b hb, Option.bind_some, zpd (hg8 a ha) (hg8 b hb)]
 have h8 : g a &&& g b < 256 := zc0 (hg8 a ha)
 generalize g a &&& g b = both at *
 rw [jg n (fun c => if g c = both then some (c : Int) else none) () (fun c hc => ?_) (by simp)]
 · have e : (fun c => if g c = both then some (c : Int) else none) = fun c => (if g c = both then some c else none).map (fun c : Nat => (c : Int)) := by
    funext c; split <;> rfl
   rw [e, jj]
   cases scan (fun c => if g c = both then some c else none) 0 n <;> rfl
 · have s3 : ((0 : Int) <= (c : Int) /\ (c : Int) < ((8 : Nat) : Int)) := by omega
   simp only [qO s3]
   simp only [Int.ofNat_lt, hc, decide_true, cond_true, zm, Int.natCast_nonneg, if_true, hg c hc, Option.bind_some, letO]
   rw [w64 (by omega) (by omega), uh (by omega) (by omega) (by omega)]
   simp only [Int.toNat_natCast]
   by_cases hbc : both.testBit c = true
   · simp only [hbc, if_true, decide_true, cond_true]
     rw [hg c hc]
     by_cases hgc : g c = both
     · simp [hgc]
     · have : ¬ (g c : Int) = (both : Int) := by omega
       simp [hgc, this]
   · have : g c ≠ both := fun e => hbc (e ▸ hs c hc)
     simp [hbc, this]
end Go.Sx.O
namespace Go.Sx.O
open Go
def upN (l : TL) (a : Nat) : Nat := (l.Up.getD a 0).toNat
def ordB (l : TL) (a b : Nat) : Bool := !up l a b || ((decide (b = a) || !up l b a) && (List.range l.Names.length).all fun i => !up l b i || up l a i)
def ordA (l : TL) (a : Nat) : Bool := decide (upN l a < 2 ^ l.Names.length) && up l a a && (List.range l.Names.length).all fun b => ordB l a b
def dnN (l : TL) (b : Nat) : Nat := dn l b l.Names.length
def yg (l : TL) (a b : Nat) : Bool := (bnd (upN l) l.Names.length a b).isNone || (bnd (dnN l) l.Names.length a b).isNone
def latC (l : TL) : Int × Int :=
 if (ug l.Names).2 = 0 then
  if l.Up.length = l.Names.length then
   match scan (fun a => if ordA l a = true then none else some ((a : Int), (6 : Int))) 0 l.Names.length with
   | some r => r
   | none => (scan (fun a => scan (fun b => if yg l a b = true then some ((a : Int), (4 : Int)) else none) 0 l.Names.length) 0 l.Names.length).getD (0, 0)
  else (-1, 6)
 else ug l.Names
theorem zet {α : Type} {p : Nat -> Bool} {u v : α} {n : Nat} : ∀ {j k : Nat}, k + j = n -> 0 < j -> scan (fun i => if p i = true then (if i + 1 = n then some u else none) else some v) k j = some (if (List.range j).all (fun i => p (k + i)) = true then u else v)
 | 0, _, _, h => by omega
 | j + 1, k, hk, _ => by
   have e : (List.range (j + 1)).all (fun i => p (k + i)) = (p k && (List.range j).all fun i => p (k + 1 + i)) := by
    rw [List.range_succ_eq_map, List.all_cons, List.all_map]
    congr 1
    congr 1
    funext i
    simp only [Function.comp]
    congr 1; omega
   rw [e]
   simp only [scan]
   cases hp : p k with
   | false => simp
   | true =>
     simp only [if_true, Bool.true_and]
     by_cases hj : j = 0
     · subst hj
       have : k + 1 = n := by omega
       simp [this]
     · have : ¬ k + 1 = n := by omega
       simp only [this, if_false]
       exact zet (by omega) (by omega)
theorem zku (x : Int) (h0 : 0 <= x) (h1 : x < 256) : Tot (Fz24 x) fun y => ∀ n : Nat, n <= 8 -> decide ((n : Int) < y) = !decide (x.toNat < 2 ^ n) := by
 unfold Fz24
 rw [qi]
 refine ⟨h0, ?_⟩
 have key : ∀ l : List UInt8, (∀ x : Fin 256, ∀ n : Fin 9, (l[x.val]?.map fun y => decide ((n.val : Int) < IntKind.wrap .i64 (y.toNat : Int))) = some (!decide (x.val < 2 ^ n.val))) ->
  ∃ y, l[x.toNat]? = some y /\ Tot (letO (IntKind.wrap .i64 (y.toNat : Int)) fun z => some z) fun y => ∀ n : Nat, n <= 8 -> decide ((n : Int) < y) = !decide (x.toNat < 2 ^ n) := by
  intro l hl
  cases e : l[x.toNat]? with
  | none =>
    have := hl ⟨x.toNat, by omega⟩ ⟨0, by omega⟩
    simp only [e] at this
    cases this
  | some y =>
    refine ⟨y, rfl, .mk fun n hn => ?_⟩
    have := hl ⟨x.toNat, by omega⟩ ⟨n, by omega⟩
    simp only [e] at this
    exact Option.some.inj this
 exact key _ (by decide +kernel)
end Go.Sx.O
namespace Go.Sx.O
open Go
theorem zlc {l : TL} {a : Nat} {x : Int} (h : l.Up[a]? = some x) : upN l a = x.toNat := by unfold upN; rw [zi8 h]
theorem zdo {l : TL} {a b : Nat} : (upN l a).testBit b = up l a b := rfl
theorem zg1 {l : TL} (hu : U8s l.Up) {a : Nat} (ha : a < l.Up.length) : upN l a < 256 := by
 obtain ⟨x, hx⟩ := zB ha
 have := hu.get hx
 rw [zlc hx]; omega
theorem zdv {l : TL} (hu : U8s l.Up) {a : Nat} (ha : a < l.Up.length) : l.Up[a]? = some (upN l a : Int) := by
 obtain ⟨x, hx⟩ := zB ha
 have := hu.get hx
 rw [hx, zlc hx, Int.toNat_of_nonneg this.1]
end Go.Sx.O
namespace Go.Sx.O
open Go
theorem zol (g : Nat -> Nat) (n a b : Nat) : decide (bndI g n a b < 0) = (bnd g n a b).isNone := by
 unfold bndI
 cases bnd g n a b with
 | none => rfl
 | some c => simp
theorem zrs {l : TL} (h8 : l.Names.length <= 8) (b : Nat) : dnN l b < 256 := zlz l b h8
end Go.Sx.O
namespace Go.Sx.O
open Go
theorem zil (l : TL) (hu : U8s l.Up) (hn : l.Names.length <= 20) (hs : ∀ s ∈ l.Names, s.length <= 1000) : Fz28 l = some (latC l) := by
 unfold Fz28 latC
 rw [zne _ hn hs]
 simp only [Option.bind_some, List.length_map]
 by_cases h0 : (ug l.Names).2 = 0
 case neg => simp [h0]
 simp only [h0, decide_true, Bool.not_true, cond_false, if_true]
 by_cases hlen : l.Up.length = l.Names.length
 case neg =>
  have : ¬ (l.Up.length : Int) = l.Names.length := by omega
  simp [hlen, this]
 have h8 : 1 <= l.Names.length /\ l.Names.length <= 8 := by
  unfold ug at h0
  split at h0
  · cases h0
  · omega
 obtain ⟨h1, h8⟩ := h8
 have g0 : ((0 : Int) <= (l.Names.length : Int)) := by omega
 simp only [hlen, decide_true, Bool.not_true, cond_false, if_true, qO g0, letO, Int.toNat_natCast]
 have hmask := zg5 l.Names.length h8
 have hm0 := zhv (e := IntKind.wrap .u8 (1 * 2 ^ min l.Names.length (IntKind.bits .u8)) - 1)
 rw [jg l.Names.length (fun a => if ordA l a = true then none else some ((a : Int), (6 : Int))) () (fun a ha => ?_) (by simp)]
 · cases h1 : scan (fun a => if ordA l a = true then none else some ((a : Int), (6 : Int))) 0 l.Names.length with
   | some r => rfl
   | none =>
     simp only
     have hself : ∀ a, a < l.Names.length -> up l a a = true := by
      intro a ha
      have := scan_none.1 h1 a (by omega) (by omega)
      split at this
      · rename_i h
        unfold ordA at h
        simp only [Bool.and_eq_true] at h
        exact h.1.2
      · cases this
     obtain ⟨o, eo, _, o1, o2, o3, o4⟩ := zfx l hu h8 hlen
     rw [eo, Option.bind_some]
     rw [jg l.Names.length (fun a => scan (fun b => if yg l a b = true then some ((a : Int), (4 : Int)) else none) 0 l.Names.length) () (fun a ha => ?_) (by simp)]
     · cases scan (fun a => scan (fun b => if yg l a b = true then some ((a : Int), (4 : Int)) else none) 0 l.Names.length) 0 l.Names.length <;> rfl
     · simp only [Int.ofNat_lt, ha, decide_true, cond_true]
       rw [jg l.Names.length (fun b => if yg l a b = true then some (.inr (.inr ((a : Int), (4 : Int)))) else none) () (fun b hb => ?_) (by simp)]
       · have e : (fun b => if yg l a b = true then some (Sum.inr (Sum.inr ((a : Int), (4 : Int))) : Int ⊕ (Unit ⊕ (Int × Int))) else none) = fun b => (if yg l a b = true then some ((a : Int), (4 : Int)) else none).map fun v => .inr (.inr v) := by
          funext b; split <;> rfl
         rw [e, jj]
         cases scan (fun b => if yg l a b = true then some ((a : Int), (4 : Int)) else none) 0 l.Names.length with
         | some r => rfl
         | none =>
           simp only [Option.map_none]
           rw [w64 (by omega) (by omega)]
       · simp only [Int.ofNat_lt, hb, decide_true, cond_true]
         have n1 := zbk o.up_ (upN l) l.Names.length a b h8 (fun c hc => by rw [o3 c hc]; exact zdv hu (by omega)) (fun c hc => zg1 hu (by omega)) (fun c hc => hself c hc) ha hb
         have n2 : Fz27 o.down_ l.Names.length a b = some (bndI (dnN l) l.Names.length a b) := zbk o.down_ (dnN l) l.Names.length a b h8 (fun c hc => o4 c hc) (fun c hc => zrs h8 c) (fun c hc => by unfold dnN; rw [zgx, hself c hc]; simp [hc]) ha hb
         rw [n1, n2]
         simp only [Option.bind_some, zol]
         rw [w64 (by omega) (by omega)]
         unfold yg
         cases (bnd (upN l) l.Names.length a b).isNone with
         | true => simp
         | false => cases (bnd (dnN l) l.Names.length a b).isNone <;> simp
 · -- one label's row
   have hxa := zdv hu (a := a) (by omega)
   have hlt := zg1 hu (a := a) (by omega)
   obtain ⟨y, ey, hy⟩ := zku (upN l a : Int) (by omega) (by omega)
   have hy := hy l.Names.length h8
   rw [Int.toNat_natCast] at hy
   have ga : ((0 : Int) <= (a : Int)) := by omega
   have hbit : ∀ b, b < l.Names.length -> bits .and .u8 (Int.fdiv (upN l a : Int) (2 ^ min b (IntKind.bits .u8))) 1 = if up l a b = true then 1 else 0 := fun b hb => by
    rw [uh (by omega) (by omega) (by omega), Int.toNat_natCast]; rfl
   simp only [Int.ofNat_lt, ha, decide_true, cond_true, idxO, Int.toNat_natCast, if_pos ga, hxa, Option.bind_some, ey, hy, qO ga]
   simp only [hbit a ha]
   unfold ordA
   cases e1 : decide (upN l a < 2 ^ l.Names.length) with
   | false => simp
   | true =>
     simp only [Bool.not_true, cond_false, Bool.true_and]
     cases e2 : up l a a with
     | false => simp
     | true =>
       simp only [if_true, Int.reduceEq, decide_false, cond_false, Bool.true_and]
       rw [jg l.Names.length (fun b => if ordB l a b = true then (if b + 1 = l.Names.length then some (.inl ((a : Int) + 1)) else none) else some (.inr (.inr ((a : Int), (6 : Int))))) () (fun b hb => ?_) (by simp)]
       · rw [zet (by omega) (by omega)]
         simp only [Nat.zero_add]
         cases (List.range l.Names.length).all fun b => ordB l a b <;> rfl
       · have hxb := zdv hu (a := b) (by omega)
         have hltb := zg1 hu (a := b) (by omega)
         have gb : ((0 : Int) <= (b : Int)) := by omega
         have hbit' : bits .and .u8 (Int.fdiv (upN l b : Int) (2 ^ min a (IntKind.bits .u8))) 1 = if up l b a = true then 1 else 0 := by
          rw [uh (by omega) (by omega) (by omega), Int.toNat_natCast]; rfl
         simp only [Int.ofNat_lt, hb, decide_true, cond_true, Option.bind_some, Int.toNat_natCast, hxb, if_pos gb, qO gb]
         simp only [hbit b hb, hbit', w64 (e := (l.Names.length : Int) - 1) (by omega) (by omega), w64 (e := (a : Int) + 1) (by omega) (by omega), w64 (e := (b : Int) + 1) (by omega) (by omega)]
         have hnot : decide (bits .andNot .u8 (bits .and .u8 (upN l b : Int) (IntKind.wrap .u8 (IntKind.wrap .u8 (1 * 2 ^ min l.Names.length (IntKind.bits .u8)) - 1))) (upN l a : Int) = 0) = (List.range l.Names.length).all fun i => !up l b i || up l a i := by
          revert hmask hm0
          generalize IntKind.wrap .u8 (IntKind.wrap .u8 (1 * 2 ^ min l.Names.length (IntKind.bits .u8)) - 1) = mask
          intro hmask hm0
          have hand : bits .and .u8 (upN l b : Int) mask = ((upN l b &&& mask.toNat : Nat) : Int) := by
           rw [ul (by omega) (by omega) hm0.1 hm0.2, Int.toNat_natCast]
          have hlt2 : upN l b &&& mask.toNat < 256 := zc0 hltb
          rw [hand, Bool.eq_iff_iff, decide_eq_true_eq, xV (by omega) (by omega) (by omega) (by omega), List.all_eq_true]
          simp only [Int.toNat_natCast, Nat.testBit_and, hmask, zdo]
          constructor
          · intro h i hi
            have := h i
            have hi' : i < l.Names.length := by simpa using hi
            cases e : up l b i with
            | false => rfl
            | true => rw [e] at this; simpa [hi'] using this
          · intro h i hi
            simp only [Bool.and_eq_true, decide_eq_true_eq] at hi
            have := h i (by simpa using hi.2)
            rw [hi.1] at this; simpa using this
         simp only [hnot]
         have hlast : decide ((b : Int) = (l.Names.length : Int) - 1) = decide (b + 1 = l.Names.length) := by
          rw [Bool.eq_iff_iff, decide_eq_true_eq, decide_eq_true_eq]; omega
         simp only [hlast]
         unfold ordB
         cases e3 : up l a b with
         | false => by_cases hl : b + 1 = l.Names.length <;> simp [hl]
         | true =>
           by_cases hba : b = a
           · subst hba
             have d2 : decide ((b : Int) = (b : Int)) = true := by simp
             cases (List.range l.Names.length).all fun i => !up l b i || up l b i with
             | false => by_cases hl : b + 1 = l.Names.length <;> simp [hl]
             | true => by_cases hl : b + 1 = l.Names.length <;> simp [hl]
           · have d2 : decide ((b : Int) = (a : Int)) = false := by simp; omega
             have d3 : decide (b = a) = false := by simp [hba]
             simp only [d2, d3]
             cases up l b a with
             | true => by_cases hl : b + 1 = l.Names.length <;> simp [hl]
             | false =>
               cases (List.range l.Names.length).all fun i => !up l b i || up l a i with
               | false => by_cases hl : b + 1 = l.Names.length <;> simp [hl]
               | true => by_cases hl : b + 1 = l.Names.length <;> simp [hl]
theorem zpv {l : TL} (h : LatIn l) : latR l = latC l := by
 unfold latR; rw [zil l h.u8 h.names h.name]; rfl
end Go.Sx.O
namespace Go.Sx.O
open Go
end Go.Sx.O
namespace Go.Sx.O
open Go
theorem zm2 {g : Nat -> Nat} {n a b c : Nat} (h : bnd g n a b = some c) : c < n /\ g c = g a &&& g b := by
 have key : ∀ {j k : Nat}, scan (fun c => if g c = g a &&& g b then some c else none) k j = some c -> c < k + j /\ g c = g a &&& g b := by
  intro j
  induction j with
  | zero => intro k h; cases h
  | succ j ih =>
    intro k h
    simp only [scan] at h
    split at h
    · rename_i r hr
      cases h
      split at hr
      · rename_i hh; cases hr; exact ⟨by omega, hh⟩
      · cases hr
    · have := ih h
      exact ⟨by omega, this.2⟩
 have := key h
 simpa using this
theorem zaf {l : TL} (h : LatIn l) (k : (latR l).2 = 0) : (∀ a, a < l.Names.length -> ordA l a = true) /\ ∀ a b, a < l.Names.length -> b < l.Names.length -> yg l a b = false := by
 rw [zpv h] at k
 unfold latC at k
 split at k
 case isFalse h0 => exact absurd k h0
 split at k
 case isFalse => cases k
 split at k
 case h_1 r hr =>
  exfalso
  have key : ∀ {j k : Nat}, scan (fun a => if ordA l a = true then none else some ((a : Int), (6 : Int))) k j = some r -> r.2 = 6 := by
   intro j
   induction j with
   | zero => intro k h; cases h
   | succ j ih =>
     intro k h
     simp only [scan] at h
     split at h
     · rename_i r' hr'
       cases h
       split at hr'
       · cases hr'
       · cases hr'; rfl
     · exact ih h
  rw [key hr] at k; cases k
 case h_2 hord =>
  have key2 : ∀ {a j k : Nat} {r : Int × Int}, scan (fun b => if yg l a b = true then some ((a : Int), (4 : Int)) else none) k j = some r -> r.2 = 4 := by
   intro a j
   induction j with
   | zero => intro k r h; cases h
   | succ j ih =>
     intro k r h
     simp only [scan] at h
     split at h
     · rename_i r' hr'
       cases h
       split at hr'
       · cases hr'; rfl
       · cases hr'
     · exact ih h
  have key : ∀ {j k : Nat} {r : Int × Int}, scan (fun a => scan (fun b => if yg l a b = true then some ((a : Int), (4 : Int)) else none) 0 l.Names.length) k j = some r -> r.2 = 4 := by
   intro j
   induction j with
   | zero => intro k r h; cases h
   | succ j ih =>
     intro k r h
     simp only [scan] at h
     split at h
     · rename_i r' hr'
       cases h
       exact key2 hr'
     · exact ih h
  cases hs : scan (fun a => scan (fun b => if yg l a b = true then some ((a : Int), (4 : Int)) else none) 0 l.Names.length) 0 l.Names.length with
  | some r =>
    rw [hs] at k
    have := key hs
    simp only [Option.getD_some] at k
    rw [this] at k; cases k
  | none =>
    refine ⟨fun a ha => ?_, fun a b ha hb => ?_⟩
    · have h1 := scan_none.1 hord a (by omega) (by omega)
      split at h1
      · assumption
      · cases h1
    · have h1 := scan_none.1 (scan_none.1 hs a (by omega) (by omega)) b (by omega) (by omega)
      split at h1
      · cases h1
      · rename_i h2; simpa using h2
theorem zof {l : TL} (h : LatIn l) (k : (latR l).2 = 0) {a b : Nat} (ha : a < l.Names.length) (hb : b < l.Names.length) : ∃ c, bnd (dnN l) l.Names.length a b = some c /\ c < l.Names.length /\ dnN l c = dnN l a &&& dnN l b := by
 have h2 := (zaf h k).2 a b ha hb
 unfold yg at h2
 cases e : bnd (dnN l) l.Names.length a b with
 | none => rw [e] at h2; simp at h2
 | some c => exact ⟨c, rfl, zm2 e⟩
theorem znx {l : TL} (ok : LatOK l) {a b c : Nat} (ha : a < l.Names.length) (hb : b < l.Names.length) (hc : c < l.Names.length) (h1 : up l a b = true) (h2 : up l b c = true) : up l a c = true := (ok.row a ha b hb h1).2 c hc h2
theorem zpc {l : TL} {b i : Nat} : (dnN l b).testBit i = (decide (i < l.Names.length) && up l i b) := zgx l b l.Names.length i
theorem zkp {l : TL} {a b c i : Nat} (hi : i < l.Names.length) (hg : dnN l c = dnN l a &&& dnN l b) : up l i c = (up l i a && up l i b) := by
 have h1 := congrArg (fun x => x.testBit i) hg
 simp only [Nat.testBit_and, zpc, hi, decide_true, Bool.true_and] at h1
 exact h1
theorem zp6 {l : TL} (ok : LatOK l) {a b : Nat} (ha : a < l.Names.length) (hb : b < l.Names.length) (h1 : up l a b = true) (h2 : up l b a = true) : a = b := by
 by_cases e : b = a
 · exact e.symm
 · have := (ok.row a ha b hb h1).1 e
   rw [h2] at this; cases this
theorem zqb {l : TL} (h : LatIn l) (k : (latR l).2 = 0) : ∃ t, t < l.Names.length /\ ∀ a, a < l.Names.length -> up l t a = true := by
 have ok := xB h k
 have key : ∀ j, j <= l.Names.length -> ∃ t, t < l.Names.length /\ ∀ a, a < j -> up l t a = true := by
  intro j
  induction j with
  | zero => intro _; exact ⟨0, ok.pos, fun a ha => absurd ha (by omega)⟩
  | succ j ih =>
    intro hj
    obtain ⟨t, ht, hall⟩ := ih (by omega)
    obtain ⟨c, _, hc, hg⟩ := zof h k ht (show j < l.Names.length by omega)
    have hcc := ok.self c hc
    rw [zkp hc hg, Bool.and_eq_true] at hcc
    refine ⟨c, hc, fun a ha => ?_⟩
    rcases Nat.lt_or_ge a j with g | g
    · exact znx ok hc ht (by omega) hcc.1 (hall a g)
    · have : a = j := by omega
      subst this; exact hcc.2
 exact key _ (Nat.le_refl _)
def botN (l : TL) : Nat := ((List.range l.Names.length).find? fun b => (List.range l.Names.length).all fun a => up l b a).getD 0
theorem zb0 {l : TL} (h : LatIn l) (k : (latR l).2 = 0) : botN l < l.Names.length /\ ∀ a, a < l.Names.length -> up l (botN l) a = true := by
 obtain ⟨t, ht, hall⟩ := zqb h k
 unfold botN
 cases e : (List.range l.Names.length).find? fun b => (List.range l.Names.length).all fun a => up l b a with
 | none =>
   have := List.find?_eq_none.1 e t (by simpa using ht)
   exact absurd (by simp only [List.all_eq_true, List.mem_range]; exact hall) this
 | some b =>
   have h1 := List.find?_some e
   have h2 := List.mem_of_find?_eq_some e
   simp only [List.all_eq_true, List.mem_range] at h1 h2
   exact ⟨h2, h1⟩
theorem zrp {l : TL} (h : LatIn l) (k : (latR l).2 = 0) {b : Nat} (hb : b < l.Names.length) (hall : ∀ a, a < l.Names.length -> up l b a = true) : b = botN l := by
 obtain ⟨h1, h2⟩ := zb0 h k
 exact zp6 (xB h k) hb h1 (hall _ h1) (h2 _ hb)
theorem zm9 {l : TL} (h : LatIn l) (k : (latR l).2 = 0) {b : Nat} (hb : b < l.Names.length) : upN l b = 2 ^ l.Names.length - 1 ↔ b = botN l := by
 have h1 := (zaf h k).1 b hb
 unfold ordA at h1
 simp only [Bool.and_eq_true, decide_eq_true_eq] at h1
 constructor
 · intro e
   refine zrp h k hb fun a ha => ?_
   rw [<- zdo, e, Nat.testBit_two_pow_sub_one]
   simpa using ha
 · rintro rfl
   have h2 := (zb0 h k).2
   refine Nat.eq_of_testBit_eq fun i => ?_
   rw [Nat.testBit_two_pow_sub_one]
   rcases Nat.lt_or_ge i l.Names.length with g | g
   · rw [zdo, h2 i g]; simp [g]
   · rw [Nat.testBit_lt_two_pow (Nat.lt_of_lt_of_le h1.1.1 (Nat.pow_le_pow_right (by omega) g))]
     simp; omega
end Go.Sx.O
namespace Go.Sx.O
open Go
theorem zho (s : List UInt8) (c : Int) : Fz13 s c = some (Go.Lib.indexByte s c.toNat.toUInt8) := by
 unfold Fz13 zS
 rfl
theorem xy (r : Int) (h0 : 0 <= r) (h1 : r < 256) : Fz16 [] r = some false := by
 unfold Fz16
 have key : Tot (Fz15 [] r) fun x => x < 0 := by
  unfold Fz15
  have e0 : decide (0 <= r) = true := by simp [h0]
  simp only [e0, cond_true]
  rw [zA]
  refine ⟨fun _ => ?_, fun h2 => ?_⟩
  · rw [zZ, zt, zho]
    simp only [zp]
    simp [Go.Lib.indexByte]
  · simp only [decide_eq_false_iff_not] at h2
    obtain ⟨x, y, exy, hy⟩ := zk9 (r := r) (by omega) h1
    have e1 : decide (r = 65533) = false := by simp; omega
    simp only [e1, cond_false, exy]
    rw [zt]
    refine (xR r).mono fun v _ => ?_
    rw [zA]
    refine ⟨fun _ => .mk (by decide), fun _ => ?_⟩
    rw [zZ]
    have e2 : IntKind.wrap .i64 (((List.length [x, y] : Nat) : Int) - 1) = 1 := rfl
    rw [e2, zt]
    refine Tot.loop (fun _ => 0) (fun _ => True) (fun _ _ => ?_) trivial
    rw [zA]
    refine ⟨fun h3 => ?_, fun _ => ?_⟩
    · simp only [decide_eq_true_eq, List.length_nil] at h3
      exact absurd h3 (by decide)
    · simp only [zp, Sum.elim_inr, Sum.elim_inl]
      decide
 obtain ⟨x, e, hx⟩ := key
 rw [e]
 have : decide (0 <= x) = false := by simp; omega
 simp [this]
theorem zh3 (r : Int) (h0 : 0 <= r) (h1 : r < 256) : Fz14 r = some true := by
 unfold Fz14
 have e0 : decide (0 <= r) = true := by simp [h0]
 have e1 : decide (r < 55296) = true := by simp; omega
 simp only [e0, e1, cond_true]
theorem zh7 (r : Int) (h0 : 0 <= r) (h1 : r < 256) : Fz31 r = some true := by
 unfold Fz31
 simp only [letO, zhq h0 h1]
 rw [w64 (by omega) (by omega)]
 simp [zh3 r h0 h1]
def lowB (c : UInt8) : Bool := decide (97 <= c.toNat) && decide (c.toNat <= 122)
def digB (c : UInt8) : Bool := decide (48 <= c.toNat) && decide (c.toNat <= 57)
theorem zim {cs : List (List UInt8)} (hcs : cs.length = 10) (h : ∀ s ∈ cs, s.length <= 1000 /\ ∀ c ∈ s, c.toNat < 128) (h6 : cs[6]? = some []) (h8 : cs[8]? = some []) (r : Int) (h0 : 0 <= r) (h1 : r < 256) {Q : Unit ⊕ (Int × Int) -> Prop} (hQ : Q (.inl ())) (hQ' : ∀ x, x ≠ 6 -> x ≠ 8 -> Q (.inr (x, 0))) :
 Tot (lpO (fun (s : Int) => cond (decide (s < 10)) (idxO cs s fun x => letO (IntKind.wrap IntKind.i32 r) fun y => Option.bind (Fz16 x y) fun z => cond z (some (Sum.inr (Sum.inr (s, (0 : Int))))) (letO (IntKind.wrap IntKind.i64 (s + 1)) fun u => some (Sum.inl u))) (some (Sum.inr (Sum.inl ())))) 0) Q := by
 refine Tot.count 10 (fun k s => s = (k : Int)) ?_ rfl
 rintro k _ hk rfl
 simp only [zA, zp, zZ, qi, zt, Sum.elim_inl, Sum.elim_inr, decide_eq_true_eq, decide_eq_false_iff_not, Int.toNat_natCast]
 refine ⟨fun hlt => ?_, fun _ => hQ⟩
 obtain ⟨x, hx⟩ := zB (l := cs) (i := k) (by omega)
 have hx' := h x (List.mem_of_getElem? hx)
 refine ⟨by omega, x, hx, ?_⟩
 rw [zhq h0 h1]
 have nx : k < 10 /\ IntKind.wrap .i64 ((k : Int) + 1) = ((k + 1 : Nat) : Int) := by
  rw [w64 (by omega) (by omega)]; exact ⟨by omega, by omega⟩
 by_cases g6 : k = 6
 · subst g6
   rw [h6] at hx; cases hx
   rw [xy r h0 h1, zp]
   exact ⟨fun e => (by cases e), fun _ => nx⟩
 by_cases g8 : k = 8
 · subst g8
   rw [h8] at hx; cases hx
   rw [xy r h0 h1, zp]
   exact ⟨fun e => (by cases e), fun _ => nx⟩
 refine (zab x r hx'.2 hx'.1 h0 h1).mono fun _ _ => ⟨fun _ => hQ' _ (by omega) (by omega), fun _ => nx⟩
theorem uK (c : UInt8) : Tot (Fz33 (IntKind.wrap .i64 (c.toNat : Int))) fun x => (decide (x.1 = 8) = lowB c) /\ (decide (x.1 = 6) = digB c) := by
 have hc := c.toNat_lt
 rw [w64 (by omega) (by omega)]
 have h0 : (0 : Int) <= c.toNat := by omega
 have h1 : (c.toNat : Int) < 256 := by omega
 unfold Fz33 Fz32 lowB digB
 rw [zh7 _ h0 h1]
 simp only [Option.bind_some, Bool.not_true, cond_false]
 have L : ¬ (48 <= c.toNat /\ c.toNat <= 57) -> ¬ (97 <= c.toNat /\ c.toNat <= 122) -> _ := fun d1 d2 => zim (cs := [[], [32], [10], [40, 91], [41, 93], [34], [], [45], [], [60, 61]]) rfl (by decide) rfl rfl c.toNat h0 h1 (Q := fun a => Tot (Sum.elim (fun _ => some ((10 : Int), (0 : Int))) some a) fun (x : Int × Int) => (decide (x.1 = 8) = (decide (97 <= c.toNat) && decide (c.toNat <= 122))) /\ (decide (x.1 = 6) = (decide (48 <= c.toNat) && decide (c.toNat <= 57))))
  (.mk (by
    have a1 : (decide (97 <= c.toNat) && decide (c.toNat <= 122)) = false := by simp; omega
    have a2 : (decide (48 <= c.toNat) && decide (c.toNat <= 57)) = false := by simp; omega
    rw [a1, a2]; exact ⟨rfl, rfl⟩)) (fun x e6 e8 => .mk (by
    have a1 : (decide (97 <= c.toNat) && decide (c.toNat <= 122)) = false := by simp; omega
    have a2 : (decide (48 <= c.toNat) && decide (c.toNat <= 57)) = false := by simp; omega
    rw [a1, a2]; simp [e6, e8]))
 simp only [zA, zp, zt, decide_eq_true_eq, decide_eq_false_iff_not]
 have six : 48 <= c.toNat -> c.toNat <= 57 -> decide ((6 : Int) = 8) = (decide (97 <= c.toNat) && decide (c.toNat <= 122)) /\ decide ((6 : Int) = 6) = (decide (48 <= c.toNat) && decide (c.toNat <= 57)) := by
  intro d1 d2
  have a1 : (decide (97 <= c.toNat) && decide (c.toNat <= 122)) = false := by simp; omega
  have a2 : (decide (48 <= c.toNat) && decide (c.toNat <= 57)) = true := by simp; omega
  rw [a1, a2]; exact ⟨rfl, rfl⟩
 have eight : 97 <= c.toNat -> c.toNat <= 122 -> decide ((8 : Int) = 8) = (decide (97 <= c.toNat) && decide (c.toNat <= 122)) /\ decide ((8 : Int) = 6) = (decide (48 <= c.toNat) && decide (c.toNat <= 57)) := by
  intro d1 d2
  have a1 : (decide (97 <= c.toNat) && decide (c.toNat <= 122)) = true := by simp; omega
  have a2 : (decide (48 <= c.toNat) && decide (c.toNat <= 57)) = false := by simp; omega
  rw [a1, a2]; exact ⟨rfl, rfl⟩
 refine ⟨fun d1 => ⟨fun d2 => six (by omega) (by omega), fun d2 => ⟨fun d3 => ⟨fun d4 => eight (by omega) (by omega), fun d4 => L (by omega) (by omega)⟩, fun d3 => L (by omega) (by omega)⟩⟩, fun d1 => ⟨fun d3 => ⟨fun d4 => eight (by omega) (by omega), fun d4 => L (by omega) (by omega)⟩, fun d3 => L (by omega) (by omega)⟩⟩
def yW (s : List UInt8) : Bool := (match s with | [] => false | c :: _ => lowB c) && s.all fun c => lowB c || digB c
theorem zn1 {s : List UInt8} {p : UInt8 -> Bool} {k : Nat} {c : UInt8} (h : (s.take k).all p = true) (hc : s[k]? = some c) (hp : p c = true) : (s.take (k + 1)).all p = true := by
 rw [List.take_add_one, hc, List.all_append, h]
 simp [hp]
theorem zcm (s : List UInt8) (h : s.length <= 1000000) : Tot (Fz36 (TK.mk 1 0 0 0 s)) fun x => decide (x = 0) = (yW s && decide (s.length <= 16)) := by
 unfold Fz36
 dsimp only
 have e2 : decide ((1 : Int) < 1) = false := rfl
 have e3 : decide ((9 : Int) < 1) = false := rfl
 simp only [e2, e3, decide_true, cond_true, cond_false, Option.bind_some, Sum.elim_inl, Bool.and_self, Bool.not_true]
 rw [zt]
 have Qn : ∀ x : Int, yW s = false -> Tot (Sum.elim (fun (n : Int) => cond (decide (n < (s.length : Int))) (some (3 : Int)) (some (0 : Int))) some (Sum.inr 6 : Int ⊕ Int)) fun x => decide (x = 0) = (yW s && decide (s.length <= 16)) := by
  intro _ e
  rw [e]; exact .mk rfl
 have Qy : yW s = true -> Tot (Sum.elim (fun (n : Int) => cond (decide (n < (s.length : Int))) (some (3 : Int)) (some (0 : Int))) some (Sum.inl 16 : Int ⊕ Int)) fun x => decide (x = 0) = (yW s && decide (s.length <= 16)) := by
  intro e
  rw [e]
  simp only [Sum.elim_inl, zA, zp, decide_eq_true_eq, decide_eq_false_iff_not]
  refine ⟨fun g => ?_, fun g => ?_⟩
  · have : decide (s.length <= 16) = false := by simp; omega
    rw [this]; rfl
  · have : decide (s.length <= 16) = true := by simp; omega
    rw [this]; rfl
 rw [zA]
 refine ⟨fun h1 => ?_, fun h1 => ?_⟩
 · simp only [zp]
   refine Qn 0 ?_
   have : s = [] := List.length_eq_zero_iff.1 (by simpa using h1)
   rw [this]; rfl
 simp only [decide_eq_false_iff_not] at h1
 obtain ⟨c, hc⟩ := zB (l := s) (i := 0) (by omega)
 have hs0 : ∃ r, s = c :: r := by
  cases s with
  | nil => simp at hc
  | cons a r => simp at hc; exact ⟨r, by rw [hc]⟩
 have e0 : (0 : Int).toNat = 0 := rfl
 simp only [qi, zZ, zt, e0]
 refine ⟨by omega, c, hc, (uK c).mono fun x hx => ?_⟩
 rw [zA]
 refine ⟨fun g => ?_, fun g => ?_⟩
 · simp only [zp]
   refine Qn 0 ?_
   obtain ⟨r, rfl⟩ := hs0
   have : lowB c = false := by rw [<- hx.1]; simpa using g
   unfold yW; simp [this]
 have hlow : lowB c = true := by rw [<- hx.1]; simpa using g
 simp only [qi, zZ, zt, e0]
 refine ⟨by omega, c, hc, (uK c).mono fun y hy => ?_⟩
 refine Tot.loop (fun (p : Int × Int) => s.length - p.2.toNat) (fun (p : Int × Int) => 0 <= p.2 /\ p.2 <= (s.length : Int) /\ (s.take p.2.toNat).all (fun c => lowB c || digB c) = true /\ ((p.2 = (s.length : Int) /\ p.1 = 10) \/ ∃ d, s[p.2.toNat]? = some d /\ decide (p.1 = 8) = lowB d /\ decide (p.1 = 6) = digB d)) ?_ ⟨by simp, by simp, by simp, .inr ⟨c, by simpa using hc, hy⟩⟩
 rintro ⟨k, a⟩ ⟨h2, h3, hall, h4⟩
 simp only at h2 h3 hall h4
 have round : (k = 8 \/ k = 6) -> ∀ {Q : (Bool × Int × Int) ⊕ (Int ⊕ Int) -> Prop}, Tot (letO (IntKind.wrap .i64 (a + 1)) fun (u : Int) => cond (decide ((s.length : Int) <= u)) (some (Sum.inl ((10 : Int), u))) (idxO s u fun (v : UInt8) => letO (IntKind.wrap .i64 (v.toNat : Int)) fun (z : Int) => Option.bind (Fz33 z) fun r => some (Sum.inl (r.1, u)))) (Sum.elim (fun (s' : Int × Int) => (0 <= s'.2 /\ s'.2 <= (s.length : Int) /\ (s.take s'.2.toNat).all (fun c => lowB c || digB c) = true /\ ((s'.2 = (s.length : Int) /\ s'.1 = 10) \/ ∃ d, s[s'.2.toNat]? = some d /\ decide (s'.1 = 8) = lowB d /\ decide (s'.1 = 6) = digB d)) /\ s.length - s'.2.toNat < s.length - a.toNat) Q) := by
  intro hk Q
  rcases h4 with ⟨g1, g2⟩ | ⟨d, hd, d1, d2⟩
  · omega
  have hlt : a.toNat < s.length := by
   rcases Nat.lt_or_ge a.toNat s.length with g | g
   · exact g
   · rw [List.getElem?_eq_none g] at hd; cases hd
  have hp : (lowB d || digB d) = true := by
   rw [<- d1, <- d2]
   rcases hk with rfl | rfl <;> rfl
  have e1 : (a + 1).toNat = a.toNat + 1 := by omega
  have hall' : (s.take (a + 1).toNat).all (fun c => lowB c || digB c) = true := by rw [e1]; exact zn1 hall hd hp
  rw [zZ, w64 (by omega) (by omega), zA]
  refine ⟨fun g => ?_, fun g => ?_⟩
  · simp only [decide_eq_true_eq] at g
    simp only [zp, Sum.elim_inl]
    exact ⟨⟨by omega, by omega, hall', .inl ⟨by omega, trivial⟩⟩, by omega⟩
  · simp only [decide_eq_false_iff_not] at g
    obtain ⟨d', hd'⟩ := zB (l := s) (i := (a + 1).toNat) (by omega)
    simp only [qi, zZ, zt]
    refine ⟨by omega, d', hd', (uK d').mono fun z hz => ?_⟩
    simp only [zp, Sum.elim_inl]
    exact ⟨⟨by omega, by omega, hall', .inr ⟨d', hd', hz⟩⟩, by omega⟩
 rw [zA]
 refine ⟨fun g => round (.inl (by simpa using g)), fun g => ?_⟩
 rw [zA]
 refine ⟨fun g' => round (.inr (by simpa using g')), fun g' => ?_⟩
 simp only [zp, Sum.elim_inr, Sum.elim_inl, qv, zA, e0, List.drop_zero]
 refine ⟨by omega, fun hne => ?_, fun heq => ?_⟩
 · refine (zp (Q := fun x => decide (x = 0) = (yW s && decide (s.length <= 16)))).1 (Qn 0 ?_)
   rcases h4 with ⟨g1, _⟩ | ⟨d, hd, d1, d2⟩
   · exfalso
     have : a.toNat = s.length := by omega
     rw [this, List.take_length] at hne
     simp at hne
   · unfold yW
     have : (s.all fun c => lowB c || digB c) = false := by
      rw [List.all_eq_false]
      refine ⟨d, List.mem_of_getElem? hd, ?_⟩
      rw [<- d1, <- d2, g, g']
      simp
     rw [this, Bool.and_false]
 · have ht : s.take a.toNat = s := by simpa using heq
   rw [ht] at hall
   have hw : yW s = true := by
    unfold yW
    obtain ⟨r, rfl⟩ := hs0
    simp only [hall, hlow, Bool.and_self]
   rw [hw]
   refine ⟨fun g => ?_, fun g => ?_⟩
   · have : decide (s.length <= 16) = false := by simp at g ⊢; omega
     rw [this]; rfl
   · have : decide (s.length <= 16) = true := by simp at g ⊢; omega
     rw [this]; rfl
end Go.Sx.O
namespace Go.Sx.O
open Go
def uF : List (List UInt8) := [[110, 101, 103], [97, 98, 115], [110, 111, 116], [115, 104, 97, 112, 101], [114, 97, 118, 101, 108], [114, 101, 118, 101, 114, 115, 101], [102, 108, 105, 112], [105, 111, 116, 97], [115, 117, 109], [108, 101, 97, 115, 116], [109, 111, 115, 116], [99, 111, 117, 110, 116], [115, 99, 97, 110], [103, 114, 97, 100, 101], [97, 100, 100], [115, 117, 98], [109, 117, 108], [100, 105, 118], [109, 111, 100], [112, 108, 117, 115], [109, 105, 110, 117, 115], [116, 105, 109, 101, 115], [101, 113], [110, 101], [108, 116], [108, 101], [103, 116], [103, 101], [97, 110, 100], [111, 114], [109, 105, 110], [109, 97, 120], [116, 97, 107, 101], [100, 114, 111, 112], [102, 105, 108, 108], [103, 114, 105, 100], [99, 97, 116], [97, 116], [105, 110], [112, 105, 99, 107]]
theorem zdj (s : List UInt8) : Tot (Fz30 s) fun x => decide (x.2 = 0) = decide (s ∈ uF) := by
 by_cases hm : s ∈ uF
 · have h2 : ∀ t ∈ uF, ∃ x, Fz30 t = some x /\ decide (x.2 = 0) = true := by
    unfold uF
    simp only [List.forall_mem_cons]
    repeat' constructor
    intro t ht; cases ht
   obtain ⟨x, e, hx⟩ := h2 s hm
   exact ⟨x, e, by show decide (x.2 = 0) = _; rw [hx]; simp [hm]⟩
 · have hd : decide (s ∈ uF) = false := by simp [hm]
   rw [hd]
   unfold Fz30
   unfold uF at hm
   simp only [List.mem_cons, List.not_mem_nil, or_false, not_or] at hm
   have sw : ∀ n : List UInt8, (n = s) = (s = n) := fun n => propext eq_comm
   simp only [sw, hm, decide_false, cond_false, Option.bind_some, Sum.elim_inl, zp]
   rfl
def resN : List (List UInt8) := [[118, 97, 114], [100, 101, 102], [111, 117, 116], [105, 102], [101, 108, 115, 101], [119, 104, 105, 108, 101], [101, 110, 100], [114, 101, 108, 101, 97, 115, 101], [105, 110, 116], [99, 104, 97, 114]]
def exN (s : List UInt8) : Bool := !decide (s ∈ resN) && !decide (s ∈ uF) && (yW s && decide (s.length <= 16))
theorem ua (s : List UInt8) (h : s.length <= 1000000) : Fz37 s = some (exN s) := by
 apply Tot.eq
 unfold exN
 by_cases hm : s ∈ resN
 · have h2 : ∀ t ∈ resN, Fz37 t = some false := by
    unfold resN
    simp only [List.forall_mem_cons]
    repeat' constructor
    intro t ht; cases ht
   rw [h2 s hm, zp]
   simp [hm]
 · have hd : decide (s ∈ resN) = false := by simp [hm]
   rw [hd]
   unfold Fz37
   unfold resN at hm
   simp only [List.mem_cons, List.not_mem_nil, or_false, not_or] at hm
   change Tot (cond (decide (s = [118, 97, 114])) _ (cond (decide (s = [100, 101, 102])) _ (cond (decide (s = [111, 117, 116])) _ (cond (decide (s = [105, 102])) _ (cond (decide (s = [101, 108, 115, 101])) _ (cond (decide (s = [119, 104, 105, 108, 101])) _ (cond (decide (s = [101, 110, 100])) _ (cond (decide (s = [114, 101, 108, 101, 97, 115, 101])) _ (cond (decide (s = [105, 110, 116])) _ (cond (decide (s = [99, 104, 97, 114])) _ _)))))))))) _
   simp only [hm, decide_false, cond_false, zt]
   refine (zdj s).mono fun x hx => ?_
   rw [hx, zA]
   refine ⟨fun g => ?_, fun g => ?_⟩
   · rw [g]; exact .mk rfl
   · rw [g, zt]
     refine (zcm s h).mono fun y hy => .mk ?_
     rw [hy]; rfl
end Go.Sx.O
namespace Go.Sx.O
open Go
theorem m1 : max (1 : Int) 0 = 1 := by decide
end Go.Sx.O
namespace Go.Sx.O
open Go
end Go.Sx.O
namespace Go.Sx.O
open Go
theorem qU {σ τ ε : Type} {step : σ -> Option (σ ⊕ (ε ⊕ τ))} {k1 : ε -> Option τ} (n : Nat) (S : Nat -> σ) (f : Nat -> Option τ) (e : ε)
 (h1 : ∀ k : Nat, k < n -> step (S k) = some (match f k with | some r => .inr (.inr r) | none => .inl (S (k + 1))))
 (h2 : step (S n) = some (.inr (.inl e))) {s0 : σ} (h0 : S 0 = s0) : (lpO step s0).bind (Sum.elim k1 some) = match scan f 0 n with | some r => some r | none => k1 e := by
 subst h0
 rw [uH n S (fun k => (f k).map Sum.inr) (.inl e) (fun k hk => by rw [h1 k hk]; cases f k <;> rfl) h2, jj]
 cases scan f 0 n <;> rfl
theorem uN {σ τ ε : Type} {step : σ -> Option (σ ⊕ (ε ⊕ τ))} {k1 : ε -> Option τ} (n : Nat) (S : Nat -> σ) (e : ε)
 (h1 : ∀ k : Nat, k < n -> step (S k) = some (.inl (S (k + 1)))) (h2 : step (S n) = some (.inr (.inl e))) {s0 : σ} (h0 : S 0 = s0) : (lpO step s0).bind (Sum.elim k1 some) = k1 e := by
 subst h0
 rw [zpa n S (.inl e) h1 h2]; rfl
def foldN : List (List UInt8) := [[], [115, 117, 109], [99, 111, 117, 110, 116], [108, 101, 97, 115, 116], [109, 111, 115, 116]]
def xJ (n : Int) : List UInt8 × Int := if n < 1 \/ 4 < n then ([], 2) else (foldN.getD n.toNat [], 0)
theorem zkx {n : Int} (h : ¬ (n < 1 \/ 4 < n)) : n = 1 \/ n = 2 \/ n = 3 \/ n = 4 := by omega
theorem zii (n : Int) : Fz53 n = some (xJ n) := by
 unfold Fz53 xJ
 by_cases h : n < 1 \/ 4 < n
 · rw [if_pos h]
   rcases h with h | h
   · simp [h]
   · have : ¬ n < 1 := by omega
     simp [this, h]
 · rw [if_neg h]
   rcases zkx h with rfl | rfl | rfl | rfl <;> rfl
def i64 (n : Int) : Prop := -9223372036854775808 <= n /\ n <= 9223372036854775807
end Go.Sx.O
namespace Go.Sx.O
open Go
end Go.Sx.O
namespace Go.Sx.O
open Go
end Go.Sx.O
namespace Go.Sx.O
open Go
theorem zgf {n : Int} (h : inK .u8 n) : 0 <= n /\ n < 256 := by
 have e1 : IntKind.u8.min = 0 := by decide
 have e2 : IntKind.u8.max = 255 := by decide
 unfold inK at h
 omega
end Go.Sx.O
namespace Go.Sx.O
open Go
def labB (l : TL) (a : Int) : Bool := decide (0 <= a) && decide (a < (l.Names.length : Int))
theorem yx (l : TL) (a : Int) : Fz38 l a = some (labB l a) := by
 unfold Fz38 labB
 by_cases h : 0 <= a <;> simp [h]
def nmE (s : List UInt8) (before : List (List UInt8)) : Int := if exN s = true then (if s ∈ before then 8 else 0) else 24
theorem inL_iff {α : Type} [DecidableEq α] {a : α} {l : List α} : inL a l = true ↔ a ∈ l := by
 unfold inL; simp
def chK (p : TP) (k : Nat) : Option (Int × Int) := match p.Channels[k]? with
 | some c => if nmE c.s_ ((p.Channels.take k).map (·.s_)) ≠ 0 then some ((k : Int), nmE c.s_ ((p.Channels.take k).map (·.s_))) else if labB p.Lattice c.at_ = true then none else some ((k : Int), 7)
 | none => none
def chC (p : TP) : Int × Int := if (16 : Int) < (p.Channels.length : Int) then (-1, 3) else match scan (chK p) 0 p.Channels.length with | some r => r | none => (0, 0)
theorem uY (p : TP) (hs : ∀ c ∈ p.Channels, c.s_.length <= 1000000) : Fz39 p = some (chC p) := by
 unfold Fz39 chC
 simp only [List.length_map]
 by_cases h : (16 : Int) < (p.Channels.length : Int)
 · simp [h]
 simp only [h, decide_false, cond_false, if_false]
 refine (qU p.Channels.length (fun k => ((k : Int), (p.Channels.take k).map (·.s_))) (chK p) () (fun k hk => ?_) ?_ rfl).trans ?_
 · obtain ⟨x, hx⟩ := zB hk
   have hlt : (k : Int) < (p.Channels.length : Int) := by omega
   have hw : IntKind.wrap .i64 ((k : Int) + 1) = ((k + 1 : Nat) : Int) := w64 (by omega) (by omega)
   have n1 : (0 : Int) <= (k : Int) := by omega
   have e : (p.Channels.take (k + 1)).map (·.s_) = (p.Channels.take k).map (·.s_) ++ [x.s_] := by rw [List.take_add_one, hx]; simp
   simp only [hlt, decide_true, cond_true, idxO, n1, if_true, Int.toNat_natCast, hx, Option.bind_some, letO, hw, ua x.s_ (hs x (List.mem_of_getElem? hx)), yx, chK, e]
   unfold nmE
   cases exN x.s_ with
   | false => simp
   | true =>
     cases hi : inL x.s_ ((p.Channels.take k).map (·.s_)) with
     | true =>
       have := inL_iff.1 hi
       simp only [Bool.not_true, cond_false, cond_true, if_true, if_pos this]
       simp
     | false =>
       have : ¬ x.s_ ∈ (p.Channels.take k).map (·.s_) := fun h => by rw [inL_iff.2 h] at hi; cases hi
       simp only [Bool.not_true, cond_false, if_true, if_neg this]
       cases labB p.Lattice x.at_ <;> simp
 · simp
 · cases scan (chK p) 0 p.Channels.length <;> rfl
end Go.Sx.O
namespace Go.Sx.O
open Go
def vrK (g : TY -> Int) (p : TP) (k : Nat) : Option (Int × Int) := match p.Vars[k]? with
 | some c => if nmE c.Name ((p.Vars.take k).map (·.Name)) ≠ 0 then some ((k : Int), nmE c.Name ((p.Vars.take k).map (·.Name))) else if g c.Type_ = 0 then none else some ((k : Int), g c.Type_)
 | none => none
def vrC (g : TY -> Int) (p : TP) : Int × Int := if (32 : Int) < (p.Vars.length : Int) then (-1, 3) else match scan (vrK g p) 0 p.Vars.length with | some r => r | none => (0, 0)
theorem zd4 (g : TY -> Int) (p : TP) (hs : ∀ c ∈ p.Vars, c.Name.length <= 1000000) (hg : ∀ c ∈ p.Vars, Fz49 p.Lattice c.Type_ = some (g c.Type_)) : Fz50 p = some (vrC g p) := by
 unfold Fz50 vrC
 simp only [List.length_map]
 by_cases h : (32 : Int) < (p.Vars.length : Int)
 · simp [h]
 simp only [h, decide_false, cond_false, if_false]
 refine (qU p.Vars.length (fun k => ((k : Int), (p.Vars.take k).map (·.Name))) (vrK g p) () (fun k hk => ?_) ?_ rfl).trans ?_
 · obtain ⟨x, hx⟩ := zB hk
   have hlt : (k : Int) < (p.Vars.length : Int) := by omega
   have hw : IntKind.wrap .i64 ((k : Int) + 1) = ((k + 1 : Nat) : Int) := w64 (by omega) (by omega)
   have n1 : (0 : Int) <= (k : Int) := by omega
   have e : (p.Vars.take (k + 1)).map (·.Name) = (p.Vars.take k).map (·.Name) ++ [x.Name] := by rw [List.take_add_one, hx]; simp
   simp only [hlt, decide_true, cond_true, idxO, n1, if_true, Int.toNat_natCast, hx, Option.bind_some, letO, hw, ua x.Name (hs x (List.mem_of_getElem? hx)), hg x (List.mem_of_getElem? hx), vrK, e]
   unfold nmE
   cases exN x.Name with
   | false => simp
   | true =>
     cases hi : inL x.Name ((p.Vars.take k).map (·.Name)) with
     | true =>
       have := inL_iff.1 hi
       simp only [Bool.not_true, cond_false, cond_true, if_true, if_pos this]
       simp
     | false =>
       have : ¬ x.Name ∈ (p.Vars.take k).map (·.Name) := fun h => by rw [inL_iff.2 h] at hi; cases hi
       simp only [Bool.not_true, cond_false, if_true, if_neg this]
       by_cases hz : g x.Type_ = 0 <;> simp [hz]
 · simp
 · cases scan (vrK g p) 0 p.Vars.length <;> rfl
end Go.Sx.O
namespace Go.Sx.O
open Go
theorem zh5 (x : Int) (h0 : 0 <= x) (h1 : x < 256) : Tot (Fz41 x) fun y => ∀ n : Nat, n <= 8 -> x.toNat < 2 ^ n -> decide (y < (n : Int)) = !decide (x.toNat = 2 ^ n - 1) := by
 unfold Fz41
 rw [qi]
 refine ⟨h0, ?_⟩
 have key : ∀ l : List UInt8, (∀ x : Fin 256, ∀ n : Fin 9, (l[x.val]?.map fun y => decide (x.val < 2 ^ n.val -> decide (IntKind.wrap .i64 (y.toNat : Int) < (n.val : Int)) = !decide (x.val = 2 ^ n.val - 1))) = some true) ->
  ∃ y, l[x.toNat]? = some y /\ Tot (letO (IntKind.wrap .i64 (y.toNat : Int)) fun z => some z) fun y => ∀ n : Nat, n <= 8 -> x.toNat < 2 ^ n -> decide (y < (n : Int)) = !decide (x.toNat = 2 ^ n - 1) := by
  intro l hl
  cases e : l[x.toNat]? with
  | none =>
    have := hl ⟨x.toNat, by omega⟩ ⟨0, by omega⟩
    simp only [e] at this
    cases this
  | some y =>
    refine ⟨y, rfl, .mk fun n hn hx => ?_⟩
    have := hl ⟨x.toNat, by omega⟩ ⟨n, by omega⟩
    simp only [e, Option.map_some, Option.some.injEq, decide_eq_true_eq] at this
    exact this hx
 exact key _ (by decide +kernel)
theorem zk4 {l : TL} (h : LatIn l) : Fz43 l = some (if (latR l).2 = 0 then ((botN l : Int), 0) else (0, (latR l).2)) := by
 unfold Fz43
 rw [zie h [] (by simp)]
 simp only [Option.bind_some, askE, List.all_nil, if_true]
 by_cases hk : (latR l).2 = 0
 case neg => simp [hk]
 have ok := xB h hk
 simp only [hk, if_true, decide_true, Bool.not_true, cond_false]
 obtain ⟨o, e1, on, ol, _, ou, _⟩ := zfx l ok.u8 ok.le ok.len
 rw [e1]
 simp only [Option.bind_some]
 have hb := (zb0 h hk).1
 have hend : Fz42 o.up_ o.n_ = some (botN l : Int) := by
  unfold Fz42
  rw [on]
  have hw : IntKind.wrap .i64 ((l.Names.length : Int) - 1) = ((l.Names.length - 1 : Nat) : Int) := by
   have := ok.pos; have := ok.le
   rw [w64 (by omega) (by omega)]; omega
  have hle := ok.le
  have hpos := ok.pos
  have hrun := uH (step := fun (s585 : Int) =>
   letO (IntKind.wrap IntKind.i64 ((l.Names.length : Int) - (1 : Int))) fun x591 =>
   cond (decide (s585 < x591))
   (zm ((0 : Int) <= s585 /\ s585 < (↑(8 : Nat) : Int)) (
   idxO (o.up_) ((↑(Int.toNat s585) : Int)) fun x593 =>
   Option.bind (Fz41 (x593)) fun x594 =>
   cond (decide (x594 < (l.Names.length : Int)))
   (letO (IntKind.wrap IntKind.i64 (s585 + (1 : Int))) fun x596 =>
   some (Sum.inl (x596)))
   (some (Sum.inr (Sum.inl (β := Int) s585)))))
   (some (Sum.inr (Sum.inl s585)))) (l.Names.length - 1) (fun k => (k : Int)) (fun k => if k = botN l then some (Sum.inl (k : Int)) else none) (Sum.inl ((l.Names.length - 1 : Nat) : Int)) (fun k hk2 => by
     have hlt : (k : Int) < ((l.Names.length - 1 : Nat) : Int) := by omega
     have n1 : (0 : Int) <= (k : Int) := by omega
     have n2 : (k : Int) < ((8 : Nat) : Int) := by omega
     have hw2 : IntKind.wrap .i64 ((k : Int) + 1) = ((k + 1 : Nat) : Int) := w64 (by omega) (by omega)
     obtain ⟨x, hx⟩ := zB (l := l.Up) (i := k) (by have := ok.len; omega)
     have hx' := ok.u8.get hx
     have hox : o.up_[k]? = some x := by rw [ou k (by omega)]; exact hx
     obtain ⟨y, ey, hy⟩ := zh5 x hx'.1 hx'.2
     have hux : x.toNat = upN l k := by unfold upN; rw [List.getD_eq_getElem?_getD, hx]; rfl
     have hf := zm9 h hk (b := k) (by omega)
     have hlt2 : x.toNat < 2 ^ l.Names.length := by
      have h1 := (zaf h hk).1 k (by omega)
      unfold ordA at h1
      simp only [Bool.and_eq_true, decide_eq_true_eq] at h1
      rw [hux]; exact h1.1.1
     have hd := hy l.Names.length hle hlt2
     rw [hux] at hd
     simp only [letO, hw, hlt, decide_true, cond_true, zm, n1, n2, and_self, if_true, idxO, Int.toNat_natCast, hox, Option.bind_some, ey, hw2, hd]
     by_cases hq : k = botN l
     · have := hf.2 hq
       simp only [this, if_pos hq, decide_true, Bool.not_true, cond_false]
     · have : ¬ upN l k = 2 ^ l.Names.length - 1 := fun e => hq (hf.1 e)
       simp only [this, if_neg hq, decide_false, Bool.not_false, cond_true]) (by
     simp only [letO, hw]
     simp)
  have hs0 : ((0 : Nat) : Int) = 0 := rfl
  simp only [hs0] at hrun
  rw [hrun]
  have hsc : (scan (fun k => if k = botN l then some (Sum.inl (α := Int) (β := Int) (k : Int)) else none) 0 (l.Names.length - 1)).getD (Sum.inl ((l.Names.length - 1 : Nat) : Int)) = Sum.inl (botN l : Int) := by
   cases e : scan (fun k => if k = botN l then some (Sum.inl (α := Int) (β := Int) (k : Int)) else none) 0 (l.Names.length - 1) with
   | some r =>
     have : r = Sum.inl (botN l : Int) := zbt (v := Sum.inl (botN l : Int)) (fun i => by
      by_cases hi : i = botN l
      · exact .inl (by rw [if_pos hi, hi])
      · exact .inr (by rw [if_neg hi])) e
     rw [this]; rfl
   | none =>
     have hn := scan_none.1 e
     rcases Nat.lt_or_ge (botN l) (l.Names.length - 1) with g | g
     · have := hn (botN l) (by omega) (by omega)
       simp at this
     · have : botN l = l.Names.length - 1 := by omega
       rw [this]; rfl
  rw [hsc]
  rfl
 rw [hend]
 rfl
end Go.Sx.O
namespace Go.Sx.O
open Go
end Go.Sx.O
namespace Go.Sx.O
open Go
theorem zlv {l : TL} (hu : U8s l.Up) {a b : Nat} (ha : a < l.Up.length) (hb : b <= 8) : Fz45 l a b = some (up l a b) := by
 unfold Fz45
 obtain ⟨x, hx⟩ := zB ha
 have hx' := hu.get hx
 have key : ∀ u : Fin 256, ∀ b : Fin 9, decide (bits .and .u8 (Int.fdiv (u.val : Int) (2 ^ min b.val (IntKind.bits .u8))) 1 = 1) = Nat.testBit u b := by decide +kernel
 have := key ⟨x.toNat, by omega⟩ ⟨b, by omega⟩
 simp only [Int.toNat_of_nonneg hx'.1] at this
 simp only [Int.natCast_nonneg, idxO, Int.toNat_natCast, if_true, hx, Option.bind_some, zm, this, yQ hx]
theorem zc2 {l : TL} (h : LatIn l) (hk : (latR l).2 = 0) (xs : List Int) (hx : xs.length <= 64) (hl : ∀ x ∈ xs, wy l x = true) : Fz44 l xs = some (0, 0) := by
 unfold Fz44
 rw [ur h]
 have h64 : ¬ (64 : Int) < (xs.length : Int) := by omega
 simp only [Option.bind_some, hk, decide_true, Bool.not_true, cond_false, List.length_map, h64, decide_false]
 refine (uN xs.length (fun k => (k : Int)) () (fun k hk => ?_) (by simp) rfl).trans rfl
 obtain ⟨x, hx⟩ := zB hk
 have hq := hl x (List.mem_of_getElem? hx)
 unfold wy at hq
 simp only [Bool.and_eq_true, decide_eq_true_eq] at hq
 have hlt : (k : Int) < (xs.length : Int) := by omega
 have hw : IntKind.wrap .i64 ((k : Int) + 1) = ((k + 1 : Nat) : Int) := w64 (by omega) (by omega)
 have n1 : (0 : Int) <= (k : Int) := by omega
 have n2 : ¬ x < 0 := by omega
 have n3 : ¬ (l.Names.length : Int) <= x := by omega
 simp only [hlt, decide_true, cond_true, idxO, n1, if_true, Int.toNat_natCast, hx, Option.bind_some, letO, hw, n2, n3, decide_false, cond_false]
def flK (l : TL) (xs : List Int) (a : Int) (k : Nat) : Option Int := match xs[k]? with
 | some x => if up l x.toNat a.toNat = true then none else some (k : Int)
 | none => none
def flV (l : TL) (xs : List Int) (a : Int) : Int × Int := match scan (flK l xs a) 0 xs.length with | some r => (r, 25) | none => (0, 0)
theorem znv {l : TL} (h : LatIn l) (hk : (latR l).2 = 0) (xs : List Int) (hx : xs.length <= 64) (hl : ∀ x ∈ xs, wy l x = true) (a : Int) (ha : wy l a = true) :
 Fz48 l xs a = some (flV l xs a) := by
 have ok := xB h hk
 have hle := ok.le
 have hlen := ok.len
 unfold Fz48
 rw [zc2 h hk xs hx hl]
 unfold wy at ha
 simp only [Bool.and_eq_true, decide_eq_true_eq] at ha
 have n2 : ¬ a < 0 := by omega
 have n3 : ¬ (l.Names.length : Int) <= a := by omega
 simp only [Option.bind_some, decide_true, Bool.not_true, cond_false, n2, n3, decide_false, List.length_map]
 have hi : Fz47 xs (l, a) = some (match scan (flK l xs a) 0 xs.length with | some r => r | none => -1) := by
  unfold Fz47
  simp only [List.length_map]
  refine (qU xs.length (fun k => (k : Int)) (flK l xs a) () (fun k hk => ?_) (by simp) rfl).trans ?_
  · obtain ⟨x, hx⟩ := zB hk
    have hq := hl x (List.mem_of_getElem? hx)
    unfold wy at hq
    simp only [Bool.and_eq_true, decide_eq_true_eq] at hq
    have hlt : (k : Int) < (xs.length : Int) := by omega
    have hw : IntKind.wrap .i64 ((k : Int) + 1) = ((k + 1 : Nat) : Int) := w64 (by omega) (by omega)
    have n1 : (0 : Int) <= (k : Int) := by omega
    have hb : Fz45 l x a = some (up l x.toNat a.toNat) := by
     have := zlv ok.u8 (a := x.toNat) (b := a.toNat) (by omega) (by omega)
     rwa [Int.toNat_of_nonneg hq.1, Int.toNat_of_nonneg ha.1] at this
    simp only [hlt, decide_true, cond_true, idxO, n1, if_true, Int.toNat_natCast, hx, Option.bind_some, letO, hw, Fz46, hb, flK]
    cases up l x.toNat a.toNat <;> simp
  · cases scan (flK l xs a) 0 xs.length <;> rfl
 rw [hi]
 unfold flV
 cases e : scan (flK l xs a) 0 xs.length with
 | none => simp
 | some r =>
   have : 0 <= r := by
    have key : ∀ {j k : Nat} {b : Int}, scan (flK l xs a) k j = some b -> 0 <= b := by
     intro j
     induction j with
     | zero => intro k b h; cases h
     | succ j ih =>
       intro k b h
       simp only [scan] at h
       cases hf : flK l xs a k with
       | none => rw [hf] at h; exact ih h
       | some z =>
         rw [hf] at h
         cases h
         unfold flK at hf
         split at hf
         · split at hf
           · cases hf
           · cases hf; omega
         · cases hf
    exact key e
   simp [this]
end Go.Sx.O
namespace Go.Sx.O
open Go
noncomputable def xE (l : TL) (t : TY) : Int :=
 if t.Rank < 0 \/ 2 < t.Rank then 7
 else if labB l t.Axes.1 = true /\ labB l t.Axes.2 = true /\ labB l t.Data = true then
  if ([t.Axes.1, t.Axes.2].drop t.Rank.toNat).all (fun x => decide (x = (botN l : Int))) = true then
   if ([t.Axes.1, t.Axes.2].take t.Rank.toNat).all (fun x => up l x.toNat t.Data.toNat) = true then 0 else 25
  else 6
 else 7
noncomputable def zaw (l : TL) (t : TY) : Int := if (latR l).2 = 0 then (if t.Kind = 1 \/ t.Kind = 2 then xE l t else 7) else (latR l).2
theorem zla {β : Type} (v : β) (b : Int) (xs : List Int) (hx : xs.length <= 2) : scan (fun k => match xs[k]? with | some x => if x = b then none else some v | none => none) 0 xs.length = if xs.all (fun x => decide (x = b)) = true then none else some v := by
 match xs, hx with
 | [], _ => rfl
 | [x], _ => by_cases h : x = b <;> simp [scan, h]
 | [x, y], _ => by_cases h : x = b <;> by_cases g : y = b <;> simp [scan, h, g]
theorem znt (l : TL) (a : Int) (xs : List Int) (hx : xs.length <= 2) : (flV l xs a).2 = if xs.all (fun x => up l x.toNat a.toNat) = true then 0 else 25 := by
 match xs, hx with
 | [], _ => rfl
 | [x], _ => cases h : up l x.toNat a.toNat <;> simp [flV, scan, flK, h]
 | [x, y], _ => cases h : up l x.toNat a.toNat <;> cases g : up l y.toNat a.toNat <;> simp [flV, scan, flK, h, g]
theorem zll {l : TL} (h : LatIn l) (hk : (latR l).2 = 0) (t : TY) (hr : ¬ (t.Rank < 0 \/ 2 < t.Rank)) (l1 : labB l t.Axes.1 = true) (l2 : labB l t.Axes.2 = true) (l3 : labB l t.Data = true) :
 (Option.bind (lpO (fun (s612 : Int) =>
 cond (decide (s612 < (↑(List.length (List.drop (Int.toNat t.Rank) (List.take (Int.toNat (↑(2 : Nat) : Int)) [SV.int IntKind.i64 t.Axes.fst, SV.int IntKind.i64 t.Axes.snd]))) : Int)))
 (idxO (List.drop (Int.toNat t.Rank) (List.take (Int.toNat (↑(2 : Nat) : Int)) [t.Axes.fst, t.Axes.snd])) (s612) fun x617 =>
 cond (!decide (x617 = (botN l : Int)))
 (some (Sum.inr (Sum.inr ((6 : Int)))))
 (letO (IntKind.wrap IntKind.i64 (s612 + (1 : Int))) fun x619 =>
 some (Sum.inl (x619))))
 (some (Sum.inr (Sum.inl (()))))) ((0 : Int)))
 (Sum.elim (fun (_ : Unit) =>
 zm ((0 : Int) <= t.Rank /\ t.Rank <= (↑(2 : Nat) : Int)) (
 Option.bind (Fz48 l (List.drop (Int.toNat (0 : Int)) (List.take (Int.toNat t.Rank) [t.Axes.fst, t.Axes.snd])) (t.Data)) fun x653 =>
 cond (!decide (x653.snd = (0 : Int)))
 (some (x653.snd))
 (some ((0 : Int))))) some)) = some (xE l t) := by
 have e0 : List.take (Int.toNat ((2 : Nat) : Int)) [t.Axes.fst, t.Axes.snd] = [t.Axes.fst, t.Axes.snd] := rfl
 have e1 : List.take (Int.toNat ((2 : Nat) : Int)) [SV.int IntKind.i64 t.Axes.fst, SV.int IntKind.i64 t.Axes.snd] = [SV.int IntKind.i64 t.Axes.fst, SV.int IntKind.i64 t.Axes.snd] := rfl
 have e2 : List.drop (Int.toNat 0) (List.take (Int.toNat t.Rank) [t.Axes.fst, t.Axes.snd]) = List.take (Int.toNat t.Rank) [t.Axes.fst, t.Axes.snd] := rfl
 rw [e0, e1, e2]
 have hlen : (List.drop (Int.toNat t.Rank) [SV.int IntKind.i64 t.Axes.fst, SV.int IntKind.i64 t.Axes.snd]).length = (List.drop (Int.toNat t.Rank) [t.Axes.fst, t.Axes.snd]).length := by simp
 rw [hlen]
 have hd2 : (List.drop (Int.toNat t.Rank) [t.Axes.fst, t.Axes.snd]).length <= 2 := by simp
 have ht2 : (List.take (Int.toNat t.Rank) [t.Axes.fst, t.Axes.snd]).length <= 2 := by simp; omega
 have htl : ∀ x ∈ List.take (Int.toNat t.Rank) [t.Axes.fst, t.Axes.snd], wy l x = true := fun x hx => by
  have := List.mem_of_mem_take hx
  simp only [List.mem_cons, List.not_mem_nil, or_false] at this
  rcases this with rfl | rfl
  · exact l1
  · exact l2
 unfold xE
 rw [if_neg hr, if_pos ⟨l1, l2, l3⟩]
 generalize hD : List.drop (Int.toNat t.Rank) [t.Axes.fst, t.Axes.snd] = D at hd2 ⊢
 generalize hT : List.take (Int.toNat t.Rank) [t.Axes.fst, t.Axes.snd] = T at ht2 htl ⊢
 refine (qU D.length (fun k => (k : Int)) (fun k => match D[k]? with | some x => if x = (botN l : Int) then none else some (6 : Int) | none => none) () (fun k hk => ?_) (by simp) rfl).trans ?_
 · obtain ⟨x, hx⟩ := zB hk
   have hlt : (k : Int) < (D.length : Int) := by omega
   have hw : IntKind.wrap .i64 ((k : Int) + 1) = ((k + 1 : Nat) : Int) := w64 (by omega) (by omega)
   have n1 : (0 : Int) <= (k : Int) := by omega
   simp only [hlt, decide_true, cond_true, idxO, n1, if_true, Int.toNat_natCast, hx, Option.bind_some, letO, hw]
   by_cases hb : x = (botN l : Int) <;> simp [hb]
 · rw [zla (6 : Int) (botN l : Int) D hd2]
   by_cases hall : D.all (fun x => decide (x = (botN l : Int))) = true
   · simp only [hall, if_true]
     unfold zm
     rw [if_pos (by omega), znv h hk T (by omega) htl t.Data l3]
     have := znt l t.Data T ht2
     simp only [Option.bind_some]
     rw [this]
     split <;> rfl
   · rw [if_neg hall, if_neg hall]
end Go.Sx.O
namespace Go.Sx.O
open Go
theorem zdw {l : TL} (h : LatIn l) (t : TY) : Fz49 l t = some (zaw l t) := by
 unfold Fz49 zaw
 rw [zk4 h]
 by_cases hk : (latR l).2 = 0
 case neg => simp [hk]
 simp only [hk, if_true, Option.bind_some, decide_true, Bool.not_true, cond_false, yx]
 by_cases r1 : t.Rank < 0
 · by_cases k1 : t.Kind = 1 <;> by_cases k2 : t.Kind = 2 <;> simp [k1, k2, r1, xE]
 by_cases r2 : 2 < t.Rank
 · by_cases k1 : t.Kind = 1 <;> by_cases k2 : t.Kind = 2 <;> simp [k1, k2, r1, r2, xE]
 have hr : ¬ (t.Rank < 0 \/ 2 < t.Rank) := by omega
 have hside : (0 : Int) <= t.Rank /\ t.Rank <= ((2 : Nat) : Int) := by omega
 cases l1 : labB l t.Axes.fst with
 | false => by_cases k1 : t.Kind = 1 <;> by_cases k2 : t.Kind = 2 <;> simp [k1, k2, r1, r2, xE, l1]
 | true =>
   cases l2 : labB l t.Axes.snd with
   | false => by_cases k1 : t.Kind = 1 <;> by_cases k2 : t.Kind = 2 <;> simp [k1, k2, r1, r2, xE, l1, l2]
   | true =>
     cases l3 : labB l t.Data with
     | false => by_cases k1 : t.Kind = 1 <;> by_cases k2 : t.Kind = 2 <;> simp [k1, k2, r1, r2, xE, l1, l2, l3]
     | true =>
       have key := zll h hk t hr l1 l2 l3
       simp only [Bool.not_true, cond_false, r1, r2, decide_false]
       by_cases k1 : t.Kind = 1
       · simp only [k1, decide_true, Bool.not_true, cond_false, true_or, if_true]
         rw [zm, if_pos hside]
         exact key
       · by_cases k2 : t.Kind = 2
         · simp only [k1, k2, decide_true, decide_false, Bool.not_true, Bool.not_false, cond_true, cond_false, or_true, if_true]
           rw [zm, if_pos hside]
           exact key
         · simp [k1, k2]
end Go.Sx.O
namespace Go.Sx.O
open Go
end Go.Sx.O
namespace Go.Sx.O
open Go
def ckK {α τ : Type} (c : α -> Bool) (v : τ) (L : List α) (j : Nat) : Option τ := match L[j]? with | some y => if c y = true then some v else none | none => none
theorem zce {α τ : Type} (c : α -> Bool) (v : τ) (L : List α) (n : Nat) (hn : n <= L.length) : scan (ckK c v L) 0 n = if (L.take n).any c = true then some v else none := by
 by_cases h : (L.take n).any c = true
 · rw [if_pos h]
   cases e : scan (ckK c v L) 0 n with
   | some r =>
     have : r = v := zbt (v := v) (fun i => by
      unfold ckK
      cases L[i]? with
      | none => exact .inr rfl
      | some x => by_cases hx : c x = true <;> simp [hx]) e
     rw [this]
   | none =>
     exfalso
     rw [List.any_eq_true] at h
     obtain ⟨x, hx, hc⟩ := h
     obtain ⟨i, hi, hxi⟩ := List.getElem_of_mem hx
     rw [List.length_take] at hi
     have := scan_none.1 e i (by omega) (by omega)
     rw [List.getElem_take] at hxi
     unfold ckK at this
     rw [List.getElem?_eq_getElem (by omega), hxi] at this
     simp [hc] at this
 · rw [if_neg h, scan_none]
   intro i _ hi
   unfold ckK
   obtain ⟨x, hx⟩ := zB (l := L) (i := i) (by omega)
   rw [hx]
   have : ¬ c x = true := fun hc => h (by
    rw [List.any_eq_true]
    exact ⟨x, List.mem_take_iff_getElem.2 ⟨i, by omega, by rw [List.getElem?_eq_getElem (by omega)] at hx; exact Option.some.inj hx⟩, hc⟩)
   simp [this]
def zfk (x y : TU) : Bool := decide (y.From = x.From) && decide (y.Goal = x.Goal)
def rlK (p : TP) (k : Nat) : Option (Int × Int) := match p.Rules[k]? with
 | some x => if labB p.Lattice x.From = true then (if labB p.Lattice x.Goal = true then (if x.From = x.Goal then some ((k : Int), 25) else if up p.Lattice x.Goal.toNat x.From.toNat = true then (if (p.Rules.take k).any (zfk x) = true then some ((k : Int), 8) else if x.K < 2 then some ((k : Int), 3) else if 400 < x.K then some ((k : Int), 3) else none) else some ((k : Int), 25)) else some ((k : Int), 7)) else some ((k : Int), 7)
 | none => none
def rlC (p : TP) : Int × Int := if (64 : Int) < (p.Rules.length : Int) then (-1, 3) else match scan (rlK p) 0 p.Rules.length with | some r => r | none => (0, 0)
theorem zpo (x : TU) (L : List TU) : inL (x.From, x.Goal) (L.map fun y => (y.From, y.Goal)) = L.any (zfk x) := by
 rw [Bool.eq_iff_iff, inL_iff, List.any_eq_true]
 simp only [List.mem_map, Prod.mk.injEq, zfk, Bool.and_eq_true, decide_eq_true_eq]
theorem zpz {x : Int} (h0 : 0 <= x) (h1 : x < 256) {b : Nat} (hb : b <= 8) : decide (bits .and .u8 (Int.fdiv x (2 ^ min b (IntKind.bits .u8))) 1 = 0) = !Nat.testBit x.toNat b := by
 have key : ∀ u : Fin 256, ∀ b : Fin 9, decide (bits .and .u8 (Int.fdiv (u.val : Int) (2 ^ min b.val (IntKind.bits .u8))) 1 = 0) = !Nat.testBit u b := by decide +kernel
 have := key ⟨x.toNat, by omega⟩ ⟨b, by omega⟩
 simpa only [Int.toNat_of_nonneg h0] using this
theorem zcz (p : TP) (h : LatIn p.Lattice) (hk : (latR p.Lattice).2 = 0) : Fz51 p = some (rlC p) := by
 have ok := xB h hk
 have hle := ok.le
 have hlen := ok.len
 unfold Fz51 rlC
 simp only [List.length_map]
 by_cases h6 : (64 : Int) < (p.Rules.length : Int)
 · simp [h6]
 simp only [h6, decide_false, cond_false, if_false]
 refine (qU p.Rules.length (fun k => ((k : Int), (p.Rules.take k).map fun y => (y.From, y.Goal))) (rlK p) () (fun k hk => ?_) ?_ rfl).trans ?_
 · obtain ⟨x, hx⟩ := zB hk
   have hlt : (k : Int) < (p.Rules.length : Int) := by omega
   have hw : IntKind.wrap .i64 ((k : Int) + 1) = ((k + 1 : Nat) : Int) := w64 (by omega) (by omega)
   have n1 : (0 : Int) <= (k : Int) := by omega
   have e : (p.Rules.take (k + 1)).map (fun y => (y.From, y.Goal)) = (p.Rules.take k).map (fun y => (y.From, y.Goal)) ++ [(x.From, x.Goal)] := by rw [List.take_add_one, hx]; simp
   simp only [hlt, decide_true, cond_true, idxO, n1, if_true, Int.toNat_natCast, hx, Option.bind_some, letO, hw, yx, rlK, e, zpo]
   cases l1 : labB p.Lattice x.From with
   | false => simp
   | true =>
     cases l2 : labB p.Lattice x.Goal with
     | false => simp
     | true =>
       unfold labB at l1 l2
       simp only [Bool.and_eq_true, decide_eq_true_eq] at l1 l2
       obtain ⟨u, hu⟩ := zB (l := p.Lattice.Up) (i := x.Goal.toNat) (by omega)
       have hu' := ok.u8.get hu
       have hb := zpz hu'.1 hu'.2 (b := x.From.toNat) (by omega)
       have n2 : (0 : Int) <= x.Goal := l2.1
       have n3 : (0 : Int) <= x.From := l1.1
       simp only [Bool.not_true, cond_false, n2, if_true, hu, Option.bind_some, zm, n3, hb, yQ hu]
       by_cases hfg : x.From = x.Goal
       · simp [hfg]
       cases hbt : Nat.testBit u.toNat x.From.toNat with
       | false => simp [hfg]
       | true =>
         cases (p.Rules.take k).any (zfk x) with
         | true => simp [hfg]
         | false =>
           by_cases k2 : x.K < 2
           · simp [hfg, k2]
           · by_cases k4 : 400 < x.K <;> simp [hfg, k2, k4]
 · simp
 · cases scan (rlK p) 0 p.Rules.length <;> rfl
end Go.Sx.O
namespace Go.Sx.O
open Go
structure PolIn (p : TP) : Prop where
 lat : LatIn p.Lattice
 chan : ∀ c ∈ p.Channels, c.s_.length <= 1000000
 var : ∀ c ∈ p.Vars, c.Name.length <= 1000000
noncomputable def polC (p : TP) : Int × Int × Int :=
 if (latR p.Lattice).2 = 0 then (if (chC p).2 = 0 then (if (vrC (zaw p.Lattice) p).2 = 0 then (if (rlC p).2 = 0 then (0, 0, 0) else (4, rlC p)) else (3, vrC (zaw p.Lattice) p)) else (2, chC p)) else (1, latR p.Lattice)
theorem zd8 {τ : Type} {P : τ -> Prop} {f : Nat -> Option τ} (hf : ∀ i r, f i = some r -> P r) : ∀ {n k r}, scan f k n = some r -> P r := by
 intro n
 induction n with
 | zero => intro k r h; cases h
 | succ n ih =>
   intro k r h
   simp only [scan] at h
   split at h
   · rename_i b hb; cases h; exact hf _ _ hb
   · exact ih h
theorem zgq {p : TP} (h : (rlC p).2 = 0) : rlC p = (0, 0) := by
 unfold rlC at h ⊢
 split at h
 · simp at h
 · rename_i h6
   rw [if_neg h6]
   cases e : scan (rlK p) 0 p.Rules.length with
   | none => rfl
   | some r =>
     exfalso
     rw [e] at h
     have := zd8 (P := fun r : Int × Int => r.2 ≠ 0) (fun i r hr => by
      unfold rlK at hr
      revert hr
      repeat' split
      all_goals (intro hr; cases hr <;> simp)) e
     exact this h
theorem yV {p : TP} (h : PolIn p) : Fz52 p = some (polC p) := by
 unfold Fz52 polC Fz29
 rw [ur h.lat, uY p h.chan, zd4 (zaw p.Lattice) p h.var (fun c _ => zdw h.lat _)]
 by_cases hk : (latR p.Lattice).2 = 0
 case neg => simp [hk]
 rw [zcz p h.lat hk]
 by_cases h2 : (chC p).2 = 0
 case neg => simp [hk, h2]
 by_cases h3 : (vrC (zaw p.Lattice) p).2 = 0
 case neg => simp [hk, h2, h3]
 by_cases h4 : (rlC p).2 = 0
 case neg => simp [hk, h2, h3, h4]
 simp [hk, h2, h3, zgq h4]
theorem zje {p : TP} (h : (polC p).2.2 = 0) : (latR p.Lattice).2 = 0 := by
 unfold polC at h
 by_cases hk : (latR p.Lattice).2 = 0
 · exact hk
 · rw [if_neg hk] at h; exact absurd h hk
theorem zk1 {p : TP} (h : (polC p).2.2 = 0) : rlC p = (0, 0) := by
 unfold polC at h
 split at h
 · split at h
   · split at h
     · split at h
       · rename_i h4; exact zgq h4
       · rename_i h4; exact absurd h h4
     · rename_i h4; exact absurd h h4
   · rename_i h4; exact absurd h h4
 · rename_i h4; exact absurd h h4
def rfK (p : TP) (a b : Int) (k : Nat) : Option (Int × Int) := match p.Rules[k]? with
 | some x => if x.From = a then (if x.Goal = b then some (x.K, 0) else none) else none
 | none => none
noncomputable def rulC (p : TP) (a b : Int) : Int × Int :=
 if (polC p).2.2 = 0 then (if labB p.Lattice a = true then (if labB p.Lattice b = true then (match scan (rfK p a b) 0 p.Rules.length with | some r => r | none => (0, 4)) else (0, 7)) else (0, 7)) else (0, (polC p).2.2)
theorem zlq {p : TP} (h : (polC p).2.2 = 0) : p.Rules.length <= 64 := by
 have := zk1 h
 unfold rlC at this
 split at this
 · cases this
 · omega
theorem zdz {p : TP} (h : PolIn p) (a b : Int) : Fz54 p a b = some (rulC p a b) := by
 unfold Fz54 rulC
 rw [yV h]
 by_cases h0 : (polC p).2.2 = 0
 case neg => simp [h0]
 have hl := zlq h0
 simp only [Option.bind_some, h0, decide_true, Bool.not_true, cond_false, yx, if_true, List.length_map]
 cases labB p.Lattice a with
 | false => simp
 | true =>
   cases labB p.Lattice b with
   | false => simp
   | true =>
     simp only [Bool.not_true, cond_false, if_true]
     refine (qU p.Rules.length (fun k => (k : Int)) (rfK p a b) () (fun k hk => ?_) ?_ rfl).trans ?_
     · obtain ⟨x, hx⟩ := zB hk
       have hlt : (k : Int) < (p.Rules.length : Int) := by omega
       have hw : IntKind.wrap .i64 ((k : Int) + 1) = ((k + 1 : Nat) : Int) := w64 (by omega) (by omega)
       have n1 : (0 : Int) <= (k : Int) := by omega
       simp only [hlt, decide_true, cond_true, idxO, n1, if_true, Int.toNat_natCast, hx, letO, hw, rfK]
       by_cases c1 : x.From = a <;> by_cases c2 : x.Goal = b <;> simp [c1, c2]
     · simp
     · cases scan (rfK p a b) 0 p.Rules.length <;> rfl
theorem zd2 {α : Type} {L : List α} {N : Nat} {c : α -> Bool} (h : (L.take (min L.length N)).any c = false) (hn : L.length <= N) : ∀ x ∈ L, c x = false := by
 rw [Nat.min_eq_left hn, List.take_length] at h
 simpa using h
theorem zia (L : List (List UInt8)) : ∃ b, Fz0 L = some b /\ (b = false -> L.length <= 12 /\ ∀ s ∈ L, s.length <= 100) := by
 unfold Fz0
 simp only [List.length_map]
 rw [qU (s0 := (0 : Int)) (min L.length 20) (fun k => (k : Int)) (ckK (fun s : List UInt8 => decide ((100 : Int) < (s.length : Int))) true L) () ?_ ?_ rfl, zce _ _ _ _ (by omega)]
 · cases h : (L.take (min L.length 20)).any (fun s => decide ((100 : Int) < (s.length : Int))) with
   | true => exact ⟨true, rfl, fun h => by cases h⟩
   | false =>
     refine ⟨_, rfl, fun h12 => ?_⟩
     have h12 : L.length <= 12 := by simp at h12; omega
     exact ⟨h12, fun s hs => by have := zd2 h (by omega) s hs; simp at this; omega⟩
 · intro k hk
   obtain ⟨x, hx⟩ := zB (l := L) (i := k) (by omega)
   have hlt : (k : Int) < (L.length : Int) := by omega
   have hlt2 : (k : Int) < 20 := by omega
   have hw : IntKind.wrap .i64 ((k : Int) + 1) = ((k + 1 : Nat) : Int) := w64 (by omega) (by omega)
   have n1 : (0 : Int) <= (k : Int) := by omega
   simp only [hlt, hlt2, decide_true, cond_true, idxO, n1, if_true, Int.toNat_natCast, hx, letO, hw, ckK]
   by_cases c1 : (100 : Int) < (x.length : Int) <;> simp [c1]
 · by_cases c1 : ((min L.length 20 : Nat) : Int) < (L.length : Int)
   · have c2 : ¬ ((min L.length 20 : Nat) : Int) < 20 := by omega
     simp only [c1, c2, decide_true, decide_false, cond_true, cond_false]
   · simp only [c1, decide_false, cond_false]
theorem znb (p : TP) (hu : U8s p.Lattice.Up) : ∃ b, Fz2 p = some b /\ (b = false -> PolIn p) := by
 unfold Fz2
 simp only [List.length_map]
 rw [qU (s0 := (0 : Int)) (min p.Channels.length 25) (fun k => (k : Int)) (ckK (fun s : TR => decide ((100 : Int) < (s.s_.length : Int))) true p.Channels) () ?_ ?_ rfl, zce _ _ _ _ (by omega)]
 rotate_left
 · intro k hk
   obtain ⟨x, hx⟩ := zB (l := p.Channels) (i := k) (by omega)
   have hlt : (k : Int) < (p.Channels.length : Int) := by omega
   have hlt2 : (k : Int) < 25 := by omega
   have hw : IntKind.wrap .i64 ((k : Int) + 1) = ((k + 1 : Nat) : Int) := w64 (by omega) (by omega)
   have n1 : (0 : Int) <= (k : Int) := by omega
   simp only [hlt, hlt2, decide_true, cond_true, idxO, n1, if_true, Int.toNat_natCast, hx, letO, hw, ckK]
   by_cases c1 : (100 : Int) < (x.s_.length : Int) <;> simp [c1]
 · by_cases c1 : ((min p.Channels.length 25 : Nat) : Int) < (p.Channels.length : Int)
   · have c2 : ¬ ((min p.Channels.length 25 : Nat) : Int) < 25 := by omega
     simp only [c1, c2, decide_true, decide_false, cond_true, cond_false]
   · simp only [c1, decide_false, cond_false]
 cases hc : (p.Channels.take (min p.Channels.length 25)).any (fun s => decide ((100 : Int) < (s.s_.length : Int))) with
 | true => exact ⟨true, rfl, fun h => by cases h⟩
 | false =>
   simp only [Bool.false_eq_true, if_false]
   rw [qU (s0 := (0 : Int)) (min p.Vars.length 45) (fun k => (k : Int)) (ckK (fun s : TV => decide ((100 : Int) < (s.Name.length : Int))) true p.Vars) () ?_ ?_ rfl, zce _ _ _ _ (by omega)]
   rotate_left
   · intro k hk
     obtain ⟨x, hx⟩ := zB (l := p.Vars) (i := k) (by omega)
     have hlt : (k : Int) < (p.Vars.length : Int) := by omega
     have hlt2 : (k : Int) < 45 := by omega
     have hw : IntKind.wrap .i64 ((k : Int) + 1) = ((k + 1 : Nat) : Int) := w64 (by omega) (by omega)
     have n1 : (0 : Int) <= (k : Int) := by omega
     simp only [hlt, hlt2, decide_true, cond_true, idxO, n1, if_true, Int.toNat_natCast, hx, letO, hw, ckK]
     by_cases c1 : (100 : Int) < (x.Name.length : Int) <;> simp [c1]
   · by_cases c1 : ((min p.Vars.length 45 : Nat) : Int) < (p.Vars.length : Int)
     · have c2 : ¬ ((min p.Vars.length 45 : Nat) : Int) < 45 := by omega
       simp only [c1, c2, decide_true, decide_false, cond_true, cond_false]
     · simp only [c1, decide_false, cond_false]
   cases hv : (p.Vars.take (min p.Vars.length 45)).any (fun s => decide ((100 : Int) < (s.Name.length : Int))) with
   | true => exact ⟨true, rfl, fun h => by cases h⟩
   | false =>
     simp only [Bool.false_eq_true, if_false]
     unfold Fz1
     obtain ⟨b, e, hb⟩ := zia p.Lattice.Names
     rw [e]
     simp only [Option.bind_some, List.length_map]
     cases b with
     | true => exact ⟨true, rfl, fun h => by cases h⟩
     | false =>
       obtain ⟨hb1, hb2⟩ := hb rfl
       simp only [cond_false, Option.bind_some]
       by_cases h12 : (12 : Int) < (p.Lattice.Up.length : Int)
       · exact ⟨true, by simp [h12], fun h => by cases h⟩
       by_cases h20 : (20 : Int) < (p.Channels.length : Int)
       · exact ⟨true, by simp [h12, h20], fun h => by cases h⟩
       by_cases h40 : (40 : Int) < (p.Vars.length : Int)
       · exact ⟨true, by simp [h12, h20, h40], fun h => by cases h⟩
       simp only [h12, h20, h40, decide_false, cond_false]
       refine ⟨_, rfl, fun _ => ⟨⟨hu, by omega, fun s hs => by have := hb2 s hs; omega⟩, fun c h => ?_, fun c h => ?_⟩⟩
       · have := zd2 hc (by omega) c h; simp at this; omega
       · have := zd2 hv (by omega) c h; simp at this; omega
end Go.Sx.O
namespace Go.Sx.O
open Go
def xZ (x : TE) (k : Int) : Bool := if x.Cells < k then decide (x.Value.1 = 0) && decide (x.Value.2 = 0) else decide (x.Value.1 = 1) && (!decide (x.Fold = 2) || (decide (0 <= x.Value.2) && decide (x.Value.2 <= x.Cells)))
noncomputable def chkC (p : TP) (x : TE) : Int :=
 if (polC p).2.2 = 0 then (if (xJ x.Fold).2 = 0 then (if x.Site < 0 \/ 1000000000 < x.Site \/ x.Cells < 0 \/ 400 < x.Cells then 7 else if (rulC p x.From x.Goal).2 = 0 then (if xZ x (rulC p x.From x.Goal).1 = true then 0 else 6) else (rulC p x.From x.Goal).2) else (xJ x.Fold).2) else (polC p).2.2
theorem zf4 (x : TE) (k : Int) : Fz55 x k = some (xZ x k) := by
 unfold Fz55 xZ
 by_cases h : x.Cells < k
 · simp [h]
 by_cases h1 : x.Value.1 = 1
 case neg => simp [h, h1]
 by_cases h2 : x.Fold = 2
 case neg => simp [h, h1, h2]
 by_cases h3 : 0 <= x.Value.2 <;> simp [h, h1, h2, h3]
theorem zgp {p : TP} (h : PolIn p) (x : TE) : Fz56 p x = some (chkC p x) := by
 unfold Fz56 chkC
 rw [yV h, zii, zdz h]
 simp only [Option.bind_some, zf4]
 by_cases h0 : (polC p).2.2 = 0
 case neg => simp [h0]
 by_cases h1 : (xJ x.Fold).2 = 0
 case neg => simp [h0, h1]
 by_cases h2 : x.Site < 0
 · simp [h0, h1, h2]
 by_cases h3 : 1000000000 < x.Site
 · simp [h0, h1, h2, h3]
 by_cases h4 : x.Cells < 0
 · simp [h0, h1, h2, h3, h4]
 by_cases h5 : 400 < x.Cells
 · simp [h0, h1, h2, h3, h4, h5]
 by_cases h6 : (rulC p x.From x.Goal).2 = 0
 case neg => simp [h0, h1, h2, h3, h4, h5, h6]
 cases h7 : xZ x (rulC p x.From x.Goal).1 <;> simp [h0, h1, h2, h3, h4, h5, h6, h7]
theorem zrt {l : List Int} (h : allW (inK .u8) l) : U8s l := fun x hx => zgf (h x hx)
end Go.Sx.O
namespace Go.Sx.O
open Go
noncomputable def auK (p : TP) (l : List TE) (k : Nat) : Option (Int × Int) := match l[k]? with
 | some x => if chkC p x = 0 then (if x.Site = 0 then some ((k : Int), 6) else none) else some ((k : Int), chkC p x)
 | none => none
noncomputable def audC (p : TP) (l : List TE) : Int × Int := if (polC p).2.2 = 0 then (if (2000 : Int) < (l.length : Int) then (-1, 3) else match scan (auK p l) 0 l.length with | some r => r | none => (0, 0)) else (-1, (polC p).2.2)
theorem jb {p : TP} (h : PolIn p) (l : List TE) (hl : l.length <= 1000000) : Fz57 p l = some (audC p l) := by
 unfold Fz57 audC
 rw [yV h]
 simp only [Option.bind_some, List.length_map]
 by_cases hk : (polC p).2.2 = 0
 case neg => simp [hk]
 simp only [hk, decide_true, Bool.not_true, cond_false, if_true]
 by_cases h2 : (2000 : Int) < (l.length : Int)
 · simp [h2]
 simp only [h2, decide_false, cond_false, if_false]
 refine (qU l.length (fun k => (k : Int)) (auK p l) () (fun k hk => ?_) (by simp) rfl).trans ?_
 · obtain ⟨x, hx⟩ := zB hk
   have hlt : (k : Int) < (l.length : Int) := by omega
   have hw : IntKind.wrap .i64 ((k : Int) + 1) = ((k + 1 : Nat) : Int) := w64 (by omega) (by omega)
   have n1 : (0 : Int) <= (k : Int) := by omega
   simp only [hlt, decide_true, cond_true, idxO, n1, if_true, Int.toNat_natCast, hx, Option.bind_some, letO, hw, zgp h, auK]
   by_cases c1 : chkC p x = 0 <;> by_cases c2 : x.Site = 0 <;> simp [c1, c2]
 · cases scan (auK p l) 0 l.length <;> rfl
theorem zok {p : TP} {x : TE} (h : chkC p x = 0) : labB p.Lattice x.Goal = true := by
 unfold chkC at h
 by_cases h1 : (polC p).2.2 = 0
 case neg => rw [if_neg h1] at h; exact absurd h h1
 rw [if_pos h1] at h
 by_cases h2 : (xJ x.Fold).2 = 0
 case neg => rw [if_neg h2] at h; exact absurd h h2
 rw [if_pos h2] at h
 split at h
 · cases h
 by_cases h3 : (rulC p x.From x.Goal).2 = 0
 case neg => rw [if_neg h3] at h; exact absurd h h3
 unfold rulC at h3
 rw [if_pos h1] at h3
 by_cases h4 : labB p.Lattice x.From = true
 case neg => rw [if_neg h4] at h3; exact absurd h3 (by decide)
 rw [if_pos h4] at h3
 by_cases h5 : labB p.Lattice x.Goal = true
 · exact h5
 · rw [if_neg h5] at h3; exact absurd h3 (by decide)
theorem zl3 {p : TP} {l : List TE} (h : (audC p l).2 = 0) : (polC p).2.2 = 0 /\ l.length <= 2000 /\ ∀ x ∈ l, labB p.Lattice x.Goal = true := by
 unfold audC at h
 by_cases hk : (polC p).2.2 = 0
 case neg => rw [if_neg hk] at h; exact absurd h hk
 rw [if_pos hk] at h
 by_cases h2 : (2000 : Int) < (l.length : Int)
 · rw [if_pos h2] at h; exact absurd h (by decide)
 rw [if_neg h2] at h
 refine ⟨hk, by omega, fun x hx => ?_⟩
 cases hs : scan (auK p l) 0 l.length with
 | some r =>
   rw [hs] at h
   have : r.2 ≠ 0 := zd8 (P := fun r => r.2 ≠ 0) (fun i r hr => by
    unfold auK at hr
    split at hr
    · split at hr
      · split at hr
        · cases hr; exact (by decide : (6 : Int) ≠ 0)
        · cases hr
      · cases hr; assumption
    · cases hr) hs
   exact absurd h this
 | none =>
   obtain ⟨i, hi, e⟩ := List.getElem_of_mem hx
   have := scan_none.1 hs i (by omega) (by omega)
   unfold auK at this
   rw [List.getElem?_eq_getElem hi, e] at this
   simp only at this
   split at this
   · rename_i hc; exact zok hc
   · cases this
def zh (p : TP) (l : List TE) (o : Int) : List TE := l.filter fun x => up p.Lattice x.Goal.toNat o.toNat
theorem zl1 {p : TP} {l : List TE} {o : Int} {k : Nat} {x : TE} (hx : l[k]? = some x) : zh p (l.take (k + 1)) o = if up p.Lattice x.Goal.toNat o.toNat = true then zh p (l.take k) o ++ [x] else zh p (l.take k) o := by
 unfold zh
 rw [List.take_add_one, hx, List.filter_append]
 by_cases c : up p.Lattice x.Goal.toNat o.toNat = true <;> simp [c]
theorem zn9 {p : TP} {l : List TE} {o : Int} {k : Nat} : (zh p (l.take k) o).length <= k := by
 unfold zh
 exact Nat.le_trans (List.length_filter_le _ _) (by simp; omega)
theorem jN {p : TP} (h : PolIn p) {l : List TE} (hl : (audC p l).2 = 0) {o : Int} (ho : labB p.Lattice o = true) : Fz59 p l o = some (zh p l o) := by
 obtain ⟨hk, h2, hg⟩ := zl3 hl
 have ok := xB h.lat (zje hk)
 have hle := ok.le
 have hlen := ok.len
 unfold labB at ho
 simp only [Bool.and_eq_true, decide_eq_true_eq] at ho
 unfold Fz59
 simp only [List.length_map]
 refine (uN l.length (fun k => ((k : Int), zh p (l.take k) o)) (zh p l o) (fun k hkn => ?_) ?_ rfl).trans rfl
 · obtain ⟨x, hx⟩ := zB hkn
   have hgx := hg x (List.mem_of_getElem? hx)
   unfold labB at hgx
   simp only [Bool.and_eq_true, decide_eq_true_eq] at hgx
   obtain ⟨y, hy⟩ := zB (l := p.Lattice.Up) (i := x.Goal.toNat) (by omega)
   have hy' := ok.u8.get hy
   have hlt : (k : Int) < (l.length : Int) := by omega
   have hw : IntKind.wrap .i64 ((k : Int) + 1) = ((k + 1 : Nat) : Int) := w64 (by omega) (by omega)
   have n1 : (0 : Int) <= (k : Int) := by omega
   have key : ∀ u : Fin 256, ∀ b : Fin 9, decide (bits .and .u8 (Int.fdiv (u.val : Int) (2 ^ min b.val (IntKind.bits .u8))) 1 = 1) = Nat.testBit u b := by decide +kernel
   have hb := key ⟨y.toNat, by omega⟩ ⟨o.toNat, by omega⟩
   simp only [Int.toNat_of_nonneg hy'.1] at hb
   have hside : ((zh p (l.take k) o).length + 1) * 56 <= 70368744177664 := by have := zn9 (p := p) (l := l) (o := o) (k := k); omega
   have hst := zl1 (p := p) (o := o) hx
   have hi : ∀ {ρ : Type} (f : Int -> Option ρ), idxO p.Lattice.Up x.Goal f = f y := fun f => by
    unfold idxO
    rw [if_pos hgx.1, hy]
    rfl
   have hiL : ∀ {ρ : Type} (f : TE -> Option ρ), idxO l (k : Int) f = f x := fun f => by
    unfold idxO
    rw [if_pos n1, Int.toNat_natCast, hx]
    rfl
   have hu : decide (bits .and .u8 (Int.fdiv y (2 ^ min o.toNat (IntKind.bits .u8))) 1 = 1) = up p.Lattice x.Goal.toNat o.toNat := by rw [hb, yQ hy]
   simp only [hlt, decide_true, cond_true, hiL, hi, qO ho.1, hu, qO hside, letO, hw, hst]
   cases up p.Lattice x.Goal.toNat o.toNat <;> simp
 · simp
end Go.Sx.O
namespace Go.Sx.O
open Go
noncomputable def askC (p : TP) (o : Int) (ls : List (List TE)) : Int := match scan (fun k => match ls[k]? with | some l => if (audC p l).2 = 0 then none else some (audC p l).2 | none => none) 0 ls.length with
 | some e => e
 | none => if labB p.Lattice o = true then 0 else 7
theorem ue {p : TP} (h : PolIn p) (o : Int) (ls : List (List TE)) (hls : ls.length <= 1000) (hl : ∀ l ∈ ls, l.length <= 1000000) : Fz58 p o ls = some (askC p o ls) := by
 unfold Fz58 askC
 simp only [List.length_map]
 refine (qU ls.length (fun k => (k : Int)) (fun k => match ls[k]? with | some l => if (audC p l).2 = 0 then none else some (audC p l).2 | none => none) () (fun k hk => ?_) (by simp) rfl).trans ?_
 · obtain ⟨x, hx⟩ := zB hk
   have hlt : (k : Int) < (ls.length : Int) := by omega
   have hw : IntKind.wrap .i64 ((k : Int) + 1) = ((k + 1 : Nat) : Int) := w64 (by omega) (by omega)
   have n1 : (0 : Int) <= (k : Int) := by omega
   simp only [hlt, decide_true, cond_true, idxO, n1, if_true, Int.toNat_natCast, hx, Option.bind_some, letO, hw, jb h x (hl x (List.mem_of_getElem? hx))]
   by_cases c1 : (audC p x).2 = 0 <;> simp [c1]
 · cases scan (fun k => match ls[k]? with | some l => if (audC p l).2 = 0 then none else some (audC p l).2 | none => none) 0 ls.length with
   | some e => rfl
   | none =>
     simp only [labB]
     by_cases c1 : o < 0
     · have : ¬ 0 <= o := by omega
       simp [c1, this]
     · have c1' : 0 <= o := by omega
       by_cases c2 : (p.Lattice.Names.length : Int) <= o
       · have : ¬ o < (p.Lattice.Names.length : Int) := by omega
         simp [c1, c2, this]
       · have : o < (p.Lattice.Names.length : Int) := by omega
         simp [c1, c1', c2, this]
noncomputable def belC (p : TP) (l : List TE) (o : Int) : List TE × Int := if (audC p l).2 = 0 then (if labB p.Lattice o = true then (zh p l o, 0) else ([], 7)) else ([], (audC p l).2)
theorem jf {p : TP} (h : PolIn p) (l : List TE) (hl : l.length <= 1000000) (o : Int) : Fz61 p l o = some (belC p l o) := by
 unfold Fz61 belC
 rw [ue h o [l] (by simp) (by simpa using hl)]
 have ha : askC p o [l] = if (audC p l).2 = 0 then (if labB p.Lattice o = true then 0 else 7) else (audC p l).2 := by
  unfold askC
  by_cases c : (audC p l).2 = 0 <;> simp [scan, c]
 rw [ha]
 by_cases c : (audC p l).2 = 0
 case neg => simp [c]
 by_cases d : labB p.Lattice o = true
 · simp [c, d, jN h c d]
 · simp [c, d]
def dfK (x y : List TE) (k : Nat) : Option Nat := match x[k]?, y[k]? with
 | some u, some v => if u.Value = v.Value then none else some k
 | _, _ => none
def dfC (x y : List TE) : Nat := (scan (dfK x y) 0 (min x.length y.length)).getD (min x.length y.length)
theorem zf3 (x y : List TE) : dfC x y <= min x.length y.length := by
 unfold dfC
 cases h : scan (dfK x y) 0 (min x.length y.length) with
 | none => exact Nat.le_refl _
 | some r =>
   have key : ∀ {n m r : Nat}, scan (dfK x y) m n = some r -> r < m + n := by
    intro n
    induction n with
    | zero => intro m r h; cases h
    | succ n ih =>
      intro m r h
      simp only [scan] at h
      split at h
      · rename_i b hb
        cases h
        unfold dfK at hb
        split at hb
        · split at hb
          · cases hb
          · cases hb; omega
        · cases hb
      · have := ih h; omega
   have := key h
   simp
   omega
theorem zh1 (u v : TE) : (decide (u.Value.fst = v.Value.fst) && (decide (u.Value.snd = v.Value.snd) && true)) = decide (u.Value = v.Value) := by
 obtain ⟨_, _, _, _, _, a, b⟩ := u
 obtain ⟨_, _, _, _, _, c, d⟩ := v
 by_cases e : a = c <;> by_cases f : b = d <;> simp [e, f]
theorem zko (x y : List TE) (hx : x.length <= 1000000) (hy : y.length <= 1000000) : (lpO (fun (s411 : Int) =>
 cond (decide (s411 < min (x.length : Int) (y.length : Int)))
 (idxO x (s411) fun x417 =>
 idxO y (s411) fun x418 =>
 cond (decide (x417.Value.fst = x418.Value.fst) && (decide (x417.Value.snd = x418.Value.snd) && true))
 (letO (IntKind.wrap IntKind.i64 (s411 + (1 : Int))) fun x420 =>
 some (Sum.inl (x420)))
 (some (Sum.inr (Sum.inl (s411)))))
 (some (Sum.inr (Sum.inl (s411))))) ((0 : Int))) = some (Sum.inl (dfC x y : Int) : Int ⊕ (Bool × Int × Int)) := by
 have := uH (step := (fun (s411 : Int) =>
 cond (decide (s411 < min (x.length : Int) (y.length : Int)))
 (idxO x (s411) fun x417 =>
 idxO y (s411) fun x418 =>
 cond (decide (x417.Value.fst = x418.Value.fst) && (decide (x417.Value.snd = x418.Value.snd) && true))
 (letO (IntKind.wrap IntKind.i64 (s411 + (1 : Int))) fun x420 =>
 some (Sum.inl (x420)))
 (some (Sum.inr (Sum.inl (s411)))))
 (some (Sum.inr (Sum.inl (s411)))))) (min x.length y.length) (fun k => (k : Int)) (fun k => (dfK x y k).map fun (r : Nat) => (Sum.inl ((r : Nat) : Int) : Int ⊕ (Bool × Int × Int))) (Sum.inl ((min x.length y.length : Nat) : Int)) (fun k hk => ?_) ?_
 · refine this.trans ?_
   rw [jj]
   unfold dfC
   cases scan (dfK x y) 0 (min x.length y.length) <;> rfl
 · obtain ⟨u, hu⟩ := zB (l := x) (i := k) (by omega)
   obtain ⟨v, hv⟩ := zB (l := y) (i := k) (by omega)
   have hlt : (k : Int) < min (x.length : Int) (y.length : Int) := by omega
   have hw : IntKind.wrap .i64 ((k : Int) + 1) = ((k + 1 : Nat) : Int) := w64 (by omega) (by omega)
   have n1 : (0 : Int) <= (k : Int) := by omega
   simp only [hlt, decide_true, cond_true, idxO, n1, if_true, Int.toNat_natCast, hu, hv, Option.bind_some, letO, hw, zh1, dfK]
   by_cases c : u.Value = v.Value <;> simp [c]
 · have hlt : ¬ ((min x.length y.length : Nat) : Int) < min (x.length : Int) (y.length : Int) := by omega
   simp only [hlt, decide_false, cond_false]
noncomputable def agrC (p : TP) (a b : List TE) (o : Int) : Bool × Int × Int :=
 if (audC p a).2 = 0 then (if (audC p b).2 = 0 then (if labB p.Lattice o = true then (decide (dfC (zh p a o) (zh p b o) = min (zh p a o).length (zh p b o).length), (dfC (zh p a o) (zh p b o) : Int), 0) else (false, 0, 7)) else (false, 0, (audC p b).2)) else (false, 0, (audC p a).2)
theorem xm {p : TP} {l : List TE} {o : Int} : (zh p l o).length <= l.length := List.length_filter_le _ _
theorem yf {p : TP} (h : PolIn p) (a b : List TE) (ha : a.length <= 1000000) (hb : b.length <= 1000000) (o : Int) : Fz60 p a b o = some (agrC p a b o) := by
 unfold Fz60 agrC
 rw [ue h o [a, b] (by simp) (by simp [ha, hb])]
 have hA : askC p o [a, b] = if (audC p a).2 = 0 then (if (audC p b).2 = 0 then (if labB p.Lattice o = true then 0 else 7) else (audC p b).2) else (audC p a).2 := by
  unfold askC
  by_cases c : (audC p a).2 = 0 <;> by_cases d : (audC p b).2 = 0 <;> simp [scan, c, d]
 rw [hA]
 by_cases c : (audC p a).2 = 0
 case neg => simp [c]
 by_cases d : (audC p b).2 = 0
 case neg => simp [c, d]
 by_cases e : labB p.Lattice o = true
 case neg => simp [c, d, e]
 have l1 := xm (p := p) (l := a) (o := o)
 have l2 := xm (p := p) (l := b) (o := o)
 simp only [c, d, e, if_true, Option.bind_some, decide_true, Bool.not_true, cond_false, jN h c e, jN h d e, List.length_map]
 rw [zko _ _ (by omega) (by omega)]
 have : ((dfC (zh p a o) (zh p b o) : Int) = min ((zh p a o).length : Int) ((zh p b o).length : Int)) ↔ (dfC (zh p a o) (zh p b o) = min (zh p a o).length (zh p b o).length) := by omega
 simp [this]
end Go.Sx.O
namespace Go.Sx.O
open Go
end Go.Sx.O
namespace Go.Sx.O
open Go
theorem aud_iff {p : TP} {l : List TE} : (audC p l).2 = 0 ↔ (polC p).2.2 = 0 /\ l.length <= 2000 /\ ∀ x ∈ l, chkC p x = 0 /\ x.Site ≠ 0 := by
 constructor
 · intro h
   obtain ⟨h1, h2, _⟩ := zl3 h
   refine ⟨h1, h2, fun x hx => ?_⟩
   unfold audC at h
   rw [if_pos h1, if_neg (by omega)] at h
   cases hs : scan (auK p l) 0 l.length with
   | some r =>
     rw [hs] at h
     have : r.2 ≠ 0 := zd8 (P := fun r => r.2 ≠ 0) (fun i r hr => by
      unfold auK at hr
      split at hr
      · split at hr
        · split at hr
          · cases hr; exact (by decide : (6 : Int) ≠ 0)
          · cases hr
        · cases hr; assumption
      · cases hr) hs
     exact absurd h this
   | none =>
     obtain ⟨i, hi, e⟩ := List.getElem_of_mem hx
     have := scan_none.1 hs i (by omega) (by omega)
     unfold auK at this
     rw [List.getElem?_eq_getElem hi, e] at this
     simp only at this
     split at this
     · rename_i hc
       refine ⟨hc, fun hs => ?_⟩
       rw [if_pos hs] at this
       cases this
     · cases this
 · rintro ⟨h1, h2, h3⟩
   unfold audC
   rw [if_pos h1, if_neg (by omega)]
   have : scan (auK p l) 0 l.length = none := by
    rw [scan_none]
    intro i _ hi
    obtain ⟨x, hx⟩ := zB (l := l) (i := i) (by omega)
    obtain ⟨c1, c2⟩ := h3 x (List.mem_of_getElem? hx)
    unfold auK
    rw [hx]
    simp [c1, c2]
   rw [this]
theorem zn2 {p : TP} {l : List TE} (h : (audC p l).2 = 0) (m : Nat) : (audC p (l.take m)).2 = 0 := by
 obtain ⟨h1, h2, h3⟩ := aud_iff.1 h
 exact aud_iff.2 ⟨h1, by rw [List.length_take]; omega, fun x hx => h3 x (List.mem_of_mem_take hx)⟩
theorem zmx (x y : List TE) (k : Nat) : dfK x y k = dfK y x k := by
 unfold dfK
 cases x[k]? <;> cases y[k]? <;> simp [eq_comm]
theorem zom (x y : List TE) : dfC x y = dfC y x := by
 unfold dfC
 have : dfK x y = dfK y x := funext fun k => zmx x y k
 rw [this, Nat.min_comm]
end Go.Sx.O
namespace Go.Sx.O
open Go
theorem zif {p : TP} {l : List TE} {o : Int} (m : Nat) : zh p (l.take m) o <+: zh p l o := by
 unfold zh
 exact (List.take_prefix m l).filter _
theorem zkn {x y : List TE} (h : y <+: x) : dfC x y = y.length /\ min x.length y.length = y.length := by
 obtain ⟨t, rfl⟩ := h
 have hm : min (y ++ t).length y.length = y.length := by rw [List.length_append]; omega
 refine ⟨?_, hm⟩
 unfold dfC
 rw [hm]
 have : scan (dfK (y ++ t) y) 0 y.length = none := by
  rw [scan_none]
  intro i _ hi
  obtain ⟨u, hu⟩ := zB (l := y) (i := i) (by omega)
  unfold dfK
  rw [List.getElem?_append_left (by omega), hu]
  simp
 rw [this]
 rfl
theorem zp1 {f : TE -> TE} (hf : ∀ u, (f u).Value = u.Value) (x y : List TE) : dfC (x.map f) y = dfC x y := by
 unfold dfC
 have : dfK (x.map f) y = dfK x y := by
  funext k
  unfold dfK
  rw [List.getElem?_map]
  cases x[k]? <;> cases y[k]? <;> simp [hf]
 rw [this, List.length_map]
theorem znf {p : TP} {f : TE -> TE} (hf : ∀ u, (f u).Goal = u.Goal) (l : List TE) (o : Int) : zh p ((zh p l o).map f) o = (zh p l o).map f := by
 unfold zh
 rw [List.filter_eq_self]
 intro u hu
 rw [List.mem_map] at hu
 obtain ⟨v, hv, rfl⟩ := hu
 rw [List.mem_filter] at hv
 rw [hf]
 exact hv.2
theorem zgn {p : TP} {l : List TE} {o : Int} (h : (audC p l).2 = 0) : (audC p (zh p l o)).2 = 0 := by
 obtain ⟨h1, h2, h3⟩ := aud_iff.1 h
 exact aud_iff.2 ⟨h1, by have := xm (p := p) (l := l) (o := o); omega, fun x hx => h3 x (by unfold zh at hx; exact (List.mem_filter.1 hx).1)⟩
theorem zny {p : TP} {x : TE} (h : chkC p x = 0) {s : Int} (h1 : 0 <= s) (h2 : s <= 1000000000) : chkC p (TE.mk s x.Fold x.From x.Goal x.Cells x.Value) = 0 := by
 have hr : ∀ k, xZ (TE.mk s x.Fold x.From x.Goal x.Cells x.Value) k = xZ x k := fun k => rfl
 unfold chkC at h ⊢
 by_cases c1 : (polC p).2.2 = 0
 case neg => rw [if_neg c1] at h; exact absurd h c1
 rw [if_pos c1] at h ⊢
 by_cases c2 : (xJ x.Fold).2 = 0
 case neg => rw [if_neg c2] at h; exact absurd h c2
 rw [if_pos c2] at h
 rw [if_pos c2]
 by_cases c3 : x.Site < 0 \/ 1000000000 < x.Site \/ x.Cells < 0 \/ 400 < x.Cells
 · rw [if_pos c3] at h; exact absurd h (by decide)
 rw [if_neg c3] at h
 rw [if_neg (by simp only; omega)]
 simp only [hr]
 exact h
end Go.Sx.O
namespace Go.Sx.O
open Go
theorem zhp {α : Type} {f : Nat -> Option α} : ∀ {j k : Nat} {b : α}, scan f k j = some b -> ∃ i, k <= i /\ i < k + j /\ f i = some b /\ ∀ m, k <= m -> m < i -> f m = none
 | 0, _, _, e => by cases e
 | j + 1, k, b, e => by
   simp only [scan] at e
   cases g : f k with
   | some c =>
     rw [g] at e
     cases e
     exact ⟨k, Nat.le_refl k, by omega, g, fun m h1 h2 => by omega⟩
   | none =>
     rw [g] at e
     obtain ⟨i, h1, h2, h3, h4⟩ := zhp e
     refine ⟨i, by omega, by omega, h3, fun m g1 g2 => ?_⟩
     by_cases hm : m = k
     · subst hm; exact g
     · exact h4 m (by omega) g2
theorem zgt (x y : List TE) : (∀ k, k < dfC x y -> ∃ u v, x[k]? = some u /\ y[k]? = some v /\ u.Value = v.Value) /\ (dfC x y < min x.length y.length -> ∃ u v, x[dfC x y]? = some u /\ y[dfC x y]? = some v /\ ¬ u.Value = v.Value) := by
 have none_eq : ∀ k, k < min x.length y.length -> dfK x y k = none -> ∃ u v, x[k]? = some u /\ y[k]? = some v /\ u.Value = v.Value := by
  intro k hk h
  obtain ⟨u, hu⟩ := zB (l := x) (i := k) (by omega)
  obtain ⟨v, hv⟩ := zB (l := y) (i := k) (by omega)
  unfold dfK at h
  rw [hu, hv] at h
  refine ⟨u, v, hu, hv, ?_⟩
  by_cases c : u.Value = v.Value
  · exact c
  · simp [c] at h
 unfold dfC
 cases h : scan (dfK x y) 0 (min x.length y.length) with
 | none =>
   rw [Option.getD_none]
   refine ⟨fun k hk => none_eq k hk (scan_none.1 h k (by omega) (by omega)), fun hk => ?_⟩
   exact absurd hk (Nat.lt_irrefl _)
 | some r =>
   obtain ⟨i, _, h2, h3, h4⟩ := zhp h
   obtain ⟨u, hu⟩ := zB (l := x) (i := i) (by omega)
   obtain ⟨v, hv⟩ := zB (l := y) (i := i) (by omega)
   have h3' := h3
   unfold dfK at h3
   rw [hu, hv] at h3
   by_cases c : u.Value = v.Value
   · simp [c] at h3
   simp only [c, if_false] at h3
   cases h3
   refine ⟨fun k hk => none_eq k (by simp at hk; omega) (h4 k (by omega) hk), fun _ => ⟨u, v, hu, hv, c⟩⟩
theorem zma {p : TP} {x : TE} (h : chkC p x = 0) : 0 <= x.Site /\ x.Site <= 1000000000 := by
 unfold chkC at h
 by_cases c1 : (polC p).2.2 = 0
 case neg => rw [if_neg c1] at h; exact absurd h c1
 rw [if_pos c1] at h
 by_cases c2 : (xJ x.Fold).2 = 0
 case neg => rw [if_neg c2] at h; exact absurd h c2
 rw [if_pos c2] at h
 by_cases c3 : x.Site < 0 \/ 1000000000 < x.Site \/ x.Cells < 0 \/ 400 < x.Cells
 · rw [if_pos c3] at h; exact absurd h (by decide)
 omega
def qX (n : Int) (u : TE) : TE := TE.mk (1 + Int.tmod (u.Site + n) 1000) u.Fold u.From u.Goal u.Cells u.Value
theorem zmk {ρ : Type} {k1 : List TE -> Option ρ} (l : List TE) (n : Int) (h0 : 0 <= n) (h1 : n < 256) (hl : l.length <= 1000000) (hs : ∀ u ∈ l, 0 <= u.Site /\ u.Site <= 1000000000) :
 Option.bind (lpO (fun (s142 : Int × List TE) =>
 cond (decide (s142.fst < (s142.snd.length : Int)))
 (zm ((0 : Int) <= s142.fst /\ s142.fst < (s142.snd.length : Int)) (
 idxO (s142.snd) ((↑(Int.toNat s142.fst) : Int)) fun x150 =>
 zm ((0 : Int) <= s142.fst /\ s142.fst < (s142.snd.length : Int)) (
 idxO (s142.snd) ((↑(Int.toNat s142.fst) : Int)) fun x154 =>
 some (Sum.inl ((IntKind.wrap IntKind.i64 (s142.fst + (1 : Int)), List.set s142.snd (Int.toNat s142.fst) (TE.mk (IntKind.wrap IntKind.i64 ((1 : Int) + Int.tmod (IntKind.wrap IntKind.i64 (x150.Site + n)) (1000 : Int))) x154.Fold x154.From x154.Goal x154.Cells x154.Value)))))))
 (some (Sum.inr (Sum.inl (s142.snd))))) (((0 : Int), [] ++ l))) (Sum.elim k1 some) = k1 (l.map (qX n)) := by
 refine uN l.length (fun k => ((k : Int), (l.take k).map (qX n) ++ l.drop k)) (l.map (qX n)) (fun k hk => ?_) ?_ ?_
 · obtain ⟨u, hu⟩ := zB hk
   obtain ⟨s1, s2⟩ := hs u (List.mem_of_getElem? hu)
   have hlen : ((l.take k).map (qX n) ++ l.drop k).length = l.length := by simp; omega
   have hw : IntKind.wrap .i64 ((k : Int) + 1) = ((k + 1 : Nat) : Int) := w64 (by omega) (by omega)
   have hws : IntKind.wrap .i64 (u.Site + n) = u.Site + n := w64 (by omega) (by omega)
   have t1 := Int.tmod_nonneg (1000 : Int) (a := u.Site + n) (by omega)
   have t2 := Int.tmod_lt_of_pos (u.Site + n) (b := (1000 : Int)) (by omega)
   have hwt : IntKind.wrap .i64 (1 + Int.tmod (u.Site + n) 1000) = 1 + Int.tmod (u.Site + n) 1000 := w64 (by omega) (by omega)
   have hg : ((l.take k).map (qX n) ++ l.drop k)[k]? = some u := by
    rw [List.getElem?_append_right (by simp; omega)]
    simp only [List.length_map, List.length_take, List.getElem?_drop]
    rw [show k + (k - min k l.length) = k by omega]
    exact hu
   have hset : ((l.take k).map (qX n) ++ l.drop k).set k (TE.mk (1 + Int.tmod (u.Site + n) 1000) u.Fold u.From u.Goal u.Cells u.Value) = (l.take (k + 1)).map (qX n) ++ l.drop (k + 1) := by
    have e1 : l.drop k = u :: l.drop (k + 1) := by
     obtain ⟨hk', e⟩ := List.getElem?_eq_some_iff.1 hu
     rw [<- e]; exact List.drop_eq_getElem_cons hk'
    rw [List.set_append_right _ _ (by simp; omega), e1, List.take_add_one, hu]
    have e2 : k - ((l.take k).map (qX n)).length = 0 := by simp; omega
    rw [e2]
    simp [qX]
   have c1 : ((k : Int) < (((l.take k).map (qX n) ++ l.drop k).length : Int)) := by rw [hlen]; omega
   have c2 : (0 : Int) <= (k : Int) := by omega
   simp only [c1, decide_true, cond_true, zm, c2, and_self, if_true, idxO, Int.toNat_natCast, hg, Option.bind_some, hws, hwt, hw, hset]
 · have hlen : ((l.take l.length).map (qX n) ++ l.drop l.length).length = l.length := by simp
   have c1 : ¬ ((l.length : Int) < (((l.take l.length).map (qX n) ++ l.drop l.length).length : Int)) := by rw [hlen]; omega
   simp only [c1, decide_false, cond_false]
   simp
 · simp
end Go.Sx.O
namespace Go.Sx.O
open Go
theorem zcb {ρ : Type} {k1 : Unit -> Option ρ} {b : ρ} (x y : List TE) (hx : x.length <= 1000000) :
 Option.bind (lpO (fun (s168 : Int) =>
 cond (decide (s168 < (dfC x y : Int)))
 (idxO x (s168) fun x174 =>
 idxO y (s168) fun x175 =>
 cond (!(decide (x174.Value.fst = x175.Value.fst) && (decide (x174.Value.snd = x175.Value.snd) && true)))
 (some (Sum.inr (Sum.inr b)))
 (some (Sum.inl (IntKind.wrap IntKind.i64 (s168 + (1 : Int))))))
 (some (Sum.inr (Sum.inl (()))))) ((0 : Int))) (Sum.elim k1 some) = k1 () := by
 have hle := zf3 x y
 refine uN (dfC x y) (fun k => (k : Int)) () (fun k hk => ?_) ?_ rfl
 · obtain ⟨u, v, hu, hv, e⟩ := (zgt x y).1 k hk
   have hw : IntKind.wrap .i64 ((k : Int) + 1) = ((k + 1 : Nat) : Int) := w64 (by omega) (by omega)
   have c1 : ((k : Int) < (dfC x y : Int)) := by omega
   have n1 : (0 : Int) <= (k : Int) := by omega
   simp only [c1, decide_true, cond_true, idxO, n1, if_true, Int.toNat_natCast, hu, hv, Option.bind_some, hw, zh1, e, Bool.not_true, cond_false]
 · have c1 : ¬ ((dfC x y : Int) < (dfC x y : Int)) := by omega
   simp only [c1, decide_false, cond_false]
theorem zpi (x y : List TE) (h : ¬ dfC x y = min x.length y.length) :
 (idxO x (dfC x y : Int) fun x179 =>
 idxO y (dfC x y : Int) fun x180 =>
 cond (!(decide (x179.Value.fst = x180.Value.fst) && (decide (x179.Value.snd = x180.Value.snd) && true)))
 (some (true))
 (some (false))) = some true := by
 have hle := zf3 x y
 obtain ⟨u, v, hu, hv, e⟩ := (zgt x y).2 (by omega)
 have n1 : (0 : Int) <= (dfC x y : Int) := by omega
 simp only [idxO, n1, if_true, Int.toNat_natCast, hu, hv, zh1, Option.bind_some, e, decide_false, Bool.not_false, cond_true]
theorem zfa (p : TP) (ab : List TE × List TE) (x : Int × Int) (w1 : W_TP p) (_ : w2 (allW W_TE) ab) (w3 : w2 (inK .u8) x) : Fz62 p ab x = some true := by
 obtain ⟨a, b⟩ := ab
 obtain ⟨x0, x1⟩ := x
 obtain ⟨v0, v1⟩ := w3
 simp only at v0 v1
 obtain ⟨v0a, v0b⟩ := zgf v0
 obtain ⟨v1a, v1b⟩ := zgf v1
 unfold Fz62
 obtain ⟨f, hf, hq⟩ := znb p (zrt w1.Lattice.Up)
 rw [hf]
 cases f with
 | true => rfl
 | false =>
 have h := hq rfl
 simp only [Option.bind_some, cond_false, List.length_map]
 by_cases la : (40 : Int) < (a.length : Int)
 · simp only [la, decide_true, cond_true]
 by_cases lb : (40 : Int) < (b.length : Int)
 · simp only [la, lb, decide_true, decide_false, cond_true, cond_false]
 simp only [la, lb, decide_false, cond_false, jb h a (by omega), jb h b (by omega), Option.bind_some]
 by_cases ka : (audC p a).2 = 0
 case neg => simp only [ka, decide_false, Bool.not_false, cond_true]
 by_cases kb : (audC p b).2 = 0
 case neg => simp only [ka, kb, decide_false, decide_true, Bool.not_true, Bool.not_false, cond_true, cond_false]
 have hp := (aud_iff.1 ka).1
 have ok := xB h.lat (zje hp)
 have hpos := ok.pos
 have hle := ok.le
 obtain ⟨o0, o1⟩ : 0 <= Int.tmod x0 (p.Lattice.Names.length : Int) /\ Int.tmod x0 (p.Lattice.Names.length : Int) < (p.Lattice.Names.length : Int) := ⟨Int.tmod_nonneg _ v0a, Int.tmod_lt_of_pos _ (by omega)⟩
 have m0 : 0 <= Int.tmod x1 ((a.length : Int) + 1) := Int.tmod_nonneg _ v1a
 have m1 : Int.tmod x1 ((a.length : Int) + 1) < (a.length : Int) + 1 := Int.tmod_lt_of_pos _ (by omega)
 have wa : IntKind.wrap .i64 ((a.length : Int) + 1) = (a.length : Int) + 1 := w64 (by omega) (by omega)
 have wx0 : IntKind.wrap .i64 x0 = x0 := w64 (by omega) (by omega)
 have wx1 : IntKind.wrap .i64 x1 = x1 := w64 (by omega) (by omega)
 have n0 : ¬ ((p.Lattice.Names.length : Int) = 0) := by omega
 have n0' : ((p.Lattice.Names.length : Int) ≠ 0) := by omega
 have n1 : ((a.length : Int) + 1 ≠ 0) := by omega
 have n2 : 0 <= Int.tmod x1 ((a.length : Int) + 1) /\ Int.tmod x1 ((a.length : Int) + 1) <= (a.length : Int) := by omega
 simp only [ka, kb, decide_true, decide_false, Bool.not_true, cond_false, letO, wx0, wx1, wa, n0, qO n0', qO n1, qO n2]
 generalize hO : Int.tmod x0 (p.Lattice.Names.length : Int) = o at *
 generalize hM : Int.tmod x1 ((a.length : Int) + 1) = m at *
 have lo : labB p.Lattice o = true := by unfold labB; simp [o0, o1]
 have e0 : List.drop (Int.toNat 0) (a.take m.toNat) = a.take m.toNat := rfl
 have kt : (audC p (a.take m.toNat)).2 = 0 := zn2 ka _
 have lt : (a.take m.toNat).length <= 1000000 := by rw [List.length_take]; omega
 obtain ⟨pf1, pf2⟩ := zkn (zif (p := p) (l := a) (o := o) m.toNat)
 have ls := xm (p := p) (l := a) (o := o)
 have lsb := xm (p := p) (l := b) (o := o)
 have hcm := zom (zh p b o) (zh p a o)
 have hmm := Nat.min_comm (zh p b o).length (zh p a o).length
 rw [e0, yf h a b (by omega) (by omega), yf h b a (by omega) (by omega), yf h a _ (by omega) lt, jf h a (by omega), jf h _ lt]
 simp only [Option.bind_some]
 have A1 : agrC p a b o = (decide (dfC (zh p a o) (zh p b o) = min (zh p a o).length (zh p b o).length), (dfC (zh p a o) (zh p b o) : Int), 0) := by unfold agrC; rw [if_pos ka, if_pos kb, if_pos lo]
 have A2 : agrC p b a o = (decide (dfC (zh p a o) (zh p b o) = min (zh p a o).length (zh p b o).length), (dfC (zh p a o) (zh p b o) : Int), 0) := by unfold agrC; rw [if_pos ka, if_pos kb, if_pos lo, hcm, hmm]
 have A3 : agrC p a (a.take m.toNat) o = (true, ((zh p (a.take m.toNat) o).length : Int), 0) := by unfold agrC; rw [if_pos ka, if_pos kt, if_pos lo, pf1, pf2]; simp
 have B1 : belC p a o = (zh p a o, 0) := by unfold belC; rw [if_pos ka, if_pos lo]
 have B2 : belC p (a.take m.toNat) o = (zh p (a.take m.toNat) o, 0) := by unfold belC; rw [if_pos kt, if_pos lo]
 have B3 : belC p b o = (zh p b o, 0) := by unfold belC; rw [if_pos kb, if_pos lo]
 have hside : (0 + (zh p a o).length) * 56 <= 70368744177664 := by omega
 simp only [A1, A2, A3, B1, B2, decide_true, Bool.not_true, cond_false, beq_self_eq_true, qO hside]
 have hck := aud_iff.1 (zgn (o := o) ka)
 have hs : ∀ u ∈ zh p a o, 0 <= u.Site /\ u.Site <= 1000000000 := fun u hu => zma (hck.2.2 u hu).1
 refine (zmk _ x1 v1a v1b (by omega) hs).trans ?_
 have hset : (audC p ((zh p a o).map (qX x1))).2 = 0 := by
  refine aud_iff.2 ⟨hp, by rw [List.length_map]; exact hck.2.1, fun u hu => ?_⟩
  obtain ⟨v, hv, rfl⟩ := List.mem_map.1 hu
  obtain ⟨q1, q2⟩ := hck.2.2 v hv
  obtain ⟨r1, r2⟩ := hs v hv
  have t1 := Int.tmod_nonneg (1000 : Int) (a := v.Site + x1) (by omega)
  have t2 := Int.tmod_lt_of_pos (v.Site + x1) (b := (1000 : Int)) (by omega)
  exact ⟨zny q1 (by omega) (by omega), by unfold qX; simp only; omega⟩
 have A4 : agrC p ((zh p a o).map (qX x1)) b o = (decide (dfC (zh p a o) (zh p b o) = min (zh p a o).length (zh p b o).length), (dfC (zh p a o) (zh p b o) : Int), 0) := by
  unfold agrC
  rw [if_pos hset, if_pos kb, if_pos lo, znf (f := qX x1) (fun _ => rfl), zp1 (f := qX x1) (fun _ => rfl), List.length_map]
 rw [yf h _ b (by rw [List.length_map]; omega) (by omega), jf h b (by omega)]
 have hd := zf3 (zh p a o) (zh p b o)
 have q1 : ¬ ((zh p a o).length : Int) < (dfC (zh p a o) (zh p b o) : Int) := by omega
 have q2 : ¬ ((zh p b o).length : Int) < (dfC (zh p a o) (zh p b o) : Int) := by omega
 simp only [Option.bind_some, A4, B3, decide_true, Bool.not_true, cond_false, beq_self_eq_true, q1, q2, decide_false]
 by_cases z1 : (dfC (zh p a o) (zh p b o) : Int) = ((zh p a o).length : Int)
 · have z2 : dfC (zh p a o) (zh p b o) = min (zh p a o).length (zh p b o).length := by omega
   simp only [decide_eq_true z1, decide_eq_true z2, cond_true, Bool.not_true, cond_false]
   exact zcb (k1 := fun _ => some true) _ _ (by omega)
 · rw [decide_eq_false z1]
   simp only [cond_false]
   by_cases z2 : dfC (zh p a o) (zh p b o) = min (zh p a o).length (zh p b o).length
   · have z3 : (dfC (zh p a o) (zh p b o) : Int) = ((zh p b o).length : Int) := by omega
     simp only [decide_eq_true z3, decide_eq_true z2, beq_self_eq_true, Bool.not_true, cond_false, cond_true]
     exact zcb (k1 := fun _ => some true) _ _ (by omega)
   · have z3 : ¬ (dfC (zh p a o) (zh p b o) : Int) = ((zh p b o).length : Int) := by omega
     simp only [decide_eq_false z3, decide_eq_false z2, beq_self_eq_true, Bool.not_true, cond_false]
     refine (zcb _ _ (by omega)).trans (zpi _ _ z2)
end Go.Sx.O
