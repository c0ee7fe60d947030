/-
  PLAIN LAWS: the lattice's check, exactly; the reference's too: names. An own text.
  PLAIN LAWS: lattice.of, .bound, exactly. An own text.
  PLAIN LAWS: the order's check, exactly, the program's and the reference's. An own text.
  PLAIN LAWS: the reference's check of a lattice, exactly. An own text.
  PLAIN LAWS: lattice.Check and the reference's Check say the same. An own text.
  PLAIN LAWS: lattice.Check, exactly. An own text.
  PLAIN LAWS: the reference's Leq; events that are the same. An own text.
  PLAIN LAWS: lattices: joins, meets, top, bottom. An own text.
  PLAIN LAWS: names, exactly: runes.Class, lexer.Check of a word, prims.Find, expr.Name, on both sides. An own text.
  PLAIN LAWS: expr.Name is the reference's. An own text.
  PLAIN LAWS: arrays.Check is the reference's. An own text.
  PLAIN LAWS: arrays.Check is the reference's, cells. An own text.
  PLAIN LAWS of layer 28: folds, names, values: the program's and the reference's. An own text.
  PLAIN LAWS of layer 28: the sum that stays at the ends; the values of folds. An own text.
  PLAIN LAWS of layer 28: the values of folds; Value. An own text.
  THE LAW ReleaseValues FOR DATA AS THEY COME. An own text.
  PLAIN LAWS of layer 19: labels, channels: the program's and the reference's. An own text.
  PLAIN LAWS of layer 19: variables: the program's and the reference's, where both find types alike good. An own text.
  PLAIN LAWS of layer 3: the bottom that the program finds. An own text.
  PLAIN LAWS of layer 3: the bottom that the reference finds. An own text.
  PLAIN LAWS of layer 18's labels: Check, Flows. An own text.
  PLAIN LAWS of layer 19: Good types: the program's. An own text.
  PLAIN LAWS of layer 19: policy.Good. An own text.
  PLAIN LAWS of layer 19: the reference's Good. An own text.
  PLAIN LAWS of layer 19: the reference's Good; the rules of both. An own text.
  PLAIN LAWS of layer 19: Check, Rule of both; what is not far. An own text.
  PLAIN LAWS: arrays of any length; workspaces: Wide, Fits, Zero of both. An own text.
  PLAIN LAWS: equality of arrays and workspaces; THE LAW PolicyFits. An own text.
-/
import Derived.Test.YtpblckfedfcdkaaGreatDoorP1
namespace Go.Sx.O
open Go
def xg (ns : List (List UInt8)) (i : Nat) : Option (Int × Int) :=
 if uH (ns.getD i []) = true then (if ns.getD i [] ∈ ns.take i then some ((i : Int), 8) else none) else some ((i : Int), 6)
def yu (ns : List (List UInt8)) : Int × Int := if ns.length < 1 \/ 8 < ns.length then (-1, 3) else (scan (xg ns) 0 ns.length).getD (0, 0)
theorem ym {α : Type} {l : List α} {i : Nat} {d x : α} (h : l[i]? = some x) : l.getD i d = x := by rw [List.getD_eq_getElem?_getD, h]; rfl
theorem zo7 (ns : List (List UInt8)) (h : ns.length <= 20) (hn : ∀ s ∈ ns, s.length <= 1000) : Fz24 ns = some (yu ns) := by
 unfold Fz24 yu
 simp only [List.length_map]
 by_cases h1 : ns.length < 1
 · have : (ns.length : Int) < 1 := by omega
   simp [h1, this]
 by_cases h2 : 8 < ns.length
 · have : (8 : Int) < ns.length := by omega
   have g1 : ¬ (ns.length : Int) < 1 := by omega
   simp [h2, this, g1]
 have g1 : ¬ (ns.length : Int) < 1 := by omega
 have g2 : ¬ (8 : Int) < ns.length := by omega
 simp only [g1, g2, h1, h2, decide_false, cond_false, or_self, if_false]
 rw [qT ns.length (xg ns) () (fun k hk => ?_) (by simp)]
 · cases scan (xg ns) 0 ns.length <;> rfl
 · obtain ⟨x, hx⟩ := zv (l := ns) (i := k) hk
   have hxl := hn x (List.mem_of_getElem? hx)
   simp only [Int.ofNat_lt, hk, decide_true, cond_true, idxO, Int.toNat_natCast, hx, Option.bind_some, letO, Int.natCast_nonneg, if_true]
   rw [zfx x (by omega), yP _ _ (by simp; omega)]
   unfold xg
   rw [ym hx, w64 (by omega) (by omega)]
   cases e : uH x with
   | false => simp
   | true =>
     have hk' : k <= ns.length := by omega
     simp only [Option.bind_some, Bool.not_true, cond_false, Int.toNat_zero, List.drop_zero, if_true]
     by_cases hm : x ∈ ns.take k
     · simp [hm, zf, hk']
     · simp [hm, zf, hk']
theorem zd9 (c : UInt8) : Fz72 (c.toNat : Int) = some (decide (97 <= c.toNat) && decide (c.toNat <= 122)) := by
 unfold Fz72
 by_cases h : (97 : Int) <= c.toNat
 · have : 97 <= c.toNat := by omega
   simp only [h, this, decide_true, cond_true, Bool.true_and]
   congr 1
   rw [Bool.eq_iff_iff]; simp; omega
 · have : ¬ 97 <= c.toNat := by omega
   simp only [h, this, decide_false, cond_false, Bool.false_and]
theorem zl6 (c : UInt8) : Fz73 (c.toNat : Int) = some (decide (48 <= c.toNat) && decide (c.toNat <= 57)) := by
 unfold Fz73
 by_cases h : (48 : Int) <= c.toNat
 · have : 48 <= c.toNat := by omega
   simp only [h, this, decide_true, cond_true, Bool.true_and]
   congr 1
   rw [Bool.eq_iff_iff]; simp; omega
 · have : ¬ 48 <= c.toNat := by omega
   simp only [h, this, decide_false, cond_false, Bool.false_and]
theorem zmv (c : UInt8) : decide (c ∈ yj) = (decide (97 <= c.toNat) && decide (c.toNat <= 122) || (decide (48 <= c.toNat) && decide (c.toNat <= 57)) || decide (c.toNat = 45)) := by
 have key : ∀ n : Fin 256, decide (UInt8.ofNat n ∈ yj) = (decide (97 <= n.val) && decide (n.val <= 122) || (decide (48 <= n.val) && decide (n.val <= 57)) || decide (n.val = 45)) := by decide +kernel
 have := key ⟨c.toNat, c.toNat_lt⟩
 simpa using this
theorem zgi (s : List UInt8) (h : s.length <= 1000000000) : Fz74 s = some (uH s) := by
 unfold Fz74
 cases s with
 | nil => rfl
 | cons a r =>
   have g1 : ¬ ((a :: r).length : Int) < 1 := by simp; omega
   simp only [g1, decide_false, cond_false]
   unfold uH
   by_cases h1 : (16 : Int) < ((a :: r).length : Int)
   · have : ¬ (a :: r).length <= 16 := by omega
     simp only [h1, decide_true, cond_true, this, decide_false, Bool.false_and]
   have h1' : (a :: r).length <= 16 := by omega
   have e5 : idxO (a :: r) 0 = fun f => (f a : Option Bool) := rfl
   simp only [h1, decide_false, cond_false, h1', decide_true, Bool.true_and, e5, zd9, Option.bind_some]
   cases e : (decide (97 <= a.toNat) && decide (a.toNat <= 122)) with
   | false => rfl
   | true =>
     simp only [Bool.not_true, cond_false, Bool.true_and]
     generalize a :: r = s at *
     rw [qT s.length (fun k => if decide (s.getD k 0 ∈ yj) = true then none else some false) () (fun k hk => ?_) (by simp)]
     · cases hs : scan (fun k => if decide (s.getD k 0 ∈ yj) = true then none else some false) 0 s.length with
       | none =>
         have := scan_none.1 hs
         simp only
         congr 1
         symm
         rw [List.all_eq_true]
         intro c hc
         obtain ⟨i, hi, rfl⟩ := List.getElem_of_mem hc
         have := this i (by omega) (by omega)
         rw [ym (List.getElem?_eq_getElem hi)] at this
         split at this
         · assumption
         · cases this
       | some b =>
         simp only
         congr 1
         have hall : ¬ s.all (fun c => decide (c ∈ yj)) = true := by
          intro hall
          rw [List.all_eq_true] at hall
          have : scan (fun k => if decide (s.getD k 0 ∈ yj) = true then none else some false) 0 s.length = none := scan_none.2 fun i _ hi => by
           have hi' : i < s.length := by omega
           rw [ym (List.getElem?_eq_getElem hi'), if_pos (hall _ (List.getElem_mem hi'))]
          rw [this] at hs; cases hs
         have hb : b = false := by
          have key : ∀ {j k : Nat}, scan (fun k => if decide (s.getD k 0 ∈ yj) = true then none else some false) k j = some b -> b = false := by
           intro j
           induction j with
           | zero => intro k h; cases h
           | succ j ih =>
             intro k h
             simp only [scan] at h
             split at h
             · rename_i r hr
               cases h
               split at hr
               · cases hr
               · cases hr; rfl
             · exact ih h
          exact key hs
         rw [hb]
         cases e : s.all (fun c => decide (c ∈ yj)) with
         | false => rfl
         | true => exact absurd e hall
     · obtain ⟨x, hx⟩ := zv (l := s) (i := k) hk
       simp only [Int.ofNat_lt, hk, decide_true, cond_true, idxO, Int.toNat_natCast, hx, Option.bind_some, letO, Int.natCast_nonneg, if_true, zd9, zl6]
       rw [ym hx, w64 (by omega) (by omega), zmv]
       cases (decide (97 <= x.toNat) && decide (x.toNat <= 122)) with
       | true => simp
       | false =>
         cases (decide (48 <= x.toNat) && decide (x.toNat <= 57)) with
         | true => simp
         | false =>
           by_cases h45 : x.toNat = 45
           · simp [h45]
           · have : ¬ (x.toNat : Int) = 45 := by omega
             simp [h45, this]
theorem zhy (ns : List (List UInt8)) (h : ns.length <= 20) (hn : ∀ s ∈ ns, s.length <= 1000) : Fz75 ns = some (yu ns) := by
 unfold Fz75 yu
 simp only [List.length_map]
 by_cases h1 : ns.length < 1
 · have : (ns.length : Int) < 1 := by omega
   simp [h1, this]
 by_cases h2 : 8 < ns.length
 · have : (8 : Int) < ns.length := by omega
   have g1 : ¬ (ns.length : Int) < 1 := by omega
   simp [h2, this, g1]
 have g1 : ¬ (ns.length : Int) < 1 := by omega
 have g2 : ¬ (8 : Int) < ns.length := by omega
 simp only [g1, g2, h1, h2, decide_false, cond_false, or_self, if_false]
 rw [qT ns.length (xg ns) () (fun k hk => ?_) (by simp)]
 · cases scan (xg ns) 0 ns.length <;> rfl
 · obtain ⟨x, hx⟩ := zv (l := ns) (i := k) hk
   have hxl := hn x (List.mem_of_getElem? hx)
   simp only [Int.ofNat_lt, hk, decide_true, cond_true, idxO, Int.toNat_natCast, hx, Option.bind_some, Int.natCast_nonneg, if_true]
   rw [zgi x (by omega)]
   unfold xg
   rw [ym hx]
   cases e : uH x with
   | false => simp
   | true =>
     simp only [Option.bind_some, Bool.not_true, cond_false, if_true]
     rw [qT k (fun j => if ns.getD j [] = x then some (.inr (.inr ((k : Int), (8 : Int)))) else none) () (fun j hj => ?_) (by simp)]
     · by_cases hm : x ∈ ns.take k
       · obtain ⟨j, hj, rfl⟩ := List.getElem_of_mem hm
         have hj' : j < k /\ j < ns.length := by simp at hj; omega
         cases hs : scan (fun i => if ns.getD i [] = (ns.take k)[j] then some ((.inr (.inr ((k : Int), (8 : Int)))) : Int ⊕ (Unit ⊕ (Int × Int))) else none) 0 k with
         | none =>
           have := scan_none.1 hs j (by omega) (by omega)
           rw [ym (List.getElem?_eq_getElem hj'.2)] at this
           simp at this
         | some b =>
           have : b = .inr (.inr ((k : Int), (8 : Int))) := xj (fun i => by split <;> simp) hs
           rw [this, if_pos hm]
       · have : scan (fun j => if ns.getD j [] = x then some ((.inr (.inr ((k : Int), (8 : Int)))) : Int ⊕ (Unit ⊕ (Int × Int))) else none) 0 k = none := scan_none.2 fun i _ hi => by
          have hi' : i < ns.length := by omega
          rw [ym (List.getElem?_eq_getElem hi'), if_neg]
          rintro rfl
          exact hm (List.mem_iff_getElem.2 ⟨i, by simp; omega, by simp⟩)
         rw [this]
         simp only [hm, if_false, letO]
         rw [w64 (by omega) (by omega)]
     · obtain ⟨y, hy⟩ := zv (l := ns) (i := j) (by omega)
       simp only [Int.ofNat_lt, hj, decide_true, cond_true, idxO, Int.toNat_natCast, hy, Option.bind_some, letO, Int.natCast_nonneg, if_true, hx]
       rw [ym hy, w64 (by omega) (by omega)]
       by_cases hxy : y = x
       · simp [hxy]
       · simp [hxy]
end Go.Sx.O
namespace Go.Sx.O
open Go
def dn (l : TL) (b : Nat) : Nat -> Nat
 | 0 => 0
 | k + 1 => dn l b k ||| (if up l k b = true then 2 ^ k else 0)
theorem zhg (l : TL) (b : Nat) : ∀ (k i : Nat), (dn l b k).testBit i = (decide (i < k) && up l i b)
 | 0, i => by simp [dn]
 | k + 1, i => by
   simp only [dn, Nat.testBit_or, zhg l b k i]
   by_cases h : up l k b = true
   · simp only [h, if_true, Nat.testBit_two_pow]
     by_cases hik : i = k
     · subst hik; simp [h]
     · have h1 : ¬ k = i := fun e => hik e.symm
       have h2 : (i < k + 1) = (i < k) := by simp; omega
       simp [h1, h2]
   · simp only [h, if_false, Nat.zero_testBit, Bool.or_false]
     by_cases hik : i = k
     · subst hik; simp [h]
     · have h2 : (i < k + 1) = (i < k) := by simp; omega
       simp [h2]
theorem zpy (l : TL) (b : Nat) : ∀ k : Nat, dn l b k < 2 ^ k
 | 0 => by simp [dn]
 | k + 1 => by
   simp only [dn]
   refine Nat.or_lt_two_pow (Nat.lt_of_lt_of_le (zpy l b k) (Nat.pow_le_pow_right (by omega) (by omega))) ?_
   split
   · exact Nat.pow_lt_pow_right (by omega) (by omega)
   · exact Nat.two_pow_pos _
theorem zc9 (l : TL) (b : Nat) {k : Nat} (h : k <= 8) : dn l b k < 256 := Nat.lt_of_lt_of_le (zpy l b k) (Nat.pow_le_pow_right (n := 2) (by omega) h)
theorem zk8 {c : Bool} {k : Nat} (h : k < 8) : IntKind.wrap .u8 ((if c = true then (1 : Int) else 0) * 2 ^ min k (IntKind.bits .u8)) = ((if c = true then 2 ^ k else 0 : Nat) : Int) := by
 have key : ∀ (c : Bool) (k : Fin 8), IntKind.wrap .u8 ((if c = true then (1 : Int) else 0) * 2 ^ min k.val (IntKind.bits .u8)) = ((if c = true then 2 ^ k.val else 0 : Nat) : Int) := by decide +kernel
 exact key c ⟨k, h⟩
theorem zn2 {a b : Nat} (ha : a < 256) (hb : b < 256) : bits .or .u8 (a : Int) (b : Int) = ((a ||| b : Nat) : Int) := by
 rw [zkl (by omega) (by omega) (by omega) (by omega)]; rfl
theorem zkg {a b : Nat} (ha : a < 256) (hb : b < 256) : bits .and .u8 (a : Int) (b : Int) = ((a &&& b : Nat) : Int) := by
 rw [uS (by omega) (by omega) (by omega) (by omega)]; rfl
theorem ztj {c : Bool} {k : Nat} (h : k < 8) : (if c = true then 2 ^ k else 0) < 256 := by
 split
 · exact Nat.lt_of_lt_of_le (Nat.pow_lt_pow_right (a := 2) (by omega) h) (by omega)
 · omega
theorem zfi {α : Type} {l : List α} {i j : Nat} {x : α} (h : i < l.length) : (l.set i x)[j]? = if i = j then some x else l[j]? := by
 rw [List.getElem?_set]
 split
 · simp [h]
 · rfl
theorem zhd (l : TL) (hu : U8s l.Up) (hn : l.Names.length <= 8) (hl : l.Up.length = l.Names.length) :
 Tot (Fz26 l) fun o => o.n_ = l.Names.length /\ o.up_.length = 8 /\ o.down_.length = 8 /\ (∀ j, j < l.Names.length -> o.up_[j]? = l.Up[j]?) /\ ∀ b, b < l.Names.length -> o.down_[b]? = some (dn l b l.Names.length : Int) := by
 unfold Fz26
 simp only [zn, List.length_map]
 refine Tot.count l.Up.length (fun k s => s.1 = (k : Int) /\ s.2.1.length = 8 /\ s.2.2.length = 8 /\ (∀ j, j < k -> s.2.1[j]? = l.Up[j]?) /\ ∀ b, b < l.Names.length -> s.2.2[b]? = some (dn l b k : Int)) ?_ ⟨rfl, rfl, rfl, fun j hj => absurd hj (by omega), fun b hb => ?_⟩
 · rintro k ⟨i, up', down⟩ hk ⟨h0, h1, h2, h3, h4⟩
   simp only at h0 h1 h2 h3 h4
   subst h0
   simp only [zg, zu, zL, zW, qi, zn, Sum.elim_inl, Sum.elim_inr, decide_eq_true_eq, decide_eq_false_iff_not, Int.toNat_natCast]
   refine ⟨fun hlt => ?_, fun hlt => ?_⟩
   · obtain ⟨x, hx⟩ := zv (l := l.Up) (i := k) (by omega)
     obtain ⟨y, hy⟩ := zv (l := up') (i := k) (by omega)
     refine ⟨by omega, x, hx, ⟨by omega, by omega⟩, by omega, y, hy, ?_⟩
     have hx' := hu.get hx
     refine Tot.count l.Names.length (fun j s => s.1 = (j : Int) /\ s.2.length = 8 /\ ∀ b, b < l.Names.length -> s.2[b]? = some (dn l b (if b < j then k + 1 else k) : Int)) ?_ ⟨rfl, h2, fun b hb => by simpa using h4 b hb⟩
     rintro j ⟨i', d⟩ hj ⟨g0, g1, g2⟩
     simp only at g0 g1 g2
     subst g0
     simp only [zg, zu, zL, zW, qi, zn, Sum.elim_inl, Sum.elim_inr, decide_eq_true_eq, decide_eq_false_iff_not, Int.toNat_natCast]
     refine ⟨fun hlt' => ?_, fun hlt' => ?_⟩
     · have hz := g2 j (by omega)
       rw [if_neg (by omega)] at hz
       rw [w64 (by omega) (by omega)]
       refine ⟨⟨by omega, by omega⟩, by omega, _, hz, by omega, by omega, ⟨by omega, by omega⟩, by omega, _, hz, by omega, by omega, by simpa using g1, fun b hb => ?_⟩
       rw [zfi (by omega)]
       by_cases hjb : j = b
       · subst hjb
         rw [if_pos rfl, if_pos (by omega), uG hx'.1 hx'.2 (by omega), <- yW hx, zk8 (by omega), zn2 (zc9 l j (by omega)) (ztj (by omega))]
         rfl
       · rw [if_neg hjb, g2 b hb]
         have : (b < j + 1) = (b < j) := by simp; omega
         simp only [this]
     · rw [w64 (by omega) (by omega)]
       refine ⟨by omega, by omega, by simpa using h1, g1, fun q hq => ?_, fun b hb => ?_⟩
       · rw [zfi (by omega)]
         by_cases hkq : k = q
         · subst hkq; rw [if_pos rfl, hx]
         · rw [if_neg hkq]; exact h3 q (by omega)
       · rw [g2 b hb, if_pos (by omega)]
   · have hkn : k = l.Names.length := by omega
     subst hkn
     exact ⟨trivial, h1, h2, h3, h4⟩
 · have h8 : ∀ b : Fin 8, ([0, 0, 0, 0, 0, 0, 0, 0] : List Int)[b.val]? = some 0 := by decide
   exact h8 ⟨b, by omega⟩
theorem wF {ρ : Type} {p : Prop} [Decidable p] {x : Option ρ} (h : p) : zf p x = x := by unfold zf; rw [if_pos h]
def bnd (g : Nat -> Nat) (n a b : Nat) : Option Nat := scan (fun c => if g c = g a &&& g b then some c else none) 0 n
def bndI (g : Nat -> Nat) (n a b : Nat) : Int := match bnd g n a b with | some c => c | none => -1
theorem zb3 (m : List Int) (g : Nat -> Nat) (n a b : Nat) (hn : n <= 8) (hg : ∀ c, c < n -> m[c]? = some (g c : Int)) (hg8 : ∀ c, c < n -> g c < 256) (hs : ∀ c, c < n -> (g c).testBit c = true) (ha : a < n) (hb : b < n) :
 Fz27 m n a b = some (bndI g n a b) := by
 unfold Fz27 bndI bnd
 have s1 : ((0 : Int) <= (a : Int) /\ (a : Int) < ((8 : Nat) : Int)) := by omega
 have s2 : ((0 : Int) <= (b : Int) /\ (b : Int) < ((8 : Nat) : Int)) := by omega
 simp only [wF s1, wF s2]
 simp only [idxO, Int.toNat_natCast, Int.natCast_nonneg, if_true, hg a ha, hg b hb, Option.bind_some, zkg (hg8 a ha) (hg8 b hb)]
 have h8 : g a &&& g b < 256 := za2 (hg8 a ha)
 generalize g a &&& g b = both at *
 rw [qT n (fun c => if g c = both then some (c : Int) else none) () (fun c hc => ?_) (by simp)]
 · have e : (fun c => if g c = both then some (c : Int) else none) = fun c => (if g c = both then some c else none).map (fun c : Nat => (c : Int)) := by
    funext c; split <;> rfl
   rw [e, yL]
   cases scan (fun c => if g c = both then some c else none) 0 n <;> rfl
 · have s3 : ((0 : Int) <= (c : Int) /\ (c : Int) < ((8 : Nat) : Int)) := by omega
   simp only [wF s3]
   simp only [Int.ofNat_lt, hc, decide_true, cond_true, zf, Int.natCast_nonneg, if_true, hg c hc, Option.bind_some, letO]
   rw [w64 (by omega) (by omega), uG (by omega) (by omega) (by omega)]
   simp only [Int.toNat_natCast]
   by_cases hbc : both.testBit c = true
   · simp only [hbc, if_true, decide_true, cond_true]
     rw [hg c hc]
     by_cases hgc : g c = both
     · simp [hgc]
     · have : ¬ (g c : Int) = (both : Int) := by omega
       simp [hgc, this]
   · have : g c ≠ both := fun e => hbc (e ▸ hs c hc)
     simp [hbc, this]
theorem jO (m : List Int) (g : Nat -> Nat) (a b : Nat) (hn : m.length <= 8) (hg : ∀ c, c < m.length -> m[c]? = some (g c : Int)) (hg8 : ∀ c, c < m.length -> g c < 256) (ha : a < m.length) (hb : b < m.length) :
 Fz79 m a b = some (bndI g m.length a b) := by
 unfold Fz79 bndI bnd
 simp only [idxO, Int.toNat_natCast, Int.natCast_nonneg, if_true, hg a ha, hg b hb, Option.bind_some, zkg (hg8 a ha) (hg8 b hb), List.length_map]
 have h8 : g a &&& g b < 256 := za2 (hg8 a ha)
 generalize g a &&& g b = both at *
 rw [qT m.length (fun c => if g c = both then some (c : Int) else none) () (fun c hc => ?_) (by simp)]
 · have e : (fun c => if g c = both then some (c : Int) else none) = fun c => (if g c = both then some c else none).map (fun c : Nat => (c : Int)) := by
    funext c; split <;> rfl
   rw [e, yL]
   cases scan (fun c => if g c = both then some c else none) 0 m.length <;> rfl
 · simp only [Int.ofNat_lt, hc, decide_true, cond_true, hg c hc, Option.bind_some, letO]
   rw [w64 (by omega) (by omega), Int.toNat_natCast, if_pos (by omega), hg c hc]
   by_cases hgc : g c = both
   · simp [hgc]
   · have : ¬ (g c : Int) = (both : Int) := by omega
     simp [hgc, this]
end Go.Sx.O
namespace Go.Sx.O
open Go
def upN (l : TL) (a : Nat) : Nat := (l.Up.getD a 0).toNat
def ordB (l : TL) (a b : Nat) : Bool := !up l a b || ((decide (b = a) || !up l b a) && (List.range l.Names.length).all fun i => !up l b i || up l a i)
def ordA (l : TL) (a : Nat) : Bool := decide (upN l a < 2 ^ l.Names.length) && up l a a && (List.range l.Names.length).all fun b => ordB l a b
def dnN (l : TL) (b : Nat) : Nat := dn l b l.Names.length
def wd (l : TL) (a b : Nat) : Bool := (bnd (upN l) l.Names.length a b).isNone || (bnd (dnN l) l.Names.length a b).isNone
def latC (l : TL) : Int × Int :=
 if (yu l.Names).2 = 0 then
  if l.Up.length = l.Names.length then
   match scan (fun a => if ordA l a = true then none else some ((a : Int), (6 : Int))) 0 l.Names.length with
   | some r => r
   | none => (scan (fun a => scan (fun b => if wd l a b = true then some ((a : Int), (4 : Int)) else none) 0 l.Names.length) 0 l.Names.length).getD (0, 0)
  else (-1, 6)
 else yu l.Names
theorem zk3 {α : Type} {p : Nat -> Bool} {v : α} : ∀ {j k : Nat}, scan (fun i => if p i = true then none else some v) k j = if (List.range j).all (fun i => p (k + i)) = true then none else some v
 | 0, _ => by simp [scan]
 | j + 1, k => by
   simp only [scan, zk3 (j := j) (k := k + 1)]
   have e : (List.range (j + 1)).all (fun i => p (k + i)) = (p k && (List.range j).all fun i => p (k + 1 + i)) := by
    rw [List.range_succ_eq_map, List.all_cons, List.all_map]
    congr 1
    congr 1
    funext i
    simp only [Function.comp]
    congr 1; omega
   rw [e]
   cases p k <;> simp
theorem zf3 {α : Type} {p : Nat -> Bool} {u v : α} {n : Nat} : ∀ {j k : Nat}, k + j = n -> 0 < j -> scan (fun i => if p i = true then (if i + 1 = n then some u else none) else some v) k j = some (if (List.range j).all (fun i => p (k + i)) = true then u else v)
 | 0, _, _, h => by omega
 | j + 1, k, hk, _ => by
   have e : (List.range (j + 1)).all (fun i => p (k + i)) = (p k && (List.range j).all fun i => p (k + 1 + i)) := by
    rw [List.range_succ_eq_map, List.all_cons, List.all_map]
    congr 1
    congr 1
    funext i
    simp only [Function.comp]
    congr 1; omega
   rw [e]
   simp only [scan]
   cases hp : p k with
   | false => simp
   | true =>
     simp only [if_true, Bool.true_and]
     by_cases hj : j = 0
     · subst hj
       have : k + 1 = n := by omega
       simp [this]
     · have : ¬ k + 1 = n := by omega
       simp only [this, if_false]
       exact zf3 (by omega) (by omega)
theorem zlv (x : Int) (h0 : 0 <= x) (h1 : x < 256) : Tot (Fz25 x) fun y => ∀ n : Nat, n <= 8 -> decide ((n : Int) < y) = !decide (x.toNat < 2 ^ n) := by
 unfold Fz25
 rw [zW]
 refine ⟨h0, ?_⟩
 have key : ∀ l : List UInt8, (∀ x : Fin 256, ∀ n : Fin 9, (l[x.val]?.map fun y => decide ((n.val : Int) < IntKind.wrap .i64 (y.toNat : Int))) = some (!decide (x.val < 2 ^ n.val))) ->
  ∃ y, l[x.toNat]? = some y /\ Tot (letO (IntKind.wrap .i64 (y.toNat : Int)) fun z => some z) fun y => ∀ n : Nat, n <= 8 -> decide ((n : Int) < y) = !decide (x.toNat < 2 ^ n) := by
  intro l hl
  cases e : l[x.toNat]? with
  | none =>
    have := hl ⟨x.toNat, by omega⟩ ⟨0, by omega⟩
    simp only [e] at this
    cases this
  | some y =>
    refine ⟨y, rfl, .mk fun n hn => ?_⟩
    have := hl ⟨x.toNat, by omega⟩ ⟨n, by omega⟩
    simp only [e] at this
    exact Option.some.inj this
 exact key _ (by decide +kernel)
theorem ja {l : TL} (hu : U8s l.Up) {a b : Nat} (ha : a < l.Up.length) (hb : b <= 8) : Fz76 l a b = some (up l a b) := by
 unfold Fz76
 obtain ⟨x, hx⟩ := zv ha
 have hx' := hu.get hx
 have key : ∀ u : Fin 256, ∀ b : Fin 9, decide (Int.tmod (Int.fdiv (u.val : Int) (2 ^ min b.val (IntKind.bits .u8))) 2 = 1) = Nat.testBit u b := by decide +kernel
 have := key ⟨x.toNat, by omega⟩ ⟨b, by omega⟩
 simp only [Int.toNat_of_nonneg hx'.1] at this
 simp only [List.length_map, Int.natCast_nonneg, decide_true, cond_true, Int.ofNat_lt, ha, idxO, Int.toNat_natCast, if_true, hx, Option.bind_some, zf, this, yW hx]
theorem zam {n : Nat} (h : n < 1000000) : IntKind.wrap .i64 (n : Int) = n := w64 (by omega) (by omega)
theorem zk5 (n : Nat) : BitVec.ofInt 64 (n : Int) = BitVec.ofNat 64 n := BitVec.ofInt_natCast 64 n
theorem zk1 {a b : Nat} (ha : a < 1000000) (hb : b < 1000000) : bits .and .i64 (a : Int) (b : Int) = ((a &&& b : Nat) : Int) := by
 have e : bits .and .i64 (a : Int) (b : Int) = IntKind.wrap .i64 ((BitVec.ofInt 64 (a : Int) &&& BitVec.ofInt 64 (b : Int)).toNat : Int) := rfl
 rw [e, zk5, zk5, BitVec.toNat_and, BitVec.toNat_ofNat, BitVec.toNat_ofNat, Nat.mod_eq_of_lt (by omega), Nat.mod_eq_of_lt (by omega)]
 exact zam (Nat.lt_of_le_of_lt Nat.and_le_left ha)
theorem zoo {x y n : Nat} : ((y &&& (2 ^ n - 1)) &&& x = y &&& (2 ^ n - 1)) ↔ ((List.range n).all fun i => !y.testBit i || x.testBit i) = true := by
 rw [List.all_eq_true]
 constructor
 · intro h i hi
   have hi' : i < n := by simpa using hi
   have := congrArg (fun z => z.testBit i) h
   simp only [Nat.testBit_and, Nat.testBit_two_pow_sub_one, hi', decide_true, Bool.and_true] at this
   cases e : y.testBit i with
   | false => rfl
   | true => rw [e] at this; simpa using this
 · intro h
   apply Nat.eq_of_testBit_eq
   intro i
   simp only [Nat.testBit_and, Nat.testBit_two_pow_sub_one]
   by_cases hi : i < n
   · have := h i (by simpa using hi)
     simp only [hi, decide_true, Bool.and_true]
     cases e : y.testBit i with
     | false => rfl
     | true => rw [e] at this; simpa using this
   · simp [hi]
end Go.Sx.O
namespace Go.Sx.O
open Go
theorem zn1 {l : TL} {a : Nat} {x : Int} (h : l.Up[a]? = some x) : upN l a = x.toNat := by unfold upN; rw [ym h]
theorem zbe {l : TL} {a b : Nat} : (upN l a).testBit b = up l a b := rfl
theorem uf {l : TL} (hu : U8s l.Up) {a : Nat} (ha : a < l.Up.length) : upN l a < 256 := by
 obtain ⟨x, hx⟩ := zv ha
 have := hu.get hx
 rw [zn1 hx]; omega
theorem xd {l : TL} (hu : U8s l.Up) {a : Nat} (ha : a < l.Up.length) : l.Up[a]? = some (upN l a : Int) := by
 obtain ⟨x, hx⟩ := zv ha
 have := hu.get hx
 rw [hx, zn1 hx, Int.toNat_of_nonneg this.1]
theorem zis {l : TL} (hu : U8s l.Up) (h8 : l.Names.length <= 8) (hl : l.Up.length = l.Names.length) {a : Nat} (ha : a < l.Names.length) : Fz77 l a = some (ordA l a) := by
 unfold Fz77 ordA
 have g0 : ((0 : Int) <= (l.Names.length : Int)) := by omega
 have hb := fun b (hb : b < l.Names.length) => ja hu (a := a) (b := b) (by omega) (by omega)
 have hxa := xd hu (a := a) (by omega)
 have hlt := uf hu (a := a) (by omega)
 have sh : decide ((0 : Int) < Int.fdiv (upN l a : Int) (2 ^ min l.Names.length (IntKind.bits .i64))) = !decide (upN l a < 2 ^ l.Names.length) := by
  have key : ∀ u : Fin 256, ∀ n : Fin 9, decide ((0 : Int) < Int.fdiv (u.val : Int) (2 ^ min n.val (IntKind.bits .i64))) = !decide (u.val < 2 ^ n.val) := by decide +kernel
  exact key ⟨upN l a, hlt⟩ ⟨l.Names.length, by omega⟩
 have mk : IntKind.wrap .i64 (IntKind.wrap .i64 (1 * 2 ^ min l.Names.length (IntKind.bits .i64)) - 1) = ((2 ^ l.Names.length - 1 : Nat) : Int) := by
  have key : ∀ n : Fin 9, IntKind.wrap .i64 (IntKind.wrap .i64 (1 * 2 ^ min n.val (IntKind.bits .i64)) - 1) = ((2 ^ n.val - 1 : Nat) : Int) := by decide +kernel
  exact key ⟨l.Names.length, by omega⟩
 have mk' : 2 ^ l.Names.length - 1 < 1000000 := by
  have : 2 ^ l.Names.length <= 2 ^ 8 := Nat.pow_le_pow_right (by omega) h8
  omega
 simp only [List.length_map, wF g0, Int.toNat_natCast]
 simp only [idxO, Int.toNat_natCast, Int.natCast_nonneg, if_true, hxa, Option.bind_some, letO]
 rw [zam (by omega), sh, hb a ha, mk]
 cases e1 : decide (upN l a < 2 ^ l.Names.length) with
 | false => simp
 | true =>
   simp only [Bool.not_true, cond_false, Bool.true_and, Option.bind_some]
   cases e2 : up l a a with
   | false => simp
   | true =>
     simp only [Bool.not_true, cond_false, Bool.true_and]
     rw [qT l.Names.length (fun b => if ordB l a b = true then none else some false) () (fun b hbn => ?_) (by simp)]
     · rw [zk3]
       simp only [Nat.zero_add]
       cases (List.range l.Names.length).all fun b => ordB l a b <;> rfl
     · have hxb := xd hu (a := b) (by omega)
       have hltb := uf hu (a := b) (by omega)
       simp only [Int.ofNat_lt, hbn, decide_true, cond_true, Option.bind_some, Int.toNat_natCast, hxb]
       rw [hb b hbn, zam (n := upN l b) (by omega), zk1 (by omega) mk', w64 (by omega) (by omega), ja hu (by omega) (by omega)]
       have hand : upN l b &&& (2 ^ l.Names.length - 1) < 1000000 := Nat.lt_of_le_of_lt Nat.and_le_left (by omega)
       rw [zk1 hand (by omega)]
       have hsub := zoo (x := upN l a) (y := upN l b) (n := l.Names.length)
       simp only [zbe] at hsub
       have hsub' : decide ((((upN l b &&& (2 ^ l.Names.length - 1)) &&& upN l a : Nat) : Int) = ((upN l b &&& (2 ^ l.Names.length - 1) : Nat) : Int)) = (List.range l.Names.length).all fun i => !up l b i || up l a i := by
        rw [Bool.eq_iff_iff, <- hsub, decide_eq_true_eq]; omega
       rw [hsub']
       unfold ordB
       cases e3 : up l a b with
       | false => simp
       | true =>
         simp only [Option.bind_some, Bool.not_true, cond_false, Bool.false_or]
         by_cases hba : b = a
         · subst hba
           simp only [decide_true, Bool.not_true, cond_false, Bool.true_or, Bool.true_and]
           cases (List.range l.Names.length).all fun i => !up l b i || up l b i <;> simp
         · have : ¬ (b : Int) = (a : Int) := by omega
           simp only [this, hba, decide_false, Bool.not_false, cond_true, Bool.false_or]
           cases up l b a with
           | true => simp
           | false =>
             cases (List.range l.Names.length).all fun i => !up l b i || up l a i <;> simp
theorem zdj {l : TL} (hu : U8s l.Up) (h8 : l.Names.length <= 8) (hl : l.Up.length = l.Names.length) : Tot (Fz78 l) fun d => d.length = l.Names.length /\ ∀ b, b < l.Names.length -> d[b]? = some (dnN l b : Int) := by
 unfold Fz78
 simp only [zn, qi, List.length_map, Int.toNat_natCast]
 refine ⟨⟨by omega, trivial, by omega, by omega⟩, ?_⟩
 refine Tot.count l.Names.length (fun k s => s.1 = (k : Int) /\ s.2.length = l.Names.length /\ ∀ b, b < l.Names.length -> s.2[b]? = some (dn l b k : Int)) ?_ ⟨rfl, by simp, fun b hb => ?_⟩
 · rintro k ⟨i, down⟩ hk ⟨h0, h2, h4⟩
   simp only at h0 h2 h4
   subst h0
   simp only [zg, zu, zL, zW, qi, zn, Sum.elim_inl, Sum.elim_inr, decide_eq_true_eq, decide_eq_false_iff_not, Int.toNat_natCast]
   refine ⟨fun hlt => ?_, fun hlt => ?_⟩
   · refine Tot.count l.Names.length (fun j s => s.1 = (j : Int) /\ s.2.length = l.Names.length /\ ∀ b, b < l.Names.length -> s.2[b]? = some (dn l b (if b < j then k + 1 else k) : Int)) ?_ ⟨rfl, h2, fun b hb => by simpa using h4 b hb⟩
     rintro j ⟨i', d⟩ hj ⟨g0, g1, g2⟩
     simp only at g0 g1 g2
     subst g0
     simp only [zg, zu, zL, zW, qi, zn, Sum.elim_inl, Sum.elim_inr, decide_eq_true_eq, decide_eq_false_iff_not, Int.toNat_natCast]
     refine ⟨fun hlt' => ?_, fun hlt' => ?_⟩
     · rw [ja hu (by omega) (by omega), zg]
       have hz := g2 j (by omega)
       rw [if_neg (by omega)] at hz
       rw [w64 (by omega) (by omega)]
       refine ⟨fun hup => ⟨⟨by omega, by simp; omega⟩, by omega, _, hz, by omega, ⟨by omega, by simp; omega⟩, by omega, _, hz, by omega, by omega, by simpa using g1, fun b hb => ?_⟩, fun hup => ⟨by omega, by omega, g1, fun b hb => ?_⟩⟩
       · have hsh := zk8 (c := true) (k := k) (by omega)
         simp only [if_true] at hsh
         rw [zfi (by omega), hsh]
         by_cases hjb : j = b
         · subst hjb
           have hp : 2 ^ k < 256 := Nat.lt_of_lt_of_le (Nat.pow_lt_pow_right (a := 2) (by omega) (show k < 8 by omega)) (by omega)
           rw [if_pos rfl, if_pos (by omega), zn2 (zc9 l j (by omega)) hp]
           simp [dn, hup]
         · rw [if_neg hjb, g2 b hb]
           have : (b < j + 1) = (b < j) := by simp; omega
           simp only [this]
       · rw [g2 b hb]
         by_cases hjb : j = b
         · subst hjb
           rw [if_neg (by omega), if_pos (by omega)]
           simp [dn, hup]
         · have : (b < j + 1) = (b < j) := by simp; omega
           simp only [this]
     · rw [w64 (by omega) (by omega)]
       refine ⟨by omega, by omega, g1, fun b hb => ?_⟩
       rw [g2 b hb, if_pos (by omega)]
   · have hkn : k = l.Names.length := by omega
     subst hkn
     exact ⟨h2, h4⟩
 · rw [List.getElem?_replicate, if_pos hb]; rfl
end Go.Sx.O
namespace Go.Sx.O
open Go
theorem zi9 (g : Nat -> Nat) (n a b : Nat) : decide (bndI g n a b < 0) = (bnd g n a b).isNone := by
 unfold bndI
 cases bnd g n a b with
 | none => rfl
 | some c => simp
theorem zne {l : TL} (h8 : l.Names.length <= 8) (b : Nat) : dnN l b < 256 := zc9 l b h8
theorem xA (l : TL) (hu : U8s l.Up) (hn : l.Names.length <= 20) (hs : ∀ s ∈ l.Names, s.length <= 1000) : Fz80 l = some (latC l) := by
 unfold Fz80 latC
 rw [zhy _ hn hs]
 simp only [Option.bind_some, List.length_map]
 by_cases h0 : (yu l.Names).2 = 0
 case neg => simp [h0]
 simp only [h0, decide_true, Bool.not_true, cond_false, if_true]
 by_cases hlen : l.Up.length = l.Names.length
 case neg =>
  have : ¬ (l.Up.length : Int) = l.Names.length := by omega
  simp [hlen, this]
 have h8 : l.Names.length <= 8 := by
  unfold yu at h0
  split at h0
  · cases h0
  · omega
 simp only [hlen, decide_true, Bool.not_true, cond_false, if_true]
 rw [qT l.Names.length (fun a => if ordA l a = true then none else some ((a : Int), (6 : Int))) () (fun a ha => ?_) (by simp)]
 · cases h1 : scan (fun a => if ordA l a = true then none else some ((a : Int), (6 : Int))) 0 l.Names.length with
   | some r => rfl
   | none =>
     simp only
     obtain ⟨d, ed, hdl, hd⟩ := zdj hu h8 hlen
     rw [ed, Option.bind_some]
     rw [qT l.Names.length (fun a => scan (fun b => if wd l a b = true then some ((a : Int), (4 : Int)) else none) 0 l.Names.length) () (fun a ha => ?_) (by simp)]
     · cases scan (fun a => scan (fun b => if wd l a b = true then some ((a : Int), (4 : Int)) else none) 0 l.Names.length) 0 l.Names.length <;> rfl
     · simp only [Int.ofNat_lt, ha, decide_true, cond_true]
       rw [qT l.Names.length (fun b => if wd l a b = true then some (.inr (.inr ((a : Int), (4 : Int)))) else none) () (fun b hb => ?_) (by simp)]
       · have e : (fun b => if wd l a b = true then some (Sum.inr (Sum.inr ((a : Int), (4 : Int))) : Int ⊕ (Unit ⊕ (Int × Int))) else none) = fun b => (if wd l a b = true then some ((a : Int), (4 : Int)) else none).map fun v => .inr (.inr v) := by
          funext b; split <;> rfl
         rw [e, yL]
         cases scan (fun b => if wd l a b = true then some ((a : Int), (4 : Int)) else none) 0 l.Names.length with
         | some r => rfl
         | none =>
           simp only [Option.map_none, letO]
           rw [w64 (by omega) (by omega)]
       · simp only [Int.ofNat_lt, hb, decide_true, cond_true]
         have n1 := jO l.Up (upN l) a b (by omega) (fun c hc => xd hu hc) (fun c hc => uf hu hc) (by omega) (by omega)
         have n2 := jO d (dnN l) a b (by omega) (fun c hc => hd c (by omega)) (fun c hc => zne h8 c) (by omega) (by omega)
         rw [hlen] at n1
         rw [hdl] at n2
         rw [n1, n2]
         simp only [Option.bind_some, zi9, letO]
         rw [w64 (by omega) (by omega)]
         unfold wd
         cases (bnd (upN l) l.Names.length a b).isNone with
         | true => simp
         | false => cases (bnd (dnN l) l.Names.length a b).isNone <;> simp
 · simp only [Int.ofNat_lt, ha, decide_true, cond_true]
   rw [zis hu h8 hlen ha]
   simp only [Option.bind_some, letO]
   rw [w64 (by omega) (by omega)]
   cases ordA l a <;> simp
end Go.Sx.O
namespace Go.Sx.O
open Go
theorem zjw (l : TL) (hu : U8s l.Up) (hn : l.Names.length <= 20) (hs : ∀ s ∈ l.Names, s.length <= 1000) : Fz29 l = some (latC l) := by
 unfold Fz29 latC
 rw [zo7 _ hn hs]
 simp only [Option.bind_some, List.length_map]
 by_cases h0 : (yu l.Names).2 = 0
 case neg => simp [h0]
 simp only [h0, decide_true, Bool.not_true, cond_false, if_true]
 by_cases hlen : l.Up.length = l.Names.length
 case neg =>
  have : ¬ (l.Up.length : Int) = l.Names.length := by omega
  simp [hlen, this]
 have h8 : 1 <= l.Names.length /\ l.Names.length <= 8 := by
  unfold yu at h0
  split at h0
  · cases h0
  · omega
 obtain ⟨h1, h8⟩ := h8
 have g0 : ((0 : Int) <= (l.Names.length : Int)) := by omega
 simp only [hlen, decide_true, Bool.not_true, cond_false, if_true, wF g0, letO, Int.toNat_natCast]
 have hmask := zi1 l.Names.length h8
 have hm0 := zij (e := IntKind.wrap .u8 (1 * 2 ^ min l.Names.length (IntKind.bits .u8)) - 1)
 rw [qT l.Names.length (fun a => if ordA l a = true then none else some ((a : Int), (6 : Int))) () (fun a ha => ?_) (by simp)]
 · cases h1 : scan (fun a => if ordA l a = true then none else some ((a : Int), (6 : Int))) 0 l.Names.length with
   | some r => rfl
   | none =>
     simp only
     have hself : ∀ a, a < l.Names.length -> up l a a = true := by
      intro a ha
      have := scan_none.1 h1 a (by omega) (by omega)
      split at this
      · rename_i h
        unfold ordA at h
        simp only [Bool.and_eq_true] at h
        exact h.1.2
      · cases this
     obtain ⟨o, eo, _, o1, o2, o3, o4⟩ := zhd l hu h8 hlen
     rw [eo, Option.bind_some]
     rw [qT l.Names.length (fun a => scan (fun b => if wd l a b = true then some ((a : Int), (4 : Int)) else none) 0 l.Names.length) () (fun a ha => ?_) (by simp)]
     · cases scan (fun a => scan (fun b => if wd l a b = true then some ((a : Int), (4 : Int)) else none) 0 l.Names.length) 0 l.Names.length <;> rfl
     · simp only [Int.ofNat_lt, ha, decide_true, cond_true]
       rw [qT l.Names.length (fun b => if wd l a b = true then some (.inr (.inr ((a : Int), (4 : Int)))) else none) () (fun b hb => ?_) (by simp)]
       · have e : (fun b => if wd l a b = true then some (Sum.inr (Sum.inr ((a : Int), (4 : Int))) : Int ⊕ (Unit ⊕ (Int × Int))) else none) = fun b => (if wd l a b = true then some ((a : Int), (4 : Int)) else none).map fun v => .inr (.inr v) := by
          funext b; split <;> rfl
         rw [e, yL]
         cases scan (fun b => if wd l a b = true then some ((a : Int), (4 : Int)) else none) 0 l.Names.length with
         | some r => rfl
         | none =>
           simp only [Option.map_none]
           rw [w64 (by omega) (by omega)]
       · simp only [Int.ofNat_lt, hb, decide_true, cond_true]
         have n1 := zb3 o.up_ (upN l) l.Names.length a b h8 (fun c hc => by rw [o3 c hc]; exact xd hu (by omega)) (fun c hc => uf hu (by omega)) (fun c hc => hself c hc) ha hb
         have n2 : Fz28 o.down_ l.Names.length a b = some (bndI (dnN l) l.Names.length a b) := zb3 o.down_ (dnN l) l.Names.length a b h8 (fun c hc => o4 c hc) (fun c hc => zne h8 c) (fun c hc => by unfold dnN; rw [zhg, hself c hc]; simp [hc]) ha hb
         rw [n1, n2]
         simp only [Option.bind_some, zi9]
         rw [w64 (by omega) (by omega)]
         unfold wd
         cases (bnd (upN l) l.Names.length a b).isNone with
         | true => simp
         | false => cases (bnd (dnN l) l.Names.length a b).isNone <;> simp
 · -- one label's row
   have hxa := xd hu (a := a) (by omega)
   have hlt := uf hu (a := a) (by omega)
   obtain ⟨y, ey, hy⟩ := zlv (upN l a : Int) (by omega) (by omega)
   have hy := hy l.Names.length h8
   rw [Int.toNat_natCast] at hy
   have ga : ((0 : Int) <= (a : Int)) := by omega
   have hbit : ∀ b, b < l.Names.length -> bits .and .u8 (Int.fdiv (upN l a : Int) (2 ^ min b (IntKind.bits .u8))) 1 = if up l a b = true then 1 else 0 := fun b hb => by
    rw [uG (by omega) (by omega) (by omega), Int.toNat_natCast]; rfl
   simp only [Int.ofNat_lt, ha, decide_true, cond_true, idxO, Int.toNat_natCast, if_pos ga, hxa, Option.bind_some, ey, hy, wF ga]
   simp only [hbit a ha]
   unfold ordA
   cases e1 : decide (upN l a < 2 ^ l.Names.length) with
   | false => simp
   | true =>
     simp only [Bool.not_true, cond_false, Bool.true_and]
     cases e2 : up l a a with
     | false => simp
     | true =>
       simp only [if_true, Int.reduceEq, decide_false, cond_false, Bool.true_and]
       rw [qT l.Names.length (fun b => if ordB l a b = true then (if b + 1 = l.Names.length then some (.inl ((a : Int) + 1)) else none) else some (.inr (.inr ((a : Int), (6 : Int))))) () (fun b hb => ?_) (by simp)]
       · rw [zf3 (by omega) (by omega)]
         simp only [Nat.zero_add]
         cases (List.range l.Names.length).all fun b => ordB l a b <;> rfl
       · have hxb := xd hu (a := b) (by omega)
         have hltb := uf hu (a := b) (by omega)
         have gb : ((0 : Int) <= (b : Int)) := by omega
         have hbit' : bits .and .u8 (Int.fdiv (upN l b : Int) (2 ^ min a (IntKind.bits .u8))) 1 = if up l b a = true then 1 else 0 := by
          rw [uG (by omega) (by omega) (by omega), Int.toNat_natCast]; rfl
         simp only [Int.ofNat_lt, hb, decide_true, cond_true, Option.bind_some, Int.toNat_natCast, hxb, if_pos gb, wF gb]
         simp only [hbit b hb, hbit', w64 (e := (l.Names.length : Int) - 1) (by omega) (by omega), w64 (e := (a : Int) + 1) (by omega) (by omega), w64 (e := (b : Int) + 1) (by omega) (by omega)]
         have hnot : decide (bits .andNot .u8 (bits .and .u8 (upN l b : Int) (IntKind.wrap .u8 (IntKind.wrap .u8 (1 * 2 ^ min l.Names.length (IntKind.bits .u8)) - 1))) (upN l a : Int) = 0) = (List.range l.Names.length).all fun i => !up l b i || up l a i := by
          revert hmask hm0
          generalize IntKind.wrap .u8 (IntKind.wrap .u8 (1 * 2 ^ min l.Names.length (IntKind.bits .u8)) - 1) = mask
          intro hmask hm0
          have hand : bits .and .u8 (upN l b : Int) mask = ((upN l b &&& mask.toNat : Nat) : Int) := by
           rw [uS (by omega) (by omega) hm0.1 hm0.2, Int.toNat_natCast]
          have hlt2 : upN l b &&& mask.toNat < 256 := za2 hltb
          rw [hand, Bool.eq_iff_iff, decide_eq_true_eq, xX (by omega) (by omega) (by omega) (by omega), List.all_eq_true]
          simp only [Int.toNat_natCast, Nat.testBit_and, hmask, zbe]
          constructor
          · intro h i hi
            have := h i
            have hi' : i < l.Names.length := by simpa using hi
            cases e : up l b i with
            | false => rfl
            | true => rw [e] at this; simpa [hi'] using this
          · intro h i hi
            simp only [Bool.and_eq_true, decide_eq_true_eq] at hi
            have := h i (by simpa using hi.2)
            rw [hi.1] at this; simpa using this
         simp only [hnot]
         have hlast : decide ((b : Int) = (l.Names.length : Int) - 1) = decide (b + 1 = l.Names.length) := by
          rw [Bool.eq_iff_iff, decide_eq_true_eq, decide_eq_true_eq]; omega
         simp only [hlast]
         unfold ordB
         cases e3 : up l a b with
         | false => by_cases hl : b + 1 = l.Names.length <;> simp [hl]
         | true =>
           by_cases hba : b = a
           · subst hba
             have d2 : decide ((b : Int) = (b : Int)) = true := by simp
             cases (List.range l.Names.length).all fun i => !up l b i || up l b i with
             | false => by_cases hl : b + 1 = l.Names.length <;> simp [hl]
             | true => by_cases hl : b + 1 = l.Names.length <;> simp [hl]
           · have d2 : decide ((b : Int) = (a : Int)) = false := by simp; omega
             have d3 : decide (b = a) = false := by simp [hba]
             simp only [d2, d3]
             cases up l b a with
             | true => by_cases hl : b + 1 = l.Names.length <;> simp [hl]
             | false =>
               cases (List.range l.Names.length).all fun i => !up l b i || up l a i with
               | false => by_cases hl : b + 1 = l.Names.length <;> simp [hl]
               | true => by_cases hl : b + 1 = l.Names.length <;> simp [hl]
theorem zbj {l : TL} (h : LatIn l) : latR l = latC l := by
 unfold latR; rw [zjw l h.u8 h.names h.name]; rfl
end Go.Sx.O
namespace Go.Sx.O
open Go
theorem ze7 {l : TL} (h : LatIn l) (a b : Int) : Fz93 l a b = some (askE l [a, b]) := by
 unfold Fz93 askE
 rw [xA l h.u8 h.names h.name, zbj h]
 simp only [Option.bind_some, List.length_map, List.all_cons, List.all_nil, Bool.and_true]
 by_cases h0 : (latC l).2 = 0
 · simp only [h0, decide_true, cond_true, if_true]
   unfold qM
   by_cases a1 : a < 0
   · have : ¬ 0 <= a := by omega
     simp [a1, this]
   by_cases a2 : (l.Names.length : Int) <= a
   · have : ¬ a < (l.Names.length : Int) := by omega
     simp [a1, a2, this]
   by_cases b1 : b < 0
   · have : ¬ 0 <= b := by omega
     simp [a1, a2, b1, this]
   by_cases b2 : (l.Names.length : Int) <= b
   · have : ¬ b < (l.Names.length : Int) := by omega
     simp [a1, a2, b1, b2, this]
   have a1' : 0 <= a := by omega
   have a2' : a < (l.Names.length : Int) := by omega
   have b1' : 0 <= b := by omega
   have b2' : b < (l.Names.length : Int) := by omega
   simp [a1, a2, b1, b2, a1', a2', b1', b2']
 · simp [h0]
end Go.Sx.O
namespace Go.Sx.O
open Go
theorem zo9 {g : Nat -> Nat} {n a b c : Nat} (h : bnd g n a b = some c) : c < n /\ g c = g a &&& g b := by
 have key : ∀ {j k : Nat}, scan (fun c => if g c = g a &&& g b then some c else none) k j = some c -> c < k + j /\ g c = g a &&& g b := by
  intro j
  induction j with
  | zero => intro k h; cases h
  | succ j ih =>
    intro k h
    simp only [scan] at h
    split at h
    · rename_i r hr
      cases h
      split at hr
      · rename_i hh; cases hr; exact ⟨by omega, hh⟩
      · cases hr
    · have := ih h
      exact ⟨by omega, this.2⟩
 have := key h
 simpa using this
theorem zaq {l : TL} (h : LatIn l) (k : (latR l).2 = 0) : (∀ a, a < l.Names.length -> ordA l a = true) /\ ∀ a b, a < l.Names.length -> b < l.Names.length -> wd l a b = false := by
 rw [zbj h] at k
 unfold latC at k
 split at k
 case isFalse h0 => exact absurd k h0
 split at k
 case isFalse => cases k
 split at k
 case h_1 r hr =>
  exfalso
  have key : ∀ {j k : Nat}, scan (fun a => if ordA l a = true then none else some ((a : Int), (6 : Int))) k j = some r -> r.2 = 6 := by
   intro j
   induction j with
   | zero => intro k h; cases h
   | succ j ih =>
     intro k h
     simp only [scan] at h
     split at h
     · rename_i r' hr'
       cases h
       split at hr'
       · cases hr'
       · cases hr'; rfl
     · exact ih h
  rw [key hr] at k; cases k
 case h_2 hord =>
  have key2 : ∀ {a j k : Nat} {r : Int × Int}, scan (fun b => if wd l a b = true then some ((a : Int), (4 : Int)) else none) k j = some r -> r.2 = 4 := by
   intro a j
   induction j with
   | zero => intro k r h; cases h
   | succ j ih =>
     intro k r h
     simp only [scan] at h
     split at h
     · rename_i r' hr'
       cases h
       split at hr'
       · cases hr'; rfl
       · cases hr'
     · exact ih h
  have key : ∀ {j k : Nat} {r : Int × Int}, scan (fun a => scan (fun b => if wd l a b = true then some ((a : Int), (4 : Int)) else none) 0 l.Names.length) k j = some r -> r.2 = 4 := by
   intro j
   induction j with
   | zero => intro k r h; cases h
   | succ j ih =>
     intro k r h
     simp only [scan] at h
     split at h
     · rename_i r' hr'
       cases h
       exact key2 hr'
     · exact ih h
  cases hs : scan (fun a => scan (fun b => if wd l a b = true then some ((a : Int), (4 : Int)) else none) 0 l.Names.length) 0 l.Names.length with
  | some r =>
    rw [hs] at k
    have := key hs
    simp only [Option.getD_some] at k
    rw [this] at k; cases k
  | none =>
    refine ⟨fun a ha => ?_, fun a b ha hb => ?_⟩
    · have h1 := scan_none.1 hord a (by omega) (by omega)
      split at h1
      · assumption
      · cases h1
    · have h1 := scan_none.1 (scan_none.1 hs a (by omega) (by omega)) b (by omega) (by omega)
      split at h1
      · cases h1
      · rename_i h2; simpa using h2
theorem zhu {l : TL} (h : LatIn l) (k : (latR l).2 = 0) {a b : Nat} (ha : a < l.Names.length) (hb : b < l.Names.length) : ∃ c, bnd (dnN l) l.Names.length a b = some c /\ c < l.Names.length /\ dnN l c = dnN l a &&& dnN l b := by
 have h2 := (zaq h k).2 a b ha hb
 unfold wd at h2
 cases e : bnd (dnN l) l.Names.length a b with
 | none => rw [e] at h2; simp at h2
 | some c => exact ⟨c, rfl, zo9 e⟩
theorem zor {l : TL} (ok : LatOK l) {a b c : Nat} (ha : a < l.Names.length) (hb : b < l.Names.length) (hc : c < l.Names.length) (h1 : up l a b = true) (h2 : up l b c = true) : up l a c = true := (ok.row a ha b hb h1).2 c hc h2
theorem zqq {l : TL} {b i : Nat} : (dnN l b).testBit i = (decide (i < l.Names.length) && up l i b) := zhg l b l.Names.length i
theorem zej {l : TL} {a b c i : Nat} (hi : i < l.Names.length) (hg : dnN l c = dnN l a &&& dnN l b) : up l i c = (up l i a && up l i b) := by
 have h1 := congrArg (fun x => x.testBit i) hg
 simp only [Nat.testBit_and, zqq, hi, decide_true, Bool.true_and] at h1
 exact h1
theorem zqy {l : TL} (ok : LatOK l) {a b : Nat} (ha : a < l.Names.length) (hb : b < l.Names.length) (h1 : up l a b = true) (h2 : up l b a = true) : a = b := by
 by_cases e : b = a
 · exact e.symm
 · have := (ok.row a ha b hb h1).1 e
   rw [h2] at this; cases this
theorem zrf {l : TL} (h : LatIn l) (k : (latR l).2 = 0) : ∃ t, t < l.Names.length /\ ∀ a, a < l.Names.length -> up l t a = true := by
 have ok := jM h k
 have key : ∀ j, j <= l.Names.length -> ∃ t, t < l.Names.length /\ ∀ a, a < j -> up l t a = true := by
  intro j
  induction j with
  | zero => intro _; exact ⟨0, ok.pos, fun a ha => absurd ha (by omega)⟩
  | succ j ih =>
    intro hj
    obtain ⟨t, ht, hall⟩ := ih (by omega)
    obtain ⟨c, _, hc, hg⟩ := zhu h k ht (show j < l.Names.length by omega)
    have hcc := ok.self c hc
    rw [zej hc hg, Bool.and_eq_true] at hcc
    refine ⟨c, hc, fun a ha => ?_⟩
    rcases Nat.lt_or_ge a j with g | g
    · exact zor ok hc ht (by omega) hcc.1 (hall a g)
    · have : a = j := by omega
      subst this; exact hcc.2
 exact key _ (Nat.le_refl _)
def botN (l : TL) : Nat := ((List.range l.Names.length).find? fun b => (List.range l.Names.length).all fun a => up l b a).getD 0
theorem zcc {l : TL} (h : LatIn l) (k : (latR l).2 = 0) : botN l < l.Names.length /\ ∀ a, a < l.Names.length -> up l (botN l) a = true := by
 obtain ⟨t, ht, hall⟩ := zrf h k
 unfold botN
 cases e : (List.range l.Names.length).find? fun b => (List.range l.Names.length).all fun a => up l b a with
 | none =>
   have := List.find?_eq_none.1 e t (by simpa using ht)
   exact absurd (by simp only [List.all_eq_true, List.mem_range]; exact hall) this
 | some b =>
   have h1 := List.find?_some e
   have h2 := List.mem_of_find?_eq_some e
   simp only [List.all_eq_true, List.mem_range] at h1 h2
   exact ⟨h2, h1⟩
theorem zm4 {l : TL} (h : LatIn l) (k : (latR l).2 = 0) {b : Nat} (hb : b < l.Names.length) (hall : ∀ a, a < l.Names.length -> up l b a = true) : b = botN l := by
 obtain ⟨h1, h2⟩ := zcc h k
 exact zqy (jM h k) hb h1 (hall _ h1) (h2 _ hb)
theorem zox {l : TL} (h : LatIn l) (k : (latR l).2 = 0) {b : Nat} (hb : b < l.Names.length) : upN l b = 2 ^ l.Names.length - 1 ↔ b = botN l := by
 have h1 := (zaq h k).1 b hb
 unfold ordA at h1
 simp only [Bool.and_eq_true, decide_eq_true_eq] at h1
 constructor
 · intro e
   refine zm4 h k hb fun a ha => ?_
   rw [<- zbe, e, Nat.testBit_two_pow_sub_one]
   simpa using ha
 · rintro rfl
   have h2 := (zcc h k).2
   refine Nat.eq_of_testBit_eq fun i => ?_
   rw [Nat.testBit_two_pow_sub_one]
   rcases Nat.lt_or_ge i l.Names.length with g | g
   · rw [zbe, h2 i g]; simp [g]
   · rw [Nat.testBit_lt_two_pow (Nat.lt_of_lt_of_le h1.1.1 (Nat.pow_le_pow_right (by omega) g))]
     simp; omega
end Go.Sx.O
namespace Go.Sx.O
open Go
theorem ziy (s : List UInt8) (c : Int) : Fz14 s c = some (Go.Lib.indexByte s c.toNat.toUInt8) := by
 unfold Fz14 zU
 rfl
theorem xE (r : Int) (h0 : 0 <= r) (h1 : r < 256) : Fz17 [] r = some false := by
 unfold Fz17
 have key : Tot (Fz16 [] r) fun x => x < 0 := by
  unfold Fz16
  have e0 : decide (0 <= r) = true := by simp [h0]
  simp only [e0, cond_true]
  rw [zu]
  refine ⟨fun _ => ?_, fun h2 => ?_⟩
  · rw [zL, zn, ziy]
    simp only [zg]
    simp [Go.Lib.indexByte]
  · simp only [decide_eq_false_iff_not] at h2
    obtain ⟨x, y, exy, hy⟩ := zn3 (r := r) (by omega) h1
    have e1 : decide (r = 65533) = false := by simp; omega
    simp only [e1, cond_false, exy]
    rw [zn]
    refine (xJ r).mono fun v _ => ?_
    rw [zu]
    refine ⟨fun _ => .mk (by decide), fun _ => ?_⟩
    rw [zL]
    have e2 : IntKind.wrap .i64 (((List.length [x, y] : Nat) : Int) - 1) = 1 := rfl
    rw [e2, zn]
    refine Tot.loop (fun _ => 0) (fun _ => True) (fun _ _ => ?_) trivial
    rw [zu]
    refine ⟨fun h3 => ?_, fun _ => ?_⟩
    · simp only [decide_eq_true_eq, List.length_nil] at h3
      exact absurd h3 (by decide)
    · simp only [zg, Sum.elim_inr, Sum.elim_inl]
      decide
 obtain ⟨x, e, hx⟩ := key
 rw [e]
 have : decide (0 <= x) = false := by simp; omega
 simp [this]
theorem zic (r : Int) (h0 : 0 <= r) (h1 : r < 256) : Fz15 r = some true := by
 unfold Fz15
 have e0 : decide (0 <= r) = true := by simp [h0]
 have e1 : decide (r < 55296) = true := by simp; omega
 simp only [e0, e1, cond_true]
theorem zjg (r : Int) (h0 : 0 <= r) (h1 : r < 256) : Fz32 r = some true := by
 unfold Fz32
 simp only [letO, zhp h0 h1]
 rw [w64 (by omega) (by omega)]
 simp [zic r h0 h1]
def lowB (c : UInt8) : Bool := decide (97 <= c.toNat) && decide (c.toNat <= 122)
def digB (c : UInt8) : Bool := decide (48 <= c.toNat) && decide (c.toNat <= 57)
theorem zjf {cs : List (List UInt8)} (hcs : cs.length = 10) (h : ∀ s ∈ cs, s.length <= 1000 /\ ∀ c ∈ s, c.toNat < 128) (h6 : cs[6]? = some []) (h8 : cs[8]? = some []) (r : Int) (h0 : 0 <= r) (h1 : r < 256) {Q : Unit ⊕ (Int × Int) -> Prop} (hQ : Q (.inl ())) (hQ' : ∀ x, x ≠ 6 -> x ≠ 8 -> Q (.inr (x, 0))) :
 Tot (lpO (fun (s : Int) => cond (decide (s < 10)) (idxO cs s fun x => letO (IntKind.wrap IntKind.i32 r) fun y => Option.bind (Fz17 x y) fun z => cond z (some (Sum.inr (Sum.inr (s, (0 : Int))))) (letO (IntKind.wrap IntKind.i64 (s + 1)) fun u => some (Sum.inl u))) (some (Sum.inr (Sum.inl ())))) 0) Q := by
 refine Tot.count 10 (fun k s => s = (k : Int)) ?_ rfl
 rintro k _ hk rfl
 simp only [zu, zg, zL, zW, zn, Sum.elim_inl, Sum.elim_inr, decide_eq_true_eq, decide_eq_false_iff_not, Int.toNat_natCast]
 refine ⟨fun hlt => ?_, fun _ => hQ⟩
 obtain ⟨x, hx⟩ := zv (l := cs) (i := k) (by omega)
 have hx' := h x (List.mem_of_getElem? hx)
 refine ⟨by omega, x, hx, ?_⟩
 rw [zhp h0 h1]
 have nx : k < 10 /\ IntKind.wrap .i64 ((k : Int) + 1) = ((k + 1 : Nat) : Int) := by
  rw [w64 (by omega) (by omega)]; exact ⟨by omega, by omega⟩
 by_cases g6 : k = 6
 · subst g6
   rw [h6] at hx; cases hx
   rw [xE r h0 h1, zg]
   exact ⟨fun e => (by cases e), fun _ => nx⟩
 by_cases g8 : k = 8
 · subst g8
   rw [h8] at hx; cases hx
   rw [xE r h0 h1, zg]
   exact ⟨fun e => (by cases e), fun _ => nx⟩
 refine (zar x r hx'.2 hx'.1 h0 h1).mono fun _ _ => ⟨fun _ => hQ' _ (by omega) (by omega), fun _ => nx⟩
theorem uJ (c : UInt8) : Tot (Fz34 (IntKind.wrap .i64 (c.toNat : Int))) fun x => (decide (x.1 = 8) = lowB c) /\ (decide (x.1 = 6) = digB c) := by
 have hc := c.toNat_lt
 rw [w64 (by omega) (by omega)]
 have h0 : (0 : Int) <= c.toNat := by omega
 have h1 : (c.toNat : Int) < 256 := by omega
 unfold Fz34 Fz33 lowB digB
 rw [zjg _ h0 h1]
 simp only [Option.bind_some, Bool.not_true, cond_false]
 have L : ¬ (48 <= c.toNat /\ c.toNat <= 57) -> ¬ (97 <= c.toNat /\ c.toNat <= 122) -> _ := fun d1 d2 => zjf (cs := [[], [32], [10], [40, 91], [41, 93], [34], [], [45], [], [60, 61]]) rfl (by decide) rfl rfl c.toNat h0 h1 (Q := fun a => Tot (Sum.elim (fun _ => some ((10 : Int), (0 : Int))) some a) fun (x : Int × Int) => (decide (x.1 = 8) = (decide (97 <= c.toNat) && decide (c.toNat <= 122))) /\ (decide (x.1 = 6) = (decide (48 <= c.toNat) && decide (c.toNat <= 57))))
  (.mk (by
    have a1 : (decide (97 <= c.toNat) && decide (c.toNat <= 122)) = false := by simp; omega
    have a2 : (decide (48 <= c.toNat) && decide (c.toNat <= 57)) = false := by simp; omega
    rw [a1, a2]; exact ⟨rfl, rfl⟩)) (fun x e6 e8 => .mk (by
    have a1 : (decide (97 <= c.toNat) && decide (c.toNat <= 122)) = false := by simp; omega
    have a2 : (decide (48 <= c.toNat) && decide (c.toNat <= 57)) = false := by simp; omega
    rw [a1, a2]; simp [e6, e8]))
 simp only [zu, zg, zn, decide_eq_true_eq, decide_eq_false_iff_not]
 have six : 48 <= c.toNat -> c.toNat <= 57 -> decide ((6 : Int) = 8) = (decide (97 <= c.toNat) && decide (c.toNat <= 122)) /\ decide ((6 : Int) = 6) = (decide (48 <= c.toNat) && decide (c.toNat <= 57)) := by
  intro d1 d2
  have a1 : (decide (97 <= c.toNat) && decide (c.toNat <= 122)) = false := by simp; omega
  have a2 : (decide (48 <= c.toNat) && decide (c.toNat <= 57)) = true := by simp; omega
  rw [a1, a2]; exact ⟨rfl, rfl⟩
 have eight : 97 <= c.toNat -> c.toNat <= 122 -> decide ((8 : Int) = 8) = (decide (97 <= c.toNat) && decide (c.toNat <= 122)) /\ decide ((8 : Int) = 6) = (decide (48 <= c.toNat) && decide (c.toNat <= 57)) := by
  intro d1 d2
  have a1 : (decide (97 <= c.toNat) && decide (c.toNat <= 122)) = true := by simp; omega
  have a2 : (decide (48 <= c.toNat) && decide (c.toNat <= 57)) = false := by simp; omega
  rw [a1, a2]; exact ⟨rfl, rfl⟩
 refine ⟨fun d1 => ⟨fun d2 => six (by omega) (by omega), fun d2 => ⟨fun d3 => ⟨fun d4 => eight (by omega) (by omega), fun d4 => L (by omega) (by omega)⟩, fun d3 => L (by omega) (by omega)⟩⟩, fun d1 => ⟨fun d3 => ⟨fun d4 => eight (by omega) (by omega), fun d4 => L (by omega) (by omega)⟩, fun d3 => L (by omega) (by omega)⟩⟩
def wn (s : List UInt8) : Bool := (match s with | [] => false | c :: _ => lowB c) && s.all fun c => lowB c || digB c
theorem zcq {s : List UInt8} {p : UInt8 -> Bool} {k : Nat} {c : UInt8} (h : (s.take k).all p = true) (hc : s[k]? = some c) (hp : p c = true) : (s.take (k + 1)).all p = true := by
 rw [List.take_add_one, hc, List.all_append, h]
 simp [hp]
theorem zec (s : List UInt8) (h : s.length <= 1000000) : Tot (Fz37 (TK.mk 1 0 0 0 s)) fun x => decide (x = 0) = (wn s && decide (s.length <= 16)) := by
 unfold Fz37
 dsimp only
 have e2 : decide ((1 : Int) < 1) = false := rfl
 have e3 : decide ((9 : Int) < 1) = false := rfl
 simp only [e2, e3, decide_true, cond_true, cond_false, Option.bind_some, Sum.elim_inl, Bool.and_self, Bool.not_true]
 rw [zn]
 have Qn : ∀ x : Int, wn s = false -> Tot (Sum.elim (fun (n : Int) => cond (decide (n < (s.length : Int))) (some (3 : Int)) (some (0 : Int))) some (Sum.inr 6 : Int ⊕ Int)) fun x => decide (x = 0) = (wn s && decide (s.length <= 16)) := by
  intro _ e
  rw [e]; exact .mk rfl
 have Qy : wn s = true -> Tot (Sum.elim (fun (n : Int) => cond (decide (n < (s.length : Int))) (some (3 : Int)) (some (0 : Int))) some (Sum.inl 16 : Int ⊕ Int)) fun x => decide (x = 0) = (wn s && decide (s.length <= 16)) := by
  intro e
  rw [e]
  simp only [Sum.elim_inl, zu, zg, decide_eq_true_eq, decide_eq_false_iff_not]
  refine ⟨fun g => ?_, fun g => ?_⟩
  · have : decide (s.length <= 16) = false := by simp; omega
    rw [this]; rfl
  · have : decide (s.length <= 16) = true := by simp; omega
    rw [this]; rfl
 rw [zu]
 refine ⟨fun h1 => ?_, fun h1 => ?_⟩
 · simp only [zg]
   refine Qn 0 ?_
   have : s = [] := List.length_eq_zero_iff.1 (by simpa using h1)
   rw [this]; rfl
 simp only [decide_eq_false_iff_not] at h1
 obtain ⟨c, hc⟩ := zv (l := s) (i := 0) (by omega)
 have hs0 : ∃ r, s = c :: r := by
  cases s with
  | nil => simp at hc
  | cons a r => simp at hc; exact ⟨r, by rw [hc]⟩
 have e0 : (0 : Int).toNat = 0 := rfl
 simp only [zW, zL, zn, e0]
 refine ⟨by omega, c, hc, (uJ c).mono fun x hx => ?_⟩
 rw [zu]
 refine ⟨fun g => ?_, fun g => ?_⟩
 · simp only [zg]
   refine Qn 0 ?_
   obtain ⟨r, rfl⟩ := hs0
   have : lowB c = false := by rw [<- hx.1]; simpa using g
   unfold wn; simp [this]
 have hlow : lowB c = true := by rw [<- hx.1]; simpa using g
 simp only [zW, zL, zn, e0]
 refine ⟨by omega, c, hc, (uJ c).mono fun y hy => ?_⟩
 refine Tot.loop (fun (p : Int × Int) => s.length - p.2.toNat) (fun (p : Int × Int) => 0 <= p.2 /\ p.2 <= (s.length : Int) /\ (s.take p.2.toNat).all (fun c => lowB c || digB c) = true /\ ((p.2 = (s.length : Int) /\ p.1 = 10) \/ ∃ d, s[p.2.toNat]? = some d /\ decide (p.1 = 8) = lowB d /\ decide (p.1 = 6) = digB d)) ?_ ⟨by simp, by simp, by simp, .inr ⟨c, by simpa using hc, hy⟩⟩
 rintro ⟨k, a⟩ ⟨h2, h3, hall, h4⟩
 simp only at h2 h3 hall h4
 have round : (k = 8 \/ k = 6) -> ∀ {Q : (Bool × Int × Int) ⊕ (Int ⊕ Int) -> Prop}, Tot (letO (IntKind.wrap .i64 (a + 1)) fun (u : Int) => cond (decide ((s.length : Int) <= u)) (some (Sum.inl ((10 : Int), u))) (idxO s u fun (v : UInt8) => letO (IntKind.wrap .i64 (v.toNat : Int)) fun (z : Int) => Option.bind (Fz34 z) fun r => some (Sum.inl (r.1, u)))) (Sum.elim (fun (s' : Int × Int) => (0 <= s'.2 /\ s'.2 <= (s.length : Int) /\ (s.take s'.2.toNat).all (fun c => lowB c || digB c) = true /\ ((s'.2 = (s.length : Int) /\ s'.1 = 10) \/ ∃ d, s[s'.2.toNat]? = some d /\ decide (s'.1 = 8) = lowB d /\ decide (s'.1 = 6) = digB d)) /\ s.length - s'.2.toNat < s.length - a.toNat) Q) := by
  intro hk Q
  rcases h4 with ⟨g1, g2⟩ | ⟨d, hd, d1, d2⟩
  · omega
  have hlt : a.toNat < s.length := by
   rcases Nat.lt_or_ge a.toNat s.length with g | g
   · exact g
   · rw [List.getElem?_eq_none g] at hd; cases hd
  have hp : (lowB d || digB d) = true := by
   rw [<- d1, <- d2]
   rcases hk with rfl | rfl <;> rfl
  have e1 : (a + 1).toNat = a.toNat + 1 := by omega
  have hall' : (s.take (a + 1).toNat).all (fun c => lowB c || digB c) = true := by rw [e1]; exact zcq hall hd hp
  rw [zL, w64 (by omega) (by omega), zu]
  refine ⟨fun g => ?_, fun g => ?_⟩
  · simp only [decide_eq_true_eq] at g
    simp only [zg, Sum.elim_inl]
    exact ⟨⟨by omega, by omega, hall', .inl ⟨by omega, trivial⟩⟩, by omega⟩
  · simp only [decide_eq_false_iff_not] at g
    obtain ⟨d', hd'⟩ := zv (l := s) (i := (a + 1).toNat) (by omega)
    simp only [zW, zL, zn]
    refine ⟨by omega, d', hd', (uJ d').mono fun z hz => ?_⟩
    simp only [zg, Sum.elim_inl]
    exact ⟨⟨by omega, by omega, hall', .inr ⟨d', hd', hz⟩⟩, by omega⟩
 rw [zu]
 refine ⟨fun g => round (.inl (by simpa using g)), fun g => ?_⟩
 rw [zu]
 refine ⟨fun g' => round (.inr (by simpa using g')), fun g' => ?_⟩
 simp only [zg, Sum.elim_inr, Sum.elim_inl, qi, zu, e0, List.drop_zero]
 refine ⟨by omega, fun hne => ?_, fun heq => ?_⟩
 · refine (zg (Q := fun x => decide (x = 0) = (wn s && decide (s.length <= 16)))).1 (Qn 0 ?_)
   rcases h4 with ⟨g1, _⟩ | ⟨d, hd, d1, d2⟩
   · exfalso
     have : a.toNat = s.length := by omega
     rw [this, List.take_length] at hne
     simp at hne
   · unfold wn
     have : (s.all fun c => lowB c || digB c) = false := by
      rw [List.all_eq_false]
      refine ⟨d, List.mem_of_getElem? hd, ?_⟩
      rw [<- d1, <- d2, g, g']
      simp
     rw [this, Bool.and_false]
 · have ht : s.take a.toNat = s := by simpa using heq
   rw [ht] at hall
   have hw : wn s = true := by
    unfold wn
    obtain ⟨r, rfl⟩ := hs0
    simp only [hall, hlow, Bool.and_self]
   rw [hw]
   refine ⟨fun g => ?_, fun g => ?_⟩
   · have : decide (s.length <= 16) = false := by simp at g ⊢; omega
     rw [this]; rfl
   · have : decide (s.length <= 16) = true := by simp at g ⊢; omega
     rw [this]; rfl
end Go.Sx.O
namespace Go.Sx.O
open Go
theorem zjb (c : UInt8) : Fz83 (c.toNat : Int) = some (lowB c) := by
 unfold Fz83 lowB
 by_cases h : 97 <= c.toNat
 · have : decide ((97 : Int) <= (c.toNat : Int)) = true := by simp; omega
   rw [this]
   simp only [cond_true, h, decide_true, Bool.true_and, Option.some.injEq]
   rw [Bool.eq_iff_iff]; simp; omega
 · have : decide ((97 : Int) <= (c.toNat : Int)) = false := by simp; omega
   rw [this]
   simp [h]
theorem zqf (c : UInt8) : Fz84 (c.toNat : Int) = some (digB c) := by
 unfold Fz84 digB
 by_cases h : 48 <= c.toNat
 · have : decide ((48 : Int) <= (c.toNat : Int)) = true := by simp; omega
   rw [this]
   simp only [cond_true, h, decide_true, Bool.true_and, Option.some.injEq]
   rw [Bool.eq_iff_iff]; simp; omega
 · have : decide ((48 : Int) <= (c.toNat : Int)) = false := by simp; omega
   rw [this]
   simp [h]
theorem zqx (s : List UInt8) (h : s.length <= 1000000) : Fz85 s = some (wn s) := by
 unfold Fz85
 cases s with
 | nil => rfl
 | cons c r =>
   have e1 : decide (c :: r = (ByteArray.mk #[]).data.toList) = false := by
    exact decide_eq_false (fun e => by cases (show c :: r = [] from e))
   rw [e1]
   apply Tot.eq
   have e0 : (0 : Int).toNat = 0 := rfl
   simp only [cond_false, zW, e0, zn]
   refine ⟨by omega, c, rfl, ?_⟩
   rw [zjb, zg, zu]
   refine ⟨fun g => ?_, fun g => ?_⟩
   · have : lowB c = false := by simpa using g
     simp [zg, wn, this]
   have hl : lowB c = true := by simpa using g
   rw [zn]
   refine Tot.count (c :: r).length (fun k s => s = (k : Int) /\ ((c :: r).take k).all (fun c => lowB c || digB c) = true) ?_ ⟨rfl, by simp⟩
   rintro k _ hk ⟨rfl, hall⟩
   simp only [zu, zg, zL, zW, zn, Sum.elim_inl, Sum.elim_inr, decide_eq_true_eq, decide_eq_false_iff_not, Int.toNat_natCast]
   refine ⟨fun hlt => ?_, fun hge => ?_⟩
   · obtain ⟨d, hd⟩ := zv (l := c :: r) (i := k) (by omega)
     refine ⟨by omega, d, hd, ?_⟩
     rw [zjb, zg]
     have nx : k < (c :: r).length /\ IntKind.wrap .i64 ((k : Int) + 1) = ((k + 1 : Nat) : Int) := by
      rw [w64 (by omega) (by omega)]; exact ⟨by omega, by omega⟩
     refine ⟨fun g1 => ⟨by omega, d, hd, ?_⟩, fun g1 => ⟨nx.1, nx.2, zcq hall hd (by simp at g1; simp [g1])⟩⟩
     rw [zqf, zg]
     refine ⟨fun g2 => ?_, fun g2 => ⟨nx.1, nx.2, zcq hall hd (by simp at g2; simp [g2])⟩⟩
     have : ((c :: r).all fun c => lowB c || digB c) = false := by
      rw [List.all_eq_false]
      refine ⟨d, List.mem_of_getElem? hd, ?_⟩
      simp at g1 g2
      simp [g1, g2]
     unfold wn
     rw [this, Bool.and_false]
   · rw [List.take_of_length_le (by omega)] at hall
     unfold wn
     rw [hall]
     show true = (lowB c && true)
     rw [hl]; rfl
theorem zso (s : List UInt8) (h : s.length <= 1000000) : Tot (Fz87 (TK.mk 1 0 0 0 s)) fun x => decide (x = 0) = (wn s && decide (s.length <= 16)) := by
 unfold Fz87
 dsimp only
 have e2 : decide ((1 : Int) < 1) = false := rfl
 have e3 : decide ((9 : Int) < 1) = false := rfl
 have e4 : decide ((1 : Int) = 2) = false := rfl
 simp only [e2, e3, e4, decide_true, cond_true, cond_false, Bool.not_true, Bool.not_false, zqx s h, Option.bind_some, zu, zg]
 refine ⟨fun g => ?_, fun g => ?_⟩
 · have : wn s = false := by simpa using g
   rw [this]; rfl
 · have : wn s = true := by simpa using g
   rw [this]
   refine ⟨fun g => ?_, fun g => ?_⟩
   · have : decide (s.length <= 16) = false := by simp at g ⊢; omega
     rw [this]; rfl
   · have : decide (s.length <= 16) = true := by simp at g ⊢; omega
     rw [this]; rfl
def primN : List (List UInt8) := [[110, 101, 103], [97, 98, 115], [110, 111, 116], [115, 104, 97, 112, 101], [114, 97, 118, 101, 108], [114, 101, 118, 101, 114, 115, 101], [102, 108, 105, 112], [105, 111, 116, 97], [115, 117, 109], [108, 101, 97, 115, 116], [109, 111, 115, 116], [99, 111, 117, 110, 116], [115, 99, 97, 110], [103, 114, 97, 100, 101], [97, 100, 100], [115, 117, 98], [109, 117, 108], [100, 105, 118], [109, 111, 100], [112, 108, 117, 115], [109, 105, 110, 117, 115], [116, 105, 109, 101, 115], [101, 113], [110, 101], [108, 116], [108, 101], [103, 116], [103, 101], [97, 110, 100], [111, 114], [109, 105, 110], [109, 97, 120], [116, 97, 107, 101], [100, 114, 111, 112], [102, 105, 108, 108], [103, 114, 105, 100], [99, 97, 116], [97, 116], [105, 110], [112, 105, 99, 107]]
theorem zd8 (s : List UInt8) : Tot (Fz31 s) fun x => decide (x.2 = 0) = decide (s ∈ primN) := by
 by_cases hm : s ∈ primN
 · have h2 : ∀ t ∈ primN, ∃ x, Fz31 t = some x /\ decide (x.2 = 0) = true := by
    unfold primN
    simp only [List.forall_mem_cons]
    repeat' constructor
    intro t ht; cases ht
   obtain ⟨x, e, hx⟩ := h2 s hm
   exact ⟨x, e, by show decide (x.2 = 0) = _; rw [hx]; simp [hm]⟩
 · have hd : decide (s ∈ primN) = false := by simp [hm]
   rw [hd]
   unfold Fz31
   unfold primN at hm
   simp only [List.mem_cons, List.not_mem_nil, or_false, not_or] at hm
   have sw : ∀ n : List UInt8, (n = s) = (s = n) := fun n => propext eq_comm
   simp only [sw, hm, decide_false, cond_false, Option.bind_some, Sum.elim_inl, zg]
   rfl
theorem zgl (s : List UInt8) : Tot (Fz82 s) fun x => decide (x.2 = 0) = decide (s ∈ primN) := by
 unfold Fz82 Fz81
 simp only [Option.bind_some]
 change Tot (Option.bind (lpO (fun (k : Int) => cond (decide (k < ((List.length (List.map SV.str primN) : Nat) : Int))) (idxO primN k _) _) 0) _) _
 rw [zn]
 have hn : (List.map SV.str primN).length = 40 := rfl
 have hn' : primN.length = 40 := rfl
 rw [hn]
 refine Tot.count 40 (fun k x => x = (k : Int) /\ s ∉ primN.take k) ?_ ⟨rfl, by simp⟩
 rintro k _ hk ⟨rfl, hmem⟩
 simp only [zu, zg, zL, zW, zn, Sum.elim_inl, Sum.elim_inr, decide_eq_true_eq, decide_eq_false_iff_not, Int.toNat_natCast]
 refine ⟨fun hlt => ?_, fun hge => ?_⟩
 · obtain ⟨x, hx⟩ := zv (l := primN) (i := k) (by omega)
   refine ⟨by omega, x, hx, fun g => ?_, fun g => ?_⟩
   · subst g
     have := List.mem_of_getElem? hx
     simp [this]
   · rw [w64 (by omega) (by omega), List.take_add_one, hx]
     refine ⟨by omega, by omega, fun hm => ?_⟩
     rcases List.mem_append.1 hm with hm | hm
     · exact hmem hm
     · simp at hm; exact g hm.symm
 · rw [List.take_of_length_le (by omega)] at hmem
   simp [hmem]
def resN : List (List UInt8) := [[118, 97, 114], [100, 101, 102], [111, 117, 116], [105, 102], [101, 108, 115, 101], [119, 104, 105, 108, 101], [101, 110, 100], [114, 101, 108, 101, 97, 115, 101], [105, 110, 116], [99, 104, 97, 114]]
def exN (s : List UInt8) : Bool := !decide (s ∈ resN) && !decide (s ∈ primN) && (wn s && decide (s.length <= 16))
theorem ua (s : List UInt8) (h : s.length <= 1000000) : Fz38 s = some (exN s) := by
 apply Tot.eq
 unfold exN
 by_cases hm : s ∈ resN
 · have h2 : ∀ t ∈ resN, Fz38 t = some false := by
    unfold resN
    simp only [List.forall_mem_cons]
    repeat' constructor
    intro t ht; cases ht
   rw [h2 s hm, zg]
   simp [hm]
 · have hd : decide (s ∈ resN) = false := by simp [hm]
   rw [hd]
   unfold Fz38
   unfold resN at hm
   simp only [List.mem_cons, List.not_mem_nil, or_false, not_or] at hm
   change Tot (cond (decide (s = [118, 97, 114])) _ (cond (decide (s = [100, 101, 102])) _ (cond (decide (s = [111, 117, 116])) _ (cond (decide (s = [105, 102])) _ (cond (decide (s = [101, 108, 115, 101])) _ (cond (decide (s = [119, 104, 105, 108, 101])) _ (cond (decide (s = [101, 110, 100])) _ (cond (decide (s = [114, 101, 108, 101, 97, 115, 101])) _ (cond (decide (s = [105, 110, 116])) _ (cond (decide (s = [99, 104, 97, 114])) _ _)))))))))) _
   simp only [hm, decide_false, cond_false, zn]
   refine (zd8 s).mono fun x hx => ?_
   rw [hx, zu]
   refine ⟨fun g => ?_, fun g => ?_⟩
   · rw [g]; exact .mk rfl
   · rw [g, zn]
     refine (zec s h).mono fun y hy => .mk ?_
     rw [hy]; rfl
theorem zgn (s : List UInt8) : Fz88 s = some (decide (s ∈ resN)) := by
 unfold Fz88
 apply Tot.eq
 change Tot (Option.bind (lpO (fun (k : Int) => cond (decide (k < ((10 : Nat) : Int))) (zf (0 <= k /\ k < ((10 : Nat) : Int)) (idxO resN ((k.toNat : Nat) : Int) _)) _) 0) _) _
 rw [zn]
 have hn' : resN.length = 10 := rfl
 refine Tot.count 10 (fun k x => x = (k : Int) /\ s ∉ resN.take k) ?_ ⟨rfl, by simp⟩
 rintro k _ hk ⟨rfl, hmem⟩
 simp only [zu, zg, zL, zW, qi, zn, Sum.elim_inl, Sum.elim_inr, decide_eq_true_eq, decide_eq_false_iff_not, Int.toNat_natCast]
 refine ⟨fun hlt => ?_, fun hge => ?_⟩
 · obtain ⟨x, hx⟩ := zv (l := resN) (i := k) (by omega)
   refine ⟨⟨by omega, by omega⟩, by omega, x, hx, fun g => ?_, fun g => ?_⟩
   · subst g
     have := List.mem_of_getElem? hx
     simp [this]
   · rw [w64 (by omega) (by omega), List.take_add_one, hx]
     refine ⟨by omega, by omega, fun hm => ?_⟩
     rcases List.mem_append.1 hm with hm | hm
     · exact hmem hm
     · simp at hm; exact g hm.symm
 · rw [List.take_of_length_le (by omega)] at hmem
   simp [hmem]
theorem zdy (s : List UInt8) (h : s.length <= 1000000) : Fz89 s = some (exN s) := by
 unfold Fz89 exN
 apply Tot.eq
 rw [zn]
 refine (zgl s).mono fun x hx => ?_
 rw [zn]
 refine (zso s h).mono fun y hy => ?_
 rw [hx, hy, zgn]
 cases wn s && decide (s.length <= 16) <;> cases decide (s ∈ primN) <;> cases decide (s ∈ resN) <;> exact .mk rfl
end Go.Sx.O
namespace Go.Sx.O
open Go
def qS (r : Int) (l : Int × Int) : Int := if r = 2 then l.1 * l.2 else if r = 1 then l.1 else 1
def shC (r : Int) (l : Int × Int) : Int :=
 if r = 0 then (if l.1 = 0 then (if l.2 = 0 then 0 else 6) else 6)
 else if r = 1 then (if l.1 < 0 then 7 else if l.2 = 0 then (if 400 < l.1 then 15 else 0) else 6)
 else if r = 2 then (if l.1 < 0 then 7 else if l.2 < 0 then 7 else if 400 < l.1 then 15 else if 400 < l.2 then 15 else if 400 < l.1 * l.2 then 15 else 0)
 else 7
theorem zik {a b : Int} (h0 : 0 <= a) (h1 : a <= 400) (h2 : 0 <= b) (h3 : b <= 400) : 0 <= a * b /\ a * b <= 160000 :=
 ⟨Int.mul_nonneg h0 h2, by have := Int.mul_le_mul h1 h3 h2 (by omega : (0 : Int) <= 400); omega⟩
theorem wone : IntKind.wrap .i64 1 = 1 := by decide
theorem wtwo : IntKind.wrap .i64 2 = 2 := by decide
theorem m1 : max (1 : Int) 0 = 1 := by decide
theorem zal (r : Int) (l : Int × Int) (h : shC r l = 0) : Fz63 r l = some (qS r l) := by
 unfold Fz63 qS
 unfold shC at h
 by_cases h2 : r = 2
 · subst h2
   simp only [decide_true, cond_true, letO, if_true]
   simp (config := { decide := true }) only [if_false, if_true] at h
   split at h
   · cases h
   split at h
   · cases h
   split at h
   · cases h
   split at h
   · cases h
   have hm := zik (a := l.1) (b := l.2) (by omega) (by omega) (by omega) (by omega)
   rw [w64 (e := 1 * l.2) (by omega) (by omega), Int.one_mul, Int.mul_comm l.2 l.1, w64 (by omega) (by omega)]
 by_cases h1 : r = 1
 · subst h1
   simp (config := { decide := true }) only [if_false, if_true] at h ⊢
   split at h
   · cases h
   split at h
   case isFalse => cases h
   split at h
   · cases h
   simp only [decide_true, cond_true, decide_false, cond_false, letO]
   rw [w64 (e := 1 * l.1) (by omega) (by omega), Int.one_mul]
 · simp [h1, h2]
theorem zbq (r : Int) (l : Int × Int) : Fz64 r l = some (shC r l) := by
 unfold Fz64
 by_cases hr : r < 0
 · have : shC r l = 7 := by unfold shC; rw [if_neg (by omega), if_neg (by omega), if_neg (by omega)]
   simp [hr, this]
 by_cases hr2 : 2 < r
 · have : shC r l = 7 := by unfold shC; rw [if_neg (by omega), if_neg (by omega), if_neg (by omega)]
   simp [hr, hr2, this]
 have e1 : decide (r < 0) = false := by simp; omega
 have e2 : decide (2 < r) = false := by simp; omega
 simp only [e1, e2, cond_false]
 rw [wF ⟨by omega, by omega⟩, wF ⟨by omega, by omega⟩]
 rw [zgq _ (by simp; omega), zgx _ (by simp; omega), zgk _ (by simp; omega)]
 obtain ⟨a, b⟩ := l
 have hp := zal r (a, b)
 rcases (by omega : r = 0 \/ r = 1 \/ r = 2) with rfl | rfl | rfl
 · by_cases ha : a = 0 <;> by_cases hb : b = 0 <;> simp [shC, ha, hb, Fz63]
 · by_cases ha : a < 0
   · simp [shC, ha]
   by_cases hb : b = 0
   case neg => simp [shC, ha, hb]
   by_cases h4 : 400 < a
   · simp [shC, ha, hb, h4]
   have hs : shC 1 (a, b) = 0 := by simp [shC, ha, hb, h4]
   have hp' := hp hs
   rw [hb] at hp' hs
   simp [hp', hs, ha, hb, h4, qS]
 · by_cases ha : a < 0
   · simp [shC, ha]
   by_cases hb : b < 0
   · simp [shC, ha, hb]
   by_cases h4 : 400 < a
   · simp [shC, ha, hb, h4]
   by_cases h5 : 400 < b
   · simp [shC, ha, hb, h4, h5]
   have hm := zik (a := a) (b := b) (by omega) (by omega) (by omega) (by omega)
   have hq : Fz63 2 (a, b) = some (a * b) := by
    unfold Fz63
    simp only [decide_true, cond_true, letO]
    rw [w64 (e := 1 * b) (by omega) (by omega), Int.one_mul, Int.mul_comm b a, w64 (by omega) (by omega)]
   by_cases h6 : 400 < a * b
   · simp [shC, ha, hb, h4, h5, h6, hq]
   · simp [shC, ha, hb, h4, h5, h6, hq]
theorem jR (r : Int) (l : Int × Int) : Fz65 r l = some (if shC r l = 0 then qS r l else 0, shC r l) := by
 unfold Fz65
 rw [zbq, Option.bind_some]
 by_cases h : shC r l = 0
 · simp [h, zal r l h]
 · simp [h]
theorem zfl (r : Int) (l : Int × Int) (h : shC r l = 0 \/ (r = 2 /\ 0 <= l.1 /\ l.1 <= 400 /\ 0 <= l.2 /\ l.2 <= 400)) : Fz99 r l = some (qS r l) := by
 unfold Fz99
 obtain ⟨a, b⟩ := l
 by_cases h2 : r = 2
 · subst h2
   have hb : 0 <= a /\ a <= 400 /\ 0 <= b /\ b <= 400 := by
    rcases h with h | ⟨_, h⟩
    · unfold shC at h
      simp (config := { decide := true }) only [if_false, if_true] at h
      split at h
      · cases h
      split at h
      · cases h
      split at h
      · cases h
      split at h
      · cases h
      omega
    · exact h
   have hm := zik (a := a) (b := b) hb.1 hb.2.1 hb.2.2.1 hb.2.2.2
   have w1 : IntKind.wrap .i64 a = a := w64 (by omega) (by omega)
   have w2 : IntKind.wrap .i64 (a * b) = a * b := w64 (by omega) (by omega)
   rw [qg]
   simp [zf, idxO, letO, m1, wone, w1]
   rw [qg]
   simp [zf, idxO, letO, m1, wtwo, w2]
   rw [qg]
   simp [qS]
 by_cases h1 : r = 1
 · subst h1
   have hb : 0 <= a /\ a <= 400 := by
    rcases h with h | ⟨h, _⟩
    · unfold shC at h
      simp (config := { decide := true }) only [if_false, if_true] at h
      split at h
      · cases h
      split at h
      case isFalse => cases h
      split at h
      · cases h
      omega
    · cases h
   have w1 : IntKind.wrap .i64 a = a := w64 (by omega) (by omega)
   rw [qg]
   simp [zf, idxO, letO, m1, wone, w1]
   rw [qg]
   simp [qS]
 · have h0 : r <= 0 := by
    rcases h with h | ⟨h, _⟩
    · unfold shC at h
      rw [if_neg h1, if_neg h2] at h
      split at h
      · omega
      · cases h
    · exact absurd h h2
   have : ¬ 0 < r := by omega
   rw [qg]
   simp [qS, h1, h2, this]
theorem zcz (r : Int) (l : Int × Int) : zdx r l = some (shC r l) := by
 unfold zdx
 by_cases hr : r < 0
 · have : shC r l = 7 := by unfold shC; rw [if_neg (by omega), if_neg (by omega), if_neg (by omega)]
   simp [hr, this]
 by_cases hr2 : 2 < r
 · have : shC r l = 7 := by unfold shC; rw [if_neg (by omega), if_neg (by omega), if_neg (by omega)]
   simp [hr, hr2, this]
 have e1 : decide (r < 0) = false := by simp; omega
 have e2 : decide (2 < r) = false := by simp; omega
 simp only [e1, e2, cond_false]
 obtain ⟨a, b⟩ := l
 have hp := zfl r (a, b)
 rcases (by omega : r = 0 \/ r = 1 \/ r = 2) with rfl | rfl | rfl
 · rw [qg]
   simp only [decide_false, Int.lt_irrefl, cond_false, Option.bind_some, Sum.elim_inr, Sum.elim_inl]
   rw [qg]
   by_cases ha : a = 0
   case neg => simp [zf, idxO, letO, m1, shC, ha]
   simp [zf, idxO, letO, m1, ha, wone]
   rw [qg]
   by_cases hb : b = 0
   case neg => simp [zf, idxO, letO, m1, shC, ha, hb]
   have hs : shC 0 (a, b) = 0 := by simp [shC, ha, hb]
   have hp' := hp (.inl hs)
   rw [ha, hb] at hp' hs
   simp [zf, idxO, letO, m1, hb, wtwo]
   rw [qg]
   simp [hp', hs, qS]
 · rw [qg]
   by_cases ha : a < 0
   · simp [zf, idxO, letO, m1, shC, ha]
   simp [zf, idxO, letO, m1, ha, wone]
   rw [qg]
   simp
   rw [qg]
   by_cases hb : b = 0
   case neg => simp [zf, idxO, letO, m1, shC, ha, hb]
   simp [zf, idxO, letO, m1, hb, wtwo]
   rw [qg]
   by_cases h4 : 400 < a
   · simp [shC, ha, h4]
   have hs : shC 1 (a, b) = 0 := by simp [shC, ha, hb, h4]
   have hp' := hp (.inl hs)
   rw [hb] at hp' hs
   simp [hp', hs, qS, h4]
 · rw [qg]
   by_cases ha : a < 0
   · simp [zf, idxO, letO, m1, shC, ha]
   simp [zf, idxO, letO, m1, ha, wone]
   rw [qg]
   by_cases hb : b < 0
   · simp [zf, idxO, letO, m1, shC, ha, hb]
   simp [zf, idxO, letO, m1, hb, wtwo]
   rw [qg]
   simp
   rw [qg]
   by_cases h4 : 400 < a
   · simp [shC, ha, hb, h4]
   by_cases h5 : 400 < b
   · simp [shC, ha, hb, h4, h5]
   have hp' := hp (.inr ⟨rfl, by simp; omega, by simp; omega, by simp; omega, by simp; omega⟩)
   by_cases h6 : 400 < a * b
   · simp [shC, ha, hb, h4, h5, h6, hp', qS]
   · simp [shC, ha, hb, h4, h5, h6, hp', qS]
theorem xB (r : Int) (l : Int × Int) : zbf r l = some (if shC r l = 0 then qS r l else 0, shC r l) := by
 unfold zbf
 rw [zcz, Option.bind_some]
 by_cases h : shC r l = 0
 · simp [h, zfl r l (.inl h)]
 · simp [h]
end Go.Sx.O
namespace Go.Sx.O
open Go
def qU (c : Int) : Bool := decide (0 <= c) && decide (c <= 1114111) && (decide (c < 55296) || decide (57343 < c))
def arrC (a : TA) : Int :=
 if a.Kind = 1 \/ a.Kind = 2 then
  if shC a.Rank a.Lens = 0 then
   if (a.Cells.length : Int) = qS a.Rank a.Lens then
    if a.Kind = 2 /\ (a.Cells.any fun c => !qU c) = true then 7 else 0
   else 6
  else shC a.Rank a.Lens
 else 2
theorem znp {r : Int} (h0 : 0 <= r) (h1 : r <= 1114111) : IntKind.wrap .i32 r = r := by
 simp only [IntKind.wrap, IntKind.signed, IntKind.bits]
 have h3 : (2 : Int) ^ 32 = 4294967296 := by decide
 have h4 : (2 : Int) ^ (32 - 1) = 2147483648 := by decide
 simp only [h3, h4, Bool.true_and, decide_eq_true_eq, ge_iff_le]
 split <;> omega
theorem ze3 (c : Int) : Fz15 c = some (qU c) := by
 unfold Fz15 qU
 by_cases h0 : 0 <= c <;> by_cases h1 : c < 55296 <;> by_cases h2 : 57343 < c <;> by_cases h3 : c <= 1114111 <;> simp [h0, h1, h2, h3] <;> omega
theorem zlu (k c : Int) : Fz66 k c = some (decide (k = 1) || qU c) := by
 unfold Fz66
 by_cases hk : k = 1
 · simp [hk]
 by_cases h0 : 0 <= c
 case neg => simp [hk, h0, qU]
 by_cases h1 : c <= 1114111
 case neg => simp [hk, h0, h1, qU]
 simp only [hk, h0, h1, decide_true, decide_false, cond_true, cond_false, letO, znp h0 h1, ze3, Option.bind_some, Bool.false_or]
theorem zji (c : Int) : uR c = some (qU c) := by
 unfold uR qU
 by_cases h0 : 0 <= c <;> by_cases h1 : c < 55296 <;> by_cases h2 : 57343 < c <;> by_cases h3 : c <= 1114111 <;> simp [h0, h1, h2, h3]
theorem za5 (l : List Int) (a : TA) (h : l.length <= 1000000000) : Fz69 l a = some (l.any fun c => !(decide (a.Kind = 1) || qU c)) := by
 unfold Fz69 Fz68
 refine uy (l := l) (fun c => !(decide (a.Kind = 1) || qU c)) (e := ()) rfl (fun k x hx hlt => ?_) (by simp)
 simp only [List.length_map, Int.ofNat_lt, hlt, decide_true, cond_true, idxO, Int.toNat_natCast, hx, Option.bind_some, letO, Int.natCast_nonneg, if_true, Fz67, zlu]
 rw [w64 (by omega) (by omega)]
 cases decide (a.Kind = 1) || qU x <;> rfl
theorem zbt (a : TA) (h : a.Cells.length <= 1000000000) : Fz70 a = some (arrC a) := by
 unfold Fz70 arrC
 rw [jR, za5 _ _ h]
 simp only [Option.bind_some, List.length_map]
 have key : cond (!decide (shC a.Rank a.Lens = 0)) (some (shC a.Rank a.Lens)) (cond (!decide ((a.Cells.length : Int) = if shC a.Rank a.Lens = 0 then qS a.Rank a.Lens else 0)) (some 6) (cond (a.Cells.any fun c => !(decide (a.Kind = 1) || qU c)) (some 7) (some (0 : Int)))) = some (if shC a.Rank a.Lens = 0 then if (a.Cells.length : Int) = qS a.Rank a.Lens then if (a.Cells.any fun c => !(decide (a.Kind = 1) || qU c)) = true then 7 else 0 else 6 else shC a.Rank a.Lens) := by
  by_cases h1 : shC a.Rank a.Lens = 0
  case neg => simp [h1]
  by_cases h2 : (a.Cells.length : Int) = qS a.Rank a.Lens
  case neg => simp [h1, h2]
  simp only [h1, h2, if_true, decide_true, Bool.not_true, cond_false]
  cases (a.Cells.any fun c => !(decide (a.Kind = 1) || qU c)) <;> rfl
 rw [key]
 by_cases k1 : a.Kind = 1
 · have : (a.Cells.any fun c => !(decide (a.Kind = 1) || qU c)) = false := by
    rw [List.any_eq_false]; intro c _; simp [k1]
   rw [this]
   simp [k1]
 by_cases k2 : a.Kind = 2
 · have : (a.Cells.any fun c => !(decide (a.Kind = 1) || qU c)) = a.Cells.any fun c => !qU c := by
    congr 1; funext c; simp [k1]
   rw [this]
   simp [k2]
 · simp [k1, k2]
theorem zcl (a : TA) (h : a.Cells.length <= 1000000000) : xN a = some (arrC a) := by
 unfold xN arrC
 rw [xB]
 simp only [Option.bind_some, List.length_map]
 have lp0 : ∀ (v : Int), Option.bind (lpO (fun (_ : Unit) => cond (decide ((0 : Int) < (a.Cells.length : Int))) (some (Sum.inr (Sum.inl ()) : Unit ⊕ (Unit ⊕ Int))) (some (Sum.inr (Sum.inl ())))) ()) (Sum.elim (fun _ => some v) some) = some v := by
  intro v
  rw [qg]
  cases decide ((0 : Int) < (a.Cells.length : Int)) <;> rfl
 have lp1 : Option.bind (lpO (fun (s : Int × Int) => cond (decide (s.1 < (a.Cells.length : Int))) (cond (decide (s.2 = 0)) (cond (decide (a.Kind = 2)) (idxO a.Cells s.1 fun x => Option.bind (uR x) fun y => cond (!y) (letO (IntKind.wrap .i64 (s.1 + 1)) fun z => some (Sum.inl (z, (7 : Int)))) (letO (IntKind.wrap .i64 (s.1 + 1)) fun z => some (Sum.inl (z, s.2)))) (letO (IntKind.wrap .i64 (s.1 + 1)) fun z => some (Sum.inl (z, s.2)))) (some (Sum.inr (Sum.inl s.2 : Int ⊕ Int)))) (some (Sum.inr (Sum.inl s.2)))) ((0 : Int), (0 : Int))) (Sum.elim (fun v => some v) some) = some (if a.Kind = 2 /\ (a.Cells.any fun c => !qU c) = true then 7 else 0) := by
  apply Tot.eq
  rw [zn]
  refine Tot.count a.Cells.length (fun k s => s.1 = (k : Int) /\ s.2 = if a.Kind = 2 /\ ((a.Cells.take k).any fun c => !qU c) = true then 7 else 0) ?_ ⟨rfl, by simp⟩
  rintro k ⟨i, e⟩ hk ⟨rfl, he⟩
  simp only at he
  simp only [zu, zg, zL, zW, zn, Sum.elim_inl, Sum.elim_inr, decide_eq_true_eq, decide_eq_false_iff_not, Int.toNat_natCast, zji]
  refine ⟨fun hlt => ⟨fun e0 => ⟨fun k2 => ?_, fun k2 => ?_⟩, fun e0 => ?_⟩, fun hge => ?_⟩
  · obtain ⟨x, hx⟩ := zv (l := a.Cells) (i := k) (by omega)
    refine ⟨by omega, x, hx, ?_⟩
    have hp : ((a.Cells.take k).any fun c => !qU c) = false := by
     rw [e0] at he
     cases hh : (a.Cells.take k).any fun c => !qU c with
     | false => rfl
     | true => rw [if_pos ⟨k2, hh⟩] at he; cases he
    rw [w64 (by omega) (by omega), List.take_add_one, hx, List.any_append, hp]
    refine ⟨fun g => ⟨by omega, by omega, ?_⟩, fun g => ⟨by omega, by omega, ?_⟩⟩
    · simp at g; simp [k2, g]
    · simp at g; simp [g, e0]
  · rw [w64 (by omega) (by omega)]
    refine ⟨by omega, by omega, ?_⟩
    rw [if_neg (fun h => k2 h.1)]; exact e0
  · have k2 : a.Kind = 2 /\ ((a.Cells.take k).any fun c => !qU c) = true := by
     by_cases hh : a.Kind = 2 /\ ((a.Cells.take k).any fun c => !qU c) = true
     · exact hh
     · rw [if_neg hh] at he; exact absurd he e0
    rw [if_pos k2] at he
    rw [he, if_pos]
    refine ⟨k2.1, ?_⟩
    obtain ⟨x, hx, hb⟩ := List.any_eq_true.1 k2.2
    exact List.any_eq_true.2 ⟨x, List.mem_of_mem_take hx, hb⟩
  · rw [List.take_of_length_le (by omega)] at he
    exact he
 by_cases h1 : shC a.Rank a.Lens = 0
 case neg =>
  simp only [h1, decide_false, cond_false, if_false, lp0]
  by_cases k1 : a.Kind = 1
  · simp [k1]
  by_cases k2 : a.Kind = 2
  · simp [k2]
  · simp [k1, k2]
 simp only [h1, decide_true, cond_true, if_true]
 by_cases h2 : (a.Cells.length : Int) = qS a.Rank a.Lens
 case neg =>
  simp only [h2, decide_false, Bool.not_false, cond_true, if_false, lp0]
  by_cases k1 : a.Kind = 1
  · simp [k1]
  by_cases k2 : a.Kind = 2
  · simp [k2]
  · simp [k1, k2]
 rw [lp1]
 simp only [h2, decide_true, Bool.not_true, cond_false, if_true]
 by_cases k1 : a.Kind = 1
 · simp [k1]
 by_cases k2 : a.Kind = 2
 · simp [k2]
 · simp [k1, k2]
end Go.Sx.O
namespace Go.Sx.O
open Go
theorem qk {σ τ ε : Type} {step : σ -> Option (σ ⊕ (ε ⊕ τ))} {k1 : ε -> Option τ} (n : Nat) (S : Nat -> σ) (f : Nat -> Option τ) (e : ε)
 (h1 : ∀ k : Nat, k < n -> step (S k) = some (match f k with | some r => .inr (.inr r) | none => .inl (S (k + 1))))
 (h2 : step (S n) = some (.inr (.inl e))) {s0 : σ} (h0 : S 0 = s0) : (lpO step s0).bind (Sum.elim k1 some) = match scan f 0 n with | some r => some r | none => k1 e := by
 subst h0
 rw [zci n S (fun k => (f k).map Sum.inr) (.inl e) (fun k hk => by rw [h1 k hk]; cases f k <;> rfl) h2, yL]
 cases scan f 0 n <;> rfl
theorem zcd {σ τ ε : Type} {step : σ -> Option (σ ⊕ (ε ⊕ τ))} {k1 : ε -> Option τ} (n : Nat) (S : Nat -> σ) (e : ε)
 (h1 : ∀ k : Nat, k < n -> step (S k) = some (.inl (S (k + 1)))) (h2 : step (S n) = some (.inr (.inl e))) {s0 : σ} (h0 : S 0 = s0) : (lpO step s0).bind (Sum.elim k1 some) = k1 e := by
 subst h0
 rw [zqg n S (.inl e) h1 h2]; rfl
def i64 (n : Int) : Prop := -9223372036854775808 <= n /\ n <= 9223372036854775807
end Go.Sx.O
namespace Go.Sx.O
open Go
end Go.Sx.O
namespace Go.Sx.O
open Go
end Go.Sx.O
namespace Go.Sx.O
open Go
theorem zsc {n : Int} (h : inK .u8 n) : 0 <= n /\ n < 256 := by
 have e1 : IntKind.u8.min = 0 := by decide
 have e2 : IntKind.u8.max = 255 := by decide
 unfold inK at h
 omega
end Go.Sx.O
namespace Go.Sx.O
open Go
def labB (l : TL) (a : Int) : Bool := decide (0 <= a) && decide (a < (l.Names.length : Int))
theorem jP (l : TL) (a : Int) : Fz39 l a = some (labB l a) := by
 unfold Fz39 labB
 by_cases h : 0 <= a <;> simp [h]
theorem jg (l : TL) (a : Int) : Fz91 l a = some (labB l a) := by
 unfold Fz91 labB
 by_cases h : 0 <= a <;> simp [h]
def nmE (s : List UInt8) (before : List (List UInt8)) : Int := if exN s = true then (if s ∈ before then 8 else 0) else 24
theorem inL_iff {α : Type} [DecidableEq α] {a : α} {l : List α} : inL a l = true ↔ a ∈ l := by
 unfold inL; simp
theorem uh (s : List UInt8) (b : List (List UInt8)) (h : s.length <= 1000000) (hb : b.length <= 1000000) : Fz90 s b = some (nmE s b) := by
 unfold Fz90 nmE
 rw [zdy s h]
 simp only [Option.bind_some, List.length_map]
 cases exN s with
 | false => simp
 | true =>
   simp only [Bool.not_true, cond_false, if_true]
   refine (qk b.length (fun k => (k : Int)) (fun k => match b[k]? with | some x => if x = s then some (8 : Int) else none | none => none) () (fun k hk => ?_) ?_ rfl).trans ?_
   · obtain ⟨x, hx⟩ := zv hk
     have hlt : (k : Int) < (b.length : Int) := by omega
     have hw : IntKind.wrap .i64 ((k : Int) + 1) = ((k + 1 : Nat) : Int) := w64 (by omega) (by omega)
     have n1 : (0 : Int) <= (k : Int) := by omega
     simp only [hlt, decide_true, cond_true, idxO, n1, if_true, Int.toNat_natCast, hx, Option.bind_some, letO, hw]
     by_cases he : x = s <;> simp [he]
   · simp
   · cases hr : scan (fun k => match b[k]? with | some x => if x = s then some (8 : Int) else none | none => none) 0 b.length with
     | some r =>
       have h8 : r = 8 := xj (v := (8 : Int)) (fun i => by
        cases b[i]? with
        | none => exact .inr rfl
        | some x => by_cases hx : x = s <;> simp [hx]) hr
       have hm : s ∈ b := by
        by_cases hm : s ∈ b
        · exact hm
        have : scan (fun k => match b[k]? with | some x => if x = s then some (8 : Int) else none | none => none) 0 b.length = none := by
         rw [scan_none]
         intro i _ hi
         obtain ⟨x, hx⟩ := zv (l := b) (i := i) (by omega)
         rw [hx]
         have : x ≠ s := fun e => hm (e ▸ List.mem_of_getElem? hx)
         simp [this]
        rw [this] at hr; cases hr
       simp [hm, h8]
     | none =>
       have hm : ¬ s ∈ b := by
        intro hm
        obtain ⟨i, hi, e⟩ := List.getElem_of_mem hm
        have := scan_none.1 hr i (by omega) (by omega)
        rw [List.getElem?_eq_getElem hi, e] at this
        simp at this
       simp [hm]
def chK (p : TP) (k : Nat) : Option (Int × Int) := match p.Channels[k]? with
 | some c => if nmE c.s_ ((p.Channels.take k).map (·.s_)) ≠ 0 then some ((k : Int), nmE c.s_ ((p.Channels.take k).map (·.s_))) else if labB p.Lattice c.at_ = true then none else some ((k : Int), 7)
 | none => none
def chC (p : TP) : Int × Int := if (16 : Int) < (p.Channels.length : Int) then (-1, 3) else match scan (chK p) 0 p.Channels.length with | some r => r | none => (0, 0)
theorem zau (p : TP) (hs : ∀ c ∈ p.Channels, c.s_.length <= 1000000) : Fz40 p = some (chC p) := by
 unfold Fz40 chC
 simp only [List.length_map]
 by_cases h : (16 : Int) < (p.Channels.length : Int)
 · simp [h]
 simp only [h, decide_false, cond_false, if_false]
 refine (qk p.Channels.length (fun k => ((k : Int), (p.Channels.take k).map (·.s_))) (chK p) () (fun k hk => ?_) ?_ rfl).trans ?_
 · obtain ⟨x, hx⟩ := zv hk
   have hlt : (k : Int) < (p.Channels.length : Int) := by omega
   have hw : IntKind.wrap .i64 ((k : Int) + 1) = ((k + 1 : Nat) : Int) := w64 (by omega) (by omega)
   have n1 : (0 : Int) <= (k : Int) := by omega
   have e : (p.Channels.take (k + 1)).map (·.s_) = (p.Channels.take k).map (·.s_) ++ [x.s_] := by rw [List.take_add_one, hx]; simp
   simp only [hlt, decide_true, cond_true, idxO, n1, if_true, Int.toNat_natCast, hx, Option.bind_some, letO, hw, ua x.s_ (hs x (List.mem_of_getElem? hx)), jP, chK, e]
   unfold nmE
   cases exN x.s_ with
   | false => simp
   | true =>
     cases hi : inL x.s_ ((p.Channels.take k).map (·.s_)) with
     | true =>
       have := inL_iff.1 hi
       simp only [Bool.not_true, cond_false, cond_true, if_true, if_pos this]
       simp
     | false =>
       have : ¬ x.s_ ∈ (p.Channels.take k).map (·.s_) := fun h => by rw [inL_iff.2 h] at hi; cases hi
       simp only [Bool.not_true, cond_false, if_true, if_neg this]
       cases labB p.Lattice x.at_ <;> simp
 · simp
 · cases scan (chK p) 0 p.Channels.length <;> rfl
theorem zbw (p : TP) (hs : ∀ c ∈ p.Channels, c.s_.length <= 1000000) : Fz92 p = some (chC p) := by
 unfold Fz92 chC
 simp only [List.length_map]
 by_cases h : (16 : Int) < (p.Channels.length : Int)
 · simp [h]
 simp only [h, decide_false, cond_false, if_false]
 refine (qk p.Channels.length (fun k => ((k : Int), (p.Channels.take k).map (·.s_))) (chK p) () (fun k hk => ?_) ?_ rfl).trans ?_
 · obtain ⟨x, hx⟩ := zv hk
   have hlt : (k : Int) < (p.Channels.length : Int) := by omega
   have hw : IntKind.wrap .i64 ((k : Int) + 1) = ((k + 1 : Nat) : Int) := w64 (by omega) (by omega)
   have n1 : (0 : Int) <= (k : Int) := by omega
   have e : (p.Channels.take (k + 1)).map (·.s_) = (p.Channels.take k).map (·.s_) ++ [x.s_] := by rw [List.take_add_one, hx]; simp
   have hl : ((p.Channels.take k).map (·.s_)).length <= 16 := by rw [List.length_map, List.length_take]; omega
   simp only [hlt, decide_true, cond_true, idxO, n1, if_true, Int.toNat_natCast, hx, Option.bind_some, letO, hw, uh x.s_ _ (hs x (List.mem_of_getElem? hx)) (Nat.le_trans hl (by omega)), jg, chK, e, zf, List.length_map]
   rw [if_pos (by rw [List.length_map] at hl; omega)]
   by_cases h0 : nmE x.s_ ((p.Channels.take k).map (·.s_)) = 0
   · simp only [h0]
     cases labB p.Lattice x.at_ <;> simp
   · generalize nmE x.s_ ((p.Channels.take k).map (·.s_)) = z at h0 ⊢
     simp [h0]
 · simp
 · cases scan (chK p) 0 p.Channels.length <;> rfl
end Go.Sx.O
namespace Go.Sx.O
open Go
def vrK (g : TY -> Int) (p : TP) (k : Nat) : Option (Int × Int) := match p.Vars[k]? with
 | some c => if nmE c.Name ((p.Vars.take k).map (·.Name)) ≠ 0 then some ((k : Int), nmE c.Name ((p.Vars.take k).map (·.Name))) else if g c.Type_ = 0 then none else some ((k : Int), g c.Type_)
 | none => none
def vrC (g : TY -> Int) (p : TP) : Int × Int := if (32 : Int) < (p.Vars.length : Int) then (-1, 3) else match scan (vrK g p) 0 p.Vars.length with | some r => r | none => (0, 0)
theorem ze0 (g : TY -> Int) (p : TP) (hs : ∀ c ∈ p.Vars, c.Name.length <= 1000000) (hg : ∀ c ∈ p.Vars, Fz50 p.Lattice c.Type_ = some (g c.Type_)) : Fz51 p = some (vrC g p) := by
 unfold Fz51 vrC
 simp only [List.length_map]
 by_cases h : (32 : Int) < (p.Vars.length : Int)
 · simp [h]
 simp only [h, decide_false, cond_false, if_false]
 refine (qk p.Vars.length (fun k => ((k : Int), (p.Vars.take k).map (·.Name))) (vrK g p) () (fun k hk => ?_) ?_ rfl).trans ?_
 · obtain ⟨x, hx⟩ := zv hk
   have hlt : (k : Int) < (p.Vars.length : Int) := by omega
   have hw : IntKind.wrap .i64 ((k : Int) + 1) = ((k + 1 : Nat) : Int) := w64 (by omega) (by omega)
   have n1 : (0 : Int) <= (k : Int) := by omega
   have e : (p.Vars.take (k + 1)).map (·.Name) = (p.Vars.take k).map (·.Name) ++ [x.Name] := by rw [List.take_add_one, hx]; simp
   simp only [hlt, decide_true, cond_true, idxO, n1, if_true, Int.toNat_natCast, hx, Option.bind_some, letO, hw, ua x.Name (hs x (List.mem_of_getElem? hx)), hg x (List.mem_of_getElem? hx), vrK, e]
   unfold nmE
   cases exN x.Name with
   | false => simp
   | true =>
     cases hi : inL x.Name ((p.Vars.take k).map (·.Name)) with
     | true =>
       have := inL_iff.1 hi
       simp only [Bool.not_true, cond_false, cond_true, if_true, if_pos this]
       simp
     | false =>
       have : ¬ x.Name ∈ (p.Vars.take k).map (·.Name) := fun h => by rw [inL_iff.2 h] at hi; cases hi
       simp only [Bool.not_true, cond_false, if_true, if_neg this]
       by_cases hz : g x.Type_ = 0 <;> simp [hz]
 · simp
 · cases scan (vrK g p) 0 p.Vars.length <;> rfl
theorem zgh (g : TY -> Int) (p : TP) (hs : ∀ c ∈ p.Vars, c.Name.length <= 1000000) (hg : ∀ c ∈ p.Vars, Fz95 p.Lattice c.Type_ = some (g c.Type_)) : Fz96 p = some (vrC g p) := by
 unfold Fz96 vrC
 simp only [List.length_map]
 by_cases h : (32 : Int) < (p.Vars.length : Int)
 · simp [h]
 simp only [h, decide_false, cond_false, if_false]
 refine (qk p.Vars.length (fun k => ((k : Int), (p.Vars.take k).map (·.Name))) (vrK g p) () (fun k hk => ?_) ?_ rfl).trans ?_
 · obtain ⟨x, hx⟩ := zv hk
   have hlt : (k : Int) < (p.Vars.length : Int) := by omega
   have hw : IntKind.wrap .i64 ((k : Int) + 1) = ((k + 1 : Nat) : Int) := w64 (by omega) (by omega)
   have n1 : (0 : Int) <= (k : Int) := by omega
   have e : (p.Vars.take (k + 1)).map (·.Name) = (p.Vars.take k).map (·.Name) ++ [x.Name] := by rw [List.take_add_one, hx]; simp
   have hl : ((p.Vars.take k).map (·.Name)).length <= 32 := by rw [List.length_map, List.length_take]; omega
   simp only [hlt, decide_true, cond_true, idxO, n1, if_true, Int.toNat_natCast, hx, Option.bind_some, letO, hw, uh x.Name _ (hs x (List.mem_of_getElem? hx)) (Nat.le_trans hl (by omega)), hg x (List.mem_of_getElem? hx), vrK, e, zf, List.length_map]
   rw [if_pos (by rw [List.length_map] at hl; omega)]
   by_cases h0 : nmE x.Name ((p.Vars.take k).map (·.Name)) = 0
   · simp only [h0]
     by_cases hz : g x.Type_ = 0 <;> simp [hz]
   · generalize nmE x.Name ((p.Vars.take k).map (·.Name)) = z at h0 ⊢
     simp [h0]
 · simp
 · cases scan (vrK g p) 0 p.Vars.length <;> rfl
end Go.Sx.O
namespace Go.Sx.O
open Go
theorem zjv (x : Int) (h0 : 0 <= x) (h1 : x < 256) : Tot (Fz42 x) fun y => ∀ n : Nat, n <= 8 -> x.toNat < 2 ^ n -> decide (y < (n : Int)) = !decide (x.toNat = 2 ^ n - 1) := by
 unfold Fz42
 rw [zW]
 refine ⟨h0, ?_⟩
 have key : ∀ l : List UInt8, (∀ x : Fin 256, ∀ n : Fin 9, (l[x.val]?.map fun y => decide (x.val < 2 ^ n.val -> decide (IntKind.wrap .i64 (y.toNat : Int) < (n.val : Int)) = !decide (x.val = 2 ^ n.val - 1))) = some true) ->
  ∃ y, l[x.toNat]? = some y /\ Tot (letO (IntKind.wrap .i64 (y.toNat : Int)) fun z => some z) fun y => ∀ n : Nat, n <= 8 -> x.toNat < 2 ^ n -> decide (y < (n : Int)) = !decide (x.toNat = 2 ^ n - 1) := by
  intro l hl
  cases e : l[x.toNat]? with
  | none =>
    have := hl ⟨x.toNat, by omega⟩ ⟨0, by omega⟩
    simp only [e] at this
    cases this
  | some y =>
    refine ⟨y, rfl, .mk fun n hn hx => ?_⟩
    have := hl ⟨x.toNat, by omega⟩ ⟨n, by omega⟩
    simp only [e, Option.map_some, Option.some.injEq, decide_eq_true_eq] at this
    exact this hx
 exact key _ (by decide +kernel)
theorem zny {l : TL} (h : LatIn l) : Fz44 l = some (if (latR l).2 = 0 then ((botN l : Int), 0) else (0, (latR l).2)) := by
 unfold Fz44
 rw [zjl h [] (by simp)]
 simp only [Option.bind_some, askE, List.all_nil, if_true]
 by_cases hk : (latR l).2 = 0
 case neg => simp [hk]
 have ok := jM h hk
 simp only [hk, if_true, decide_true, Bool.not_true, cond_false]
 obtain ⟨o, e1, on, ol, _, ou, _⟩ := zhd l ok.u8 ok.le ok.len
 rw [e1]
 simp only [Option.bind_some]
 have hb := (zcc h hk).1
 have hend : Fz43 o.up_ o.n_ = some (botN l : Int) := by
  unfold Fz43
  rw [on]
  have hw : IntKind.wrap .i64 ((l.Names.length : Int) - 1) = ((l.Names.length - 1 : Nat) : Int) := by
   have := ok.pos; have := ok.le
   rw [w64 (by omega) (by omega)]; omega
  have hle := ok.le
  have hpos := ok.pos
  have hrun := zci (step := fun (s585 : Int) =>
   letO (IntKind.wrap IntKind.i64 ((l.Names.length : Int) - (1 : Int))) fun x591 =>
   cond (decide (s585 < x591))
   (zf ((0 : Int) <= s585 /\ s585 < (↑(8 : Nat) : Int)) (
   idxO (o.up_) ((↑(Int.toNat s585) : Int)) fun x593 =>
   Option.bind (Fz42 (x593)) fun x594 =>
   cond (decide (x594 < (l.Names.length : Int)))
   (letO (IntKind.wrap IntKind.i64 (s585 + (1 : Int))) fun x596 =>
   some (Sum.inl (x596)))
   (some (Sum.inr (Sum.inl (β := Int) s585)))))
   (some (Sum.inr (Sum.inl s585)))) (l.Names.length - 1) (fun k => (k : Int)) (fun k => if k = botN l then some (Sum.inl (k : Int)) else none) (Sum.inl ((l.Names.length - 1 : Nat) : Int)) (fun k hk2 => by
     have hlt : (k : Int) < ((l.Names.length - 1 : Nat) : Int) := by omega
     have n1 : (0 : Int) <= (k : Int) := by omega
     have n2 : (k : Int) < ((8 : Nat) : Int) := by omega
     have hw2 : IntKind.wrap .i64 ((k : Int) + 1) = ((k + 1 : Nat) : Int) := w64 (by omega) (by omega)
     obtain ⟨x, hx⟩ := zv (l := l.Up) (i := k) (by have := ok.len; omega)
     have hx' := ok.u8.get hx
     have hox : o.up_[k]? = some x := by rw [ou k (by omega)]; exact hx
     obtain ⟨y, ey, hy⟩ := zjv x hx'.1 hx'.2
     have hux : x.toNat = upN l k := by unfold upN; rw [List.getD_eq_getElem?_getD, hx]; rfl
     have hf := zox h hk (b := k) (by omega)
     have hlt2 : x.toNat < 2 ^ l.Names.length := by
      have h1 := (zaq h hk).1 k (by omega)
      unfold ordA at h1
      simp only [Bool.and_eq_true, decide_eq_true_eq] at h1
      rw [hux]; exact h1.1.1
     have hd := hy l.Names.length hle hlt2
     rw [hux] at hd
     simp only [letO, hw, hlt, decide_true, cond_true, zf, n1, n2, and_self, if_true, idxO, Int.toNat_natCast, hox, Option.bind_some, ey, hw2, hd]
     by_cases hq : k = botN l
     · have := hf.2 hq
       simp only [this, if_pos hq, decide_true, Bool.not_true, cond_false]
     · have : ¬ upN l k = 2 ^ l.Names.length - 1 := fun e => hq (hf.1 e)
       simp only [this, if_neg hq, decide_false, Bool.not_false, cond_true]) (by
     simp only [letO, hw]
     simp)
  have hs0 : ((0 : Nat) : Int) = 0 := rfl
  simp only [hs0] at hrun
  rw [hrun]
  have hsc : (scan (fun k => if k = botN l then some (Sum.inl (α := Int) (β := Int) (k : Int)) else none) 0 (l.Names.length - 1)).getD (Sum.inl ((l.Names.length - 1 : Nat) : Int)) = Sum.inl (botN l : Int) := by
   cases e : scan (fun k => if k = botN l then some (Sum.inl (α := Int) (β := Int) (k : Int)) else none) 0 (l.Names.length - 1) with
   | some r =>
     have : r = Sum.inl (botN l : Int) := xj (v := Sum.inl (botN l : Int)) (fun i => by
      by_cases hi : i = botN l
      · exact .inl (by rw [if_pos hi, hi])
      · exact .inr (by rw [if_neg hi])) e
     rw [this]; rfl
   | none =>
     have hn := scan_none.1 e
     rcases Nat.lt_or_ge (botN l) (l.Names.length - 1) with g | g
     · have := hn (botN l) (by omega) (by omega)
       simp at this
     · have : botN l = l.Names.length - 1 := by omega
       rw [this]; rfl
  rw [hsc]
  rfl
 rw [hend]
 rfl
end Go.Sx.O
namespace Go.Sx.O
open Go
theorem zgz {l : TL} (h : LatIn l) : Fz94 l = some (if (latR l).2 = 0 then ((botN l : Int), 0) else (0, (latR l).2)) := by
 apply Tot.eq
 unfold Fz94
 rw [ze7 h]
 simp only [Option.bind_some]
 by_cases hk : (latR l).2 = 0
 case neg =>
  have : askE l [0, 0] = (latR l).2 := by unfold askE; rw [if_neg hk]
  simp only [this, hk, decide_false, Bool.not_false, cond_true, if_false]
  exact .mk rfl
 have ok := jM h hk
 have hpos := ok.pos
 have hle := ok.le
 have h0n : (0 : Int) < (l.Names.length : Int) := by omega
 have hl0 : qM l 0 = true := by unfold qM; rw [decide_eq_true (Int.le_refl 0), decide_eq_true h0n]; rfl
 have ha : askE l [0, 0] = 0 := by unfold askE; rw [if_pos hk, List.all_cons, List.all_cons, hl0]; rfl
 simp only [ha, hk, decide_true, Bool.not_true, cond_false, if_true]
 obtain ⟨d, e1, dl, dd⟩ := zdj ok.u8 ok.le ok.len
 rw [e1]
 simp only [Option.bind_some, zn, List.length_map]
 refine Tot.count l.Names.length (fun k s => s.1 = (k : Int) /\ ∃ v : Nat, s.2 = (v : Int) /\ v < l.Names.length /\ ∀ i, i < l.Names.length -> up l i v = true -> ∀ j, j < k -> up l i j = true) ?_ ⟨rfl, 0, rfl, by omega, fun i _ _ j hj => by omega⟩
 rintro k ⟨i, w⟩ hkn ⟨h0, v, h1, h2, h3⟩
 simp only at h0 h1
 subst h0 h1
 simp only [zu, decide_eq_true_eq, decide_eq_false_iff_not]
 refine ⟨fun hlt => ?_, fun hlt => ?_⟩
 · obtain ⟨c, hc, hcn, hg⟩ := zhu h hk (a := k) (b := v) (by omega) h2
   rw [jO d (dnN l) k v (by omega) (fun c hc => dd c (by omega)) (fun c hc2 => zc9 l c hle) (by omega) (by omega)]
   unfold bndI
   rw [dl, hc]
   simp only [Option.bind_some, letO, zg, Sum.elim_inl]
   refine ⟨by omega, w64 (by omega) (by omega), c, rfl, hcn, fun i hi hu j hj => ?_⟩
   rw [zej hi hg] at hu
   simp only [Bool.and_eq_true] at hu
   rcases Nat.lt_or_ge j k with g | g
   · exact h3 i hi hu.2 j g
   · have : j = k := by omega
     rw [this]; exact hu.1
 · have hke : k = l.Names.length := by omega
   simp only [zg, Sum.elim_inl, Sum.elim_inr]
   have := zm4 h hk h2 fun a ha => h3 v h2 (ok.self v h2) a (by omega)
   rw [<- this]
end Go.Sx.O
namespace Go.Sx.O
open Go
theorem zn6 {l : TL} (hu : U8s l.Up) {a b : Nat} (ha : a < l.Up.length) (hb : b <= 8) : Fz46 l a b = some (up l a b) := by
 unfold Fz46
 obtain ⟨x, hx⟩ := zv ha
 have hx' := hu.get hx
 have key : ∀ u : Fin 256, ∀ b : Fin 9, decide (bits .and .u8 (Int.fdiv (u.val : Int) (2 ^ min b.val (IntKind.bits .u8))) 1 = 1) = Nat.testBit u b := by decide +kernel
 have := key ⟨x.toNat, by omega⟩ ⟨b, by omega⟩
 simp only [Int.toNat_of_nonneg hx'.1] at this
 simp only [Int.natCast_nonneg, idxO, Int.toNat_natCast, if_true, hx, Option.bind_some, zf, this, yW hx]
theorem zd7 {l : TL} (h : LatIn l) (hk : (latR l).2 = 0) (xs : List Int) (hx : xs.length <= 64) (hl : ∀ x ∈ xs, qM l x = true) : Fz45 l xs = some (0, 0) := by
 unfold Fz45
 rw [uw h]
 have h64 : ¬ (64 : Int) < (xs.length : Int) := by omega
 simp only [Option.bind_some, hk, decide_true, Bool.not_true, cond_false, List.length_map, h64, decide_false]
 refine (zcd xs.length (fun k => (k : Int)) () (fun k hk => ?_) (by simp) rfl).trans rfl
 obtain ⟨x, hx⟩ := zv hk
 have hq := hl x (List.mem_of_getElem? hx)
 unfold qM at hq
 simp only [Bool.and_eq_true, decide_eq_true_eq] at hq
 have hlt : (k : Int) < (xs.length : Int) := by omega
 have hw : IntKind.wrap .i64 ((k : Int) + 1) = ((k + 1 : Nat) : Int) := w64 (by omega) (by omega)
 have n1 : (0 : Int) <= (k : Int) := by omega
 have n2 : ¬ x < 0 := by omega
 have n3 : ¬ (l.Names.length : Int) <= x := by omega
 simp only [hlt, decide_true, cond_true, idxO, n1, if_true, Int.toNat_natCast, hx, Option.bind_some, letO, hw, n2, n3, decide_false, cond_false]
def flK (l : TL) (xs : List Int) (a : Int) (k : Nat) : Option Int := match xs[k]? with
 | some x => if up l x.toNat a.toNat = true then none else some (k : Int)
 | none => none
def flV (l : TL) (xs : List Int) (a : Int) : Int × Int := match scan (flK l xs a) 0 xs.length with | some r => (r, 25) | none => (0, 0)
theorem zoz {l : TL} (h : LatIn l) (hk : (latR l).2 = 0) (xs : List Int) (hx : xs.length <= 64) (hl : ∀ x ∈ xs, qM l x = true) (a : Int) (ha : qM l a = true) :
 Fz49 l xs a = some (flV l xs a) := by
 have ok := jM h hk
 have hle := ok.le
 have hlen := ok.len
 unfold Fz49
 rw [zd7 h hk xs hx hl]
 unfold qM at ha
 simp only [Bool.and_eq_true, decide_eq_true_eq] at ha
 have n2 : ¬ a < 0 := by omega
 have n3 : ¬ (l.Names.length : Int) <= a := by omega
 simp only [Option.bind_some, decide_true, Bool.not_true, cond_false, n2, n3, decide_false, List.length_map]
 have hi : Fz48 xs (l, a) = some (match scan (flK l xs a) 0 xs.length with | some r => r | none => -1) := by
  unfold Fz48
  simp only [List.length_map]
  refine (qk xs.length (fun k => (k : Int)) (flK l xs a) () (fun k hk => ?_) (by simp) rfl).trans ?_
  · obtain ⟨x, hx⟩ := zv hk
    have hq := hl x (List.mem_of_getElem? hx)
    unfold qM at hq
    simp only [Bool.and_eq_true, decide_eq_true_eq] at hq
    have hlt : (k : Int) < (xs.length : Int) := by omega
    have hw : IntKind.wrap .i64 ((k : Int) + 1) = ((k + 1 : Nat) : Int) := w64 (by omega) (by omega)
    have n1 : (0 : Int) <= (k : Int) := by omega
    have hb : Fz46 l x a = some (up l x.toNat a.toNat) := by
     have := zn6 ok.u8 (a := x.toNat) (b := a.toNat) (by omega) (by omega)
     rwa [Int.toNat_of_nonneg hq.1, Int.toNat_of_nonneg ha.1] at this
    simp only [hlt, decide_true, cond_true, idxO, n1, if_true, Int.toNat_natCast, hx, Option.bind_some, letO, hw, Fz47, hb, flK]
    cases up l x.toNat a.toNat <;> simp
  · cases scan (flK l xs a) 0 xs.length <;> rfl
 rw [hi]
 unfold flV
 cases e : scan (flK l xs a) 0 xs.length with
 | none => simp
 | some r =>
   have : 0 <= r := by
    have key : ∀ {j k : Nat} {b : Int}, scan (flK l xs a) k j = some b -> 0 <= b := by
     intro j
     induction j with
     | zero => intro k b h; cases h
     | succ j ih =>
       intro k b h
       simp only [scan] at h
       cases hf : flK l xs a k with
       | none => rw [hf] at h; exact ih h
       | some z =>
         rw [hf] at h
         cases h
         unfold flK at hf
         split at hf
         · split at hf
           · cases hf
           · cases hf; omega
         · cases hf
    exact key e
   simp [this]
end Go.Sx.O
namespace Go.Sx.O
open Go
noncomputable def wK (l : TL) (t : TY) : Int :=
 if t.Rank < 0 \/ 2 < t.Rank then 7
 else if labB l t.Axes.1 = true /\ labB l t.Axes.2 = true /\ labB l t.Data = true then
  if ([t.Axes.1, t.Axes.2].drop t.Rank.toNat).all (fun x => decide (x = (botN l : Int))) = true then
   if ([t.Axes.1, t.Axes.2].take t.Rank.toNat).all (fun x => up l x.toNat t.Data.toNat) = true then 0 else 25
  else 6
 else 7
noncomputable def wS (l : TL) (t : TY) : Int := if (latR l).2 = 0 then (if t.Kind = 1 \/ t.Kind = 2 then wK l t else 7) else (latR l).2
theorem zmb {β : Type} (v : β) (b : Int) (xs : List Int) (hx : xs.length <= 2) : scan (fun k => match xs[k]? with | some x => if x = b then none else some v | none => none) 0 xs.length = if xs.all (fun x => decide (x = b)) = true then none else some v := by
 match xs, hx with
 | [], _ => rfl
 | [x], _ => by_cases h : x = b <;> simp [scan, h]
 | [x, y], _ => by_cases h : x = b <;> by_cases g : y = b <;> simp [scan, h, g]
theorem zol (l : TL) (a : Int) (xs : List Int) (hx : xs.length <= 2) : (flV l xs a).2 = if xs.all (fun x => up l x.toNat a.toNat) = true then 0 else 25 := by
 match xs, hx with
 | [], _ => rfl
 | [x], _ => cases h : up l x.toNat a.toNat <;> simp [flV, scan, flK, h]
 | [x, y], _ => cases h : up l x.toNat a.toNat <;> cases g : up l y.toNat a.toNat <;> simp [flV, scan, flK, h, g]
theorem znu {l : TL} (h : LatIn l) (hk : (latR l).2 = 0) (t : TY) (hr : ¬ (t.Rank < 0 \/ 2 < t.Rank)) (l1 : labB l t.Axes.1 = true) (l2 : labB l t.Axes.2 = true) (l3 : labB l t.Data = true) :
 (Option.bind (lpO (fun (s612 : Int) =>
 cond (decide (s612 < (↑(List.length (List.drop (Int.toNat t.Rank) (List.take (Int.toNat (↑(2 : Nat) : Int)) [SV.int IntKind.i64 t.Axes.fst, SV.int IntKind.i64 t.Axes.snd]))) : Int)))
 (idxO (List.drop (Int.toNat t.Rank) (List.take (Int.toNat (↑(2 : Nat) : Int)) [t.Axes.fst, t.Axes.snd])) (s612) fun x617 =>
 cond (!decide (x617 = (botN l : Int)))
 (some (Sum.inr (Sum.inr ((6 : Int)))))
 (letO (IntKind.wrap IntKind.i64 (s612 + (1 : Int))) fun x619 =>
 some (Sum.inl (x619))))
 (some (Sum.inr (Sum.inl (()))))) ((0 : Int)))
 (Sum.elim (fun (_ : Unit) =>
 zf ((0 : Int) <= t.Rank /\ t.Rank <= (↑(2 : Nat) : Int)) (
 Option.bind (Fz49 l (List.drop (Int.toNat (0 : Int)) (List.take (Int.toNat t.Rank) [t.Axes.fst, t.Axes.snd])) (t.Data)) fun x653 =>
 cond (!decide (x653.snd = (0 : Int)))
 (some (x653.snd))
 (some ((0 : Int))))) some)) = some (wK l t) := by
 have e0 : List.take (Int.toNat ((2 : Nat) : Int)) [t.Axes.fst, t.Axes.snd] = [t.Axes.fst, t.Axes.snd] := rfl
 have e1 : List.take (Int.toNat ((2 : Nat) : Int)) [SV.int IntKind.i64 t.Axes.fst, SV.int IntKind.i64 t.Axes.snd] = [SV.int IntKind.i64 t.Axes.fst, SV.int IntKind.i64 t.Axes.snd] := rfl
 have e2 : List.drop (Int.toNat 0) (List.take (Int.toNat t.Rank) [t.Axes.fst, t.Axes.snd]) = List.take (Int.toNat t.Rank) [t.Axes.fst, t.Axes.snd] := rfl
 rw [e0, e1, e2]
 have hlen : (List.drop (Int.toNat t.Rank) [SV.int IntKind.i64 t.Axes.fst, SV.int IntKind.i64 t.Axes.snd]).length = (List.drop (Int.toNat t.Rank) [t.Axes.fst, t.Axes.snd]).length := by simp
 rw [hlen]
 have hd2 : (List.drop (Int.toNat t.Rank) [t.Axes.fst, t.Axes.snd]).length <= 2 := by simp
 have ht2 : (List.take (Int.toNat t.Rank) [t.Axes.fst, t.Axes.snd]).length <= 2 := by simp; omega
 have htl : ∀ x ∈ List.take (Int.toNat t.Rank) [t.Axes.fst, t.Axes.snd], qM l x = true := fun x hx => by
  have := List.mem_of_mem_take hx
  simp only [List.mem_cons, List.not_mem_nil, or_false] at this
  rcases this with rfl | rfl
  · exact l1
  · exact l2
 unfold wK
 rw [if_neg hr, if_pos ⟨l1, l2, l3⟩]
 generalize hD : List.drop (Int.toNat t.Rank) [t.Axes.fst, t.Axes.snd] = D at hd2 ⊢
 generalize hT : List.take (Int.toNat t.Rank) [t.Axes.fst, t.Axes.snd] = T at ht2 htl ⊢
 refine (qk D.length (fun k => (k : Int)) (fun k => match D[k]? with | some x => if x = (botN l : Int) then none else some (6 : Int) | none => none) () (fun k hk => ?_) (by simp) rfl).trans ?_
 · obtain ⟨x, hx⟩ := zv hk
   have hlt : (k : Int) < (D.length : Int) := by omega
   have hw : IntKind.wrap .i64 ((k : Int) + 1) = ((k + 1 : Nat) : Int) := w64 (by omega) (by omega)
   have n1 : (0 : Int) <= (k : Int) := by omega
   simp only [hlt, decide_true, cond_true, idxO, n1, if_true, Int.toNat_natCast, hx, Option.bind_some, letO, hw]
   by_cases hb : x = (botN l : Int) <;> simp [hb]
 · rw [zmb (6 : Int) (botN l : Int) D hd2]
   by_cases hall : D.all (fun x => decide (x = (botN l : Int))) = true
   · simp only [hall, if_true]
     unfold zf
     rw [if_pos (by omega), zoz h hk T (by omega) htl t.Data l3]
     have := zol l t.Data T ht2
     simp only [Option.bind_some]
     rw [this]
     split <;> rfl
   · rw [if_neg hall, if_neg hall]
end Go.Sx.O
namespace Go.Sx.O
open Go
theorem zet {l : TL} (h : LatIn l) (t : TY) : Fz50 l t = some (wS l t) := by
 unfold Fz50 wS
 rw [zny h]
 by_cases hk : (latR l).2 = 0
 case neg => simp [hk]
 simp only [hk, if_true, Option.bind_some, decide_true, Bool.not_true, cond_false, jP]
 by_cases r1 : t.Rank < 0
 · by_cases k1 : t.Kind = 1 <;> by_cases k2 : t.Kind = 2 <;> simp [k1, k2, r1, wK]
 by_cases r2 : 2 < t.Rank
 · by_cases k1 : t.Kind = 1 <;> by_cases k2 : t.Kind = 2 <;> simp [k1, k2, r1, r2, wK]
 have hr : ¬ (t.Rank < 0 \/ 2 < t.Rank) := by omega
 have hside : (0 : Int) <= t.Rank /\ t.Rank <= ((2 : Nat) : Int) := by omega
 cases l1 : labB l t.Axes.fst with
 | false => by_cases k1 : t.Kind = 1 <;> by_cases k2 : t.Kind = 2 <;> simp [k1, k2, r1, r2, wK, l1]
 | true =>
   cases l2 : labB l t.Axes.snd with
   | false => by_cases k1 : t.Kind = 1 <;> by_cases k2 : t.Kind = 2 <;> simp [k1, k2, r1, r2, wK, l1, l2]
   | true =>
     cases l3 : labB l t.Data with
     | false => by_cases k1 : t.Kind = 1 <;> by_cases k2 : t.Kind = 2 <;> simp [k1, k2, r1, r2, wK, l1, l2, l3]
     | true =>
       have key := znu h hk t hr l1 l2 l3
       simp only [Bool.not_true, cond_false, r1, r2, decide_false]
       by_cases k1 : t.Kind = 1
       · simp only [k1, decide_true, Bool.not_true, cond_false, true_or, if_true]
         rw [zf, if_pos hside]
         exact key
       · by_cases k2 : t.Kind = 2
         · simp only [k1, k2, decide_true, decide_false, Bool.not_true, Bool.not_false, cond_true, cond_false, or_true, if_true]
           rw [zf, if_pos hside]
           exact key
         · simp [k1, k2]
end Go.Sx.O
namespace Go.Sx.O
open Go
def bK {β : Type} (v : β) (b : Int) (xs : List Int) (k : Nat) : Option β := match xs[k]? with | some x => if x = b then none else some v | none => none
theorem zqo {β : Type} (v : β) (b : Int) (xs : List Int) (hx : xs.length <= 2) : scan (bK v b xs) 0 xs.length = if xs.all (fun x => decide (x = b)) = true then none else some v := by
 match xs, hx with
 | [], _ => rfl
 | [x], _ => by_cases h : x = b <;> simp [scan, bK, h]
 | [x, y], _ => by_cases h : x = b <;> by_cases g : y = b <;> simp [scan, bK, h, g]
def uK {β : Type} (v : β) (l : TL) (a : Int) (xs : List Int) (k : Nat) : Option β := match xs[k]? with | some x => if up l x.toNat a.toNat = true then none else some v | none => none
theorem zqm {β : Type} (v : β) (l : TL) (a : Int) (xs : List Int) (hx : xs.length <= 2) : scan (uK v l a xs) 0 xs.length = if xs.all (fun x => up l x.toNat a.toNat) = true then none else some v := by
 match xs, hx with
 | [], _ => rfl
 | [x], _ => cases h : up l x.toNat a.toNat <;> simp [scan, uK, h]
 | [x, y], _ => cases h : up l x.toNat a.toNat <;> cases g : up l y.toNat a.toNat <;> simp [scan, uK, h, g]
theorem zgt {l : TL} (h : LatIn l) (hk : (latR l).2 = 0) (t : TY) (hr : ¬ (t.Rank < 0 \/ 2 < t.Rank)) (l1 : labB l t.Axes.1 = true) (l2 : labB l t.Axes.2 = true) (l3 : labB l t.Data = true) :
 (Option.bind (lpO (fun (s598 : Int) =>
 cond (decide (s598 < (2 : Int)))
 (zf ((0 : Int) <= s598 /\ s598 < (↑(2 : Nat) : Int)) (
 idxO ([t.Axes.fst, t.Axes.snd]) ((↑(Int.toNat s598) : Int)) fun x604 =>
 cond (!decide (x604 = (botN l : Int)))
 (some (Sum.inr (Sum.inr ((6 : Int)))))
 (letO (IntKind.wrap IntKind.i64 (s598 + (1 : Int))) fun x606 =>
 some (Sum.inl (x606)))))
 (some (Sum.inr (Sum.inl (()))))) (t.Rank))
 (Sum.elim (fun (_ : Unit) =>
 Option.bind (
 lpO (fun (s609 : Int) =>
 cond (decide (s609 < t.Rank))
 (zf ((0 : Int) <= s609 /\ s609 < (↑(2 : Nat) : Int)) (
 idxO ([t.Axes.fst, t.Axes.snd]) ((↑(Int.toNat s609) : Int)) fun x614 =>
 Option.bind (Fz76 l (x614) (t.Data)) fun x615 =>
 cond (!x615)
 (some (Sum.inr (Sum.inr ((25 : Int)))))
 (letO (IntKind.wrap IntKind.i64 (s609 + (1 : Int))) fun x617 =>
 some (Sum.inl (x617)))))
 (some (Sum.inr (Sum.inl (()))))) ((0 : Int)))
 (Sum.elim (fun (_ : Unit) =>
 some ((0 : Int))) some)) some)) = some (wK l t) := by
 have ok := jM h hk
 have hle := ok.le
 have hlen := ok.len
 unfold wK
 rw [if_neg hr, if_pos ⟨l1, l2, l3⟩]
 have l1' : qM l t.Axes.1 = true := l1
 have l2' : qM l t.Axes.2 = true := l2
 unfold labB at l1 l2 l3
 simp only [Bool.and_eq_true, decide_eq_true_eq] at l1 l2 l3
 have hB : ∀ x : Int, 0 <= x /\ x < (l.Names.length : Int) -> Fz76 l x t.Data = some (up l x.toNat t.Data.toNat) := fun x hx => by
  have := ja ok.u8 (a := x.toNat) (b := t.Data.toNat) (by omega) (by omega)
  rwa [Int.toNat_of_nonneg hx.1, Int.toNat_of_nonneg l3.1] at this
 have hdl : (2 - t.Rank).toNat = ([t.Axes.1, t.Axes.2].drop t.Rank.toNat).length := by simp; omega
 have htl : t.Rank.toNat = ([t.Axes.1, t.Axes.2].take t.Rank.toNat).length := by simp; omega
 refine (qk (2 - t.Rank).toNat (fun k => t.Rank + (k : Int)) (bK (6 : Int) (botN l : Int) ([t.Axes.1, t.Axes.2].drop t.Rank.toNat)) () (fun k hk2 => ?_) ?_ (by simp)).trans ?_
 · have hkk : t.Rank.toNat + k < 2 := by omega
   have hw : IntKind.wrap .i64 (t.Rank + (k : Int) + 1) = t.Rank + ((k + 1 : Nat) : Int) := by rw [w64 (by omega) (by omega)]; omega
   have hlt : t.Rank + (k : Int) < 2 := by omega
   have n1 : (0 : Int) <= t.Rank + (k : Int) /\ t.Rank + (k : Int) < ((2 : Nat) : Int) := by omega
   have hn : (t.Rank + (k : Int)).toNat = t.Rank.toNat + k := by omega
   obtain ⟨x, hx⟩ := zv (l := [t.Axes.1, t.Axes.2]) (i := t.Rank.toNat + k) (by simpa using hkk)
   have n0 : (0 : Int) <= ((t.Rank.toNat + k : Nat) : Int) := by omega
   simp only [hlt, decide_true, cond_true, zf, n1, and_self, if_true, idxO, hn, n0, Int.toNat_natCast, hx, Option.bind_some, letO, hw, bK, List.getElem?_drop]
   by_cases hb : x = (botN l : Int) <;> simp [hb]
 · have : ¬ t.Rank + ((2 - t.Rank).toNat : Int) < 2 := by omega
   simp only [this, decide_false, cond_false]
 · rw [hdl, zqo (6 : Int) (botN l : Int) _ (by simp)]
   by_cases hall : ([t.Axes.1, t.Axes.2].drop t.Rank.toNat).all (fun x => decide (x = (botN l : Int))) = true
   · simp only [hall, if_true]
     refine (qk t.Rank.toNat (fun k => (k : Int)) (uK (25 : Int) l t.Data ([t.Axes.1, t.Axes.2].take t.Rank.toNat)) () (fun k hk2 => ?_) ?_ rfl).trans ?_
     · have hkk : k < 2 := by omega
       have hw : IntKind.wrap .i64 ((k : Int) + 1) = ((k + 1 : Nat) : Int) := w64 (by omega) (by omega)
       have hlt : (k : Int) < t.Rank := by omega
       have n1 : (0 : Int) <= (k : Int) /\ (k : Int) < ((2 : Nat) : Int) := by omega
       obtain ⟨x, hx⟩ := zv (l := [t.Axes.1, t.Axes.2]) (i := k) (by simpa using hkk)
       have hxl : qM l x = true := by
        have := List.mem_of_getElem? hx
        simp only [List.mem_cons, List.not_mem_nil, or_false] at this
        rcases this with rfl | rfl
        · exact l1'
        · exact l2'
       have hxb : 0 <= x /\ x < (l.Names.length : Int) := by unfold qM at hxl; simpa using hxl
       simp only [hlt, decide_true, cond_true, zf, n1, and_self, if_true, idxO, Int.toNat_natCast, hx, Option.bind_some, letO, hw, uK, hB x hxb, List.getElem?_take, hk2]
       cases up l x.toNat t.Data.toNat <;> simp
     · have : ¬ (t.Rank.toNat : Int) < t.Rank := by omega
       simp only [this, decide_false, cond_false]
     · rw (occs := .pos [2]) [htl]
       rw [zqm (25 : Int) l t.Data _ (by simp; omega)]
       cases (List.take t.Rank.toNat [t.Axes.fst, t.Axes.snd]).all fun x => up l x.toNat t.Data.toNat <;> rfl
   · rw [if_neg hall, if_neg hall]
end Go.Sx.O
namespace Go.Sx.O
open Go
theorem zgg {l : TL} (h : LatIn l) (t : TY) : Fz95 l t = some (wS l t) := by
 unfold Fz95 wS
 rw [xA l h.u8 h.names h.name, <- zbj h]
 by_cases hk : (latR l).2 = 0
 case neg => simp [hk]
 simp only [hk, if_true, Option.bind_some, decide_true, Bool.not_true, cond_false, jg]
 by_cases r1 : t.Rank < 0
 · by_cases k1 : t.Kind = 1 <;> by_cases k2 : t.Kind = 2 <;> simp [k1, k2, r1, wK]
 by_cases r2 : 2 < t.Rank
 · by_cases k1 : t.Kind = 1 <;> by_cases k2 : t.Kind = 2 <;> simp [k1, k2, r1, r2, wK]
 have hr : ¬ (t.Rank < 0 \/ 2 < t.Rank) := by omega
 cases l1 : labB l t.Axes.fst with
 | false => by_cases k1 : t.Kind = 1 <;> by_cases k2 : t.Kind = 2 <;> simp [k1, k2, r1, r2, wK, l1]
 | true =>
   cases l2 : labB l t.Axes.snd with
   | false => by_cases k1 : t.Kind = 1 <;> by_cases k2 : t.Kind = 2 <;> simp [k1, k2, r1, r2, wK, l1, l2]
   | true =>
     cases l3 : labB l t.Data with
     | false => by_cases k1 : t.Kind = 1 <;> by_cases k2 : t.Kind = 2 <;> simp [k1, k2, r1, r2, wK, l1, l2, l3]
     | true =>
       have key := zgt h hk t hr l1 l2 l3
       simp only [Bool.not_true, cond_false, r1, r2, decide_false, zgz h, hk, if_true, Option.bind_some]
       by_cases k1 : t.Kind = 1
       · simp only [k1, decide_true, Bool.not_true, cond_false, true_or, if_true]
         exact key
       · by_cases k2 : t.Kind = 2
         · simp only [k1, k2, decide_true, decide_false, Bool.not_true, Bool.not_false, cond_true, cond_false, or_true, if_true]
           exact key
         · simp [k1, k2]
def ckK {α τ : Type} (c : α -> Bool) (v : τ) (L : List α) (j : Nat) : Option τ := match L[j]? with | some y => if c y = true then some v else none | none => none
theorem uq {α τ : Type} (c : α -> Bool) (v : τ) (L : List α) (n : Nat) (hn : n <= L.length) : scan (ckK c v L) 0 n = if (L.take n).any c = true then some v else none := by
 by_cases h : (L.take n).any c = true
 · rw [if_pos h]
   cases e : scan (ckK c v L) 0 n with
   | some r =>
     have : r = v := xj (v := v) (fun i => by
      unfold ckK
      cases L[i]? with
      | none => exact .inr rfl
      | some x => by_cases hx : c x = true <;> simp [hx]) e
     rw [this]
   | none =>
     exfalso
     rw [List.any_eq_true] at h
     obtain ⟨x, hx, hc⟩ := h
     obtain ⟨i, hi, hxi⟩ := List.getElem_of_mem hx
     rw [List.length_take] at hi
     have := scan_none.1 e i (by omega) (by omega)
     rw [List.getElem_take] at hxi
     unfold ckK at this
     rw [List.getElem?_eq_getElem (by omega), hxi] at this
     simp [hc] at this
 · rw [if_neg h, scan_none]
   intro i _ hi
   unfold ckK
   obtain ⟨x, hx⟩ := zv (l := L) (i := i) (by omega)
   rw [hx]
   have : ¬ c x = true := fun hc => h (by
    rw [List.any_eq_true]
    exact ⟨x, List.mem_take_iff_getElem.2 ⟨i, by omega, by rw [List.getElem?_eq_getElem (by omega)] at hx; exact Option.some.inj hx⟩, hc⟩)
   simp [this]
def uL (x y : TU) : Bool := decide (y.From = x.From) && decide (y.Goal = x.Goal)
def rlK (p : TP) (k : Nat) : Option (Int × Int) := match p.Rules[k]? with
 | some x => if labB p.Lattice x.From = true then (if labB p.Lattice x.Goal = true then (if x.From = x.Goal then some ((k : Int), 25) else if up p.Lattice x.Goal.toNat x.From.toNat = true then (if (p.Rules.take k).any (uL x) = true then some ((k : Int), 8) else if x.K < 2 then some ((k : Int), 3) else if 400 < x.K then some ((k : Int), 3) else none) else some ((k : Int), 25)) else some ((k : Int), 7)) else some ((k : Int), 7)
 | none => none
def rlC (p : TP) : Int × Int := if (64 : Int) < (p.Rules.length : Int) then (-1, 3) else match scan (rlK p) 0 p.Rules.length with | some r => r | none => (0, 0)
theorem zq7 (x : TU) (L : List TU) : inL (x.From, x.Goal) (L.map fun y => (y.From, y.Goal)) = L.any (uL x) := by
 rw [Bool.eq_iff_iff, inL_iff, List.any_eq_true]
 simp only [List.mem_map, Prod.mk.injEq, uL, Bool.and_eq_true, decide_eq_true_eq]
theorem zrb {x : Int} (h0 : 0 <= x) (h1 : x < 256) {b : Nat} (hb : b <= 8) : decide (bits .and .u8 (Int.fdiv x (2 ^ min b (IntKind.bits .u8))) 1 = 0) = !Nat.testBit x.toNat b := by
 have key : ∀ u : Fin 256, ∀ b : Fin 9, decide (bits .and .u8 (Int.fdiv (u.val : Int) (2 ^ min b.val (IntKind.bits .u8))) 1 = 0) = !Nat.testBit u b := by decide +kernel
 have := key ⟨x.toNat, by omega⟩ ⟨b, by omega⟩
 simpa only [Int.toNat_of_nonneg h0] using this
theorem zdc (p : TP) (h : LatIn p.Lattice) (hk : (latR p.Lattice).2 = 0) : Fz52 p = some (rlC p) := by
 have ok := jM h hk
 have hle := ok.le
 have hlen := ok.len
 unfold Fz52 rlC
 simp only [List.length_map]
 by_cases h6 : (64 : Int) < (p.Rules.length : Int)
 · simp [h6]
 simp only [h6, decide_false, cond_false, if_false]
 refine (qk p.Rules.length (fun k => ((k : Int), (p.Rules.take k).map fun y => (y.From, y.Goal))) (rlK p) () (fun k hk => ?_) ?_ rfl).trans ?_
 · obtain ⟨x, hx⟩ := zv hk
   have hlt : (k : Int) < (p.Rules.length : Int) := by omega
   have hw : IntKind.wrap .i64 ((k : Int) + 1) = ((k + 1 : Nat) : Int) := w64 (by omega) (by omega)
   have n1 : (0 : Int) <= (k : Int) := by omega
   have e : (p.Rules.take (k + 1)).map (fun y => (y.From, y.Goal)) = (p.Rules.take k).map (fun y => (y.From, y.Goal)) ++ [(x.From, x.Goal)] := by rw [List.take_add_one, hx]; simp
   simp only [hlt, decide_true, cond_true, idxO, n1, if_true, Int.toNat_natCast, hx, Option.bind_some, letO, hw, jP, rlK, e, zq7]
   cases l1 : labB p.Lattice x.From with
   | false => simp
   | true =>
     cases l2 : labB p.Lattice x.Goal with
     | false => simp
     | true =>
       unfold labB at l1 l2
       simp only [Bool.and_eq_true, decide_eq_true_eq] at l1 l2
       obtain ⟨u, hu⟩ := zv (l := p.Lattice.Up) (i := x.Goal.toNat) (by omega)
       have hu' := ok.u8.get hu
       have hb := zrb hu'.1 hu'.2 (b := x.From.toNat) (by omega)
       have n2 : (0 : Int) <= x.Goal := l2.1
       have n3 : (0 : Int) <= x.From := l1.1
       simp only [Bool.not_true, cond_false, n2, if_true, hu, Option.bind_some, zf, n3, hb, yW hu]
       by_cases hfg : x.From = x.Goal
       · simp [hfg]
       cases hbt : Nat.testBit u.toNat x.From.toNat with
       | false => simp [hfg]
       | true =>
         cases (p.Rules.take k).any (uL x) with
         | true => simp [hfg]
         | false =>
           by_cases k2 : x.K < 2
           · simp [hfg, k2]
           · by_cases k4 : 400 < x.K <;> simp [hfg, k2, k4]
 · simp
 · cases scan (rlK p) 0 p.Rules.length <;> rfl
theorem ze1 (p : TP) (h : LatIn p.Lattice) (hk : (latR p.Lattice).2 = 0) : Fz97 p = some (rlC p) := by
 have ok := jM h hk
 have hle := ok.le
 have hlen := ok.len
 unfold Fz97 rlC
 simp only [List.length_map]
 by_cases h6 : (64 : Int) < (p.Rules.length : Int)
 · simp [h6]
 simp only [h6, decide_false, cond_false, if_false]
 refine (qk p.Rules.length (fun k => (k : Int)) (rlK p) () (fun k hk => ?_) ?_ rfl).trans ?_
 · obtain ⟨x, hx⟩ := zv hk
   have hlt : (k : Int) < (p.Rules.length : Int) := by omega
   have hw : IntKind.wrap .i64 ((k : Int) + 1) = ((k + 1 : Nat) : Int) := w64 (by omega) (by omega)
   have n1 : (0 : Int) <= (k : Int) := by omega
   simp only [hlt, decide_true, cond_true, idxO, n1, if_true, Int.toNat_natCast, hx, Option.bind_some, letO, hw, jg, rlK]
   cases l1 : labB p.Lattice x.From with
   | false => simp
   | true =>
     cases l2 : labB p.Lattice x.Goal with
     | false => simp
     | true =>
       unfold labB at l1 l2
       simp only [Bool.and_eq_true, decide_eq_true_eq] at l1 l2
       have hB := ja ok.u8 (a := x.Goal.toNat) (b := x.From.toNat) (by omega) (by omega)
       rw [Int.toNat_of_nonneg l2.1, Int.toNat_of_nonneg l1.1] at hB
       simp only [Bool.not_true, cond_false, if_true, hB, Option.bind_some]
       by_cases hfg : x.From = x.Goal
       · simp [hfg]
       cases hbt : up p.Lattice x.Goal.toNat x.From.toNat with
       | false => simp [hfg]
       | true =>
         simp only [hfg, decide_false, cond_false, Bool.not_true, if_true, if_false]
         refine (qk k (fun j => (j : Int)) (ckK (uL x) (Sum.inr (Sum.inr ((k : Int), (8 : Int)))) p.Rules) () (fun j hj => ?_) ?_ rfl).trans ?_
         · obtain ⟨y, hy⟩ := zv (l := p.Rules) (i := j) (by omega)
           have hlt2 : (j : Int) < (k : Int) := by omega
           have hw2 : IntKind.wrap .i64 ((j : Int) + 1) = ((j + 1 : Nat) : Int) := w64 (by omega) (by omega)
           have n2 : (0 : Int) <= (j : Int) := by omega
           simp only [hlt2, decide_true, cond_true, n2, if_true, Int.toNat_natCast, hy, Option.bind_some, hw2, ckK, uL]
           by_cases c1 : y.From = x.From <;> by_cases c2 : y.Goal = x.Goal <;> simp [c1, c2]
         · simp
         · rw [uq _ _ _ k (by omega)]
           cases (p.Rules.take k).any (uL x) with
           | true => simp
           | false =>
             by_cases k2 : x.K < 2
             · simp [k2]
             · by_cases k4 : 400 < x.K <;> simp [k2, k4]
 · simp
 · cases scan (rlK p) 0 p.Rules.length <;> rfl
end Go.Sx.O
namespace Go.Sx.O
open Go
structure PolIn (p : TP) : Prop where
 lat : LatIn p.Lattice
 chan : ∀ c ∈ p.Channels, c.s_.length <= 1000000
 var : ∀ c ∈ p.Vars, c.Name.length <= 1000000
noncomputable def polC (p : TP) : Int × Int × Int :=
 if (latR p.Lattice).2 = 0 then (if (chC p).2 = 0 then (if (vrC (wS p.Lattice) p).2 = 0 then (if (rlC p).2 = 0 then (0, 0, 0) else (4, rlC p)) else (3, vrC (wS p.Lattice) p)) else (2, chC p)) else (1, latR p.Lattice)
theorem zkd {τ : Type} {P : τ -> Prop} {f : Nat -> Option τ} (hf : ∀ i r, f i = some r -> P r) : ∀ {n k r}, scan f k n = some r -> P r := by
 intro n
 induction n with
 | zero => intro k r h; cases h
 | succ n ih =>
   intro k r h
   simp only [scan] at h
   split at h
   · rename_i b hb; cases h; exact hf _ _ hb
   · exact ih h
theorem zo2 {p : TP} (h : (rlC p).2 = 0) : rlC p = (0, 0) := by
 unfold rlC at h ⊢
 split at h
 · simp at h
 · rename_i h6
   rw [if_neg h6]
   cases e : scan (rlK p) 0 p.Rules.length with
   | none => rfl
   | some r =>
     exfalso
     rw [e] at h
     have := zkd (P := fun r : Int × Int => r.2 ≠ 0) (fun i r hr => by
      unfold rlK at hr
      revert hr
      repeat' split
      all_goals (intro hr; cases hr <;> simp)) e
     exact this h
theorem xK {p : TP} (h : PolIn p) : Fz53 p = some (polC p) := by
 unfold Fz53 polC Fz30
 rw [uw h.lat, zau p h.chan, ze0 (wS p.Lattice) p h.var (fun c _ => zet h.lat _)]
 by_cases hk : (latR p.Lattice).2 = 0
 case neg => simp [hk]
 rw [zdc p h.lat hk]
 by_cases h2 : (chC p).2 = 0
 case neg => simp [hk, h2]
 by_cases h3 : (vrC (wS p.Lattice) p).2 = 0
 case neg => simp [hk, h2, h3]
 by_cases h4 : (rlC p).2 = 0
 case neg => simp [hk, h2, h3, h4]
 simp [hk, h2, h3, zo2 h4]
theorem uj {p : TP} (h : PolIn p) : Fz98 p = some (polC p) := by
 unfold Fz98 polC
 rw [xA p.Lattice h.lat.u8 h.lat.names h.lat.name, <- zbj h.lat, zbw p h.chan, zgh (wS p.Lattice) p h.var (fun c _ => zgg h.lat _)]
 by_cases hk : (latR p.Lattice).2 = 0
 case neg => simp [hk]
 rw [ze1 p h.lat hk]
 by_cases h2 : (chC p).2 = 0
 case neg => simp [hk, h2]
 by_cases h3 : (vrC (wS p.Lattice) p).2 = 0
 case neg => simp [hk, h2, h3]
 by_cases h4 : (rlC p).2 = 0
 case neg => simp [hk, h2, h3, h4]
 simp [hk, h2, h3, h4]
theorem zfh {α : Type} {L : List α} {N : Nat} {c : α -> Bool} (h : (L.take (min L.length N)).any c = false) (hn : L.length <= N) : ∀ x ∈ L, c x = false := by
 rw [Nat.min_eq_left hn, List.take_length] at h
 simpa using h
theorem zjs (L : List (List UInt8)) : ∃ b, Fz0 L = some b /\ (b = false -> L.length <= 12 /\ ∀ s ∈ L, s.length <= 100) := by
 unfold Fz0
 simp only [List.length_map]
 rw [qk (s0 := (0 : Int)) (min L.length 20) (fun k => (k : Int)) (ckK (fun s : List UInt8 => decide ((100 : Int) < (s.length : Int))) true L) () ?_ ?_ rfl, uq _ _ _ _ (by omega)]
 · cases h : (L.take (min L.length 20)).any (fun s => decide ((100 : Int) < (s.length : Int))) with
   | true => exact ⟨true, rfl, fun h => by cases h⟩
   | false =>
     refine ⟨_, rfl, fun h12 => ?_⟩
     have h12 : L.length <= 12 := by simp at h12; omega
     exact ⟨h12, fun s hs => by have := zfh h (by omega) s hs; simp at this; omega⟩
 · intro k hk
   obtain ⟨x, hx⟩ := zv (l := L) (i := k) (by omega)
   have hlt : (k : Int) < (L.length : Int) := by omega
   have hlt2 : (k : Int) < 20 := by omega
   have hw : IntKind.wrap .i64 ((k : Int) + 1) = ((k + 1 : Nat) : Int) := w64 (by omega) (by omega)
   have n1 : (0 : Int) <= (k : Int) := by omega
   simp only [hlt, hlt2, decide_true, cond_true, idxO, n1, if_true, Int.toNat_natCast, hx, letO, hw, ckK]
   by_cases c1 : (100 : Int) < (x.length : Int) <;> simp [c1]
 · by_cases c1 : ((min L.length 20 : Nat) : Int) < (L.length : Int)
   · have c2 : ¬ ((min L.length 20 : Nat) : Int) < 20 := by omega
     simp only [c1, c2, decide_true, decide_false, cond_true, cond_false]
   · simp only [c1, decide_false, cond_false]
theorem zpl (p : TP) (hu : U8s p.Lattice.Up) : ∃ b, Fz2 p = some b /\ (b = false -> PolIn p) := by
 unfold Fz2
 simp only [List.length_map]
 rw [qk (s0 := (0 : Int)) (min p.Channels.length 25) (fun k => (k : Int)) (ckK (fun s : TR => decide ((100 : Int) < (s.s_.length : Int))) true p.Channels) () ?_ ?_ rfl, uq _ _ _ _ (by omega)]
 rotate_left
 · intro k hk
   obtain ⟨x, hx⟩ := zv (l := p.Channels) (i := k) (by omega)
   have hlt : (k : Int) < (p.Channels.length : Int) := by omega
   have hlt2 : (k : Int) < 25 := by omega
   have hw : IntKind.wrap .i64 ((k : Int) + 1) = ((k + 1 : Nat) : Int) := w64 (by omega) (by omega)
   have n1 : (0 : Int) <= (k : Int) := by omega
   simp only [hlt, hlt2, decide_true, cond_true, idxO, n1, if_true, Int.toNat_natCast, hx, letO, hw, ckK]
   by_cases c1 : (100 : Int) < (x.s_.length : Int) <;> simp [c1]
 · by_cases c1 : ((min p.Channels.length 25 : Nat) : Int) < (p.Channels.length : Int)
   · have c2 : ¬ ((min p.Channels.length 25 : Nat) : Int) < 25 := by omega
     simp only [c1, c2, decide_true, decide_false, cond_true, cond_false]
   · simp only [c1, decide_false, cond_false]
 cases hc : (p.Channels.take (min p.Channels.length 25)).any (fun s => decide ((100 : Int) < (s.s_.length : Int))) with
 | true => exact ⟨true, rfl, fun h => by cases h⟩
 | false =>
   simp only [Bool.false_eq_true, if_false]
   rw [qk (s0 := (0 : Int)) (min p.Vars.length 45) (fun k => (k : Int)) (ckK (fun s : TV => decide ((100 : Int) < (s.Name.length : Int))) true p.Vars) () ?_ ?_ rfl, uq _ _ _ _ (by omega)]
   rotate_left
   · intro k hk
     obtain ⟨x, hx⟩ := zv (l := p.Vars) (i := k) (by omega)
     have hlt : (k : Int) < (p.Vars.length : Int) := by omega
     have hlt2 : (k : Int) < 45 := by omega
     have hw : IntKind.wrap .i64 ((k : Int) + 1) = ((k + 1 : Nat) : Int) := w64 (by omega) (by omega)
     have n1 : (0 : Int) <= (k : Int) := by omega
     simp only [hlt, hlt2, decide_true, cond_true, idxO, n1, if_true, Int.toNat_natCast, hx, letO, hw, ckK]
     by_cases c1 : (100 : Int) < (x.Name.length : Int) <;> simp [c1]
   · by_cases c1 : ((min p.Vars.length 45 : Nat) : Int) < (p.Vars.length : Int)
     · have c2 : ¬ ((min p.Vars.length 45 : Nat) : Int) < 45 := by omega
       simp only [c1, c2, decide_true, decide_false, cond_true, cond_false]
     · simp only [c1, decide_false, cond_false]
   cases hv : (p.Vars.take (min p.Vars.length 45)).any (fun s => decide ((100 : Int) < (s.Name.length : Int))) with
   | true => exact ⟨true, rfl, fun h => by cases h⟩
   | false =>
     simp only [Bool.false_eq_true, if_false]
     unfold Fz1
     obtain ⟨b, e, hb⟩ := zjs p.Lattice.Names
     rw [e]
     simp only [Option.bind_some, List.length_map]
     cases b with
     | true => exact ⟨true, rfl, fun h => by cases h⟩
     | false =>
       obtain ⟨hb1, hb2⟩ := hb rfl
       simp only [cond_false, Option.bind_some]
       by_cases h12 : (12 : Int) < (p.Lattice.Up.length : Int)
       · exact ⟨true, by simp [h12], fun h => by cases h⟩
       by_cases h20 : (20 : Int) < (p.Channels.length : Int)
       · exact ⟨true, by simp [h12, h20], fun h => by cases h⟩
       by_cases h40 : (40 : Int) < (p.Vars.length : Int)
       · exact ⟨true, by simp [h12, h20, h40], fun h => by cases h⟩
       simp only [h12, h20, h40, decide_false, cond_false]
       refine ⟨_, rfl, fun _ => ⟨⟨hu, by omega, fun s hs => by have := hb2 s hs; omega⟩, fun c h => ?_, fun c h => ?_⟩⟩
       · have := zfh hc (by omega) c h; simp at this; omega
       · have := zfh hv (by omega) c h; simp at this; omega
end Go.Sx.O
namespace Go.Sx.O
open Go
theorem zk0 {r : Int} {l : Int × Int} (h : shC r l = 0) : 0 <= qS r l /\ qS r l <= 400 := by
 unfold shC at h
 unfold qS
 by_cases r0 : r = 0
 · simp [r0]
 by_cases r1 : r = 1
 · rw [if_neg r0, if_pos r1] at h
   rw [if_neg (by omega), if_pos r1]
   by_cases c1 : l.1 < 0
   · rw [if_pos c1] at h; omega
   rw [if_neg c1] at h
   by_cases c2 : l.2 = 0
   · rw [if_pos c2] at h
     by_cases c3 : 400 < l.1
     · rw [if_pos c3] at h; omega
     · omega
   · rw [if_neg c2] at h; omega
 by_cases r2 : r = 2
 · rw [if_neg r0, if_neg r1, if_pos r2] at h
   rw [if_pos r2]
   by_cases c1 : l.1 < 0
   · rw [if_pos c1] at h; omega
   by_cases c2 : l.2 < 0
   · rw [if_neg c1, if_pos c2] at h; omega
   rw [if_neg c1, if_neg c2] at h
   have := Int.mul_nonneg (a := l.1) (b := l.2) (by omega) (by omega)
   by_cases c3 : 400 < l.1
   · rw [if_pos c3] at h; omega
   by_cases c4 : 400 < l.2
   · rw [if_neg c3, if_pos c4] at h; omega
   by_cases c5 : 400 < l.1 * l.2
   · rw [if_neg c3, if_neg c4, if_pos c5] at h; omega
   · omega
 · rw [if_neg r0, if_neg r1, if_neg r2] at h; omega
theorem zc0 (a : TA) : Fz70 a = some (arrC a) := by
 by_cases hl : a.Cells.length <= 1000000000
 · exact zbt a hl
 unfold Fz70 arrC
 rw [jR]
 simp only [Option.bind_some, List.length_map]
 by_cases hs : shC a.Rank a.Lens = 0
 · have hm := zk0 hs
   have hne : ¬ (a.Cells.length : Int) = qS a.Rank a.Lens := by omega
   simp only [hs, if_true, decide_true, Bool.not_true, cond_false, hne, decide_false, Bool.not_false, cond_true, if_false]
   by_cases k1 : a.Kind = 1 <;> by_cases k2 : a.Kind = 2 <;> simp [k1, k2]
 · simp only [hs, if_false, decide_false, Bool.not_false, cond_true]
   by_cases k1 : a.Kind = 1 <;> by_cases k2 : a.Kind = 2 <;> simp [k1, k2]
theorem zea (a : TA) : xN a = some (arrC a) := by
 by_cases hl : a.Cells.length <= 1000000000
 · exact zcl a hl
 unfold xN arrC
 rw [xB]
 simp only [Option.bind_some, List.length_map]
 have lp0 : ∀ (v : Int), Option.bind (lpO (fun (_ : Unit) => cond (decide ((0 : Int) < (a.Cells.length : Int))) (some (Sum.inr (Sum.inl ()) : Unit ⊕ (Unit ⊕ Int))) (some (Sum.inr (Sum.inl ())))) ()) (Sum.elim (fun _ => some v) some) = some v := by
  intro v
  rw [qg]
  cases decide ((0 : Int) < (a.Cells.length : Int)) <;> rfl
 by_cases hs : shC a.Rank a.Lens = 0
 · have hm := zk0 hs
   have hne : ¬ (a.Cells.length : Int) = qS a.Rank a.Lens := by omega
   simp only [hs, if_true, decide_true, Bool.not_true, cond_false, hne, decide_false, Bool.not_false, cond_true, if_false, lp0]
   by_cases k1 : a.Kind = 1 <;> by_cases k2 : a.Kind = 2 <;> simp [k1, k2]
 · simp only [hs, if_false, decide_false, Bool.not_false, cond_true, cond_false, lp0]
   by_cases k1 : a.Kind = 1 <;> by_cases k2 : a.Kind = 2 <;> simp [k1, k2]
theorem zmc (w : List TW) : ∃ b, Fz3 w = some b /\ (b = false -> w.length <= 40 /\ ∀ x ∈ w, x.Name.length <= 100) := by
 have key : Tot (Fz3 w) fun b => b = false -> w.length <= 40 /\ ∀ x ∈ w, x.Name.length <= 100 := by
  unfold Fz3
  rw [zn]
  refine Tot.count (min w.length 50) (fun k s => s.1 = (k : Int) /\ ∀ x ∈ w.take k, x.Name.length <= 100) ?_ ⟨rfl, by simp⟩
  rintro k ⟨i, n⟩ hk ⟨h0, h1⟩
  simp only at h0
  subst h0
  simp only [zu, zg, zL, zW, Sum.elim_inl, Sum.elim_inr, decide_eq_true_eq, decide_eq_false_iff_not, Int.toNat_natCast, List.length_map]
  refine ⟨fun hlt => ⟨fun h5 => ?_, fun h5 => ?_⟩, fun hge => ?_⟩
  · obtain ⟨x, hx⟩ := zv (l := w) (i := k) (by omega)
    refine ⟨by omega, x, hx, by omega, x, hx, fun hc => ?_, fun hc => ?_⟩
    · intro h; cases h
    · rw [w64 (by omega) (by omega)]
      refine ⟨by omega, by omega, ?_⟩
      rw [List.take_add_one, hx]
      intro y hy
      simp only [List.mem_append, Option.toList_some, List.mem_singleton] at hy
      rcases hy with hy | rfl
      · exact h1 y hy
      · omega
  · refine ⟨fun _ => (fun h => by cases h), fun _ h4 => ?_⟩
    simp at h4
    omega
  · refine ⟨fun _ => (fun h => by cases h), fun _ h4 => ?_⟩
    simp at h4
    have : w.take k = w := List.take_of_length_le (by omega)
    rw [this] at h1
    exact ⟨by omega, h1⟩
 obtain ⟨b, e, h⟩ := key
 exact ⟨b, e, h⟩
noncomputable def fitK (p : TP) (w : List TW) (k : Nat) : Option (Int × Int) := match w[k]?, p.Vars[k]? with
 | some x, some v => if x.Name = v.Name then (if arrC x.Value = 0 then (if x.Value.Kind = v.Type_.Kind then (if x.Value.Rank = v.Type_.Rank then none else some ((k : Int), 22)) else some ((k : Int), 21)) else some ((k : Int), arrC x.Value)) else some ((k : Int), 24)
 | _, _ => none
noncomputable def fitC (p : TP) (w : List TW) : Int × Int := if (polC p).2.2 = 0 then (if w.length = p.Vars.length then (match scan (fitK p w) 0 w.length with | some r => r | none => (0, 0)) else (-1, 3)) else (-1, (polC p).2.2)
theorem ze6 {p : TP} (h : PolIn p) (w : List TW) (hw : w.length <= 1000000) : Fz71 p w = some (fitC p w) := by
 unfold Fz71 fitC
 rw [xK h]
 simp only [Option.bind_some, List.length_map]
 by_cases hk : (polC p).2.2 = 0
 case neg => simp [hk]
 simp only [hk, decide_true, Bool.not_true, cond_false, if_true]
 by_cases hl : w.length = p.Vars.length
 case neg =>
  have : ¬ (w.length : Int) = (p.Vars.length : Int) := by omega
  simp [hl, this]
 have hl' : (w.length : Int) = (p.Vars.length : Int) := by omega
 simp only [hl', hl, decide_true, Bool.not_true, cond_false, if_true]
 refine (qk p.Vars.length (fun k => (k : Int)) (fitK p w) () (fun k hk => ?_) (by simp) rfl).trans ?_
 · obtain ⟨v, hv⟩ := zv hk
   obtain ⟨x, hx⟩ := zv (l := w) (i := k) (by omega)
   have hlt : (k : Int) < (p.Vars.length : Int) := by omega
   have hw : IntKind.wrap .i64 ((k : Int) + 1) = ((k + 1 : Nat) : Int) := w64 (by omega) (by omega)
   have n1 : (0 : Int) <= (k : Int) := by omega
   simp only [hlt, decide_true, cond_true, idxO, n1, if_true, Int.toNat_natCast, hx, hv, Option.bind_some, letO, hw, zc0, fitK]
   by_cases c1 : x.Name = v.Name <;> by_cases c2 : arrC x.Value = 0 <;> by_cases c3 : x.Value.Kind = v.Type_.Kind <;> by_cases c4 : x.Value.Rank = v.Type_.Rank <;> simp [c1, c2, c3, c4]
 · cases scan (fitK p w) 0 p.Vars.length <;> rfl
theorem zgs {p : TP} (h : PolIn p) (w : List TW) (hw : w.length <= 1000000) : zef p w = some (fitC p w) := by
 unfold zef fitC
 rw [uj h]
 simp only [Option.bind_some, List.length_map]
 by_cases hk : (polC p).2.2 = 0
 case neg => simp [hk]
 simp only [hk, decide_true, Bool.not_true, cond_true, cond_false, if_true]
 by_cases hl : w.length = p.Vars.length
 case neg =>
  have : ¬ (w.length : Int) = (p.Vars.length : Int) := by omega
  simp [hl, this]
 have hl' : (w.length : Int) = (p.Vars.length : Int) := by omega
 simp only [hl', hl, decide_true, Bool.not_true, cond_false, if_true]
 refine (qk p.Vars.length (fun k => (k : Int)) (fitK p w) () (fun k hk => ?_) (by simp) rfl).trans ?_
 · obtain ⟨v, hv⟩ := zv hk
   obtain ⟨x, hx⟩ := zv (l := w) (i := k) (by omega)
   have hlt : (k : Int) < (p.Vars.length : Int) := by omega
   have hw : IntKind.wrap .i64 ((k : Int) + 1) = ((k + 1 : Nat) : Int) := w64 (by omega) (by omega)
   have n1 : (0 : Int) <= (k : Int) := by omega
   simp only [hlt, decide_true, cond_true, idxO, n1, if_true, Int.toNat_natCast, hx, hv, Option.bind_some, letO, hw, zea, fitK]
   by_cases c1 : x.Name = v.Name <;> by_cases c2 : arrC x.Value = 0 <;> by_cases c3 : x.Value.Kind = v.Type_.Kind <;> by_cases c4 : x.Value.Rank = v.Type_.Rank <;> simp [c1, c2, c3, c4]
 · cases scan (fitK p w) 0 p.Vars.length <;> rfl
def zA (k r : Int) : TA := TA.mk k r (0, 0) (if r = 0 then [0] else [])
theorem zff {k r : Int} (hk : k = 1 \/ k = 2) (hr : 0 <= r /\ r <= 2) : zeh k r = some (zA k r, 0) := by
 have n1 : ¬ r < 0 := by omega
 have n2 : ¬ 2 < r := by omega
 unfold zeh zA
 by_cases e : r = 0
 · rcases hk with rfl | rfl <;> simp [e]
 · rcases hk with rfl | rfl <;> simp [e, n1, n2]
theorem zgp {k r : Int} (hk : k = 1 \/ k = 2) (hr : 0 <= r /\ r <= 2) : zd2 k r = some (zA k r, 0) := by
 have n1 : ¬ r < 0 := by omega
 have n2 : ¬ 2 < r := by omega
 unfold zd2 zA
 by_cases e : r = 0
 · rcases hk with rfl | rfl <;> simp [e]
 · rcases hk with rfl | rfl <;> simp [e, n1, n2]
theorem zi3 {l : TL} {t : TY} (h : wS l t = 0) : (t.Kind = 1 \/ t.Kind = 2) /\ 0 <= t.Rank /\ t.Rank <= 2 := by
 unfold wS at h
 by_cases hk : (latR l).2 = 0
 case neg => rw [if_neg hk] at h; exact absurd h hk
 rw [if_pos hk] at h
 by_cases k : t.Kind = 1 \/ t.Kind = 2
 case neg => rw [if_neg k] at h; omega
 rw [if_pos k] at h
 unfold wK at h
 by_cases r : t.Rank < 0 \/ 2 < t.Rank
 · rw [if_pos r] at h; omega
 · exact ⟨k, by omega, by omega⟩
theorem zc2 {p : TP} (h : (polC p).2.2 = 0) : p.Vars.length <= 32 /\ ∀ v ∈ p.Vars, wS p.Lattice v.Type_ = 0 := by
 unfold polC at h
 by_cases h1 : (latR p.Lattice).2 = 0
 case neg => rw [if_neg h1] at h; exact absurd h h1
 rw [if_pos h1] at h
 by_cases h2 : (chC p).2 = 0
 case neg => rw [if_neg h2] at h; exact absurd h h2
 rw [if_pos h2] at h
 by_cases h3 : (vrC (wS p.Lattice) p).2 = 0
 case neg => rw [if_neg h3] at h; exact absurd h h3
 unfold vrC at h3
 by_cases h6 : (32 : Int) < (p.Vars.length : Int)
 · rw [if_pos h6] at h3; exact absurd h3 (by decide)
 rw [if_neg h6] at h3
 refine ⟨by omega, fun v hv => ?_⟩
 cases hs : scan (vrK (wS p.Lattice) p) 0 p.Vars.length with
 | some r =>
   rw [hs] at h3
   have : r.2 ≠ 0 := zkd (P := fun r => r.2 ≠ 0) (fun i r hr => by
    unfold vrK at hr
    split at hr
    · split at hr
      · cases hr; assumption
      · split at hr
        · cases hr
        · cases hr; assumption
    · cases hr) hs
   exact absurd h3 this
 | none =>
   obtain ⟨i, hi, e⟩ := List.getElem_of_mem hv
   have := scan_none.1 hs i (by omega) (by omega)
   unfold vrK at this
   rw [List.getElem?_eq_getElem hi, e] at this
   simp only at this
   split at this
   · cases this
   · split at this
     · assumption
     · cases this
def qP (p : TP) : List TW := p.Vars.map fun v => TW.mk v.Name (zA v.Type_.Kind v.Type_.Rank)
noncomputable def jc (p : TP) : List TW × Int := if (polC p).2.2 = 0 then (qP p, 0) else ([], (polC p).2.2)
theorem zep {p : TP} (h : PolIn p) : zdb p = some (jc p) := by
 unfold zdb jc
 rw [xK h]
 simp only [Option.bind_some, List.length_map]
 by_cases hk : (polC p).2.2 = 0
 case neg => simp [hk]
 obtain ⟨hv, hg⟩ := zc2 hk
 simp only [hk, decide_true, Bool.not_true, cond_false, if_true]
 refine (zcd p.Vars.length (fun k => ((k : Int), (qP p).take k)) (qP p) (fun k hkn => ?_) ?_ rfl).trans rfl
 · obtain ⟨v, hx⟩ := zv hkn
   have hlt : (k : Int) < (p.Vars.length : Int) := by omega
   have hw : IntKind.wrap .i64 ((k : Int) + 1) = ((k + 1 : Nat) : Int) := w64 (by omega) (by omega)
   have n1 : (0 : Int) <= (k : Int) := by omega
   obtain ⟨g1, g2⟩ := zi3 (hg v (List.mem_of_getElem? hx))
   have hside : (((qP p).take k).length + 1) * 72 <= 70368744177664 := by simp [qP]; omega
   have ht : (qP p).take (k + 1) = (qP p).take k ++ [TW.mk v.Name (zA v.Type_.Kind v.Type_.Rank)] := by
    rw [List.take_add_one]; simp [qP, hx]
   simp only [hlt, decide_true, cond_true, idxO, n1, if_true, Int.toNat_natCast, hx, Option.bind_some, letO, hw, zff g1 g2, Bool.not_true, cond_false, zf, hside, ht]
 · have hT : (qP p).take p.Vars.length = qP p := List.take_of_length_le (by simp [qP])
   simp [hT]
theorem zgf {p : TP} (h : PolIn p) : zee p = some (jc p) := by
 unfold zee jc
 rw [uj h]
 simp only [Option.bind_some, List.length_map]
 by_cases hk : (polC p).2.2 = 0
 case neg => simp [hk]
 obtain ⟨hv, hg⟩ := zc2 hk
 simp only [hk, decide_true, Bool.not_true, cond_false, if_true]
 refine (zcd p.Vars.length (fun k => ((k : Int), (qP p).take k)) (qP p) (fun k hkn => ?_) ?_ rfl).trans rfl
 · obtain ⟨v, hx⟩ := zv hkn
   have hlt : (k : Int) < (p.Vars.length : Int) := by omega
   have hw : IntKind.wrap .i64 ((k : Int) + 1) = ((k + 1 : Nat) : Int) := w64 (by omega) (by omega)
   have n1 : (0 : Int) <= (k : Int) := by omega
   obtain ⟨g1, g2⟩ := zi3 (hg v (List.mem_of_getElem? hx))
   have hside : (((qP p).take k).length + 1) * 72 <= 70368744177664 := by simp [qP]; omega
   have ht : (qP p).take (k + 1) = (qP p).take k ++ [TW.mk v.Name (zA v.Type_.Kind v.Type_.Rank)] := by
    rw [List.take_add_one]; simp [qP, hx]
   simp only [hlt, decide_true, cond_true, idxO, n1, if_true, Int.toNat_natCast, hx, Option.bind_some, letO, hw, zgp g1 g2, Bool.not_true, cond_false, zf, hside, ht]
 · have hT : (qP p).take p.Vars.length = qP p := List.take_of_length_le (by simp [qP])
   simp [hT]
end Go.Sx.O
namespace Go.Sx.O
open Go
theorem zeb (a b : TA) (h : a.Cells.length <= 1000000000) : Tot (zdh a b) fun r => (r = true ↔ a = b) := by
 unfold zdh zhc
 obtain ⟨k1, r1, ⟨p1, q1⟩, c1⟩ := a
 obtain ⟨k2, r2, ⟨p2, q2⟩, c2⟩ := b
 simp only [TA.mk.injEq, Prod.mk.injEq, List.length_map]
 by_cases e1 : k1 = k2
 case neg => simp [e1, zg]
 by_cases e2 : r1 = r2
 case neg => simp [e1, e2, zg]
 by_cases e3 : p1 = p2
 case neg => simp [e1, e2, e3, zg]
 by_cases e4 : q1 = q2
 case neg => simp [e1, e2, e3, e4, zg]
 by_cases e5 : c1.length = c2.length
 case neg =>
  have e6 : ¬ (c1.length : Int) = c2.length := by omega
  have e7 : c1 ≠ c2 := fun e => e5 (by rw [e])
  simp [e1, e2, e3, e4, e6, e7, zg]
 simp only [e1, e2, e3, e4, e5, decide_true, Bool.not_true, cond_true, cond_false, Bool.and_true, true_and, Option.bind_some, zn, and_self]
 simp only at h
 refine zhw (l := c1) (m := c2) c2.length (fun x y => decide (x = y)) (bad := fun _ => false) (e := ()) (by omega) (Nat.le_refl _) (fun k x y hx hy hk => ?_) (by simp) (fun hall => ?_) (fun k x y hx hy hk e _ => ?_)
 · simp only [Int.ofNat_lt, hk, decide_true, cond_true, idxO, Int.toNat_natCast, hx, hy, Option.bind_some, letO, Int.natCast_nonneg, if_true]
   rw [w64 (by omega) (by omega)]
   by_cases hxy : x = y <;> simp [hxy]
 · have : c1 = c2 := zay e5 fun k x y hx hy hk => by simpa using hall k x y hx hy (by omega)
   simp [this, zg]
 · have : c1 ≠ c2 := by
    rintro rfl
    rw [hx] at hy; cases hy
    simp at e
   simp [this, zg]
theorem zgj (a b : List TW) (h : a.length <= 1000000) (hv : ∀ v ∈ a, v.Value.Cells.length <= 1000000000) : Tot (zbo a b) fun r => (r = true ↔ a = b) := by
 unfold zbo
 simp only [List.length_map]
 by_cases e5 : a.length = b.length
 case neg =>
  have e6 : ¬ (a.length : Int) = b.length := by omega
  have e7 : a ≠ b := fun e => e5 (by rw [e])
  simp [e6, e7, zg]
 simp only [e5, decide_true, Bool.not_true, cond_false, zn]
 open Classical in
 refine zhw (l := a) (m := b) b.length (fun x y => decide (x = y)) (bad := fun _ => false) (e := ()) (by omega) (Nat.le_refl _) (fun k x y hx hy hk => ?_) (by simp) (fun hall => ?_) (fun k x y hx hy hk e _ => ?_)
 · obtain ⟨r, e, hr⟩ := zeb x.Value y.Value (hv x (List.mem_of_getElem? hx))
   simp only [Int.ofNat_lt, hk, decide_true, cond_true, idxO, Int.toNat_natCast, hx, hy, Option.bind_some, letO, Int.natCast_nonneg, if_true, e]
   rw [w64 (by omega) (by omega)]
   obtain ⟨nx, vx⟩ := x
   obtain ⟨ny, vy⟩ := y
   simp only [TW.mk.injEq] at hr ⊢
   by_cases h1 : nx = ny
   · by_cases h2 : vx = vy
     · have : r = true := hr.2 h2
       simp [h1, h2, this]
     · have : r = false := by cases r <;> simp_all
       simp [h1, h2, this]
   · simp [h1]
 · have : a = b := zay e5 fun k x y hx hy hk => by simpa using hall k x y hx hy (by omega)
   simp [this, zg]
 · have : a ≠ b := by
    rintro rfl
    rw [hx] at hy; cases hy
    simp at e
   simp [this, zg]
theorem zjt {p : TP} : ∀ v ∈ qP p, v.Value.Cells.length <= 1 := by
 intro v hv
 unfold qP at hv
 simp only [List.mem_map] at hv
 obtain ⟨x, _, rfl⟩ := hv
 simp only [zA]
 split <;> simp
theorem zsl {l : List Int} (h : allW (inK .u8) l) : U8s l := fun x hx => zsc (h x hx)
theorem zht (p : TP) (w : List TW) (w1 : W_TP p) (_ : allW W_TW w) : zg7 p w = some true := by
 unfold zg7
 obtain ⟨b, hb, hf⟩ := zpl p (zsl w1.Lattice.Up)
 rw [hb]
 cases b with
 | true => rfl
 | false =>
 have hp := hf rfl
 obtain ⟨c, hc, hw⟩ := zmc w
 rw [hc]
 cases c with
 | true => rfl
 | false =>
 obtain ⟨hl, hn⟩ := hw rfl
 rw [ze6 hp w (by omega), zgs hp w (by omega), zep hp, zgf hp]
 have hs : zbo (jc p).1 (jc p).1 = some true := by
  have hcl : (jc p).1.length <= 32 /\ ∀ v ∈ (jc p).1, v.Value.Cells.length <= 1 := by
   unfold jc
   by_cases hk : (polC p).2.2 = 0
   · rw [if_pos hk]
     exact ⟨by have := (zc2 hk).1; simpa [qP] using this, zjt⟩
   · rw [if_neg hk]
     exact ⟨by simp, fun v hv => by simp at hv⟩
  obtain ⟨r, e, hr⟩ := zgj (jc p).1 (jc p).1 (by omega) (fun v hv => by have := hcl.2 v hv; omega)
  rw [e, hr.2 rfl]
 simp [hs]
end Go.Sx.O
