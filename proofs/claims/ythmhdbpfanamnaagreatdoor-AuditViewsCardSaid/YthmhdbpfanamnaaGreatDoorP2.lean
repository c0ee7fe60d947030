/-
  PLAIN LAWS: the lattice's check, exactly; the reference's too: names. An own text.
  PLAIN LAWS: lattice.of, .bound, exactly. An own text.
  PLAIN LAWS: the order's check, exactly, the program's and the reference's. An own text.
  PLAIN LAWS: the reference's check of a lattice, exactly. An own text.
  PLAIN LAWS: lattice.Check and the reference's Check say the same. An own text.
  PLAIN LAWS: lattice.Check, exactly. An own text.
  PLAIN LAWS: the reference's Leq; events that are the same. An own text.
  PLAIN LAWS: lattices: joins, meets, top, bottom. An own text.
  PLAIN LAWS: names, exactly: runes.Class, lexer.Check of a word, prims.Find, expr.Name, on both sides. An own text.
  PLAIN LAWS: expr.Name is the reference's. An own text.
  PLAIN LAWS: arrays.Check is the reference's. An own text.
  PLAIN LAWS: arrays.Check is the reference's, cells. An own text.
  PLAIN LAWS of layer 28: folds, names, values: the program's and the reference's. An own text.
  PLAIN LAWS of layer 28: the sum that stays at the ends; the values of folds. An own text.
  PLAIN LAWS of layer 28: the values of folds; Value. An own text.
  THE LAW ReleaseValues FOR DATA AS THEY COME. An own text.
  PLAIN LAWS of layer 19: labels, channels: the program's and the reference's. An own text.
  PLAIN LAWS of layer 19: variables: the program's and the reference's, where both find types alike good. An own text.
  PLAIN LAWS of layer 3: the bottom that the program finds. An own text.
  PLAIN LAWS of layer 3: the bottom that the reference finds. An own text.
  PLAIN LAWS of layer 18's labels: Check, Flows. An own text.
  PLAIN LAWS of layer 19: Good types: the program's. An own text.
  PLAIN LAWS of layer 19: policy.Good. An own text.
  PLAIN LAWS of layer 19: the reference's Good. An own text.
  PLAIN LAWS of layer 19: the reference's Good; the rules of both. An own text.
  PLAIN LAWS of layer 19: Check, Rule of both; what is not far. An own text.
  PLAIN LAWS of layer 28: Check; the law ReleaseChecks. An own text.
  PLAIN LAWS of layer 30: Check, Below, Agree of both. An own text.
  PLAIN LAWS of layer 30: Below, Agree of both; THE LAW AuditViews. An own text.
  PLAIN LAWS of layer 30: Agree of the reference; equality of logs; THE LAW AuditViews. An own text.
-/
import Derived.Test.YthmhdbpfanamnaaGreatDoorP1
namespace Go.Sx.O
open Go
def xq (ns : List (List UInt8)) (i : Nat) : Option (Int × Int) :=
 if uQ (ns.getD i []) = true then (if ns.getD i [] ∈ ns.take i then some ((i : Int), 8) else none) else some ((i : Int), 6)
def yz (ns : List (List UInt8)) : Int × Int := if ns.length < 1 \/ 8 < ns.length then (-1, 3) else (scan (xq ns) 0 ns.length).getD (0, 0)
theorem yf {α : Type} {l : List α} {i : Nat} {d x : α} (h : l[i]? = some x) : l.getD i d = x := by rw [List.getD_eq_getElem?_getD, h]; rfl
theorem zoe (ns : List (List UInt8)) (h : ns.length <= 20) (hn : ∀ s ∈ ns, s.length <= 1000) : Fz24 ns = some (yz ns) := by
 unfold Fz24 yz
 simp only [List.length_map]
 by_cases h1 : ns.length < 1
 · have : (ns.length : Int) < 1 := by omega
   simp [h1, this]
 by_cases h2 : 8 < ns.length
 · have : (8 : Int) < ns.length := by omega
   have g1 : ¬ (ns.length : Int) < 1 := by omega
   simp [h2, this, g1]
 have g1 : ¬ (ns.length : Int) < 1 := by omega
 have g2 : ¬ (8 : Int) < ns.length := by omega
 simp only [g1, g2, h1, h2, decide_false, cond_false, or_self, if_false]
 rw [qS ns.length (xq ns) () (fun k hk => ?_) (by simp)]
 · cases scan (xq ns) 0 ns.length <;> rfl
 · obtain ⟨x, hx⟩ := zv (l := ns) (i := k) hk
   have hxl := hn x (List.mem_of_getElem? hx)
   simp only [Int.ofNat_lt, hk, decide_true, cond_true, idxO, Int.toNat_natCast, hx, Option.bind_some, letO, Int.natCast_nonneg, if_true]
   rw [zf2 x (by omega), yR _ _ (by simp; omega)]
   unfold xq
   rw [yf hx, w64 (by omega) (by omega)]
   cases e : uQ x with
   | false => simp
   | true =>
     have hk' : k <= ns.length := by omega
     simp only [Option.bind_some, Bool.not_true, cond_false, Int.toNat_zero, List.drop_zero, if_true]
     by_cases hm : x ∈ ns.take k
     · simp [hm, zk, hk']
     · simp [hm, zk, hk']
theorem zdm (c : UInt8) : Fz59 (c.toNat : Int) = some (decide (97 <= c.toNat) && decide (c.toNat <= 122)) := by
 unfold Fz59
 by_cases h : (97 : Int) <= c.toNat
 · have : 97 <= c.toNat := by omega
   simp only [h, this, decide_true, cond_true, Bool.true_and]
   congr 1
   rw [Bool.eq_iff_iff]; simp; omega
 · have : ¬ 97 <= c.toNat := by omega
   simp only [h, this, decide_false, cond_false, Bool.false_and]
theorem zk2 (c : UInt8) : Fz60 (c.toNat : Int) = some (decide (48 <= c.toNat) && decide (c.toNat <= 57)) := by
 unfold Fz60
 by_cases h : (48 : Int) <= c.toNat
 · have : 48 <= c.toNat := by omega
   simp only [h, this, decide_true, cond_true, Bool.true_and]
   congr 1
   rw [Bool.eq_iff_iff]; simp; omega
 · have : ¬ 48 <= c.toNat := by omega
   simp only [h, this, decide_false, cond_false, Bool.false_and]
theorem zl5 (c : UInt8) : decide (c ∈ yj) = (decide (97 <= c.toNat) && decide (c.toNat <= 122) || (decide (48 <= c.toNat) && decide (c.toNat <= 57)) || decide (c.toNat = 45)) := by
 have key : ∀ n : Fin 256, decide (UInt8.ofNat n ∈ yj) = (decide (97 <= n.val) && decide (n.val <= 122) || (decide (48 <= n.val) && decide (n.val <= 57)) || decide (n.val = 45)) := by decide +kernel
 have := key ⟨c.toNat, c.toNat_lt⟩
 simpa using this
theorem zf8 (s : List UInt8) (h : s.length <= 1000000000) : Fz61 s = some (uQ s) := by
 unfold Fz61
 cases s with
 | nil => rfl
 | cons a r =>
   have g1 : ¬ ((a :: r).length : Int) < 1 := by simp; omega
   simp only [g1, decide_false, cond_false]
   unfold uQ
   by_cases h1 : (16 : Int) < ((a :: r).length : Int)
   · have : ¬ (a :: r).length <= 16 := by omega
     simp only [h1, decide_true, cond_true, this, decide_false, Bool.false_and]
   have h1' : (a :: r).length <= 16 := by omega
   have e5 : idxO (a :: r) 0 = fun f => (f a : Option Bool) := rfl
   simp only [h1, decide_false, cond_false, h1', decide_true, Bool.true_and, e5, zdm, Option.bind_some]
   cases e : (decide (97 <= a.toNat) && decide (a.toNat <= 122)) with
   | false => rfl
   | true =>
     simp only [Bool.not_true, cond_false, Bool.true_and]
     generalize a :: r = s at *
     rw [qS s.length (fun k => if decide (s.getD k 0 ∈ yj) = true then none else some false) () (fun k hk => ?_) (by simp)]
     · cases hs : scan (fun k => if decide (s.getD k 0 ∈ yj) = true then none else some false) 0 s.length with
       | none =>
         have := scan_none.1 hs
         simp only
         congr 1
         symm
         rw [List.all_eq_true]
         intro c hc
         obtain ⟨i, hi, rfl⟩ := List.getElem_of_mem hc
         have := this i (by omega) (by omega)
         rw [yf (List.getElem?_eq_getElem hi)] at this
         split at this
         · assumption
         · cases this
       | some b =>
         simp only
         congr 1
         have hall : ¬ s.all (fun c => decide (c ∈ yj)) = true := by
          intro hall
          rw [List.all_eq_true] at hall
          have : scan (fun k => if decide (s.getD k 0 ∈ yj) = true then none else some false) 0 s.length = none := scan_none.2 fun i _ hi => by
           have hi' : i < s.length := by omega
           rw [yf (List.getElem?_eq_getElem hi'), if_pos (hall _ (List.getElem_mem hi'))]
          rw [this] at hs; cases hs
         have hb : b = false := by
          have key : ∀ {j k : Nat}, scan (fun k => if decide (s.getD k 0 ∈ yj) = true then none else some false) k j = some b -> b = false := by
           intro j
           induction j with
           | zero => intro k h; cases h
           | succ j ih =>
             intro k h
             simp only [scan] at h
             split at h
             · rename_i r hr
               cases h
               split at hr
               · cases hr
               · cases hr; rfl
             · exact ih h
          exact key hs
         rw [hb]
         cases e : s.all (fun c => decide (c ∈ yj)) with
         | false => rfl
         | true => exact absurd e hall
     · obtain ⟨x, hx⟩ := zv (l := s) (i := k) hk
       simp only [Int.ofNat_lt, hk, decide_true, cond_true, idxO, Int.toNat_natCast, hx, Option.bind_some, letO, Int.natCast_nonneg, if_true, zdm, zk2]
       rw [yf hx, w64 (by omega) (by omega), zl5]
       cases (decide (97 <= x.toNat) && decide (x.toNat <= 122)) with
       | true => simp
       | false =>
         cases (decide (48 <= x.toNat) && decide (x.toNat <= 57)) with
         | true => simp
         | false =>
           by_cases h45 : x.toNat = 45
           · simp [h45]
           · have : ¬ (x.toNat : Int) = 45 := by omega
             simp [h45, this]
theorem zib (ns : List (List UInt8)) (h : ns.length <= 20) (hn : ∀ s ∈ ns, s.length <= 1000) : Fz62 ns = some (yz ns) := by
 unfold Fz62 yz
 simp only [List.length_map]
 by_cases h1 : ns.length < 1
 · have : (ns.length : Int) < 1 := by omega
   simp [h1, this]
 by_cases h2 : 8 < ns.length
 · have : (8 : Int) < ns.length := by omega
   have g1 : ¬ (ns.length : Int) < 1 := by omega
   simp [h2, this, g1]
 have g1 : ¬ (ns.length : Int) < 1 := by omega
 have g2 : ¬ (8 : Int) < ns.length := by omega
 simp only [g1, g2, h1, h2, decide_false, cond_false, or_self, if_false]
 rw [qS ns.length (xq ns) () (fun k hk => ?_) (by simp)]
 · cases scan (xq ns) 0 ns.length <;> rfl
 · obtain ⟨x, hx⟩ := zv (l := ns) (i := k) hk
   have hxl := hn x (List.mem_of_getElem? hx)
   simp only [Int.ofNat_lt, hk, decide_true, cond_true, idxO, Int.toNat_natCast, hx, Option.bind_some, Int.natCast_nonneg, if_true]
   rw [zf8 x (by omega)]
   unfold xq
   rw [yf hx]
   cases e : uQ x with
   | false => simp
   | true =>
     simp only [Option.bind_some, Bool.not_true, cond_false, if_true]
     rw [qS k (fun j => if ns.getD j [] = x then some (.inr (.inr ((k : Int), (8 : Int)))) else none) () (fun j hj => ?_) (by simp)]
     · by_cases hm : x ∈ ns.take k
       · obtain ⟨j, hj, rfl⟩ := List.getElem_of_mem hm
         have hj' : j < k /\ j < ns.length := by simp at hj; omega
         cases hs : scan (fun i => if ns.getD i [] = (ns.take k)[j] then some ((.inr (.inr ((k : Int), (8 : Int)))) : Int ⊕ (Unit ⊕ (Int × Int))) else none) 0 k with
         | none =>
           have := scan_none.1 hs j (by omega) (by omega)
           rw [yf (List.getElem?_eq_getElem hj'.2)] at this
           simp at this
         | some b =>
           have : b = .inr (.inr ((k : Int), (8 : Int))) := xw (fun i => by split <;> simp) hs
           rw [this, if_pos hm]
       · have : scan (fun j => if ns.getD j [] = x then some ((.inr (.inr ((k : Int), (8 : Int)))) : Int ⊕ (Unit ⊕ (Int × Int))) else none) 0 k = none := scan_none.2 fun i _ hi => by
          have hi' : i < ns.length := by omega
          rw [yf (List.getElem?_eq_getElem hi'), if_neg]
          rintro rfl
          exact hm (List.mem_iff_getElem.2 ⟨i, by simp; omega, by simp⟩)
         rw [this]
         simp only [hm, if_false, letO]
         rw [w64 (by omega) (by omega)]
     · obtain ⟨y, hy⟩ := zv (l := ns) (i := j) (by omega)
       simp only [Int.ofNat_lt, hj, decide_true, cond_true, idxO, Int.toNat_natCast, hy, Option.bind_some, letO, Int.natCast_nonneg, if_true, hx]
       rw [yf hy, w64 (by omega) (by omega)]
       by_cases hxy : y = x
       · simp [hxy]
       · simp [hxy]
end Go.Sx.O
namespace Go.Sx.O
open Go
def dn (l : TL) (b : Nat) : Nat -> Nat
 | 0 => 0
 | k + 1 => dn l b k ||| (if up l k b = true then 2 ^ k else 0)
theorem zhv (l : TL) (b : Nat) : ∀ (k i : Nat), (dn l b k).testBit i = (decide (i < k) && up l i b)
 | 0, i => by simp [dn]
 | k + 1, i => by
   simp only [dn, Nat.testBit_or, zhv l b k i]
   by_cases h : up l k b = true
   · simp only [h, if_true, Nat.testBit_two_pow]
     by_cases hik : i = k
     · subst hik; simp [h]
     · have h1 : ¬ k = i := fun e => hik e.symm
       have h2 : (i < k + 1) = (i < k) := by simp; omega
       simp [h1, h2]
   · simp only [h, if_false, Nat.zero_testBit, Bool.or_false]
     by_cases hik : i = k
     · subst hik; simp [h]
     · have h2 : (i < k + 1) = (i < k) := by simp; omega
       simp [h2]
theorem zpm (l : TL) (b : Nat) : ∀ k : Nat, dn l b k < 2 ^ k
 | 0 => by simp [dn]
 | k + 1 => by
   simp only [dn]
   refine Nat.or_lt_two_pow (Nat.lt_of_lt_of_le (zpm l b k) (Nat.pow_le_pow_right (by omega) (by omega))) ?_
   split
   · exact Nat.pow_lt_pow_right (by omega) (by omega)
   · exact Nat.two_pow_pos _
theorem zd8 (l : TL) (b : Nat) {k : Nat} (h : k <= 8) : dn l b k < 256 := Nat.lt_of_lt_of_le (zpm l b k) (Nat.pow_le_pow_right (n := 2) (by omega) h)
theorem zju {c : Bool} {k : Nat} (h : k < 8) : IntKind.wrap .u8 ((if c = true then (1 : Int) else 0) * 2 ^ min k (IntKind.bits .u8)) = ((if c = true then 2 ^ k else 0 : Nat) : Int) := by
 have key : ∀ (c : Bool) (k : Fin 8), IntKind.wrap .u8 ((if c = true then (1 : Int) else 0) * 2 ^ min k.val (IntKind.bits .u8)) = ((if c = true then 2 ^ k.val else 0 : Nat) : Int) := by decide +kernel
 exact key c ⟨k, h⟩
theorem zm4 {a b : Nat} (ha : a < 256) (hb : b < 256) : bits .or .u8 (a : Int) (b : Int) = ((a ||| b : Nat) : Int) := by
 rw [zj1 (by omega) (by omega) (by omega) (by omega)]; rfl
theorem zkp {a b : Nat} (ha : a < 256) (hb : b < 256) : bits .and .u8 (a : Int) (b : Int) = ((a &&& b : Nat) : Int) := by
 rw [uW (by omega) (by omega) (by omega) (by omega)]; rfl
theorem zsq {c : Bool} {k : Nat} (h : k < 8) : (if c = true then 2 ^ k else 0) < 256 := by
 split
 · exact Nat.lt_of_lt_of_le (Nat.pow_lt_pow_right (a := 2) (by omega) h) (by omega)
 · omega
theorem zew {α : Type} {l : List α} {i j : Nat} {x : α} (h : i < l.length) : (l.set i x)[j]? = if i = j then some x else l[j]? := by
 rw [List.getElem?_set]
 split
 · simp [h]
 · rfl
theorem zhi (l : TL) (hu : U8s l.Up) (hn : l.Names.length <= 8) (hl : l.Up.length = l.Names.length) :
 Tot (Fz26 l) fun o => o.n_ = l.Names.length /\ o.up_.length = 8 /\ o.down_.length = 8 /\ (∀ j, j < l.Names.length -> o.up_[j]? = l.Up[j]?) /\ ∀ b, b < l.Names.length -> o.down_[b]? = some (dn l b l.Names.length : Int) := by
 unfold Fz26
 simp only [zq, List.length_map]
 refine Tot.count l.Up.length (fun k s => s.1 = (k : Int) /\ s.2.1.length = 8 /\ s.2.2.length = 8 /\ (∀ j, j < k -> s.2.1[j]? = l.Up[j]?) /\ ∀ b, b < l.Names.length -> s.2.2[b]? = some (dn l b k : Int)) ?_ ⟨rfl, rfl, rfl, fun j hj => absurd hj (by omega), fun b hb => ?_⟩
 · rintro k ⟨i, up', down⟩ hk ⟨h0, h1, h2, h3, h4⟩
   simp only at h0 h1 h2 h3 h4
   subst h0
   simp only [zn, zw, zS, qc, ql, zq, Sum.elim_inl, Sum.elim_inr, decide_eq_true_eq, decide_eq_false_iff_not, Int.toNat_natCast]
   refine ⟨fun hlt => ?_, fun hlt => ?_⟩
   · obtain ⟨x, hx⟩ := zv (l := l.Up) (i := k) (by omega)
     obtain ⟨y, hy⟩ := zv (l := up') (i := k) (by omega)
     refine ⟨by omega, x, hx, ⟨by omega, by omega⟩, by omega, y, hy, ?_⟩
     have hx' := hu.get hx
     refine Tot.count l.Names.length (fun j s => s.1 = (j : Int) /\ s.2.length = 8 /\ ∀ b, b < l.Names.length -> s.2[b]? = some (dn l b (if b < j then k + 1 else k) : Int)) ?_ ⟨rfl, h2, fun b hb => by simpa using h4 b hb⟩
     rintro j ⟨i', d⟩ hj ⟨g0, g1, g2⟩
     simp only at g0 g1 g2
     subst g0
     simp only [zn, zw, zS, qc, ql, zq, Sum.elim_inl, Sum.elim_inr, decide_eq_true_eq, decide_eq_false_iff_not, Int.toNat_natCast]
     refine ⟨fun hlt' => ?_, fun hlt' => ?_⟩
     · have hz := g2 j (by omega)
       rw [if_neg (by omega)] at hz
       rw [w64 (by omega) (by omega)]
       refine ⟨⟨by omega, by omega⟩, by omega, _, hz, by omega, by omega, ⟨by omega, by omega⟩, by omega, _, hz, by omega, by omega, by simpa using g1, fun b hb => ?_⟩
       rw [zew (by omega)]
       by_cases hjb : j = b
       · subst hjb
         rw [if_pos rfl, if_pos (by omega), uH hx'.1 hx'.2 (by omega), <- yI hx, zju (by omega), zm4 (zd8 l j (by omega)) (zsq (by omega))]
         rfl
       · rw [if_neg hjb, g2 b hb]
         have : (b < j + 1) = (b < j) := by simp; omega
         simp only [this]
     · rw [w64 (by omega) (by omega)]
       refine ⟨by omega, by omega, by simpa using h1, g1, fun q hq => ?_, fun b hb => ?_⟩
       · rw [zew (by omega)]
         by_cases hkq : k = q
         · subst hkq; rw [if_pos rfl, hx]
         · rw [if_neg hkq]; exact h3 q (by omega)
       · rw [g2 b hb, if_pos (by omega)]
   · have hkn : k = l.Names.length := by omega
     subst hkn
     exact ⟨trivial, h1, h2, h3, h4⟩
 · have h8 : ∀ b : Fin 8, ([0, 0, 0, 0, 0, 0, 0, 0] : List Int)[b.val]? = some 0 := by decide
   exact h8 ⟨b, by omega⟩
theorem wB {ρ : Type} {p : Prop} [Decidable p] {x : Option ρ} (h : p) : zk p x = x := by unfold zk; rw [if_pos h]
def bnd (g : Nat -> Nat) (n a b : Nat) : Option Nat := scan (fun c => if g c = g a &&& g b then some c else none) 0 n
def bndI (g : Nat -> Nat) (n a b : Nat) : Int := match bnd g n a b with | some c => c | none => -1
theorem zb1 (m : List Int) (g : Nat -> Nat) (n a b : Nat) (hn : n <= 8) (hg : ∀ c, c < n -> m[c]? = some (g c : Int)) (hg8 : ∀ c, c < n -> g c < 256) (hs : ∀ c, c < n -> (g c).testBit c = true) (ha : a < n) (hb : b < n) :
 Fz27 m n a b = some (bndI g n a b) := by
 unfold Fz27 bndI bnd
 have s1 : ((0 : Int) <= (a : Int) /\ (a : Int) < ((8 : Nat) : Int)) := by omega
 have s2 : ((0 : Int) <= (b : Int) /\ (b : Int) < ((8 : Nat) : Int)) := by omega
 simp only [wB s1, wB s2]
 simp only [idxO, Int.toNat_natCast, Int.natCast_nonneg, if_true, hg a ha, hg b hb, Option.bind_some, zkp (hg8 a ha) (hg8 b hb)]
 have h8 : g a &&& g b < 256 := za0 (hg8 a ha)
 generalize g a &&& g b = both at *
 rw [qS n (fun c => if g c = both then some (c : Int) else none) () (fun c hc => ?_) (by simp)]
 · have e : (fun c => if g c = both then some (c : Int) else none) = fun c => (if g c = both then some c else none).map (fun c : Nat => (c : Int)) := by
    funext c; split <;> rfl
   rw [e, wK]
   cases scan (fun c => if g c = both then some c else none) 0 n <;> rfl
 · have s3 : ((0 : Int) <= (c : Int) /\ (c : Int) < ((8 : Nat) : Int)) := by omega
   simp only [wB s3]
   simp only [Int.ofNat_lt, hc, decide_true, cond_true, zk, Int.natCast_nonneg, if_true, hg c hc, Option.bind_some, letO]
   rw [w64 (by omega) (by omega), uH (by omega) (by omega) (by omega)]
   simp only [Int.toNat_natCast]
   by_cases hbc : both.testBit c = true
   · simp only [hbc, if_true, decide_true, cond_true]
     rw [hg c hc]
     by_cases hgc : g c = both
     · simp [hgc]
     · have : ¬ (g c : Int) = (both : Int) := by omega
       simp [hgc, this]
   · have : g c ≠ both := fun e => hbc (e ▸ hs c hc)
     simp [hbc, this]
theorem jS (m : List Int) (g : Nat -> Nat) (a b : Nat) (hn : m.length <= 8) (hg : ∀ c, c < m.length -> m[c]? = some (g c : Int)) (hg8 : ∀ c, c < m.length -> g c < 256) (ha : a < m.length) (hb : b < m.length) :
 Fz66 m a b = some (bndI g m.length a b) := by
 unfold Fz66 bndI bnd
 simp only [idxO, Int.toNat_natCast, Int.natCast_nonneg, if_true, hg a ha, hg b hb, Option.bind_some, zkp (hg8 a ha) (hg8 b hb), List.length_map]
 have h8 : g a &&& g b < 256 := za0 (hg8 a ha)
 generalize g a &&& g b = both at *
 rw [qS m.length (fun c => if g c = both then some (c : Int) else none) () (fun c hc => ?_) (by simp)]
 · have e : (fun c => if g c = both then some (c : Int) else none) = fun c => (if g c = both then some c else none).map (fun c : Nat => (c : Int)) := by
    funext c; split <;> rfl
   rw [e, wK]
   cases scan (fun c => if g c = both then some c else none) 0 m.length <;> rfl
 · simp only [Int.ofNat_lt, hc, decide_true, cond_true, hg c hc, Option.bind_some, letO]
   rw [w64 (by omega) (by omega), Int.toNat_natCast, if_pos (by omega), hg c hc]
   by_cases hgc : g c = both
   · simp [hgc]
   · have : ¬ (g c : Int) = (both : Int) := by omega
     simp [hgc, this]
end Go.Sx.O
namespace Go.Sx.O
open Go
def upN (l : TL) (a : Nat) : Nat := (l.Up.getD a 0).toNat
def ordB (l : TL) (a b : Nat) : Bool := !up l a b || ((decide (b = a) || !up l b a) && (List.range l.Names.length).all fun i => !up l b i || up l a i)
def ordA (l : TL) (a : Nat) : Bool := decide (upN l a < 2 ^ l.Names.length) && up l a a && (List.range l.Names.length).all fun b => ordB l a b
def dnN (l : TL) (b : Nat) : Nat := dn l b l.Names.length
def we (l : TL) (a b : Nat) : Bool := (bnd (upN l) l.Names.length a b).isNone || (bnd (dnN l) l.Names.length a b).isNone
def latC (l : TL) : Int × Int :=
 if (yz l.Names).2 = 0 then
  if l.Up.length = l.Names.length then
   match scan (fun a => if ordA l a = true then none else some ((a : Int), (6 : Int))) 0 l.Names.length with
   | some r => r
   | none => (scan (fun a => scan (fun b => if we l a b = true then some ((a : Int), (4 : Int)) else none) 0 l.Names.length) 0 l.Names.length).getD (0, 0)
  else (-1, 6)
 else yz l.Names
theorem zku {α : Type} {p : Nat -> Bool} {v : α} : ∀ {j k : Nat}, scan (fun i => if p i = true then none else some v) k j = if (List.range j).all (fun i => p (k + i)) = true then none else some v
 | 0, _ => by simp [scan]
 | j + 1, k => by
   simp only [scan, zku (j := j) (k := k + 1)]
   have e : (List.range (j + 1)).all (fun i => p (k + i)) = (p k && (List.range j).all fun i => p (k + 1 + i)) := by
    rw [List.range_succ_eq_map, List.all_cons, List.all_map]
    congr 1
    congr 1
    funext i
    simp only [Function.comp]
    congr 1; omega
   rw [e]
   cases p k <;> simp
theorem zfk {α : Type} {p : Nat -> Bool} {u v : α} {n : Nat} : ∀ {j k : Nat}, k + j = n -> 0 < j -> scan (fun i => if p i = true then (if i + 1 = n then some u else none) else some v) k j = some (if (List.range j).all (fun i => p (k + i)) = true then u else v)
 | 0, _, _, h => by omega
 | j + 1, k, hk, _ => by
   have e : (List.range (j + 1)).all (fun i => p (k + i)) = (p k && (List.range j).all fun i => p (k + 1 + i)) := by
    rw [List.range_succ_eq_map, List.all_cons, List.all_map]
    congr 1
    congr 1
    funext i
    simp only [Function.comp]
    congr 1; omega
   rw [e]
   simp only [scan]
   cases hp : p k with
   | false => simp
   | true =>
     simp only [if_true, Bool.true_and]
     by_cases hj : j = 0
     · subst hj
       have : k + 1 = n := by omega
       simp [this]
     · have : ¬ k + 1 = n := by omega
       simp only [this, if_false]
       exact zfk (by omega) (by omega)
theorem zly (x : Int) (h0 : 0 <= x) (h1 : x < 256) : Tot (Fz25 x) fun y => ∀ n : Nat, n <= 8 -> decide ((n : Int) < y) = !decide (x.toNat < 2 ^ n) := by
 unfold Fz25
 rw [qc]
 refine ⟨h0, ?_⟩
 have key : ∀ l : List UInt8, (∀ x : Fin 256, ∀ n : Fin 9, (l[x.val]?.map fun y => decide ((n.val : Int) < IntKind.wrap .i64 (y.toNat : Int))) = some (!decide (x.val < 2 ^ n.val))) ->
  ∃ y, l[x.toNat]? = some y /\ Tot (letO (IntKind.wrap .i64 (y.toNat : Int)) fun z => some z) fun y => ∀ n : Nat, n <= 8 -> decide ((n : Int) < y) = !decide (x.toNat < 2 ^ n) := by
  intro l hl
  cases e : l[x.toNat]? with
  | none =>
    have := hl ⟨x.toNat, by omega⟩ ⟨0, by omega⟩
    simp only [e] at this
    cases this
  | some y =>
    refine ⟨y, rfl, .mk fun n hn => ?_⟩
    have := hl ⟨x.toNat, by omega⟩ ⟨n, by omega⟩
    simp only [e] at this
    exact Option.some.inj this
 exact key _ (by decide +kernel)
theorem yh {l : TL} (hu : U8s l.Up) {a b : Nat} (ha : a < l.Up.length) (hb : b <= 8) : Fz63 l a b = some (up l a b) := by
 unfold Fz63
 obtain ⟨x, hx⟩ := zv ha
 have hx' := hu.get hx
 have key : ∀ u : Fin 256, ∀ b : Fin 9, decide (Int.tmod (Int.fdiv (u.val : Int) (2 ^ min b.val (IntKind.bits .u8))) 2 = 1) = Nat.testBit u b := by decide +kernel
 have := key ⟨x.toNat, by omega⟩ ⟨b, by omega⟩
 simp only [Int.toNat_of_nonneg hx'.1] at this
 simp only [List.length_map, Int.natCast_nonneg, decide_true, cond_true, Int.ofNat_lt, ha, idxO, Int.toNat_natCast, if_true, hx, Option.bind_some, zk, this, yI hx]
theorem zau {n : Nat} (h : n < 1000000) : IntKind.wrap .i64 (n : Int) = n := w64 (by omega) (by omega)
theorem zkx (n : Nat) : BitVec.ofInt 64 (n : Int) = BitVec.ofNat 64 n := BitVec.ofInt_natCast 64 n
theorem zkd {a b : Nat} (ha : a < 1000000) (hb : b < 1000000) : bits .and .i64 (a : Int) (b : Int) = ((a &&& b : Nat) : Int) := by
 have e : bits .and .i64 (a : Int) (b : Int) = IntKind.wrap .i64 ((BitVec.ofInt 64 (a : Int) &&& BitVec.ofInt 64 (b : Int)).toNat : Int) := rfl
 rw [e, zkx, zkx, BitVec.toNat_and, BitVec.toNat_ofNat, BitVec.toNat_ofNat, Nat.mod_eq_of_lt (by omega), Nat.mod_eq_of_lt (by omega)]
 exact zau (Nat.lt_of_le_of_lt Nat.and_le_left ha)
theorem zov {x y n : Nat} : ((y &&& (2 ^ n - 1)) &&& x = y &&& (2 ^ n - 1)) ↔ ((List.range n).all fun i => !y.testBit i || x.testBit i) = true := by
 rw [List.all_eq_true]
 constructor
 · intro h i hi
   have hi' : i < n := by simpa using hi
   have := congrArg (fun z => z.testBit i) h
   simp only [Nat.testBit_and, Nat.testBit_two_pow_sub_one, hi', decide_true, Bool.and_true] at this
   cases e : y.testBit i with
   | false => rfl
   | true => rw [e] at this; simpa using this
 · intro h
   apply Nat.eq_of_testBit_eq
   intro i
   simp only [Nat.testBit_and, Nat.testBit_two_pow_sub_one]
   by_cases hi : i < n
   · have := h i (by simpa using hi)
     simp only [hi, decide_true, Bool.and_true]
     cases e : y.testBit i with
     | false => rfl
     | true => rw [e] at this; simpa using this
   · simp [hi]
end Go.Sx.O
namespace Go.Sx.O
open Go
theorem zm6 {l : TL} {a : Nat} {x : Int} (h : l.Up[a]? = some x) : upN l a = x.toNat := by unfold upN; rw [yf h]
theorem zbg {l : TL} {a b : Nat} : (upN l a).testBit b = up l a b := rfl
theorem ui {l : TL} (hu : U8s l.Up) {a : Nat} (ha : a < l.Up.length) : upN l a < 256 := by
 obtain ⟨x, hx⟩ := zv ha
 have := hu.get hx
 rw [zm6 hx]; omega
theorem xk {l : TL} (hu : U8s l.Up) {a : Nat} (ha : a < l.Up.length) : l.Up[a]? = some (upN l a : Int) := by
 obtain ⟨x, hx⟩ := zv ha
 have := hu.get hx
 rw [hx, zm6 hx, Int.toNat_of_nonneg this.1]
theorem zh3 {l : TL} (hu : U8s l.Up) (h8 : l.Names.length <= 8) (hl : l.Up.length = l.Names.length) {a : Nat} (ha : a < l.Names.length) : Fz64 l a = some (ordA l a) := by
 unfold Fz64 ordA
 have g0 : ((0 : Int) <= (l.Names.length : Int)) := by omega
 have hb := fun b (hb : b < l.Names.length) => yh hu (a := a) (b := b) (by omega) (by omega)
 have hxa := xk hu (a := a) (by omega)
 have hlt := ui hu (a := a) (by omega)
 have sh : decide ((0 : Int) < Int.fdiv (upN l a : Int) (2 ^ min l.Names.length (IntKind.bits .i64))) = !decide (upN l a < 2 ^ l.Names.length) := by
  have key : ∀ u : Fin 256, ∀ n : Fin 9, decide ((0 : Int) < Int.fdiv (u.val : Int) (2 ^ min n.val (IntKind.bits .i64))) = !decide (u.val < 2 ^ n.val) := by decide +kernel
  exact key ⟨upN l a, hlt⟩ ⟨l.Names.length, by omega⟩
 have mk : IntKind.wrap .i64 (IntKind.wrap .i64 (1 * 2 ^ min l.Names.length (IntKind.bits .i64)) - 1) = ((2 ^ l.Names.length - 1 : Nat) : Int) := by
  have key : ∀ n : Fin 9, IntKind.wrap .i64 (IntKind.wrap .i64 (1 * 2 ^ min n.val (IntKind.bits .i64)) - 1) = ((2 ^ n.val - 1 : Nat) : Int) := by decide +kernel
  exact key ⟨l.Names.length, by omega⟩
 have mk' : 2 ^ l.Names.length - 1 < 1000000 := by
  have : 2 ^ l.Names.length <= 2 ^ 8 := Nat.pow_le_pow_right (by omega) h8
  omega
 simp only [List.length_map, wB g0, Int.toNat_natCast]
 simp only [idxO, Int.toNat_natCast, Int.natCast_nonneg, if_true, hxa, Option.bind_some, letO]
 rw [zau (by omega), sh, hb a ha, mk]
 cases e1 : decide (upN l a < 2 ^ l.Names.length) with
 | false => simp
 | true =>
   simp only [Bool.not_true, cond_false, Bool.true_and, Option.bind_some]
   cases e2 : up l a a with
   | false => simp
   | true =>
     simp only [Bool.not_true, cond_false, Bool.true_and]
     rw [qS l.Names.length (fun b => if ordB l a b = true then none else some false) () (fun b hbn => ?_) (by simp)]
     · rw [zku]
       simp only [Nat.zero_add]
       cases (List.range l.Names.length).all fun b => ordB l a b <;> rfl
     · have hxb := xk hu (a := b) (by omega)
       have hltb := ui hu (a := b) (by omega)
       simp only [Int.ofNat_lt, hbn, decide_true, cond_true, Option.bind_some, Int.toNat_natCast, hxb]
       rw [hb b hbn, zau (n := upN l b) (by omega), zkd (by omega) mk', w64 (by omega) (by omega), yh hu (by omega) (by omega)]
       have hand : upN l b &&& (2 ^ l.Names.length - 1) < 1000000 := Nat.lt_of_le_of_lt Nat.and_le_left (by omega)
       rw [zkd hand (by omega)]
       have hsub := zov (x := upN l a) (y := upN l b) (n := l.Names.length)
       simp only [zbg] at hsub
       have hsub' : decide ((((upN l b &&& (2 ^ l.Names.length - 1)) &&& upN l a : Nat) : Int) = ((upN l b &&& (2 ^ l.Names.length - 1) : Nat) : Int)) = (List.range l.Names.length).all fun i => !up l b i || up l a i := by
        rw [Bool.eq_iff_iff, <- hsub, decide_eq_true_eq]; omega
       rw [hsub']
       unfold ordB
       cases e3 : up l a b with
       | false => simp
       | true =>
         simp only [Option.bind_some, Bool.not_true, cond_false, Bool.false_or]
         by_cases hba : b = a
         · subst hba
           simp only [decide_true, Bool.not_true, cond_false, Bool.true_or, Bool.true_and]
           cases (List.range l.Names.length).all fun i => !up l b i || up l b i <;> simp
         · have : ¬ (b : Int) = (a : Int) := by omega
           simp only [this, hba, decide_false, Bool.not_false, cond_true, Bool.false_or]
           cases up l b a with
           | true => simp
           | false =>
             cases (List.range l.Names.length).all fun i => !up l b i || up l a i <;> simp
theorem zdp {l : TL} (hu : U8s l.Up) (h8 : l.Names.length <= 8) (hl : l.Up.length = l.Names.length) : Tot (Fz65 l) fun d => d.length = l.Names.length /\ ∀ b, b < l.Names.length -> d[b]? = some (dnN l b : Int) := by
 unfold Fz65
 simp only [zq, ql, List.length_map, Int.toNat_natCast]
 refine ⟨⟨by omega, trivial, by omega, by omega⟩, ?_⟩
 refine Tot.count l.Names.length (fun k s => s.1 = (k : Int) /\ s.2.length = l.Names.length /\ ∀ b, b < l.Names.length -> s.2[b]? = some (dn l b k : Int)) ?_ ⟨rfl, by simp, fun b hb => ?_⟩
 · rintro k ⟨i, down⟩ hk ⟨h0, h2, h4⟩
   simp only at h0 h2 h4
   subst h0
   simp only [zn, zw, zS, qc, ql, zq, Sum.elim_inl, Sum.elim_inr, decide_eq_true_eq, decide_eq_false_iff_not, Int.toNat_natCast]
   refine ⟨fun hlt => ?_, fun hlt => ?_⟩
   · refine Tot.count l.Names.length (fun j s => s.1 = (j : Int) /\ s.2.length = l.Names.length /\ ∀ b, b < l.Names.length -> s.2[b]? = some (dn l b (if b < j then k + 1 else k) : Int)) ?_ ⟨rfl, h2, fun b hb => by simpa using h4 b hb⟩
     rintro j ⟨i', d⟩ hj ⟨g0, g1, g2⟩
     simp only at g0 g1 g2
     subst g0
     simp only [zn, zw, zS, qc, ql, zq, Sum.elim_inl, Sum.elim_inr, decide_eq_true_eq, decide_eq_false_iff_not, Int.toNat_natCast]
     refine ⟨fun hlt' => ?_, fun hlt' => ?_⟩
     · rw [yh hu (by omega) (by omega), zn]
       have hz := g2 j (by omega)
       rw [if_neg (by omega)] at hz
       rw [w64 (by omega) (by omega)]
       refine ⟨fun hup => ⟨⟨by omega, by simp; omega⟩, by omega, _, hz, by omega, ⟨by omega, by simp; omega⟩, by omega, _, hz, by omega, by omega, by simpa using g1, fun b hb => ?_⟩, fun hup => ⟨by omega, by omega, g1, fun b hb => ?_⟩⟩
       · have hsh := zju (c := true) (k := k) (by omega)
         simp only [if_true] at hsh
         rw [zew (by omega), hsh]
         by_cases hjb : j = b
         · subst hjb
           have hp : 2 ^ k < 256 := Nat.lt_of_lt_of_le (Nat.pow_lt_pow_right (a := 2) (by omega) (show k < 8 by omega)) (by omega)
           rw [if_pos rfl, if_pos (by omega), zm4 (zd8 l j (by omega)) hp]
           simp [dn, hup]
         · rw [if_neg hjb, g2 b hb]
           have : (b < j + 1) = (b < j) := by simp; omega
           simp only [this]
       · rw [g2 b hb]
         by_cases hjb : j = b
         · subst hjb
           rw [if_neg (by omega), if_pos (by omega)]
           simp [dn, hup]
         · have : (b < j + 1) = (b < j) := by simp; omega
           simp only [this]
     · rw [w64 (by omega) (by omega)]
       refine ⟨by omega, by omega, g1, fun b hb => ?_⟩
       rw [g2 b hb, if_pos (by omega)]
   · have hkn : k = l.Names.length := by omega
     subst hkn
     exact ⟨h2, h4⟩
 · rw [List.getElem?_replicate, if_pos hb]; rfl
end Go.Sx.O
namespace Go.Sx.O
open Go
theorem ziq (g : Nat -> Nat) (n a b : Nat) : decide (bndI g n a b < 0) = (bnd g n a b).isNone := by
 unfold bndI
 cases bnd g n a b with
 | none => rfl
 | some c => simp
theorem zm3 {l : TL} (h8 : l.Names.length <= 8) (b : Nat) : dnN l b < 256 := zd8 l b h8
theorem xB (l : TL) (hu : U8s l.Up) (hn : l.Names.length <= 20) (hs : ∀ s ∈ l.Names, s.length <= 1000) : Fz67 l = some (latC l) := by
 unfold Fz67 latC
 rw [zib _ hn hs]
 simp only [Option.bind_some, List.length_map]
 by_cases h0 : (yz l.Names).2 = 0
 case neg => simp [h0]
 simp only [h0, decide_true, Bool.not_true, cond_false, if_true]
 by_cases hlen : l.Up.length = l.Names.length
 case neg =>
  have : ¬ (l.Up.length : Int) = l.Names.length := by omega
  simp [hlen, this]
 have h8 : l.Names.length <= 8 := by
  unfold yz at h0
  split at h0
  · cases h0
  · omega
 simp only [hlen, decide_true, Bool.not_true, cond_false, if_true]
 rw [qS l.Names.length (fun a => if ordA l a = true then none else some ((a : Int), (6 : Int))) () (fun a ha => ?_) (by simp)]
 · cases h1 : scan (fun a => if ordA l a = true then none else some ((a : Int), (6 : Int))) 0 l.Names.length with
   | some r => rfl
   | none =>
     simp only
     obtain ⟨d, ed, hdl, hd⟩ := zdp hu h8 hlen
     rw [ed, Option.bind_some]
     rw [qS l.Names.length (fun a => scan (fun b => if we l a b = true then some ((a : Int), (4 : Int)) else none) 0 l.Names.length) () (fun a ha => ?_) (by simp)]
     · cases scan (fun a => scan (fun b => if we l a b = true then some ((a : Int), (4 : Int)) else none) 0 l.Names.length) 0 l.Names.length <;> rfl
     · simp only [Int.ofNat_lt, ha, decide_true, cond_true]
       rw [qS l.Names.length (fun b => if we l a b = true then some (.inr (.inr ((a : Int), (4 : Int)))) else none) () (fun b hb => ?_) (by simp)]
       · have e : (fun b => if we l a b = true then some (Sum.inr (Sum.inr ((a : Int), (4 : Int))) : Int ⊕ (Unit ⊕ (Int × Int))) else none) = fun b => (if we l a b = true then some ((a : Int), (4 : Int)) else none).map fun v => .inr (.inr v) := by
          funext b; split <;> rfl
         rw [e, wK]
         cases scan (fun b => if we l a b = true then some ((a : Int), (4 : Int)) else none) 0 l.Names.length with
         | some r => rfl
         | none =>
           simp only [Option.map_none, letO]
           rw [w64 (by omega) (by omega)]
       · simp only [Int.ofNat_lt, hb, decide_true, cond_true]
         have n1 := jS l.Up (upN l) a b (by omega) (fun c hc => xk hu hc) (fun c hc => ui hu hc) (by omega) (by omega)
         have n2 := jS d (dnN l) a b (by omega) (fun c hc => hd c (by omega)) (fun c hc => zm3 h8 c) (by omega) (by omega)
         rw [hlen] at n1
         rw [hdl] at n2
         rw [n1, n2]
         simp only [Option.bind_some, ziq, letO]
         rw [w64 (by omega) (by omega)]
         unfold we
         cases (bnd (upN l) l.Names.length a b).isNone with
         | true => simp
         | false => cases (bnd (dnN l) l.Names.length a b).isNone <;> simp
 · simp only [Int.ofNat_lt, ha, decide_true, cond_true]
   rw [zh3 hu h8 hlen ha]
   simp only [Option.bind_some, letO]
   rw [w64 (by omega) (by omega)]
   cases ordA l a <;> simp
end Go.Sx.O
namespace Go.Sx.O
open Go
theorem zjj (l : TL) (hu : U8s l.Up) (hn : l.Names.length <= 20) (hs : ∀ s ∈ l.Names, s.length <= 1000) : Fz29 l = some (latC l) := by
 unfold Fz29 latC
 rw [zoe _ hn hs]
 simp only [Option.bind_some, List.length_map]
 by_cases h0 : (yz l.Names).2 = 0
 case neg => simp [h0]
 simp only [h0, decide_true, Bool.not_true, cond_false, if_true]
 by_cases hlen : l.Up.length = l.Names.length
 case neg =>
  have : ¬ (l.Up.length : Int) = l.Names.length := by omega
  simp [hlen, this]
 have h8 : 1 <= l.Names.length /\ l.Names.length <= 8 := by
  unfold yz at h0
  split at h0
  · cases h0
  · omega
 obtain ⟨h1, h8⟩ := h8
 have g0 : ((0 : Int) <= (l.Names.length : Int)) := by omega
 simp only [hlen, decide_true, Bool.not_true, cond_false, if_true, wB g0, letO, Int.toNat_natCast]
 have hmask := ziw l.Names.length h8
 have hm0 := zim (e := IntKind.wrap .u8 (1 * 2 ^ min l.Names.length (IntKind.bits .u8)) - 1)
 rw [qS l.Names.length (fun a => if ordA l a = true then none else some ((a : Int), (6 : Int))) () (fun a ha => ?_) (by simp)]
 · cases h1 : scan (fun a => if ordA l a = true then none else some ((a : Int), (6 : Int))) 0 l.Names.length with
   | some r => rfl
   | none =>
     simp only
     have hself : ∀ a, a < l.Names.length -> up l a a = true := by
      intro a ha
      have := scan_none.1 h1 a (by omega) (by omega)
      split at this
      · rename_i h
        unfold ordA at h
        simp only [Bool.and_eq_true] at h
        exact h.1.2
      · cases this
     obtain ⟨o, eo, _, o1, o2, o3, o4⟩ := zhi l hu h8 hlen
     rw [eo, Option.bind_some]
     rw [qS l.Names.length (fun a => scan (fun b => if we l a b = true then some ((a : Int), (4 : Int)) else none) 0 l.Names.length) () (fun a ha => ?_) (by simp)]
     · cases scan (fun a => scan (fun b => if we l a b = true then some ((a : Int), (4 : Int)) else none) 0 l.Names.length) 0 l.Names.length <;> rfl
     · simp only [Int.ofNat_lt, ha, decide_true, cond_true]
       rw [qS l.Names.length (fun b => if we l a b = true then some (.inr (.inr ((a : Int), (4 : Int)))) else none) () (fun b hb => ?_) (by simp)]
       · have e : (fun b => if we l a b = true then some (Sum.inr (Sum.inr ((a : Int), (4 : Int))) : Int ⊕ (Unit ⊕ (Int × Int))) else none) = fun b => (if we l a b = true then some ((a : Int), (4 : Int)) else none).map fun v => .inr (.inr v) := by
          funext b; split <;> rfl
         rw [e, wK]
         cases scan (fun b => if we l a b = true then some ((a : Int), (4 : Int)) else none) 0 l.Names.length with
         | some r => rfl
         | none =>
           simp only [Option.map_none]
           rw [w64 (by omega) (by omega)]
       · simp only [Int.ofNat_lt, hb, decide_true, cond_true]
         have n1 := zb1 o.up_ (upN l) l.Names.length a b h8 (fun c hc => by rw [o3 c hc]; exact xk hu (by omega)) (fun c hc => ui hu (by omega)) (fun c hc => hself c hc) ha hb
         have n2 : Fz28 o.down_ l.Names.length a b = some (bndI (dnN l) l.Names.length a b) := zb1 o.down_ (dnN l) l.Names.length a b h8 (fun c hc => o4 c hc) (fun c hc => zm3 h8 c) (fun c hc => by unfold dnN; rw [zhv, hself c hc]; simp [hc]) ha hb
         rw [n1, n2]
         simp only [Option.bind_some, ziq]
         rw [w64 (by omega) (by omega)]
         unfold we
         cases (bnd (upN l) l.Names.length a b).isNone with
         | true => simp
         | false => cases (bnd (dnN l) l.Names.length a b).isNone <;> simp
 · -- one label's row
   have hxa := xk hu (a := a) (by omega)
   have hlt := ui hu (a := a) (by omega)
   obtain ⟨y, ey, hy⟩ := zly (upN l a : Int) (by omega) (by omega)
   have hy := hy l.Names.length h8
   rw [Int.toNat_natCast] at hy
   have ga : ((0 : Int) <= (a : Int)) := by omega
   have hbit : ∀ b, b < l.Names.length -> bits .and .u8 (Int.fdiv (upN l a : Int) (2 ^ min b (IntKind.bits .u8))) 1 = if up l a b = true then 1 else 0 := fun b hb => by
    rw [uH (by omega) (by omega) (by omega), Int.toNat_natCast]; rfl
   simp only [Int.ofNat_lt, ha, decide_true, cond_true, idxO, Int.toNat_natCast, if_pos ga, hxa, Option.bind_some, ey, hy, wB ga]
   simp only [hbit a ha]
   unfold ordA
   cases e1 : decide (upN l a < 2 ^ l.Names.length) with
   | false => simp
   | true =>
     simp only [Bool.not_true, cond_false, Bool.true_and]
     cases e2 : up l a a with
     | false => simp
     | true =>
       simp only [if_true, Int.reduceEq, decide_false, cond_false, Bool.true_and]
       rw [qS l.Names.length (fun b => if ordB l a b = true then (if b + 1 = l.Names.length then some (.inl ((a : Int) + 1)) else none) else some (.inr (.inr ((a : Int), (6 : Int))))) () (fun b hb => ?_) (by simp)]
       · rw [zfk (by omega) (by omega)]
         simp only [Nat.zero_add]
         cases (List.range l.Names.length).all fun b => ordB l a b <;> rfl
       · have hxb := xk hu (a := b) (by omega)
         have hltb := ui hu (a := b) (by omega)
         have gb : ((0 : Int) <= (b : Int)) := by omega
         have hbit' : bits .and .u8 (Int.fdiv (upN l b : Int) (2 ^ min a (IntKind.bits .u8))) 1 = if up l b a = true then 1 else 0 := by
          rw [uH (by omega) (by omega) (by omega), Int.toNat_natCast]; rfl
         simp only [Int.ofNat_lt, hb, decide_true, cond_true, Option.bind_some, Int.toNat_natCast, hxb, if_pos gb, wB gb]
         simp only [hbit b hb, hbit', w64 (e := (l.Names.length : Int) - 1) (by omega) (by omega), w64 (e := (a : Int) + 1) (by omega) (by omega), w64 (e := (b : Int) + 1) (by omega) (by omega)]
         have hnot : decide (bits .andNot .u8 (bits .and .u8 (upN l b : Int) (IntKind.wrap .u8 (IntKind.wrap .u8 (1 * 2 ^ min l.Names.length (IntKind.bits .u8)) - 1))) (upN l a : Int) = 0) = (List.range l.Names.length).all fun i => !up l b i || up l a i := by
          revert hmask hm0
          generalize IntKind.wrap .u8 (IntKind.wrap .u8 (1 * 2 ^ min l.Names.length (IntKind.bits .u8)) - 1) = mask
          intro hmask hm0
          have hand : bits .and .u8 (upN l b : Int) mask = ((upN l b &&& mask.toNat : Nat) : Int) := by
           rw [uW (by omega) (by omega) hm0.1 hm0.2, Int.toNat_natCast]
          have hlt2 : upN l b &&& mask.toNat < 256 := za0 hltb
          rw [hand, Bool.eq_iff_iff, decide_eq_true_eq, ug (by omega) (by omega) (by omega) (by omega), List.all_eq_true]
          simp only [Int.toNat_natCast, Nat.testBit_and, hmask, zbg]
          constructor
          · intro h i hi
            have := h i
            have hi' : i < l.Names.length := by simpa using hi
            cases e : up l b i with
            | false => rfl
            | true => rw [e] at this; simpa [hi'] using this
          · intro h i hi
            simp only [Bool.and_eq_true, decide_eq_true_eq] at hi
            have := h i (by simpa using hi.2)
            rw [hi.1] at this; simpa using this
         simp only [hnot]
         have hlast : decide ((b : Int) = (l.Names.length : Int) - 1) = decide (b + 1 = l.Names.length) := by
          rw [Bool.eq_iff_iff, decide_eq_true_eq, decide_eq_true_eq]; omega
         simp only [hlast]
         unfold ordB
         cases e3 : up l a b with
         | false => by_cases hl : b + 1 = l.Names.length <;> simp [hl]
         | true =>
           by_cases hba : b = a
           · subst hba
             have d2 : decide ((b : Int) = (b : Int)) = true := by simp
             cases (List.range l.Names.length).all fun i => !up l b i || up l b i with
             | false => by_cases hl : b + 1 = l.Names.length <;> simp [hl]
             | true => by_cases hl : b + 1 = l.Names.length <;> simp [hl]
           · have d2 : decide ((b : Int) = (a : Int)) = false := by simp; omega
             have d3 : decide (b = a) = false := by simp [hba]
             simp only [d2, d3]
             cases up l b a with
             | true => by_cases hl : b + 1 = l.Names.length <;> simp [hl]
             | false =>
               cases (List.range l.Names.length).all fun i => !up l b i || up l a i with
               | false => by_cases hl : b + 1 = l.Names.length <;> simp [hl]
               | true => by_cases hl : b + 1 = l.Names.length <;> simp [hl]
theorem zbi {l : TL} (h : LatIn l) : latR l = latC l := by
 unfold latR; rw [zjj l h.u8 h.names h.name]; rfl
end Go.Sx.O
namespace Go.Sx.O
open Go
theorem ze0 {l : TL} (h : LatIn l) (a b : Int) : Fz80 l a b = some (askE l [a, b]) := by
 unfold Fz80 askE
 rw [xB l h.u8 h.names h.name, zbi h]
 simp only [Option.bind_some, List.length_map, List.all_cons, List.all_nil, Bool.and_true]
 by_cases h0 : (latC l).2 = 0
 · simp only [h0, decide_true, cond_true, if_true]
   unfold qM
   by_cases a1 : a < 0
   · have : ¬ 0 <= a := by omega
     simp [a1, this]
   by_cases a2 : (l.Names.length : Int) <= a
   · have : ¬ a < (l.Names.length : Int) := by omega
     simp [a1, a2, this]
   by_cases b1 : b < 0
   · have : ¬ 0 <= b := by omega
     simp [a1, a2, b1, this]
   by_cases b2 : (l.Names.length : Int) <= b
   · have : ¬ b < (l.Names.length : Int) := by omega
     simp [a1, a2, b1, b2, this]
   have a1' : 0 <= a := by omega
   have a2' : a < (l.Names.length : Int) := by omega
   have b1' : 0 <= b := by omega
   have b2' : b < (l.Names.length : Int) := by omega
   simp [a1, a2, b1, b2, a1', a2', b1', b2']
 · simp [h0]
end Go.Sx.O
namespace Go.Sx.O
open Go
theorem zo0 {g : Nat -> Nat} {n a b c : Nat} (h : bnd g n a b = some c) : c < n /\ g c = g a &&& g b := by
 have key : ∀ {j k : Nat}, scan (fun c => if g c = g a &&& g b then some c else none) k j = some c -> c < k + j /\ g c = g a &&& g b := by
  intro j
  induction j with
  | zero => intro k h; cases h
  | succ j ih =>
    intro k h
    simp only [scan] at h
    split at h
    · rename_i r hr
      cases h
      split at hr
      · rename_i hh; cases hr; exact ⟨by omega, hh⟩
      · cases hr
    · have := ih h
      exact ⟨by omega, this.2⟩
 have := key h
 simpa using this
theorem zap {l : TL} (h : LatIn l) (k : (latR l).2 = 0) : (∀ a, a < l.Names.length -> ordA l a = true) /\ ∀ a b, a < l.Names.length -> b < l.Names.length -> we l a b = false := by
 rw [zbi h] at k
 unfold latC at k
 split at k
 case isFalse h0 => exact absurd k h0
 split at k
 case isFalse => cases k
 split at k
 case h_1 r hr =>
  exfalso
  have key : ∀ {j k : Nat}, scan (fun a => if ordA l a = true then none else some ((a : Int), (6 : Int))) k j = some r -> r.2 = 6 := by
   intro j
   induction j with
   | zero => intro k h; cases h
   | succ j ih =>
     intro k h
     simp only [scan] at h
     split at h
     · rename_i r' hr'
       cases h
       split at hr'
       · cases hr'
       · cases hr'; rfl
     · exact ih h
  rw [key hr] at k; cases k
 case h_2 hord =>
  have key2 : ∀ {a j k : Nat} {r : Int × Int}, scan (fun b => if we l a b = true then some ((a : Int), (4 : Int)) else none) k j = some r -> r.2 = 4 := by
   intro a j
   induction j with
   | zero => intro k r h; cases h
   | succ j ih =>
     intro k r h
     simp only [scan] at h
     split at h
     · rename_i r' hr'
       cases h
       split at hr'
       · cases hr'; rfl
       · cases hr'
     · exact ih h
  have key : ∀ {j k : Nat} {r : Int × Int}, scan (fun a => scan (fun b => if we l a b = true then some ((a : Int), (4 : Int)) else none) 0 l.Names.length) k j = some r -> r.2 = 4 := by
   intro j
   induction j with
   | zero => intro k r h; cases h
   | succ j ih =>
     intro k r h
     simp only [scan] at h
     split at h
     · rename_i r' hr'
       cases h
       exact key2 hr'
     · exact ih h
  cases hs : scan (fun a => scan (fun b => if we l a b = true then some ((a : Int), (4 : Int)) else none) 0 l.Names.length) 0 l.Names.length with
  | some r =>
    rw [hs] at k
    have := key hs
    simp only [Option.getD_some] at k
    rw [this] at k; cases k
  | none =>
    refine ⟨fun a ha => ?_, fun a b ha hb => ?_⟩
    · have h1 := scan_none.1 hord a (by omega) (by omega)
      split at h1
      · assumption
      · cases h1
    · have h1 := scan_none.1 (scan_none.1 hs a (by omega) (by omega)) b (by omega) (by omega)
      split at h1
      · cases h1
      · rename_i h2; simpa using h2
theorem zix {l : TL} (h : LatIn l) (k : (latR l).2 = 0) {a b : Nat} (ha : a < l.Names.length) (hb : b < l.Names.length) : ∃ c, bnd (dnN l) l.Names.length a b = some c /\ c < l.Names.length /\ dnN l c = dnN l a &&& dnN l b := by
 have h2 := (zap h k).2 a b ha hb
 unfold we at h2
 cases e : bnd (dnN l) l.Names.length a b with
 | none => rw [e] at h2; simp at h2
 | some c => exact ⟨c, rfl, zo0 e⟩
theorem zo6 {l : TL} (ok : LatOK l) {a b c : Nat} (ha : a < l.Names.length) (hb : b < l.Names.length) (hc : c < l.Names.length) (h1 : up l a b = true) (h2 : up l b c = true) : up l a c = true := (ok.row a ha b hb h1).2 c hc h2
theorem zqs {l : TL} {b i : Nat} : (dnN l b).testBit i = (decide (i < l.Names.length) && up l i b) := zhv l b l.Names.length i
theorem zdf {l : TL} {a b c i : Nat} (hi : i < l.Names.length) (hg : dnN l c = dnN l a &&& dnN l b) : up l i c = (up l i a && up l i b) := by
 have h1 := congrArg (fun x => x.testBit i) hg
 simp only [Nat.testBit_and, zqs, hi, decide_true, Bool.true_and] at h1
 exact h1
theorem zqp {l : TL} (ok : LatOK l) {a b : Nat} (ha : a < l.Names.length) (hb : b < l.Names.length) (h1 : up l a b = true) (h2 : up l b a = true) : a = b := by
 by_cases e : b = a
 · exact e.symm
 · have := (ok.row a ha b hb h1).1 e
   rw [h2] at this; cases this
theorem zqu {l : TL} (h : LatIn l) (k : (latR l).2 = 0) : ∃ t, t < l.Names.length /\ ∀ a, a < l.Names.length -> up l t a = true := by
 have ok := yr h k
 have key : ∀ j, j <= l.Names.length -> ∃ t, t < l.Names.length /\ ∀ a, a < j -> up l t a = true := by
  intro j
  induction j with
  | zero => intro _; exact ⟨0, ok.pos, fun a ha => absurd ha (by omega)⟩
  | succ j ih =>
    intro hj
    obtain ⟨t, ht, hall⟩ := ih (by omega)
    obtain ⟨c, _, hc, hg⟩ := zix h k ht (show j < l.Names.length by omega)
    have hcc := ok.self c hc
    rw [zdf hc hg, Bool.and_eq_true] at hcc
    refine ⟨c, hc, fun a ha => ?_⟩
    rcases Nat.lt_or_ge a j with g | g
    · exact zo6 ok hc ht (by omega) hcc.1 (hall a g)
    · have : a = j := by omega
      subst this; exact hcc.2
 exact key _ (Nat.le_refl _)
def botN (l : TL) : Nat := ((List.range l.Names.length).find? fun b => (List.range l.Names.length).all fun a => up l b a).getD 0
theorem zch {l : TL} (h : LatIn l) (k : (latR l).2 = 0) : botN l < l.Names.length /\ ∀ a, a < l.Names.length -> up l (botN l) a = true := by
 obtain ⟨t, ht, hall⟩ := zqu h k
 unfold botN
 cases e : (List.range l.Names.length).find? fun b => (List.range l.Names.length).all fun a => up l b a with
 | none =>
   have := List.find?_eq_none.1 e t (by simpa using ht)
   exact absurd (by simp only [List.all_eq_true, List.mem_range]; exact hall) this
 | some b =>
   have h1 := List.find?_some e
   have h2 := List.mem_of_find?_eq_some e
   simp only [List.all_eq_true, List.mem_range] at h1 h2
   exact ⟨h2, h1⟩
theorem zmx {l : TL} (h : LatIn l) (k : (latR l).2 = 0) {b : Nat} (hb : b < l.Names.length) (hall : ∀ a, a < l.Names.length -> up l b a = true) : b = botN l := by
 obtain ⟨h1, h2⟩ := zch h k
 exact zqp (yr h k) hb h1 (hall _ h1) (h2 _ hb)
theorem zph {l : TL} (h : LatIn l) (k : (latR l).2 = 0) {b : Nat} (hb : b < l.Names.length) : upN l b = 2 ^ l.Names.length - 1 ↔ b = botN l := by
 have h1 := (zap h k).1 b hb
 unfold ordA at h1
 simp only [Bool.and_eq_true, decide_eq_true_eq] at h1
 constructor
 · intro e
   refine zmx h k hb fun a ha => ?_
   rw [<- zbg, e, Nat.testBit_two_pow_sub_one]
   simpa using ha
 · rintro rfl
   have h2 := (zch h k).2
   refine Nat.eq_of_testBit_eq fun i => ?_
   rw [Nat.testBit_two_pow_sub_one]
   rcases Nat.lt_or_ge i l.Names.length with g | g
   · rw [zbg, h2 i g]; simp [g]
   · rw [Nat.testBit_lt_two_pow (Nat.lt_of_lt_of_le h1.1.1 (Nat.pow_le_pow_right (by omega) g))]
     simp; omega
end Go.Sx.O
namespace Go.Sx.O
open Go
theorem zhh (s : List UInt8) (c : Int) : Fz14 s c = some (Go.Lib.indexByte s c.toNat.toUInt8) := by
 unfold Fz14 zW
 rfl
theorem xK (r : Int) (h0 : 0 <= r) (h1 : r < 256) : Fz17 [] r = some false := by
 unfold Fz17
 have key : Tot (Fz16 [] r) fun x => x < 0 := by
  unfold Fz16
  have e0 : decide (0 <= r) = true := by simp [h0]
  simp only [e0, cond_true]
  rw [zw]
  refine ⟨fun _ => ?_, fun h2 => ?_⟩
  · rw [zS, zq, zhh]
    simp only [zn]
    simp [Go.Lib.indexByte]
  · simp only [decide_eq_false_iff_not] at h2
    obtain ⟨x, y, exy, hy⟩ := zl2 (r := r) (by omega) h1
    have e1 : decide (r = 65533) = false := by simp; omega
    simp only [e1, cond_false, exy]
    rw [zq]
    refine (xS r).mono fun v _ => ?_
    rw [zw]
    refine ⟨fun _ => .mk (by decide), fun _ => ?_⟩
    rw [zS]
    have e2 : IntKind.wrap .i64 (((List.length [x, y] : Nat) : Int) - 1) = 1 := rfl
    rw [e2, zq]
    refine Tot.loop (fun _ => 0) (fun _ => True) (fun _ _ => ?_) trivial
    rw [zw]
    refine ⟨fun h3 => ?_, fun _ => ?_⟩
    · simp only [decide_eq_true_eq, List.length_nil] at h3
      exact absurd h3 (by decide)
    · simp only [zn, Sum.elim_inr, Sum.elim_inl]
      decide
 obtain ⟨x, e, hx⟩ := key
 rw [e]
 have : decide (0 <= x) = false := by simp; omega
 simp [this]
theorem zhs (r : Int) (h0 : 0 <= r) (h1 : r < 256) : Fz15 r = some true := by
 unfold Fz15
 have e0 : decide (0 <= r) = true := by simp [h0]
 have e1 : decide (r < 55296) = true := by simp; omega
 simp only [e0, e1, cond_true]
theorem zi5 (r : Int) (h0 : 0 <= r) (h1 : r < 256) : Fz32 r = some true := by
 unfold Fz32
 simp only [letO, zhm h0 h1]
 rw [w64 (by omega) (by omega)]
 simp [zhs r h0 h1]
def lowB (c : UInt8) : Bool := decide (97 <= c.toNat) && decide (c.toNat <= 122)
def digB (c : UInt8) : Bool := decide (48 <= c.toNat) && decide (c.toNat <= 57)
theorem zjf {cs : List (List UInt8)} (hcs : cs.length = 10) (h : ∀ s ∈ cs, s.length <= 1000 /\ ∀ c ∈ s, c.toNat < 128) (h6 : cs[6]? = some []) (h8 : cs[8]? = some []) (r : Int) (h0 : 0 <= r) (h1 : r < 256) {Q : Unit ⊕ (Int × Int) -> Prop} (hQ : Q (.inl ())) (hQ' : ∀ x, x ≠ 6 -> x ≠ 8 -> Q (.inr (x, 0))) :
 Tot (lpO (fun (s : Int) => cond (decide (s < 10)) (idxO cs s fun x => letO (IntKind.wrap IntKind.i32 r) fun y => Option.bind (Fz17 x y) fun z => cond z (some (Sum.inr (Sum.inr (s, (0 : Int))))) (letO (IntKind.wrap IntKind.i64 (s + 1)) fun u => some (Sum.inl u))) (some (Sum.inr (Sum.inl ())))) 0) Q := by
 refine Tot.count 10 (fun k s => s = (k : Int)) ?_ rfl
 rintro k _ hk rfl
 simp only [zw, zn, zS, qc, zq, Sum.elim_inl, Sum.elim_inr, decide_eq_true_eq, decide_eq_false_iff_not, Int.toNat_natCast]
 refine ⟨fun hlt => ?_, fun _ => hQ⟩
 obtain ⟨x, hx⟩ := zv (l := cs) (i := k) (by omega)
 have hx' := h x (List.mem_of_getElem? hx)
 refine ⟨by omega, x, hx, ?_⟩
 rw [zhm h0 h1]
 have nx : k < 10 /\ IntKind.wrap .i64 ((k : Int) + 1) = ((k + 1 : Nat) : Int) := by
  rw [w64 (by omega) (by omega)]; exact ⟨by omega, by omega⟩
 by_cases g6 : k = 6
 · subst g6
   rw [h6] at hx; cases hx
   rw [xK r h0 h1, zn]
   exact ⟨fun e => (by cases e), fun _ => nx⟩
 by_cases g8 : k = 8
 · subst g8
   rw [h8] at hx; cases hx
   rw [xK r h0 h1, zn]
   exact ⟨fun e => (by cases e), fun _ => nx⟩
 refine (zay x r hx'.2 hx'.1 h0 h1).mono fun _ _ => ⟨fun _ => hQ' _ (by omega) (by omega), fun _ => nx⟩
theorem uR (c : UInt8) : Tot (Fz34 (IntKind.wrap .i64 (c.toNat : Int))) fun x => (decide (x.1 = 8) = lowB c) /\ (decide (x.1 = 6) = digB c) := by
 have hc := c.toNat_lt
 rw [w64 (by omega) (by omega)]
 have h0 : (0 : Int) <= c.toNat := by omega
 have h1 : (c.toNat : Int) < 256 := by omega
 unfold Fz34 Fz33 lowB digB
 rw [zi5 _ h0 h1]
 simp only [Option.bind_some, Bool.not_true, cond_false]
 have L : ¬ (48 <= c.toNat /\ c.toNat <= 57) -> ¬ (97 <= c.toNat /\ c.toNat <= 122) -> _ := fun d1 d2 => zjf (cs := [[], [32], [10], [40, 91], [41, 93], [34], [], [45], [], [60, 61]]) rfl (by decide) rfl rfl c.toNat h0 h1 (Q := fun a => Tot (Sum.elim (fun _ => some ((10 : Int), (0 : Int))) some a) fun (x : Int × Int) => (decide (x.1 = 8) = (decide (97 <= c.toNat) && decide (c.toNat <= 122))) /\ (decide (x.1 = 6) = (decide (48 <= c.toNat) && decide (c.toNat <= 57))))
  (.mk (by
    have a1 : (decide (97 <= c.toNat) && decide (c.toNat <= 122)) = false := by simp; omega
    have a2 : (decide (48 <= c.toNat) && decide (c.toNat <= 57)) = false := by simp; omega
    rw [a1, a2]; exact ⟨rfl, rfl⟩)) (fun x e6 e8 => .mk (by
    have a1 : (decide (97 <= c.toNat) && decide (c.toNat <= 122)) = false := by simp; omega
    have a2 : (decide (48 <= c.toNat) && decide (c.toNat <= 57)) = false := by simp; omega
    rw [a1, a2]; simp [e6, e8]))
 simp only [zw, zn, zq, decide_eq_true_eq, decide_eq_false_iff_not]
 have six : 48 <= c.toNat -> c.toNat <= 57 -> decide ((6 : Int) = 8) = (decide (97 <= c.toNat) && decide (c.toNat <= 122)) /\ decide ((6 : Int) = 6) = (decide (48 <= c.toNat) && decide (c.toNat <= 57)) := by
  intro d1 d2
  have a1 : (decide (97 <= c.toNat) && decide (c.toNat <= 122)) = false := by simp; omega
  have a2 : (decide (48 <= c.toNat) && decide (c.toNat <= 57)) = true := by simp; omega
  rw [a1, a2]; exact ⟨rfl, rfl⟩
 have eight : 97 <= c.toNat -> c.toNat <= 122 -> decide ((8 : Int) = 8) = (decide (97 <= c.toNat) && decide (c.toNat <= 122)) /\ decide ((8 : Int) = 6) = (decide (48 <= c.toNat) && decide (c.toNat <= 57)) := by
  intro d1 d2
  have a1 : (decide (97 <= c.toNat) && decide (c.toNat <= 122)) = true := by simp; omega
  have a2 : (decide (48 <= c.toNat) && decide (c.toNat <= 57)) = false := by simp; omega
  rw [a1, a2]; exact ⟨rfl, rfl⟩
 refine ⟨fun d1 => ⟨fun d2 => six (by omega) (by omega), fun d2 => ⟨fun d3 => ⟨fun d4 => eight (by omega) (by omega), fun d4 => L (by omega) (by omega)⟩, fun d3 => L (by omega) (by omega)⟩⟩, fun d1 => ⟨fun d3 => ⟨fun d4 => eight (by omega) (by omega), fun d4 => L (by omega) (by omega)⟩, fun d3 => L (by omega) (by omega)⟩⟩
def wl (s : List UInt8) : Bool := (match s with | [] => false | c :: _ => lowB c) && s.all fun c => lowB c || digB c
theorem zcc {s : List UInt8} {p : UInt8 -> Bool} {k : Nat} {c : UInt8} (h : (s.take k).all p = true) (hc : s[k]? = some c) (hp : p c = true) : (s.take (k + 1)).all p = true := by
 rw [List.take_add_one, hc, List.all_append, h]
 simp [hp]
theorem zd9 (s : List UInt8) (h : s.length <= 1000000) : Tot (Fz37 (TK.mk 1 0 0 0 s)) fun x => decide (x = 0) = (wl s && decide (s.length <= 16)) := by
 unfold Fz37
 dsimp only
 have e2 : decide ((1 : Int) < 1) = false := rfl
 have e3 : decide ((9 : Int) < 1) = false := rfl
 simp only [e2, e3, decide_true, cond_true, cond_false, Option.bind_some, Sum.elim_inl, Bool.and_self, Bool.not_true]
 rw [zq]
 have Qn : ∀ x : Int, wl s = false -> Tot (Sum.elim (fun (n : Int) => cond (decide (n < (s.length : Int))) (some (3 : Int)) (some (0 : Int))) some (Sum.inr 6 : Int ⊕ Int)) fun x => decide (x = 0) = (wl s && decide (s.length <= 16)) := by
  intro _ e
  rw [e]; exact .mk rfl
 have Qy : wl s = true -> Tot (Sum.elim (fun (n : Int) => cond (decide (n < (s.length : Int))) (some (3 : Int)) (some (0 : Int))) some (Sum.inl 16 : Int ⊕ Int)) fun x => decide (x = 0) = (wl s && decide (s.length <= 16)) := by
  intro e
  rw [e]
  simp only [Sum.elim_inl, zw, zn, decide_eq_true_eq, decide_eq_false_iff_not]
  refine ⟨fun g => ?_, fun g => ?_⟩
  · have : decide (s.length <= 16) = false := by simp; omega
    rw [this]; rfl
  · have : decide (s.length <= 16) = true := by simp; omega
    rw [this]; rfl
 rw [zw]
 refine ⟨fun h1 => ?_, fun h1 => ?_⟩
 · simp only [zn]
   refine Qn 0 ?_
   have : s = [] := List.length_eq_zero_iff.1 (by simpa using h1)
   rw [this]; rfl
 simp only [decide_eq_false_iff_not] at h1
 obtain ⟨c, hc⟩ := zv (l := s) (i := 0) (by omega)
 have hs0 : ∃ r, s = c :: r := by
  cases s with
  | nil => simp at hc
  | cons a r => simp at hc; exact ⟨r, by rw [hc]⟩
 have e0 : (0 : Int).toNat = 0 := rfl
 simp only [qc, zS, zq, e0]
 refine ⟨by omega, c, hc, (uR c).mono fun x hx => ?_⟩
 rw [zw]
 refine ⟨fun g => ?_, fun g => ?_⟩
 · simp only [zn]
   refine Qn 0 ?_
   obtain ⟨r, rfl⟩ := hs0
   have : lowB c = false := by rw [<- hx.1]; simpa using g
   unfold wl; simp [this]
 have hlow : lowB c = true := by rw [<- hx.1]; simpa using g
 simp only [qc, zS, zq, e0]
 refine ⟨by omega, c, hc, (uR c).mono fun y hy => ?_⟩
 refine Tot.loop (fun (p : Int × Int) => s.length - p.2.toNat) (fun (p : Int × Int) => 0 <= p.2 /\ p.2 <= (s.length : Int) /\ (s.take p.2.toNat).all (fun c => lowB c || digB c) = true /\ ((p.2 = (s.length : Int) /\ p.1 = 10) \/ ∃ d, s[p.2.toNat]? = some d /\ decide (p.1 = 8) = lowB d /\ decide (p.1 = 6) = digB d)) ?_ ⟨by simp, by simp, by simp, .inr ⟨c, by simpa using hc, hy⟩⟩
 rintro ⟨k, a⟩ ⟨h2, h3, hall, h4⟩
 simp only at h2 h3 hall h4
 have round : (k = 8 \/ k = 6) -> ∀ {Q : (Bool × Int × Int) ⊕ (Int ⊕ Int) -> Prop}, Tot (letO (IntKind.wrap .i64 (a + 1)) fun (u : Int) => cond (decide ((s.length : Int) <= u)) (some (Sum.inl ((10 : Int), u))) (idxO s u fun (v : UInt8) => letO (IntKind.wrap .i64 (v.toNat : Int)) fun (z : Int) => Option.bind (Fz34 z) fun r => some (Sum.inl (r.1, u)))) (Sum.elim (fun (s' : Int × Int) => (0 <= s'.2 /\ s'.2 <= (s.length : Int) /\ (s.take s'.2.toNat).all (fun c => lowB c || digB c) = true /\ ((s'.2 = (s.length : Int) /\ s'.1 = 10) \/ ∃ d, s[s'.2.toNat]? = some d /\ decide (s'.1 = 8) = lowB d /\ decide (s'.1 = 6) = digB d)) /\ s.length - s'.2.toNat < s.length - a.toNat) Q) := by
  intro hk Q
  rcases h4 with ⟨g1, g2⟩ | ⟨d, hd, d1, d2⟩
  · omega
  have hlt : a.toNat < s.length := by
   rcases Nat.lt_or_ge a.toNat s.length with g | g
   · exact g
   · rw [List.getElem?_eq_none g] at hd; cases hd
  have hp : (lowB d || digB d) = true := by
   rw [<- d1, <- d2]
   rcases hk with rfl | rfl <;> rfl
  have e1 : (a + 1).toNat = a.toNat + 1 := by omega
  have hall' : (s.take (a + 1).toNat).all (fun c => lowB c || digB c) = true := by rw [e1]; exact zcc hall hd hp
  rw [zS, w64 (by omega) (by omega), zw]
  refine ⟨fun g => ?_, fun g => ?_⟩
  · simp only [decide_eq_true_eq] at g
    simp only [zn, Sum.elim_inl]
    exact ⟨⟨by omega, by omega, hall', .inl ⟨by omega, trivial⟩⟩, by omega⟩
  · simp only [decide_eq_false_iff_not] at g
    obtain ⟨d', hd'⟩ := zv (l := s) (i := (a + 1).toNat) (by omega)
    simp only [qc, zS, zq]
    refine ⟨by omega, d', hd', (uR d').mono fun z hz => ?_⟩
    simp only [zn, Sum.elim_inl]
    exact ⟨⟨by omega, by omega, hall', .inr ⟨d', hd', hz⟩⟩, by omega⟩
 rw [zw]
 refine ⟨fun g => round (.inl (by simpa using g)), fun g => ?_⟩
 rw [zw]
 refine ⟨fun g' => round (.inr (by simpa using g')), fun g' => ?_⟩
 simp only [zn, Sum.elim_inr, Sum.elim_inl, ql, zw, e0, List.drop_zero]
 refine ⟨by omega, fun hne => ?_, fun heq => ?_⟩
 · refine (zn (Q := fun x => decide (x = 0) = (wl s && decide (s.length <= 16)))).1 (Qn 0 ?_)
   rcases h4 with ⟨g1, _⟩ | ⟨d, hd, d1, d2⟩
   · exfalso
     have : a.toNat = s.length := by omega
     rw [this, List.take_length] at hne
     simp at hne
   · unfold wl
     have : (s.all fun c => lowB c || digB c) = false := by
      rw [List.all_eq_false]
      refine ⟨d, List.mem_of_getElem? hd, ?_⟩
      rw [<- d1, <- d2, g, g']
      simp
     rw [this, Bool.and_false]
 · have ht : s.take a.toNat = s := by simpa using heq
   rw [ht] at hall
   have hw : wl s = true := by
    unfold wl
    obtain ⟨r, rfl⟩ := hs0
    simp only [hall, hlow, Bool.and_self]
   rw [hw]
   refine ⟨fun g => ?_, fun g => ?_⟩
   · have : decide (s.length <= 16) = false := by simp at g ⊢; omega
     rw [this]; rfl
   · have : decide (s.length <= 16) = true := by simp at g ⊢; omega
     rw [this]; rfl
end Go.Sx.O
namespace Go.Sx.O
open Go
theorem zgy (c : UInt8) : Fz70 (c.toNat : Int) = some (lowB c) := by
 unfold Fz70 lowB
 by_cases h : 97 <= c.toNat
 · have : decide ((97 : Int) <= (c.toNat : Int)) = true := by simp; omega
   rw [this]
   simp only [cond_true, h, decide_true, Bool.true_and, Option.some.injEq]
   rw [Bool.eq_iff_iff]; simp; omega
 · have : decide ((97 : Int) <= (c.toNat : Int)) = false := by simp; omega
   rw [this]
   simp [h]
theorem zqg (c : UInt8) : Fz71 (c.toNat : Int) = some (digB c) := by
 unfold Fz71 digB
 by_cases h : 48 <= c.toNat
 · have : decide ((48 : Int) <= (c.toNat : Int)) = true := by simp; omega
   rw [this]
   simp only [cond_true, h, decide_true, Bool.true_and, Option.some.injEq]
   rw [Bool.eq_iff_iff]; simp; omega
 · have : decide ((48 : Int) <= (c.toNat : Int)) = false := by simp; omega
   rw [this]
   simp [h]
theorem zq9 (s : List UInt8) (h : s.length <= 1000000) : Fz72 s = some (wl s) := by
 unfold Fz72
 cases s with
 | nil => rfl
 | cons c r =>
   have e1 : decide (c :: r = (ByteArray.mk #[]).data.toList) = false := by
    exact decide_eq_false (fun e => by cases (show c :: r = [] from e))
   rw [e1]
   apply Tot.eq
   have e0 : (0 : Int).toNat = 0 := rfl
   simp only [cond_false, qc, e0, zq]
   refine ⟨by omega, c, rfl, ?_⟩
   rw [zgy, zn, zw]
   refine ⟨fun g => ?_, fun g => ?_⟩
   · have : lowB c = false := by simpa using g
     simp [zn, wl, this]
   have hl : lowB c = true := by simpa using g
   rw [zq]
   refine Tot.count (c :: r).length (fun k s => s = (k : Int) /\ ((c :: r).take k).all (fun c => lowB c || digB c) = true) ?_ ⟨rfl, by simp⟩
   rintro k _ hk ⟨rfl, hall⟩
   simp only [zw, zn, zS, qc, zq, Sum.elim_inl, Sum.elim_inr, decide_eq_true_eq, decide_eq_false_iff_not, Int.toNat_natCast]
   refine ⟨fun hlt => ?_, fun hge => ?_⟩
   · obtain ⟨d, hd⟩ := zv (l := c :: r) (i := k) (by omega)
     refine ⟨by omega, d, hd, ?_⟩
     rw [zgy, zn]
     have nx : k < (c :: r).length /\ IntKind.wrap .i64 ((k : Int) + 1) = ((k + 1 : Nat) : Int) := by
      rw [w64 (by omega) (by omega)]; exact ⟨by omega, by omega⟩
     refine ⟨fun g1 => ⟨by omega, d, hd, ?_⟩, fun g1 => ⟨nx.1, nx.2, zcc hall hd (by simp at g1; simp [g1])⟩⟩
     rw [zqg, zn]
     refine ⟨fun g2 => ?_, fun g2 => ⟨nx.1, nx.2, zcc hall hd (by simp at g2; simp [g2])⟩⟩
     have : ((c :: r).all fun c => lowB c || digB c) = false := by
      rw [List.all_eq_false]
      refine ⟨d, List.mem_of_getElem? hd, ?_⟩
      simp at g1 g2
      simp [g1, g2]
     unfold wl
     rw [this, Bool.and_false]
   · rw [List.take_of_length_le (by omega)] at hall
     unfold wl
     rw [hall]
     show true = (lowB c && true)
     rw [hl]; rfl
theorem zrg (s : List UInt8) (h : s.length <= 1000000) : Tot (Fz74 (TK.mk 1 0 0 0 s)) fun x => decide (x = 0) = (wl s && decide (s.length <= 16)) := by
 unfold Fz74
 dsimp only
 have e2 : decide ((1 : Int) < 1) = false := rfl
 have e3 : decide ((9 : Int) < 1) = false := rfl
 have e4 : decide ((1 : Int) = 2) = false := rfl
 simp only [e2, e3, e4, decide_true, cond_true, cond_false, Bool.not_true, Bool.not_false, zq9 s h, Option.bind_some, zw, zn]
 refine ⟨fun g => ?_, fun g => ?_⟩
 · have : wl s = false := by simpa using g
   rw [this]; rfl
 · have : wl s = true := by simpa using g
   rw [this]
   refine ⟨fun g => ?_, fun g => ?_⟩
   · have : decide (s.length <= 16) = false := by simp at g ⊢; omega
     rw [this]; rfl
   · have : decide (s.length <= 16) = true := by simp at g ⊢; omega
     rw [this]; rfl
def primN : List (List UInt8) := [[110, 101, 103], [97, 98, 115], [110, 111, 116], [115, 104, 97, 112, 101], [114, 97, 118, 101, 108], [114, 101, 118, 101, 114, 115, 101], [102, 108, 105, 112], [105, 111, 116, 97], [115, 117, 109], [108, 101, 97, 115, 116], [109, 111, 115, 116], [99, 111, 117, 110, 116], [115, 99, 97, 110], [103, 114, 97, 100, 101], [97, 100, 100], [115, 117, 98], [109, 117, 108], [100, 105, 118], [109, 111, 100], [112, 108, 117, 115], [109, 105, 110, 117, 115], [116, 105, 109, 101, 115], [101, 113], [110, 101], [108, 116], [108, 101], [103, 116], [103, 101], [97, 110, 100], [111, 114], [109, 105, 110], [109, 97, 120], [116, 97, 107, 101], [100, 114, 111, 112], [102, 105, 108, 108], [103, 114, 105, 100], [99, 97, 116], [97, 116], [105, 110], [112, 105, 99, 107]]
theorem zcy (s : List UInt8) : Tot (Fz31 s) fun x => decide (x.2 = 0) = decide (s ∈ primN) := by
 by_cases hm : s ∈ primN
 · have h2 : ∀ t ∈ primN, ∃ x, Fz31 t = some x /\ decide (x.2 = 0) = true := by
    unfold primN
    simp only [List.forall_mem_cons]
    repeat' constructor
    intro t ht; cases ht
   obtain ⟨x, e, hx⟩ := h2 s hm
   exact ⟨x, e, by show decide (x.2 = 0) = _; rw [hx]; simp [hm]⟩
 · have hd : decide (s ∈ primN) = false := by simp [hm]
   rw [hd]
   unfold Fz31
   unfold primN at hm
   simp only [List.mem_cons, List.not_mem_nil, or_false, not_or] at hm
   have sw : ∀ n : List UInt8, (n = s) = (s = n) := fun n => propext eq_comm
   simp only [sw, hm, decide_false, cond_false, Option.bind_some, Sum.elim_inl, zn]
   rfl
theorem zgf (s : List UInt8) : Tot (Fz69 s) fun x => decide (x.2 = 0) = decide (s ∈ primN) := by
 unfold Fz69 Fz68
 simp only [Option.bind_some]
 change Tot (Option.bind (lpO (fun (k : Int) => cond (decide (k < ((List.length (List.map SV.str primN) : Nat) : Int))) (idxO primN k _) _) 0) _) _
 rw [zq]
 have hn : (List.map SV.str primN).length = 40 := rfl
 have hn' : primN.length = 40 := rfl
 rw [hn]
 refine Tot.count 40 (fun k x => x = (k : Int) /\ s ∉ primN.take k) ?_ ⟨rfl, by simp⟩
 rintro k _ hk ⟨rfl, hmem⟩
 simp only [zw, zn, zS, qc, zq, Sum.elim_inl, Sum.elim_inr, decide_eq_true_eq, decide_eq_false_iff_not, Int.toNat_natCast]
 refine ⟨fun hlt => ?_, fun hge => ?_⟩
 · obtain ⟨x, hx⟩ := zv (l := primN) (i := k) (by omega)
   refine ⟨by omega, x, hx, fun g => ?_, fun g => ?_⟩
   · subst g
     have := List.mem_of_getElem? hx
     simp [this]
   · rw [w64 (by omega) (by omega), List.take_add_one, hx]
     refine ⟨by omega, by omega, fun hm => ?_⟩
     rcases List.mem_append.1 hm with hm | hm
     · exact hmem hm
     · simp at hm; exact g hm.symm
 · rw [List.take_of_length_le (by omega)] at hmem
   simp [hmem]
def resN : List (List UInt8) := [[118, 97, 114], [100, 101, 102], [111, 117, 116], [105, 102], [101, 108, 115, 101], [119, 104, 105, 108, 101], [101, 110, 100], [114, 101, 108, 101, 97, 115, 101], [105, 110, 116], [99, 104, 97, 114]]
def exN (s : List UInt8) : Bool := !decide (s ∈ resN) && !decide (s ∈ primN) && (wl s && decide (s.length <= 16))
theorem ur (s : List UInt8) (h : s.length <= 1000000) : Fz38 s = some (exN s) := by
 apply Tot.eq
 unfold exN
 by_cases hm : s ∈ resN
 · have h2 : ∀ t ∈ resN, Fz38 t = some false := by
    unfold resN
    simp only [List.forall_mem_cons]
    repeat' constructor
    intro t ht; cases ht
   rw [h2 s hm, zn]
   simp [hm]
 · have hd : decide (s ∈ resN) = false := by simp [hm]
   rw [hd]
   unfold Fz38
   unfold resN at hm
   simp only [List.mem_cons, List.not_mem_nil, or_false, not_or] at hm
   change Tot (cond (decide (s = [118, 97, 114])) _ (cond (decide (s = [100, 101, 102])) _ (cond (decide (s = [111, 117, 116])) _ (cond (decide (s = [105, 102])) _ (cond (decide (s = [101, 108, 115, 101])) _ (cond (decide (s = [119, 104, 105, 108, 101])) _ (cond (decide (s = [101, 110, 100])) _ (cond (decide (s = [114, 101, 108, 101, 97, 115, 101])) _ (cond (decide (s = [105, 110, 116])) _ (cond (decide (s = [99, 104, 97, 114])) _ _)))))))))) _
   simp only [hm, decide_false, cond_false, zq]
   refine (zcy s).mono fun x hx => ?_
   rw [hx, zw]
   refine ⟨fun g => ?_, fun g => ?_⟩
   · rw [g]; exact .mk rfl
   · rw [g, zq]
     refine (zd9 s h).mono fun y hy => .mk ?_
     rw [hy]; rfl
theorem zf3 (s : List UInt8) : Fz75 s = some (decide (s ∈ resN)) := by
 unfold Fz75
 apply Tot.eq
 change Tot (Option.bind (lpO (fun (k : Int) => cond (decide (k < ((10 : Nat) : Int))) (zk (0 <= k /\ k < ((10 : Nat) : Int)) (idxO resN ((k.toNat : Nat) : Int) _)) _) 0) _) _
 rw [zq]
 have hn' : resN.length = 10 := rfl
 refine Tot.count 10 (fun k x => x = (k : Int) /\ s ∉ resN.take k) ?_ ⟨rfl, by simp⟩
 rintro k _ hk ⟨rfl, hmem⟩
 simp only [zw, zn, zS, qc, ql, zq, Sum.elim_inl, Sum.elim_inr, decide_eq_true_eq, decide_eq_false_iff_not, Int.toNat_natCast]
 refine ⟨fun hlt => ?_, fun hge => ?_⟩
 · obtain ⟨x, hx⟩ := zv (l := resN) (i := k) (by omega)
   refine ⟨⟨by omega, by omega⟩, by omega, x, hx, fun g => ?_, fun g => ?_⟩
   · subst g
     have := List.mem_of_getElem? hx
     simp [this]
   · rw [w64 (by omega) (by omega), List.take_add_one, hx]
     refine ⟨by omega, by omega, fun hm => ?_⟩
     rcases List.mem_append.1 hm with hm | hm
     · exact hmem hm
     · simp at hm; exact g hm.symm
 · rw [List.take_of_length_le (by omega)] at hmem
   simp [hmem]
theorem zdq (s : List UInt8) (h : s.length <= 1000000) : Fz76 s = some (exN s) := by
 unfold Fz76 exN
 apply Tot.eq
 rw [zq]
 refine (zgf s).mono fun x hx => ?_
 rw [zq]
 refine (zrg s h).mono fun y hy => ?_
 rw [hx, hy, zf3]
 cases wl s && decide (s.length <= 16) <;> cases decide (s ∈ primN) <;> cases decide (s ∈ resN) <;> exact .mk rfl
end Go.Sx.O
namespace Go.Sx.O
open Go
end Go.Sx.O
namespace Go.Sx.O
open Go
end Go.Sx.O
namespace Go.Sx.O
open Go
theorem qf {σ τ ε : Type} {step : σ -> Option (σ ⊕ (ε ⊕ τ))} {k1 : ε -> Option τ} (n : Nat) (S : Nat -> σ) (f : Nat -> Option τ) (e : ε)
 (h1 : ∀ k : Nat, k < n -> step (S k) = some (match f k with | some r => .inr (.inr r) | none => .inl (S (k + 1))))
 (h2 : step (S n) = some (.inr (.inl e))) {s0 : σ} (h0 : S 0 = s0) : (lpO step s0).bind (Sum.elim k1 some) = match scan f 0 n with | some r => some r | none => k1 e := by
 subst h0
 rw [xJ n S (fun k => (f k).map Sum.inr) (.inl e) (fun k hk => by rw [h1 k hk]; cases f k <;> rfl) h2, wK]
 cases scan f 0 n <;> rfl
theorem xy {σ τ ε : Type} {step : σ -> Option (σ ⊕ (ε ⊕ τ))} {k1 : ε -> Option τ} (n : Nat) (S : Nat -> σ) (e : ε)
 (h1 : ∀ k : Nat, k < n -> step (S k) = some (.inl (S (k + 1)))) (h2 : step (S n) = some (.inr (.inl e))) {s0 : σ} (h0 : S 0 = s0) : (lpO step s0).bind (Sum.elim k1 some) = k1 e := by
 subst h0
 rw [zqo n S (.inl e) h1 h2]; rfl
def foldN : List (List UInt8) := [[], [115, 117, 109], [99, 111, 117, 110, 116], [108, 101, 97, 115, 116], [109, 111, 115, 116]]
def jY (n : Int) : List UInt8 × Int := if n < 1 \/ 4 < n then ([], 2) else (foldN.getD n.toNat [], 0)
theorem zc9 {n : Int} (h : ¬ (n < 1 \/ 4 < n)) : n = 1 \/ n = 2 \/ n = 3 \/ n = 4 := by omega
theorem zjo (n : Int) : Fz54 n = some (jY n) := by
 unfold Fz54 jY
 by_cases h : n < 1 \/ 4 < n
 · rw [if_pos h]
   rcases h with h | h
   · simp [h]
   · have : ¬ n < 1 := by omega
     simp [this, h]
 · rw [if_neg h]
   rcases zc9 h with rfl | rfl | rfl | rfl <;> rfl
theorem zjl (n : Int) : Fz87 n = some (jY n) := by
 unfold Fz87 jY Fz86
 by_cases h : n < 1 \/ 4 < n
 · rw [if_pos h]
   rcases h with h | h
   · simp [h]
   · have : ¬ n < 1 := by omega
     simp [this, h]
 · rw [if_neg h]
   rcases zc9 h with rfl | rfl | rfl | rfl <;> rfl
def i64 (n : Int) : Prop := -9223372036854775808 <= n /\ n <= 9223372036854775807
end Go.Sx.O
namespace Go.Sx.O
open Go
end Go.Sx.O
namespace Go.Sx.O
open Go
end Go.Sx.O
namespace Go.Sx.O
open Go
theorem zre {n : Int} (h : inK .u8 n) : 0 <= n /\ n < 256 := by
 have e1 : IntKind.u8.min = 0 := by decide
 have e2 : IntKind.u8.max = 255 := by decide
 unfold inK at h
 omega
end Go.Sx.O
namespace Go.Sx.O
open Go
def labB (l : TL) (a : Int) : Bool := decide (0 <= a) && decide (a < (l.Names.length : Int))
theorem yG (l : TL) (a : Int) : Fz39 l a = some (labB l a) := by
 unfold Fz39 labB
 by_cases h : 0 <= a <;> simp [h]
theorem yl (l : TL) (a : Int) : Fz78 l a = some (labB l a) := by
 unfold Fz78 labB
 by_cases h : 0 <= a <;> simp [h]
def nmE (s : List UInt8) (before : List (List UInt8)) : Int := if exN s = true then (if s ∈ before then 8 else 0) else 24
theorem inL_iff {α : Type} [DecidableEq α] {a : α} {l : List α} : inL a l = true ↔ a ∈ l := by
 unfold inL; simp
theorem uo (s : List UInt8) (b : List (List UInt8)) (h : s.length <= 1000000) (hb : b.length <= 1000000) : Fz77 s b = some (nmE s b) := by
 unfold Fz77 nmE
 rw [zdq s h]
 simp only [Option.bind_some, List.length_map]
 cases exN s with
 | false => simp
 | true =>
   simp only [Bool.not_true, cond_false, if_true]
   refine (qf b.length (fun k => (k : Int)) (fun k => match b[k]? with | some x => if x = s then some (8 : Int) else none | none => none) () (fun k hk => ?_) ?_ rfl).trans ?_
   · obtain ⟨x, hx⟩ := zv hk
     have hlt : (k : Int) < (b.length : Int) := by omega
     have hw : IntKind.wrap .i64 ((k : Int) + 1) = ((k + 1 : Nat) : Int) := w64 (by omega) (by omega)
     have n1 : (0 : Int) <= (k : Int) := by omega
     simp only [hlt, decide_true, cond_true, idxO, n1, if_true, Int.toNat_natCast, hx, Option.bind_some, letO, hw]
     by_cases he : x = s <;> simp [he]
   · simp
   · cases hr : scan (fun k => match b[k]? with | some x => if x = s then some (8 : Int) else none | none => none) 0 b.length with
     | some r =>
       have h8 : r = 8 := xw (v := (8 : Int)) (fun i => by
        cases b[i]? with
        | none => exact .inr rfl
        | some x => by_cases hx : x = s <;> simp [hx]) hr
       have hm : s ∈ b := by
        by_cases hm : s ∈ b
        · exact hm
        have : scan (fun k => match b[k]? with | some x => if x = s then some (8 : Int) else none | none => none) 0 b.length = none := by
         rw [scan_none]
         intro i _ hi
         obtain ⟨x, hx⟩ := zv (l := b) (i := i) (by omega)
         rw [hx]
         have : x ≠ s := fun e => hm (e ▸ List.mem_of_getElem? hx)
         simp [this]
        rw [this] at hr; cases hr
       simp [hm, h8]
     | none =>
       have hm : ¬ s ∈ b := by
        intro hm
        obtain ⟨i, hi, e⟩ := List.getElem_of_mem hm
        have := scan_none.1 hr i (by omega) (by omega)
        rw [List.getElem?_eq_getElem hi, e] at this
        simp at this
       simp [hm]
def chK (p : TP) (k : Nat) : Option (Int × Int) := match p.Channels[k]? with
 | some c => if nmE c.s_ ((p.Channels.take k).map (·.s_)) ≠ 0 then some ((k : Int), nmE c.s_ ((p.Channels.take k).map (·.s_))) else if labB p.Lattice c.at_ = true then none else some ((k : Int), 7)
 | none => none
def chC (p : TP) : Int × Int := if (16 : Int) < (p.Channels.length : Int) then (-1, 3) else match scan (chK p) 0 p.Channels.length with | some r => r | none => (0, 0)
theorem zam (p : TP) (hs : ∀ c ∈ p.Channels, c.s_.length <= 1000000) : Fz40 p = some (chC p) := by
 unfold Fz40 chC
 simp only [List.length_map]
 by_cases h : (16 : Int) < (p.Channels.length : Int)
 · simp [h]
 simp only [h, decide_false, cond_false, if_false]
 refine (qf p.Channels.length (fun k => ((k : Int), (p.Channels.take k).map (·.s_))) (chK p) () (fun k hk => ?_) ?_ rfl).trans ?_
 · obtain ⟨x, hx⟩ := zv hk
   have hlt : (k : Int) < (p.Channels.length : Int) := by omega
   have hw : IntKind.wrap .i64 ((k : Int) + 1) = ((k + 1 : Nat) : Int) := w64 (by omega) (by omega)
   have n1 : (0 : Int) <= (k : Int) := by omega
   have e : (p.Channels.take (k + 1)).map (·.s_) = (p.Channels.take k).map (·.s_) ++ [x.s_] := by rw [List.take_add_one, hx]; simp
   simp only [hlt, decide_true, cond_true, idxO, n1, if_true, Int.toNat_natCast, hx, Option.bind_some, letO, hw, ur x.s_ (hs x (List.mem_of_getElem? hx)), yG, chK, e]
   unfold nmE
   cases exN x.s_ with
   | false => simp
   | true =>
     cases hi : inL x.s_ ((p.Channels.take k).map (·.s_)) with
     | true =>
       have := inL_iff.1 hi
       simp only [Bool.not_true, cond_false, cond_true, if_true, if_pos this]
       simp
     | false =>
       have : ¬ x.s_ ∈ (p.Channels.take k).map (·.s_) := fun h => by rw [inL_iff.2 h] at hi; cases hi
       simp only [Bool.not_true, cond_false, if_true, if_neg this]
       cases labB p.Lattice x.at_ <;> simp
 · simp
 · cases scan (chK p) 0 p.Channels.length <;> rfl
theorem zbw (p : TP) (hs : ∀ c ∈ p.Channels, c.s_.length <= 1000000) : Fz79 p = some (chC p) := by
 unfold Fz79 chC
 simp only [List.length_map]
 by_cases h : (16 : Int) < (p.Channels.length : Int)
 · simp [h]
 simp only [h, decide_false, cond_false, if_false]
 refine (qf p.Channels.length (fun k => ((k : Int), (p.Channels.take k).map (·.s_))) (chK p) () (fun k hk => ?_) ?_ rfl).trans ?_
 · obtain ⟨x, hx⟩ := zv hk
   have hlt : (k : Int) < (p.Channels.length : Int) := by omega
   have hw : IntKind.wrap .i64 ((k : Int) + 1) = ((k + 1 : Nat) : Int) := w64 (by omega) (by omega)
   have n1 : (0 : Int) <= (k : Int) := by omega
   have e : (p.Channels.take (k + 1)).map (·.s_) = (p.Channels.take k).map (·.s_) ++ [x.s_] := by rw [List.take_add_one, hx]; simp
   have hl : ((p.Channels.take k).map (·.s_)).length <= 16 := by rw [List.length_map, List.length_take]; omega
   simp only [hlt, decide_true, cond_true, idxO, n1, if_true, Int.toNat_natCast, hx, Option.bind_some, letO, hw, uo x.s_ _ (hs x (List.mem_of_getElem? hx)) (Nat.le_trans hl (by omega)), yl, chK, e, zk, List.length_map]
   rw [if_pos (by rw [List.length_map] at hl; omega)]
   by_cases h0 : nmE x.s_ ((p.Channels.take k).map (·.s_)) = 0
   · simp only [h0]
     cases labB p.Lattice x.at_ <;> simp
   · generalize nmE x.s_ ((p.Channels.take k).map (·.s_)) = z at h0 ⊢
     simp [h0]
 · simp
 · cases scan (chK p) 0 p.Channels.length <;> rfl
end Go.Sx.O
namespace Go.Sx.O
open Go
def vrK (g : TY -> Int) (p : TP) (k : Nat) : Option (Int × Int) := match p.Vars[k]? with
 | some c => if nmE c.Name ((p.Vars.take k).map (·.Name)) ≠ 0 then some ((k : Int), nmE c.Name ((p.Vars.take k).map (·.Name))) else if g c.Type_ = 0 then none else some ((k : Int), g c.Type_)
 | none => none
def vrC (g : TY -> Int) (p : TP) : Int × Int := if (32 : Int) < (p.Vars.length : Int) then (-1, 3) else match scan (vrK g p) 0 p.Vars.length with | some r => r | none => (0, 0)
theorem zei (g : TY -> Int) (p : TP) (hs : ∀ c ∈ p.Vars, c.Name.length <= 1000000) (hg : ∀ c ∈ p.Vars, Fz50 p.Lattice c.Type_ = some (g c.Type_)) : Fz51 p = some (vrC g p) := by
 unfold Fz51 vrC
 simp only [List.length_map]
 by_cases h : (32 : Int) < (p.Vars.length : Int)
 · simp [h]
 simp only [h, decide_false, cond_false, if_false]
 refine (qf p.Vars.length (fun k => ((k : Int), (p.Vars.take k).map (·.Name))) (vrK g p) () (fun k hk => ?_) ?_ rfl).trans ?_
 · obtain ⟨x, hx⟩ := zv hk
   have hlt : (k : Int) < (p.Vars.length : Int) := by omega
   have hw : IntKind.wrap .i64 ((k : Int) + 1) = ((k + 1 : Nat) : Int) := w64 (by omega) (by omega)
   have n1 : (0 : Int) <= (k : Int) := by omega
   have e : (p.Vars.take (k + 1)).map (·.Name) = (p.Vars.take k).map (·.Name) ++ [x.Name] := by rw [List.take_add_one, hx]; simp
   simp only [hlt, decide_true, cond_true, idxO, n1, if_true, Int.toNat_natCast, hx, Option.bind_some, letO, hw, ur x.Name (hs x (List.mem_of_getElem? hx)), hg x (List.mem_of_getElem? hx), vrK, e]
   unfold nmE
   cases exN x.Name with
   | false => simp
   | true =>
     cases hi : inL x.Name ((p.Vars.take k).map (·.Name)) with
     | true =>
       have := inL_iff.1 hi
       simp only [Bool.not_true, cond_false, cond_true, if_true, if_pos this]
       simp
     | false =>
       have : ¬ x.Name ∈ (p.Vars.take k).map (·.Name) := fun h => by rw [inL_iff.2 h] at hi; cases hi
       simp only [Bool.not_true, cond_false, if_true, if_neg this]
       by_cases hz : g x.Type_ = 0 <;> simp [hz]
 · simp
 · cases scan (vrK g p) 0 p.Vars.length <;> rfl
theorem zga (g : TY -> Int) (p : TP) (hs : ∀ c ∈ p.Vars, c.Name.length <= 1000000) (hg : ∀ c ∈ p.Vars, Fz82 p.Lattice c.Type_ = some (g c.Type_)) : Fz83 p = some (vrC g p) := by
 unfold Fz83 vrC
 simp only [List.length_map]
 by_cases h : (32 : Int) < (p.Vars.length : Int)
 · simp [h]
 simp only [h, decide_false, cond_false, if_false]
 refine (qf p.Vars.length (fun k => ((k : Int), (p.Vars.take k).map (·.Name))) (vrK g p) () (fun k hk => ?_) ?_ rfl).trans ?_
 · obtain ⟨x, hx⟩ := zv hk
   have hlt : (k : Int) < (p.Vars.length : Int) := by omega
   have hw : IntKind.wrap .i64 ((k : Int) + 1) = ((k + 1 : Nat) : Int) := w64 (by omega) (by omega)
   have n1 : (0 : Int) <= (k : Int) := by omega
   have e : (p.Vars.take (k + 1)).map (·.Name) = (p.Vars.take k).map (·.Name) ++ [x.Name] := by rw [List.take_add_one, hx]; simp
   have hl : ((p.Vars.take k).map (·.Name)).length <= 32 := by rw [List.length_map, List.length_take]; omega
   simp only [hlt, decide_true, cond_true, idxO, n1, if_true, Int.toNat_natCast, hx, Option.bind_some, letO, hw, uo x.Name _ (hs x (List.mem_of_getElem? hx)) (Nat.le_trans hl (by omega)), hg x (List.mem_of_getElem? hx), vrK, e, zk, List.length_map]
   rw [if_pos (by rw [List.length_map] at hl; omega)]
   by_cases h0 : nmE x.Name ((p.Vars.take k).map (·.Name)) = 0
   · simp only [h0]
     by_cases hz : g x.Type_ = 0 <;> simp [hz]
   · generalize nmE x.Name ((p.Vars.take k).map (·.Name)) = z at h0 ⊢
     simp [h0]
 · simp
 · cases scan (vrK g p) 0 p.Vars.length <;> rfl
end Go.Sx.O
namespace Go.Sx.O
open Go
theorem zi6 (x : Int) (h0 : 0 <= x) (h1 : x < 256) : Tot (Fz42 x) fun y => ∀ n : Nat, n <= 8 -> x.toNat < 2 ^ n -> decide (y < (n : Int)) = !decide (x.toNat = 2 ^ n - 1) := by
 unfold Fz42
 rw [qc]
 refine ⟨h0, ?_⟩
 have key : ∀ l : List UInt8, (∀ x : Fin 256, ∀ n : Fin 9, (l[x.val]?.map fun y => decide (x.val < 2 ^ n.val -> decide (IntKind.wrap .i64 (y.toNat : Int) < (n.val : Int)) = !decide (x.val = 2 ^ n.val - 1))) = some true) ->
  ∃ y, l[x.toNat]? = some y /\ Tot (letO (IntKind.wrap .i64 (y.toNat : Int)) fun z => some z) fun y => ∀ n : Nat, n <= 8 -> x.toNat < 2 ^ n -> decide (y < (n : Int)) = !decide (x.toNat = 2 ^ n - 1) := by
  intro l hl
  cases e : l[x.toNat]? with
  | none =>
    have := hl ⟨x.toNat, by omega⟩ ⟨0, by omega⟩
    simp only [e] at this
    cases this
  | some y =>
    refine ⟨y, rfl, .mk fun n hn hx => ?_⟩
    have := hl ⟨x.toNat, by omega⟩ ⟨n, by omega⟩
    simp only [e, Option.map_some, Option.some.injEq, decide_eq_true_eq] at this
    exact this hx
 exact key _ (by decide +kernel)
theorem znb {l : TL} (h : LatIn l) : Fz44 l = some (if (latR l).2 = 0 then ((botN l : Int), 0) else (0, (latR l).2)) := by
 unfold Fz44
 rw [zjn h [] (by simp)]
 simp only [Option.bind_some, askE, List.all_nil, if_true]
 by_cases hk : (latR l).2 = 0
 case neg => simp [hk]
 have ok := yr h hk
 simp only [hk, if_true, decide_true, Bool.not_true, cond_false]
 obtain ⟨o, e1, on, ol, _, ou, _⟩ := zhi l ok.u8 ok.le ok.len
 rw [e1]
 simp only [Option.bind_some]
 have hb := (zch h hk).1
 have hend : Fz43 o.up_ o.n_ = some (botN l : Int) := by
  unfold Fz43
  rw [on]
  have hw : IntKind.wrap .i64 ((l.Names.length : Int) - 1) = ((l.Names.length - 1 : Nat) : Int) := by
   have := ok.pos; have := ok.le
   rw [w64 (by omega) (by omega)]; omega
  have hle := ok.le
  have hpos := ok.pos
  have hrun := xJ (step := fun (s585 : Int) =>
   letO (IntKind.wrap IntKind.i64 ((l.Names.length : Int) - (1 : Int))) fun x591 =>
   cond (decide (s585 < x591))
   (zk ((0 : Int) <= s585 /\ s585 < (↑(8 : Nat) : Int)) (
   idxO (o.up_) ((↑(Int.toNat s585) : Int)) fun x593 =>
   Option.bind (Fz42 (x593)) fun x594 =>
   cond (decide (x594 < (l.Names.length : Int)))
   (letO (IntKind.wrap IntKind.i64 (s585 + (1 : Int))) fun x596 =>
   some (Sum.inl (x596)))
   (some (Sum.inr (Sum.inl (β := Int) s585)))))
   (some (Sum.inr (Sum.inl s585)))) (l.Names.length - 1) (fun k => (k : Int)) (fun k => if k = botN l then some (Sum.inl (k : Int)) else none) (Sum.inl ((l.Names.length - 1 : Nat) : Int)) (fun k hk2 => by
     have hlt : (k : Int) < ((l.Names.length - 1 : Nat) : Int) := by omega
     have n1 : (0 : Int) <= (k : Int) := by omega
     have n2 : (k : Int) < ((8 : Nat) : Int) := by omega
     have hw2 : IntKind.wrap .i64 ((k : Int) + 1) = ((k + 1 : Nat) : Int) := w64 (by omega) (by omega)
     obtain ⟨x, hx⟩ := zv (l := l.Up) (i := k) (by have := ok.len; omega)
     have hx' := ok.u8.get hx
     have hox : o.up_[k]? = some x := by rw [ou k (by omega)]; exact hx
     obtain ⟨y, ey, hy⟩ := zi6 x hx'.1 hx'.2
     have hux : x.toNat = upN l k := by unfold upN; rw [List.getD_eq_getElem?_getD, hx]; rfl
     have hf := zph h hk (b := k) (by omega)
     have hlt2 : x.toNat < 2 ^ l.Names.length := by
      have h1 := (zap h hk).1 k (by omega)
      unfold ordA at h1
      simp only [Bool.and_eq_true, decide_eq_true_eq] at h1
      rw [hux]; exact h1.1.1
     have hd := hy l.Names.length hle hlt2
     rw [hux] at hd
     simp only [letO, hw, hlt, decide_true, cond_true, zk, n1, n2, and_self, if_true, idxO, Int.toNat_natCast, hox, Option.bind_some, ey, hw2, hd]
     by_cases hq : k = botN l
     · have := hf.2 hq
       simp only [this, if_pos hq, decide_true, Bool.not_true, cond_false]
     · have : ¬ upN l k = 2 ^ l.Names.length - 1 := fun e => hq (hf.1 e)
       simp only [this, if_neg hq, decide_false, Bool.not_false, cond_true]) (by
     simp only [letO, hw]
     simp)
  have hs0 : ((0 : Nat) : Int) = 0 := rfl
  simp only [hs0] at hrun
  rw [hrun]
  have hsc : (scan (fun k => if k = botN l then some (Sum.inl (α := Int) (β := Int) (k : Int)) else none) 0 (l.Names.length - 1)).getD (Sum.inl ((l.Names.length - 1 : Nat) : Int)) = Sum.inl (botN l : Int) := by
   cases e : scan (fun k => if k = botN l then some (Sum.inl (α := Int) (β := Int) (k : Int)) else none) 0 (l.Names.length - 1) with
   | some r =>
     have : r = Sum.inl (botN l : Int) := xw (v := Sum.inl (botN l : Int)) (fun i => by
      by_cases hi : i = botN l
      · exact .inl (by rw [if_pos hi, hi])
      · exact .inr (by rw [if_neg hi])) e
     rw [this]; rfl
   | none =>
     have hn := scan_none.1 e
     rcases Nat.lt_or_ge (botN l) (l.Names.length - 1) with g | g
     · have := hn (botN l) (by omega) (by omega)
       simp at this
     · have : botN l = l.Names.length - 1 := by omega
       rw [this]; rfl
  rw [hsc]
  rfl
 rw [hend]
 rfl
end Go.Sx.O
namespace Go.Sx.O
open Go
theorem zf7 {l : TL} (h : LatIn l) : Fz81 l = some (if (latR l).2 = 0 then ((botN l : Int), 0) else (0, (latR l).2)) := by
 apply Tot.eq
 unfold Fz81
 rw [ze0 h]
 simp only [Option.bind_some]
 by_cases hk : (latR l).2 = 0
 case neg =>
  have : askE l [0, 0] = (latR l).2 := by unfold askE; rw [if_neg hk]
  simp only [this, hk, decide_false, Bool.not_false, cond_true, if_false]
  exact .mk rfl
 have ok := yr h hk
 have hpos := ok.pos
 have hle := ok.le
 have h0n : (0 : Int) < (l.Names.length : Int) := by omega
 have hl0 : qM l 0 = true := by unfold qM; rw [decide_eq_true (Int.le_refl 0), decide_eq_true h0n]; rfl
 have ha : askE l [0, 0] = 0 := by unfold askE; rw [if_pos hk, List.all_cons, List.all_cons, hl0]; rfl
 simp only [ha, hk, decide_true, Bool.not_true, cond_false, if_true]
 obtain ⟨d, e1, dl, dd⟩ := zdp ok.u8 ok.le ok.len
 rw [e1]
 simp only [Option.bind_some, zq, List.length_map]
 refine Tot.count l.Names.length (fun k s => s.1 = (k : Int) /\ ∃ v : Nat, s.2 = (v : Int) /\ v < l.Names.length /\ ∀ i, i < l.Names.length -> up l i v = true -> ∀ j, j < k -> up l i j = true) ?_ ⟨rfl, 0, rfl, by omega, fun i _ _ j hj => by omega⟩
 rintro k ⟨i, w⟩ hkn ⟨h0, v, h1, h2, h3⟩
 simp only at h0 h1
 subst h0 h1
 simp only [zw, decide_eq_true_eq, decide_eq_false_iff_not]
 refine ⟨fun hlt => ?_, fun hlt => ?_⟩
 · obtain ⟨c, hc, hcn, hg⟩ := zix h hk (a := k) (b := v) (by omega) h2
   rw [jS d (dnN l) k v (by omega) (fun c hc => dd c (by omega)) (fun c hc2 => zd8 l c hle) (by omega) (by omega)]
   unfold bndI
   rw [dl, hc]
   simp only [Option.bind_some, letO, zn, Sum.elim_inl]
   refine ⟨by omega, w64 (by omega) (by omega), c, rfl, hcn, fun i hi hu j hj => ?_⟩
   rw [zdf hi hg] at hu
   simp only [Bool.and_eq_true] at hu
   rcases Nat.lt_or_ge j k with g | g
   · exact h3 i hi hu.2 j g
   · have : j = k := by omega
     rw [this]; exact hu.1
 · have hke : k = l.Names.length := by omega
   simp only [zn, Sum.elim_inl, Sum.elim_inr]
   have := zmx h hk h2 fun a ha => h3 v h2 (ok.self v h2) a (by omega)
   rw [<- this]
end Go.Sx.O
namespace Go.Sx.O
open Go
theorem znr {l : TL} (hu : U8s l.Up) {a b : Nat} (ha : a < l.Up.length) (hb : b <= 8) : Fz46 l a b = some (up l a b) := by
 unfold Fz46
 obtain ⟨x, hx⟩ := zv ha
 have hx' := hu.get hx
 have key : ∀ u : Fin 256, ∀ b : Fin 9, decide (bits .and .u8 (Int.fdiv (u.val : Int) (2 ^ min b.val (IntKind.bits .u8))) 1 = 1) = Nat.testBit u b := by decide +kernel
 have := key ⟨x.toNat, by omega⟩ ⟨b, by omega⟩
 simp only [Int.toNat_of_nonneg hx'.1] at this
 simp only [Int.natCast_nonneg, idxO, Int.toNat_natCast, if_true, hx, Option.bind_some, zk, this, yI hx]
theorem zd1 {l : TL} (h : LatIn l) (hk : (latR l).2 = 0) (xs : List Int) (hx : xs.length <= 64) (hl : ∀ x ∈ xs, qM l x = true) : Fz45 l xs = some (0, 0) := by
 unfold Fz45
 rw [uA h]
 have h64 : ¬ (64 : Int) < (xs.length : Int) := by omega
 simp only [Option.bind_some, hk, decide_true, Bool.not_true, cond_false, List.length_map, h64, decide_false]
 refine (xy xs.length (fun k => (k : Int)) () (fun k hk => ?_) (by simp) rfl).trans rfl
 obtain ⟨x, hx⟩ := zv hk
 have hq := hl x (List.mem_of_getElem? hx)
 unfold qM at hq
 simp only [Bool.and_eq_true, decide_eq_true_eq] at hq
 have hlt : (k : Int) < (xs.length : Int) := by omega
 have hw : IntKind.wrap .i64 ((k : Int) + 1) = ((k + 1 : Nat) : Int) := w64 (by omega) (by omega)
 have n1 : (0 : Int) <= (k : Int) := by omega
 have n2 : ¬ x < 0 := by omega
 have n3 : ¬ (l.Names.length : Int) <= x := by omega
 simp only [hlt, decide_true, cond_true, idxO, n1, if_true, Int.toNat_natCast, hx, Option.bind_some, letO, hw, n2, n3, decide_false, cond_false]
def flK (l : TL) (xs : List Int) (a : Int) (k : Nat) : Option Int := match xs[k]? with
 | some x => if up l x.toNat a.toNat = true then none else some (k : Int)
 | none => none
def flV (l : TL) (xs : List Int) (a : Int) : Int × Int := match scan (flK l xs a) 0 xs.length with | some r => (r, 25) | none => (0, 0)
theorem zoz {l : TL} (h : LatIn l) (hk : (latR l).2 = 0) (xs : List Int) (hx : xs.length <= 64) (hl : ∀ x ∈ xs, qM l x = true) (a : Int) (ha : qM l a = true) :
 Fz49 l xs a = some (flV l xs a) := by
 have ok := yr h hk
 have hle := ok.le
 have hlen := ok.len
 unfold Fz49
 rw [zd1 h hk xs hx hl]
 unfold qM at ha
 simp only [Bool.and_eq_true, decide_eq_true_eq] at ha
 have n2 : ¬ a < 0 := by omega
 have n3 : ¬ (l.Names.length : Int) <= a := by omega
 simp only [Option.bind_some, decide_true, Bool.not_true, cond_false, n2, n3, decide_false, List.length_map]
 have hi : Fz48 xs (l, a) = some (match scan (flK l xs a) 0 xs.length with | some r => r | none => -1) := by
  unfold Fz48
  simp only [List.length_map]
  refine (qf xs.length (fun k => (k : Int)) (flK l xs a) () (fun k hk => ?_) (by simp) rfl).trans ?_
  · obtain ⟨x, hx⟩ := zv hk
    have hq := hl x (List.mem_of_getElem? hx)
    unfold qM at hq
    simp only [Bool.and_eq_true, decide_eq_true_eq] at hq
    have hlt : (k : Int) < (xs.length : Int) := by omega
    have hw : IntKind.wrap .i64 ((k : Int) + 1) = ((k + 1 : Nat) : Int) := w64 (by omega) (by omega)
    have n1 : (0 : Int) <= (k : Int) := by omega
    have hb : Fz46 l x a = some (up l x.toNat a.toNat) := by
     have := znr ok.u8 (a := x.toNat) (b := a.toNat) (by omega) (by omega)
     rwa [Int.toNat_of_nonneg hq.1, Int.toNat_of_nonneg ha.1] at this
    simp only [hlt, decide_true, cond_true, idxO, n1, if_true, Int.toNat_natCast, hx, Option.bind_some, letO, hw, Fz47, hb, flK]
    cases up l x.toNat a.toNat <;> simp
  · cases scan (flK l xs a) 0 xs.length <;> rfl
 rw [hi]
 unfold flV
 cases e : scan (flK l xs a) 0 xs.length with
 | none => simp
 | some r =>
   have : 0 <= r := by
    have key : ∀ {j k : Nat} {b : Int}, scan (flK l xs a) k j = some b -> 0 <= b := by
     intro j
     induction j with
     | zero => intro k b h; cases h
     | succ j ih =>
       intro k b h
       simp only [scan] at h
       cases hf : flK l xs a k with
       | none => rw [hf] at h; exact ih h
       | some z =>
         rw [hf] at h
         cases h
         unfold flK at hf
         split at hf
         · split at hf
           · cases hf
           · cases hf; omega
         · cases hf
    exact key e
   simp [this]
end Go.Sx.O
namespace Go.Sx.O
open Go
noncomputable def wL (l : TL) (t : TY) : Int :=
 if t.Rank < 0 \/ 2 < t.Rank then 7
 else if labB l t.Axes.1 = true /\ labB l t.Axes.2 = true /\ labB l t.Data = true then
  if ([t.Axes.1, t.Axes.2].drop t.Rank.toNat).all (fun x => decide (x = (botN l : Int))) = true then
   if ([t.Axes.1, t.Axes.2].take t.Rank.toNat).all (fun x => up l x.toNat t.Data.toNat) = true then 0 else 25
  else 6
 else 7
noncomputable def jy (l : TL) (t : TY) : Int := if (latR l).2 = 0 then (if t.Kind = 1 \/ t.Kind = 2 then wL l t else 7) else (latR l).2
theorem zl7 {β : Type} (v : β) (b : Int) (xs : List Int) (hx : xs.length <= 2) : scan (fun k => match xs[k]? with | some x => if x = b then none else some v | none => none) 0 xs.length = if xs.all (fun x => decide (x = b)) = true then none else some v := by
 match xs, hx with
 | [], _ => rfl
 | [x], _ => by_cases h : x = b <;> simp [scan, h]
 | [x, y], _ => by_cases h : x = b <;> by_cases g : y = b <;> simp [scan, h, g]
theorem zop (l : TL) (a : Int) (xs : List Int) (hx : xs.length <= 2) : (flV l xs a).2 = if xs.all (fun x => up l x.toNat a.toNat) = true then 0 else 25 := by
 match xs, hx with
 | [], _ => rfl
 | [x], _ => cases h : up l x.toNat a.toNat <;> simp [flV, scan, flK, h]
 | [x, y], _ => cases h : up l x.toNat a.toNat <;> cases g : up l y.toNat a.toNat <;> simp [flV, scan, flK, h, g]
theorem zns {l : TL} (h : LatIn l) (hk : (latR l).2 = 0) (t : TY) (hr : ¬ (t.Rank < 0 \/ 2 < t.Rank)) (l1 : labB l t.Axes.1 = true) (l2 : labB l t.Axes.2 = true) (l3 : labB l t.Data = true) :
 (Option.bind (lpO (fun (s612 : Int) =>
 cond (decide (s612 < (↑(List.length (List.drop (Int.toNat t.Rank) (List.take (Int.toNat (↑(2 : Nat) : Int)) [SV.int IntKind.i64 t.Axes.fst, SV.int IntKind.i64 t.Axes.snd]))) : Int)))
 (idxO (List.drop (Int.toNat t.Rank) (List.take (Int.toNat (↑(2 : Nat) : Int)) [t.Axes.fst, t.Axes.snd])) (s612) fun x617 =>
 cond (!decide (x617 = (botN l : Int)))
 (some (Sum.inr (Sum.inr ((6 : Int)))))
 (letO (IntKind.wrap IntKind.i64 (s612 + (1 : Int))) fun x619 =>
 some (Sum.inl (x619))))
 (some (Sum.inr (Sum.inl (()))))) ((0 : Int)))
 (Sum.elim (fun (_ : Unit) =>
 zk ((0 : Int) <= t.Rank /\ t.Rank <= (↑(2 : Nat) : Int)) (
 Option.bind (Fz49 l (List.drop (Int.toNat (0 : Int)) (List.take (Int.toNat t.Rank) [t.Axes.fst, t.Axes.snd])) (t.Data)) fun x653 =>
 cond (!decide (x653.snd = (0 : Int)))
 (some (x653.snd))
 (some ((0 : Int))))) some)) = some (wL l t) := by
 have e0 : List.take (Int.toNat ((2 : Nat) : Int)) [t.Axes.fst, t.Axes.snd] = [t.Axes.fst, t.Axes.snd] := rfl
 have e1 : List.take (Int.toNat ((2 : Nat) : Int)) [SV.int IntKind.i64 t.Axes.fst, SV.int IntKind.i64 t.Axes.snd] = [SV.int IntKind.i64 t.Axes.fst, SV.int IntKind.i64 t.Axes.snd] := rfl
 have e2 : List.drop (Int.toNat 0) (List.take (Int.toNat t.Rank) [t.Axes.fst, t.Axes.snd]) = List.take (Int.toNat t.Rank) [t.Axes.fst, t.Axes.snd] := rfl
 rw [e0, e1, e2]
 have hlen : (List.drop (Int.toNat t.Rank) [SV.int IntKind.i64 t.Axes.fst, SV.int IntKind.i64 t.Axes.snd]).length = (List.drop (Int.toNat t.Rank) [t.Axes.fst, t.Axes.snd]).length := by simp
 rw [hlen]
 have hd2 : (List.drop (Int.toNat t.Rank) [t.Axes.fst, t.Axes.snd]).length <= 2 := by simp
 have ht2 : (List.take (Int.toNat t.Rank) [t.Axes.fst, t.Axes.snd]).length <= 2 := by simp; omega
 have htl : ∀ x ∈ List.take (Int.toNat t.Rank) [t.Axes.fst, t.Axes.snd], qM l x = true := fun x hx => by
  have := List.mem_of_mem_take hx
  simp only [List.mem_cons, List.not_mem_nil, or_false] at this
  rcases this with rfl | rfl
  · exact l1
  · exact l2
 unfold wL
 rw [if_neg hr, if_pos ⟨l1, l2, l3⟩]
 generalize hD : List.drop (Int.toNat t.Rank) [t.Axes.fst, t.Axes.snd] = D at hd2 ⊢
 generalize hT : List.take (Int.toNat t.Rank) [t.Axes.fst, t.Axes.snd] = T at ht2 htl ⊢
 refine (qf D.length (fun k => (k : Int)) (fun k => match D[k]? with | some x => if x = (botN l : Int) then none else some (6 : Int) | none => none) () (fun k hk => ?_) (by simp) rfl).trans ?_
 · obtain ⟨x, hx⟩ := zv hk
   have hlt : (k : Int) < (D.length : Int) := by omega
   have hw : IntKind.wrap .i64 ((k : Int) + 1) = ((k + 1 : Nat) : Int) := w64 (by omega) (by omega)
   have n1 : (0 : Int) <= (k : Int) := by omega
   simp only [hlt, decide_true, cond_true, idxO, n1, if_true, Int.toNat_natCast, hx, Option.bind_some, letO, hw]
   by_cases hb : x = (botN l : Int) <;> simp [hb]
 · rw [zl7 (6 : Int) (botN l : Int) D hd2]
   by_cases hall : D.all (fun x => decide (x = (botN l : Int))) = true
   · simp only [hall, if_true]
     unfold zk
     rw [if_pos (by omega), zoz h hk T (by omega) htl t.Data l3]
     have := zop l t.Data T ht2
     simp only [Option.bind_some]
     rw [this]
     split <;> rfl
   · rw [if_neg hall, if_neg hall]
end Go.Sx.O
namespace Go.Sx.O
open Go
theorem zeb {l : TL} (h : LatIn l) (t : TY) : Fz50 l t = some (jy l t) := by
 unfold Fz50 jy
 rw [znb h]
 by_cases hk : (latR l).2 = 0
 case neg => simp [hk]
 simp only [hk, if_true, Option.bind_some, decide_true, Bool.not_true, cond_false, yG]
 by_cases r1 : t.Rank < 0
 · by_cases k1 : t.Kind = 1 <;> by_cases k2 : t.Kind = 2 <;> simp [k1, k2, r1, wL]
 by_cases r2 : 2 < t.Rank
 · by_cases k1 : t.Kind = 1 <;> by_cases k2 : t.Kind = 2 <;> simp [k1, k2, r1, r2, wL]
 have hr : ¬ (t.Rank < 0 \/ 2 < t.Rank) := by omega
 have hside : (0 : Int) <= t.Rank /\ t.Rank <= ((2 : Nat) : Int) := by omega
 cases l1 : labB l t.Axes.fst with
 | false => by_cases k1 : t.Kind = 1 <;> by_cases k2 : t.Kind = 2 <;> simp [k1, k2, r1, r2, wL, l1]
 | true =>
   cases l2 : labB l t.Axes.snd with
   | false => by_cases k1 : t.Kind = 1 <;> by_cases k2 : t.Kind = 2 <;> simp [k1, k2, r1, r2, wL, l1, l2]
   | true =>
     cases l3 : labB l t.Data with
     | false => by_cases k1 : t.Kind = 1 <;> by_cases k2 : t.Kind = 2 <;> simp [k1, k2, r1, r2, wL, l1, l2, l3]
     | true =>
       have key := zns h hk t hr l1 l2 l3
       simp only [Bool.not_true, cond_false, r1, r2, decide_false]
       by_cases k1 : t.Kind = 1
       · simp only [k1, decide_true, Bool.not_true, cond_false, true_or, if_true]
         rw [zk, if_pos hside]
         exact key
       · by_cases k2 : t.Kind = 2
         · simp only [k1, k2, decide_true, decide_false, Bool.not_true, Bool.not_false, cond_true, cond_false, or_true, if_true]
           rw [zk, if_pos hside]
           exact key
         · simp [k1, k2]
end Go.Sx.O
namespace Go.Sx.O
open Go
def bK {β : Type} (v : β) (b : Int) (xs : List Int) (k : Nat) : Option β := match xs[k]? with | some x => if x = b then none else some v | none => none
theorem zq8 {β : Type} (v : β) (b : Int) (xs : List Int) (hx : xs.length <= 2) : scan (bK v b xs) 0 xs.length = if xs.all (fun x => decide (x = b)) = true then none else some v := by
 match xs, hx with
 | [], _ => rfl
 | [x], _ => by_cases h : x = b <;> simp [scan, bK, h]
 | [x, y], _ => by_cases h : x = b <;> by_cases g : y = b <;> simp [scan, bK, h, g]
def uK {β : Type} (v : β) (l : TL) (a : Int) (xs : List Int) (k : Nat) : Option β := match xs[k]? with | some x => if up l x.toNat a.toNat = true then none else some v | none => none
theorem zrd {β : Type} (v : β) (l : TL) (a : Int) (xs : List Int) (hx : xs.length <= 2) : scan (uK v l a xs) 0 xs.length = if xs.all (fun x => up l x.toNat a.toNat) = true then none else some v := by
 match xs, hx with
 | [], _ => rfl
 | [x], _ => cases h : up l x.toNat a.toNat <;> simp [scan, uK, h]
 | [x, y], _ => cases h : up l x.toNat a.toNat <;> cases g : up l y.toNat a.toNat <;> simp [scan, uK, h, g]
theorem zgd {l : TL} (h : LatIn l) (hk : (latR l).2 = 0) (t : TY) (hr : ¬ (t.Rank < 0 \/ 2 < t.Rank)) (l1 : labB l t.Axes.1 = true) (l2 : labB l t.Axes.2 = true) (l3 : labB l t.Data = true) :
 (Option.bind (lpO (fun (s598 : Int) =>
 cond (decide (s598 < (2 : Int)))
 (zk ((0 : Int) <= s598 /\ s598 < (↑(2 : Nat) : Int)) (
 idxO ([t.Axes.fst, t.Axes.snd]) ((↑(Int.toNat s598) : Int)) fun x604 =>
 cond (!decide (x604 = (botN l : Int)))
 (some (Sum.inr (Sum.inr ((6 : Int)))))
 (letO (IntKind.wrap IntKind.i64 (s598 + (1 : Int))) fun x606 =>
 some (Sum.inl (x606)))))
 (some (Sum.inr (Sum.inl (()))))) (t.Rank))
 (Sum.elim (fun (_ : Unit) =>
 Option.bind (
 lpO (fun (s609 : Int) =>
 cond (decide (s609 < t.Rank))
 (zk ((0 : Int) <= s609 /\ s609 < (↑(2 : Nat) : Int)) (
 idxO ([t.Axes.fst, t.Axes.snd]) ((↑(Int.toNat s609) : Int)) fun x614 =>
 Option.bind (Fz63 l (x614) (t.Data)) fun x615 =>
 cond (!x615)
 (some (Sum.inr (Sum.inr ((25 : Int)))))
 (letO (IntKind.wrap IntKind.i64 (s609 + (1 : Int))) fun x617 =>
 some (Sum.inl (x617)))))
 (some (Sum.inr (Sum.inl (()))))) ((0 : Int)))
 (Sum.elim (fun (_ : Unit) =>
 some ((0 : Int))) some)) some)) = some (wL l t) := by
 have ok := yr h hk
 have hle := ok.le
 have hlen := ok.len
 unfold wL
 rw [if_neg hr, if_pos ⟨l1, l2, l3⟩]
 have l1' : qM l t.Axes.1 = true := l1
 have l2' : qM l t.Axes.2 = true := l2
 unfold labB at l1 l2 l3
 simp only [Bool.and_eq_true, decide_eq_true_eq] at l1 l2 l3
 have hB : ∀ x : Int, 0 <= x /\ x < (l.Names.length : Int) -> Fz63 l x t.Data = some (up l x.toNat t.Data.toNat) := fun x hx => by
  have := yh ok.u8 (a := x.toNat) (b := t.Data.toNat) (by omega) (by omega)
  rwa [Int.toNat_of_nonneg hx.1, Int.toNat_of_nonneg l3.1] at this
 have hdl : (2 - t.Rank).toNat = ([t.Axes.1, t.Axes.2].drop t.Rank.toNat).length := by simp; omega
 have htl : t.Rank.toNat = ([t.Axes.1, t.Axes.2].take t.Rank.toNat).length := by simp; omega
 refine (qf (2 - t.Rank).toNat (fun k => t.Rank + (k : Int)) (bK (6 : Int) (botN l : Int) ([t.Axes.1, t.Axes.2].drop t.Rank.toNat)) () (fun k hk2 => ?_) ?_ (by simp)).trans ?_
 · have hkk : t.Rank.toNat + k < 2 := by omega
   have hw : IntKind.wrap .i64 (t.Rank + (k : Int) + 1) = t.Rank + ((k + 1 : Nat) : Int) := by rw [w64 (by omega) (by omega)]; omega
   have hlt : t.Rank + (k : Int) < 2 := by omega
   have n1 : (0 : Int) <= t.Rank + (k : Int) /\ t.Rank + (k : Int) < ((2 : Nat) : Int) := by omega
   have hn : (t.Rank + (k : Int)).toNat = t.Rank.toNat + k := by omega
   obtain ⟨x, hx⟩ := zv (l := [t.Axes.1, t.Axes.2]) (i := t.Rank.toNat + k) (by simpa using hkk)
   have n0 : (0 : Int) <= ((t.Rank.toNat + k : Nat) : Int) := by omega
   simp only [hlt, decide_true, cond_true, zk, n1, and_self, if_true, idxO, hn, n0, Int.toNat_natCast, hx, Option.bind_some, letO, hw, bK, List.getElem?_drop]
   by_cases hb : x = (botN l : Int) <;> simp [hb]
 · have : ¬ t.Rank + ((2 - t.Rank).toNat : Int) < 2 := by omega
   simp only [this, decide_false, cond_false]
 · rw [hdl, zq8 (6 : Int) (botN l : Int) _ (by simp)]
   by_cases hall : ([t.Axes.1, t.Axes.2].drop t.Rank.toNat).all (fun x => decide (x = (botN l : Int))) = true
   · simp only [hall, if_true]
     refine (qf t.Rank.toNat (fun k => (k : Int)) (uK (25 : Int) l t.Data ([t.Axes.1, t.Axes.2].take t.Rank.toNat)) () (fun k hk2 => ?_) ?_ rfl).trans ?_
     · have hkk : k < 2 := by omega
       have hw : IntKind.wrap .i64 ((k : Int) + 1) = ((k + 1 : Nat) : Int) := w64 (by omega) (by omega)
       have hlt : (k : Int) < t.Rank := by omega
       have n1 : (0 : Int) <= (k : Int) /\ (k : Int) < ((2 : Nat) : Int) := by omega
       obtain ⟨x, hx⟩ := zv (l := [t.Axes.1, t.Axes.2]) (i := k) (by simpa using hkk)
       have hxl : qM l x = true := by
        have := List.mem_of_getElem? hx
        simp only [List.mem_cons, List.not_mem_nil, or_false] at this
        rcases this with rfl | rfl
        · exact l1'
        · exact l2'
       have hxb : 0 <= x /\ x < (l.Names.length : Int) := by unfold qM at hxl; simpa using hxl
       simp only [hlt, decide_true, cond_true, zk, n1, and_self, if_true, idxO, Int.toNat_natCast, hx, Option.bind_some, letO, hw, uK, hB x hxb, List.getElem?_take, hk2]
       cases up l x.toNat t.Data.toNat <;> simp
     · have : ¬ (t.Rank.toNat : Int) < t.Rank := by omega
       simp only [this, decide_false, cond_false]
     · rw (occs := .pos [2]) [htl]
       rw [zrd (25 : Int) l t.Data _ (by simp; omega)]
       cases (List.take t.Rank.toNat [t.Axes.fst, t.Axes.snd]).all fun x => up l x.toNat t.Data.toNat <;> rfl
   · rw [if_neg hall, if_neg hall]
end Go.Sx.O
namespace Go.Sx.O
open Go
theorem zge {l : TL} (h : LatIn l) (t : TY) : Fz82 l t = some (jy l t) := by
 unfold Fz82 jy
 rw [xB l h.u8 h.names h.name, <- zbi h]
 by_cases hk : (latR l).2 = 0
 case neg => simp [hk]
 simp only [hk, if_true, Option.bind_some, decide_true, Bool.not_true, cond_false, yl]
 by_cases r1 : t.Rank < 0
 · by_cases k1 : t.Kind = 1 <;> by_cases k2 : t.Kind = 2 <;> simp [k1, k2, r1, wL]
 by_cases r2 : 2 < t.Rank
 · by_cases k1 : t.Kind = 1 <;> by_cases k2 : t.Kind = 2 <;> simp [k1, k2, r1, r2, wL]
 have hr : ¬ (t.Rank < 0 \/ 2 < t.Rank) := by omega
 cases l1 : labB l t.Axes.fst with
 | false => by_cases k1 : t.Kind = 1 <;> by_cases k2 : t.Kind = 2 <;> simp [k1, k2, r1, r2, wL, l1]
 | true =>
   cases l2 : labB l t.Axes.snd with
   | false => by_cases k1 : t.Kind = 1 <;> by_cases k2 : t.Kind = 2 <;> simp [k1, k2, r1, r2, wL, l1, l2]
   | true =>
     cases l3 : labB l t.Data with
     | false => by_cases k1 : t.Kind = 1 <;> by_cases k2 : t.Kind = 2 <;> simp [k1, k2, r1, r2, wL, l1, l2, l3]
     | true =>
       have key := zgd h hk t hr l1 l2 l3
       simp only [Bool.not_true, cond_false, r1, r2, decide_false, zf7 h, hk, if_true, Option.bind_some]
       by_cases k1 : t.Kind = 1
       · simp only [k1, decide_true, Bool.not_true, cond_false, true_or, if_true]
         exact key
       · by_cases k2 : t.Kind = 2
         · simp only [k1, k2, decide_true, decide_false, Bool.not_true, Bool.not_false, cond_true, cond_false, or_true, if_true]
           exact key
         · simp [k1, k2]
def ckK {α τ : Type} (c : α -> Bool) (v : τ) (L : List α) (j : Nat) : Option τ := match L[j]? with | some y => if c y = true then some v else none | none => none
theorem uF {α τ : Type} (c : α -> Bool) (v : τ) (L : List α) (n : Nat) (hn : n <= L.length) : scan (ckK c v L) 0 n = if (L.take n).any c = true then some v else none := by
 by_cases h : (L.take n).any c = true
 · rw [if_pos h]
   cases e : scan (ckK c v L) 0 n with
   | some r =>
     have : r = v := xw (v := v) (fun i => by
      unfold ckK
      cases L[i]? with
      | none => exact .inr rfl
      | some x => by_cases hx : c x = true <;> simp [hx]) e
     rw [this]
   | none =>
     exfalso
     rw [List.any_eq_true] at h
     obtain ⟨x, hx, hc⟩ := h
     obtain ⟨i, hi, hxi⟩ := List.getElem_of_mem hx
     rw [List.length_take] at hi
     have := scan_none.1 e i (by omega) (by omega)
     rw [List.getElem_take] at hxi
     unfold ckK at this
     rw [List.getElem?_eq_getElem (by omega), hxi] at this
     simp [hc] at this
 · rw [if_neg h, scan_none]
   intro i _ hi
   unfold ckK
   obtain ⟨x, hx⟩ := zv (l := L) (i := i) (by omega)
   rw [hx]
   have : ¬ c x = true := fun hc => h (by
    rw [List.any_eq_true]
    exact ⟨x, List.mem_take_iff_getElem.2 ⟨i, by omega, by rw [List.getElem?_eq_getElem (by omega)] at hx; exact Option.some.inj hx⟩, hc⟩)
   simp [this]
def uy (x y : TU) : Bool := decide (y.From = x.From) && decide (y.Goal = x.Goal)
def rlK (p : TP) (k : Nat) : Option (Int × Int) := match p.Rules[k]? with
 | some x => if labB p.Lattice x.From = true then (if labB p.Lattice x.Goal = true then (if x.From = x.Goal then some ((k : Int), 25) else if up p.Lattice x.Goal.toNat x.From.toNat = true then (if (p.Rules.take k).any (uy x) = true then some ((k : Int), 8) else if x.K < 2 then some ((k : Int), 3) else if 400 < x.K then some ((k : Int), 3) else none) else some ((k : Int), 25)) else some ((k : Int), 7)) else some ((k : Int), 7)
 | none => none
def rlC (p : TP) : Int × Int := if (64 : Int) < (p.Rules.length : Int) then (-1, 3) else match scan (rlK p) 0 p.Rules.length with | some r => r | none => (0, 0)
theorem zq6 (x : TU) (L : List TU) : inL (x.From, x.Goal) (L.map fun y => (y.From, y.Goal)) = L.any (uy x) := by
 rw [Bool.eq_iff_iff, inL_iff, List.any_eq_true]
 simp only [List.mem_map, Prod.mk.injEq, uy, Bool.and_eq_true, decide_eq_true_eq]
theorem zqh {x : Int} (h0 : 0 <= x) (h1 : x < 256) {b : Nat} (hb : b <= 8) : decide (bits .and .u8 (Int.fdiv x (2 ^ min b (IntKind.bits .u8))) 1 = 0) = !Nat.testBit x.toNat b := by
 have key : ∀ u : Fin 256, ∀ b : Fin 9, decide (bits .and .u8 (Int.fdiv (u.val : Int) (2 ^ min b.val (IntKind.bits .u8))) 1 = 0) = !Nat.testBit u b := by decide +kernel
 have := key ⟨x.toNat, by omega⟩ ⟨b, by omega⟩
 simpa only [Int.toNat_of_nonneg h0] using this
theorem zc6 (p : TP) (h : LatIn p.Lattice) (hk : (latR p.Lattice).2 = 0) : Fz52 p = some (rlC p) := by
 have ok := yr h hk
 have hle := ok.le
 have hlen := ok.len
 unfold Fz52 rlC
 simp only [List.length_map]
 by_cases h6 : (64 : Int) < (p.Rules.length : Int)
 · simp [h6]
 simp only [h6, decide_false, cond_false, if_false]
 refine (qf p.Rules.length (fun k => ((k : Int), (p.Rules.take k).map fun y => (y.From, y.Goal))) (rlK p) () (fun k hk => ?_) ?_ rfl).trans ?_
 · obtain ⟨x, hx⟩ := zv hk
   have hlt : (k : Int) < (p.Rules.length : Int) := by omega
   have hw : IntKind.wrap .i64 ((k : Int) + 1) = ((k + 1 : Nat) : Int) := w64 (by omega) (by omega)
   have n1 : (0 : Int) <= (k : Int) := by omega
   have e : (p.Rules.take (k + 1)).map (fun y => (y.From, y.Goal)) = (p.Rules.take k).map (fun y => (y.From, y.Goal)) ++ [(x.From, x.Goal)] := by rw [List.take_add_one, hx]; simp
   simp only [hlt, decide_true, cond_true, idxO, n1, if_true, Int.toNat_natCast, hx, Option.bind_some, letO, hw, yG, rlK, e, zq6]
   cases l1 : labB p.Lattice x.From with
   | false => simp
   | true =>
     cases l2 : labB p.Lattice x.Goal with
     | false => simp
     | true =>
       unfold labB at l1 l2
       simp only [Bool.and_eq_true, decide_eq_true_eq] at l1 l2
       obtain ⟨u, hu⟩ := zv (l := p.Lattice.Up) (i := x.Goal.toNat) (by omega)
       have hu' := ok.u8.get hu
       have hb := zqh hu'.1 hu'.2 (b := x.From.toNat) (by omega)
       have n2 : (0 : Int) <= x.Goal := l2.1
       have n3 : (0 : Int) <= x.From := l1.1
       simp only [Bool.not_true, cond_false, n2, if_true, hu, Option.bind_some, zk, n3, hb, yI hu]
       by_cases hfg : x.From = x.Goal
       · simp [hfg]
       cases hbt : Nat.testBit u.toNat x.From.toNat with
       | false => simp [hfg]
       | true =>
         cases (p.Rules.take k).any (uy x) with
         | true => simp [hfg]
         | false =>
           by_cases k2 : x.K < 2
           · simp [hfg, k2]
           · by_cases k4 : 400 < x.K <;> simp [hfg, k2, k4]
 · simp
 · cases scan (rlK p) 0 p.Rules.length <;> rfl
theorem zeq (p : TP) (h : LatIn p.Lattice) (hk : (latR p.Lattice).2 = 0) : Fz84 p = some (rlC p) := by
 have ok := yr h hk
 have hle := ok.le
 have hlen := ok.len
 unfold Fz84 rlC
 simp only [List.length_map]
 by_cases h6 : (64 : Int) < (p.Rules.length : Int)
 · simp [h6]
 simp only [h6, decide_false, cond_false, if_false]
 refine (qf p.Rules.length (fun k => (k : Int)) (rlK p) () (fun k hk => ?_) ?_ rfl).trans ?_
 · obtain ⟨x, hx⟩ := zv hk
   have hlt : (k : Int) < (p.Rules.length : Int) := by omega
   have hw : IntKind.wrap .i64 ((k : Int) + 1) = ((k + 1 : Nat) : Int) := w64 (by omega) (by omega)
   have n1 : (0 : Int) <= (k : Int) := by omega
   simp only [hlt, decide_true, cond_true, idxO, n1, if_true, Int.toNat_natCast, hx, Option.bind_some, letO, hw, yl, rlK]
   cases l1 : labB p.Lattice x.From with
   | false => simp
   | true =>
     cases l2 : labB p.Lattice x.Goal with
     | false => simp
     | true =>
       unfold labB at l1 l2
       simp only [Bool.and_eq_true, decide_eq_true_eq] at l1 l2
       have hB := yh ok.u8 (a := x.Goal.toNat) (b := x.From.toNat) (by omega) (by omega)
       rw [Int.toNat_of_nonneg l2.1, Int.toNat_of_nonneg l1.1] at hB
       simp only [Bool.not_true, cond_false, if_true, hB, Option.bind_some]
       by_cases hfg : x.From = x.Goal
       · simp [hfg]
       cases hbt : up p.Lattice x.Goal.toNat x.From.toNat with
       | false => simp [hfg]
       | true =>
         simp only [hfg, decide_false, cond_false, Bool.not_true, if_true, if_false]
         refine (qf k (fun j => (j : Int)) (ckK (uy x) (Sum.inr (Sum.inr ((k : Int), (8 : Int)))) p.Rules) () (fun j hj => ?_) ?_ rfl).trans ?_
         · obtain ⟨y, hy⟩ := zv (l := p.Rules) (i := j) (by omega)
           have hlt2 : (j : Int) < (k : Int) := by omega
           have hw2 : IntKind.wrap .i64 ((j : Int) + 1) = ((j + 1 : Nat) : Int) := w64 (by omega) (by omega)
           have n2 : (0 : Int) <= (j : Int) := by omega
           simp only [hlt2, decide_true, cond_true, n2, if_true, Int.toNat_natCast, hy, Option.bind_some, hw2, ckK, uy]
           by_cases c1 : y.From = x.From <;> by_cases c2 : y.Goal = x.Goal <;> simp [c1, c2]
         · simp
         · rw [uF _ _ _ k (by omega)]
           cases (p.Rules.take k).any (uy x) with
           | true => simp
           | false =>
             by_cases k2 : x.K < 2
             · simp [k2]
             · by_cases k4 : 400 < x.K <;> simp [k2, k4]
 · simp
 · cases scan (rlK p) 0 p.Rules.length <;> rfl
end Go.Sx.O
namespace Go.Sx.O
open Go
structure PolIn (p : TP) : Prop where
 lat : LatIn p.Lattice
 chan : ∀ c ∈ p.Channels, c.s_.length <= 1000000
 var : ∀ c ∈ p.Vars, c.Name.length <= 1000000
noncomputable def polC (p : TP) : Int × Int × Int :=
 if (latR p.Lattice).2 = 0 then (if (chC p).2 = 0 then (if (vrC (jy p.Lattice) p).2 = 0 then (if (rlC p).2 = 0 then (0, 0, 0) else (4, rlC p)) else (3, vrC (jy p.Lattice) p)) else (2, chC p)) else (1, latR p.Lattice)
theorem zkk {τ : Type} {P : τ -> Prop} {f : Nat -> Option τ} (hf : ∀ i r, f i = some r -> P r) : ∀ {n k r}, scan f k n = some r -> P r := by
 intro n
 induction n with
 | zero => intro k r h; cases h
 | succ n ih =>
   intro k r h
   simp only [scan] at h
   split at h
   · rename_i b hb; cases h; exact hf _ _ hb
   · exact ih h
theorem zit {p : TP} (h : (rlC p).2 = 0) : rlC p = (0, 0) := by
 unfold rlC at h ⊢
 split at h
 · simp at h
 · rename_i h6
   rw [if_neg h6]
   cases e : scan (rlK p) 0 p.Rules.length with
   | none => rfl
   | some r =>
     exfalso
     rw [e] at h
     have := zkk (P := fun r : Int × Int => r.2 ≠ 0) (fun i r hr => by
      unfold rlK at hr
      revert hr
      repeat' split
      all_goals (intro hr; cases hr <;> simp)) e
     exact this h
theorem ja {p : TP} (h : PolIn p) : Fz53 p = some (polC p) := by
 unfold Fz53 polC Fz30
 rw [uA h.lat, zam p h.chan, zei (jy p.Lattice) p h.var (fun c _ => zeb h.lat _)]
 by_cases hk : (latR p.Lattice).2 = 0
 case neg => simp [hk]
 rw [zc6 p h.lat hk]
 by_cases h2 : (chC p).2 = 0
 case neg => simp [hk, h2]
 by_cases h3 : (vrC (jy p.Lattice) p).2 = 0
 case neg => simp [hk, h2, h3]
 by_cases h4 : (rlC p).2 = 0
 case neg => simp [hk, h2, h3, h4]
 simp [hk, h2, h3, zit h4]
theorem jn {p : TP} (h : PolIn p) : Fz85 p = some (polC p) := by
 unfold Fz85 polC
 rw [xB p.Lattice h.lat.u8 h.lat.names h.lat.name, <- zbi h.lat, zbw p h.chan, zga (jy p.Lattice) p h.var (fun c _ => zge h.lat _)]
 by_cases hk : (latR p.Lattice).2 = 0
 case neg => simp [hk]
 rw [zeq p h.lat hk]
 by_cases h2 : (chC p).2 = 0
 case neg => simp [hk, h2]
 by_cases h3 : (vrC (jy p.Lattice) p).2 = 0
 case neg => simp [hk, h2, h3]
 by_cases h4 : (rlC p).2 = 0
 case neg => simp [hk, h2, h3, h4]
 simp [hk, h2, h3, h4]
theorem zj8 {p : TP} (h : (polC p).2.2 = 0) : (latR p.Lattice).2 = 0 := by
 unfold polC at h
 by_cases hk : (latR p.Lattice).2 = 0
 · exact hk
 · rw [if_neg hk] at h; exact absurd h hk
theorem znj {p : TP} (h : (polC p).2.2 = 0) : rlC p = (0, 0) := by
 unfold polC at h
 split at h
 · split at h
   · split at h
     · split at h
       · rename_i h4; exact zit h4
       · rename_i h4; exact absurd h h4
     · rename_i h4; exact absurd h h4
   · rename_i h4; exact absurd h h4
 · rename_i h4; exact absurd h h4
def rfK (p : TP) (a b : Int) (k : Nat) : Option (Int × Int) := match p.Rules[k]? with
 | some x => if x.From = a then (if x.Goal = b then some (x.K, 0) else none) else none
 | none => none
noncomputable def rulC (p : TP) (a b : Int) : Int × Int :=
 if (polC p).2.2 = 0 then (if labB p.Lattice a = true then (if labB p.Lattice b = true then (match scan (rfK p a b) 0 p.Rules.length with | some r => r | none => (0, 4)) else (0, 7)) else (0, 7)) else (0, (polC p).2.2)
theorem zfr {p : TP} (h : (polC p).2.2 = 0) : p.Rules.length <= 64 := by
 have := znj h
 unfold rlC at this
 split at this
 · cases this
 · omega
theorem ze3 {p : TP} (h : PolIn p) (a b : Int) : Fz55 p a b = some (rulC p a b) := by
 unfold Fz55 rulC
 rw [ja h]
 by_cases h0 : (polC p).2.2 = 0
 case neg => simp [h0]
 have hl := zfr h0
 simp only [Option.bind_some, h0, decide_true, Bool.not_true, cond_false, yG, if_true, List.length_map]
 cases labB p.Lattice a with
 | false => simp
 | true =>
   cases labB p.Lattice b with
   | false => simp
   | true =>
     simp only [Bool.not_true, cond_false, if_true]
     refine (qf p.Rules.length (fun k => (k : Int)) (rfK p a b) () (fun k hk => ?_) ?_ rfl).trans ?_
     · obtain ⟨x, hx⟩ := zv hk
       have hlt : (k : Int) < (p.Rules.length : Int) := by omega
       have hw : IntKind.wrap .i64 ((k : Int) + 1) = ((k + 1 : Nat) : Int) := w64 (by omega) (by omega)
       have n1 : (0 : Int) <= (k : Int) := by omega
       simp only [hlt, decide_true, cond_true, idxO, n1, if_true, Int.toNat_natCast, hx, letO, hw, rfK]
       by_cases c1 : x.From = a <;> by_cases c2 : x.Goal = b <;> simp [c1, c2]
     · simp
     · cases scan (rfK p a b) 0 p.Rules.length <;> rfl
theorem zf5 {p : TP} (h : PolIn p) (a b : Int) : Fz88 p a b = some (rulC p a b) := by
 unfold Fz88 rulC
 rw [jn h]
 by_cases h0 : (polC p).2.2 = 0
 case neg => simp [h0]
 have hl := zfr h0
 simp only [Option.bind_some, h0, decide_true, Bool.not_true, cond_false, cond_true, yl, if_true, List.length_map]
 cases labB p.Lattice a with
 | false => simp
 | true =>
   cases labB p.Lattice b with
   | false => simp
   | true =>
     simp only [Bool.not_true, cond_false, if_true]
     refine (qf p.Rules.length (fun k => (k : Int)) (rfK p a b) () (fun k hk => ?_) ?_ rfl).trans ?_
     · obtain ⟨x, hx⟩ := zv hk
       have hlt : (k : Int) < (p.Rules.length : Int) := by omega
       have hw : IntKind.wrap .i64 ((k : Int) + 1) = ((k + 1 : Nat) : Int) := w64 (by omega) (by omega)
       have n1 : (0 : Int) <= (k : Int) := by omega
       simp only [hlt, decide_true, cond_true, idxO, n1, if_true, Int.toNat_natCast, hx, letO, hw, rfK]
       by_cases c1 : x.From = a <;> by_cases c2 : x.Goal = b <;> simp [c1, c2]
     · simp
     · cases scan (rfK p a b) 0 p.Rules.length <;> rfl
theorem zef {α : Type} {L : List α} {N : Nat} {c : α -> Bool} (h : (L.take (min L.length N)).any c = false) (hn : L.length <= N) : ∀ x ∈ L, c x = false := by
 rw [Nat.min_eq_left hn, List.take_length] at h
 simpa using h
theorem zi7 (L : List (List UInt8)) : ∃ b, Fz0 L = some b /\ (b = false -> L.length <= 12 /\ ∀ s ∈ L, s.length <= 100) := by
 unfold Fz0
 simp only [List.length_map]
 rw [qf (s0 := (0 : Int)) (min L.length 20) (fun k => (k : Int)) (ckK (fun s : List UInt8 => decide ((100 : Int) < (s.length : Int))) true L) () ?_ ?_ rfl, uF _ _ _ _ (by omega)]
 · cases h : (L.take (min L.length 20)).any (fun s => decide ((100 : Int) < (s.length : Int))) with
   | true => exact ⟨true, rfl, fun h => by cases h⟩
   | false =>
     refine ⟨_, rfl, fun h12 => ?_⟩
     have h12 : L.length <= 12 := by simp at h12; omega
     exact ⟨h12, fun s hs => by have := zef h (by omega) s hs; simp at this; omega⟩
 · intro k hk
   obtain ⟨x, hx⟩ := zv (l := L) (i := k) (by omega)
   have hlt : (k : Int) < (L.length : Int) := by omega
   have hlt2 : (k : Int) < 20 := by omega
   have hw : IntKind.wrap .i64 ((k : Int) + 1) = ((k + 1 : Nat) : Int) := w64 (by omega) (by omega)
   have n1 : (0 : Int) <= (k : Int) := by omega
   simp only [hlt, hlt2, decide_true, cond_true, idxO, n1, if_true, Int.toNat_natCast, hx, letO, hw, ckK]
   by_cases c1 : (100 : Int) < (x.length : Int) <;> simp [c1]
 · by_cases c1 : ((min L.length 20 : Nat) : Int) < (L.length : Int)
   · have c2 : ¬ ((min L.length 20 : Nat) : Int) < 20 := by omega
     simp only [c1, c2, decide_true, decide_false, cond_true, cond_false]
   · simp only [c1, decide_false, cond_false]
theorem zn1 (p : TP) (hu : U8s p.Lattice.Up) : ∃ b, Fz2 p = some b /\ (b = false -> PolIn p) := by
 unfold Fz2
 simp only [List.length_map]
 rw [qf (s0 := (0 : Int)) (min p.Channels.length 25) (fun k => (k : Int)) (ckK (fun s : TR => decide ((100 : Int) < (s.s_.length : Int))) true p.Channels) () ?_ ?_ rfl, uF _ _ _ _ (by omega)]
 rotate_left
 · intro k hk
   obtain ⟨x, hx⟩ := zv (l := p.Channels) (i := k) (by omega)
   have hlt : (k : Int) < (p.Channels.length : Int) := by omega
   have hlt2 : (k : Int) < 25 := by omega
   have hw : IntKind.wrap .i64 ((k : Int) + 1) = ((k + 1 : Nat) : Int) := w64 (by omega) (by omega)
   have n1 : (0 : Int) <= (k : Int) := by omega
   simp only [hlt, hlt2, decide_true, cond_true, idxO, n1, if_true, Int.toNat_natCast, hx, letO, hw, ckK]
   by_cases c1 : (100 : Int) < (x.s_.length : Int) <;> simp [c1]
 · by_cases c1 : ((min p.Channels.length 25 : Nat) : Int) < (p.Channels.length : Int)
   · have c2 : ¬ ((min p.Channels.length 25 : Nat) : Int) < 25 := by omega
     simp only [c1, c2, decide_true, decide_false, cond_true, cond_false]
   · simp only [c1, decide_false, cond_false]
 cases hc : (p.Channels.take (min p.Channels.length 25)).any (fun s => decide ((100 : Int) < (s.s_.length : Int))) with
 | true => exact ⟨true, rfl, fun h => by cases h⟩
 | false =>
   simp only [Bool.false_eq_true, if_false]
   rw [qf (s0 := (0 : Int)) (min p.Vars.length 45) (fun k => (k : Int)) (ckK (fun s : TV => decide ((100 : Int) < (s.Name.length : Int))) true p.Vars) () ?_ ?_ rfl, uF _ _ _ _ (by omega)]
   rotate_left
   · intro k hk
     obtain ⟨x, hx⟩ := zv (l := p.Vars) (i := k) (by omega)
     have hlt : (k : Int) < (p.Vars.length : Int) := by omega
     have hlt2 : (k : Int) < 45 := by omega
     have hw : IntKind.wrap .i64 ((k : Int) + 1) = ((k + 1 : Nat) : Int) := w64 (by omega) (by omega)
     have n1 : (0 : Int) <= (k : Int) := by omega
     simp only [hlt, hlt2, decide_true, cond_true, idxO, n1, if_true, Int.toNat_natCast, hx, letO, hw, ckK]
     by_cases c1 : (100 : Int) < (x.Name.length : Int) <;> simp [c1]
   · by_cases c1 : ((min p.Vars.length 45 : Nat) : Int) < (p.Vars.length : Int)
     · have c2 : ¬ ((min p.Vars.length 45 : Nat) : Int) < 45 := by omega
       simp only [c1, c2, decide_true, decide_false, cond_true, cond_false]
     · simp only [c1, decide_false, cond_false]
   cases hv : (p.Vars.take (min p.Vars.length 45)).any (fun s => decide ((100 : Int) < (s.Name.length : Int))) with
   | true => exact ⟨true, rfl, fun h => by cases h⟩
   | false =>
     simp only [Bool.false_eq_true, if_false]
     unfold Fz1
     obtain ⟨b, e, hb⟩ := zi7 p.Lattice.Names
     rw [e]
     simp only [Option.bind_some, List.length_map]
     cases b with
     | true => exact ⟨true, rfl, fun h => by cases h⟩
     | false =>
       obtain ⟨hb1, hb2⟩ := hb rfl
       simp only [cond_false, Option.bind_some]
       by_cases h12 : (12 : Int) < (p.Lattice.Up.length : Int)
       · exact ⟨true, by simp [h12], fun h => by cases h⟩
       by_cases h20 : (20 : Int) < (p.Channels.length : Int)
       · exact ⟨true, by simp [h12, h20], fun h => by cases h⟩
       by_cases h40 : (40 : Int) < (p.Vars.length : Int)
       · exact ⟨true, by simp [h12, h20, h40], fun h => by cases h⟩
       simp only [h12, h20, h40, decide_false, cond_false]
       refine ⟨_, rfl, fun _ => ⟨⟨hu, by omega, fun s hs => by have := hb2 s hs; omega⟩, fun c h => ?_, fun c h => ?_⟩⟩
       · have := zef hc (by omega) c h; simp at this; omega
       · have := zef hv (by omega) c h; simp at this; omega
end Go.Sx.O
namespace Go.Sx.O
open Go
def za7 (x : TE) (k : Int) : Bool := if x.Cells < k then decide (x.Value.1 = 0) && decide (x.Value.2 = 0) else decide (x.Value.1 = 1) && (!decide (x.Fold = 2) || (decide (0 <= x.Value.2) && decide (x.Value.2 <= x.Cells)))
noncomputable def chkC (p : TP) (x : TE) : Int :=
 if (polC p).2.2 = 0 then (if (jY x.Fold).2 = 0 then (if x.Site < 0 \/ 1000000000 < x.Site \/ x.Cells < 0 \/ 400 < x.Cells then 7 else if (rulC p x.From x.Goal).2 = 0 then (if za7 x (rulC p x.From x.Goal).1 = true then 0 else 6) else (rulC p x.From x.Goal).2) else (jY x.Fold).2) else (polC p).2.2
theorem zhc (x : TE) (k : Int) : Fz56 x k = some (za7 x k) := by
 unfold Fz56 za7
 by_cases h : x.Cells < k
 · simp [h]
 by_cases h1 : x.Value.1 = 1
 case neg => simp [h, h1]
 by_cases h2 : x.Fold = 2
 case neg => simp [h, h1, h2]
 by_cases h3 : 0 <= x.Value.2 <;> simp [h, h1, h2, h3]
theorem zih {p : TP} (h : PolIn p) (x : TE) : Fz57 p x = some (chkC p x) := by
 unfold Fz57 chkC
 rw [ja h, zjo, ze3 h]
 simp only [Option.bind_some, zhc]
 by_cases h0 : (polC p).2.2 = 0
 case neg => simp [h0]
 by_cases h1 : (jY x.Fold).2 = 0
 case neg => simp [h0, h1]
 by_cases h2 : x.Site < 0
 · simp [h0, h1, h2]
 by_cases h3 : 1000000000 < x.Site
 · simp [h0, h1, h2, h3]
 by_cases h4 : x.Cells < 0
 · simp [h0, h1, h2, h3, h4]
 by_cases h5 : 400 < x.Cells
 · simp [h0, h1, h2, h3, h4, h5]
 by_cases h6 : (rulC p x.From x.Goal).2 = 0
 case neg => simp [h0, h1, h2, h3, h4, h5, h6]
 cases h7 : za7 x (rulC p x.From x.Goal).1 <;> simp [h0, h1, h2, h3, h4, h5, h6, h7]
theorem zep {p : TP} (h : PolIn p) (x : TE) : Fz89 p x = some (chkC p x) := by
 unfold Fz89 chkC
 rw [jn h, zjl, zf5 h]
 simp only [Option.bind_some]
 by_cases h0 : (polC p).2.2 = 0
 case neg => simp [h0]
 by_cases h1 : (jY x.Fold).2 = 0
 case neg => simp [h0, h1]
 by_cases h2 : x.Site < 0
 · simp [h0, h1, h2]
 by_cases h3 : 1000000000 < x.Site
 · simp [h0, h1, h2, h3]
 by_cases h8 : (rulC p x.From x.Goal).2 = 7
 · by_cases h4 : x.Cells < 0
   · simp [h0, h1, h2, h3, h4, h8]
   by_cases h5 : 400 < x.Cells
   · simp [h0, h1, h2, h3, h4, h5, h8]
   simp [h0, h1, h2, h3, h4, h5, h8]
 by_cases h4 : x.Cells < 0
 · simp [h0, h1, h2, h3, h4, h8]
 by_cases h5 : 400 < x.Cells
 · simp [h0, h1, h2, h3, h4, h5, h8]
 by_cases h6 : (rulC p x.From x.Goal).2 = 0
 case neg => simp [h0, h1, h2, h3, h4, h5, h6, h8]
 simp only [h0, h1, h2, h3, h4, h5, h6, decide_true, decide_false, cond_true, cond_false, Bool.not_true, or_self, if_true, if_false, h8]
 unfold za7
 by_cases c1 : x.Cells < (rulC p x.From x.Goal).1
 · by_cases c2 : x.Value.1 = 0 <;> by_cases c3 : x.Value.2 = 0 <;> simp [c1, c2, c3]
 by_cases c2 : x.Value.1 = 1
 case neg => simp [c1, c2]
 by_cases c3 : x.Fold = 2
 case neg => simp [c1, c2, c3]
 by_cases c4 : x.Value.2 < 0
 · have : ¬ 0 <= x.Value.2 := by omega
   simp [c1, c2, c3, c4, this]
 have c5 : 0 <= x.Value.2 := by omega
 by_cases c6 : x.Cells < x.Value.2
 · have : ¬ x.Value.2 <= x.Cells := by omega
   simp [c1, c2, c3, c4, c5, c6, this]
 have c7 : x.Value.2 <= x.Cells := by omega
 simp [c1, c2, c3, c4, c5, c6, c7]
theorem zr3 {l : List Int} (h : allW (inK .u8) l) : U8s l := fun x hx => zre (h x hx)
end Go.Sx.O
namespace Go.Sx.O
open Go
noncomputable def auK (p : TP) (l : List TE) (k : Nat) : Option (Int × Int) := match l[k]? with
 | some x => if chkC p x = 0 then (if x.Site = 0 then some ((k : Int), 6) else none) else some ((k : Int), chkC p x)
 | none => none
noncomputable def audC (p : TP) (l : List TE) : Int × Int := if (polC p).2.2 = 0 then (if (2000 : Int) < (l.length : Int) then (-1, 3) else match scan (auK p l) 0 l.length with | some r => r | none => (0, 0)) else (-1, (polC p).2.2)
theorem uh {p : TP} (h : PolIn p) (l : List TE) (hl : l.length <= 1000000) : Fz58 p l = some (audC p l) := by
 unfold Fz58 audC
 rw [ja h]
 simp only [Option.bind_some, List.length_map]
 by_cases hk : (polC p).2.2 = 0
 case neg => simp [hk]
 simp only [hk, decide_true, Bool.not_true, cond_false, if_true]
 by_cases h2 : (2000 : Int) < (l.length : Int)
 · simp [h2]
 simp only [h2, decide_false, cond_false, if_false]
 refine (qf l.length (fun k => (k : Int)) (auK p l) () (fun k hk => ?_) (by simp) rfl).trans ?_
 · obtain ⟨x, hx⟩ := zv hk
   have hlt : (k : Int) < (l.length : Int) := by omega
   have hw : IntKind.wrap .i64 ((k : Int) + 1) = ((k + 1 : Nat) : Int) := w64 (by omega) (by omega)
   have n1 : (0 : Int) <= (k : Int) := by omega
   simp only [hlt, decide_true, cond_true, idxO, n1, if_true, Int.toNat_natCast, hx, Option.bind_some, letO, hw, zih h, auK]
   by_cases c1 : chkC p x = 0 <;> by_cases c2 : x.Site = 0 <;> simp [c1, c2]
 · cases scan (auK p l) 0 l.length <;> rfl
theorem yi {p : TP} (h : PolIn p) (l : List TE) (hl : l.length <= 1000000) : Fz90 p l = some (audC p l) := by
 unfold Fz90 audC
 rw [jn h]
 simp only [Option.bind_some, List.length_map]
 by_cases hk : (polC p).2.2 = 0
 case neg => simp [hk]
 simp only [hk, decide_true, Bool.not_true, cond_true, cond_false, if_true]
 by_cases h2 : (2000 : Int) < (l.length : Int)
 · simp [h2]
 simp only [h2, decide_false, cond_false, if_false]
 refine (qf l.length (fun k => (k : Int)) (auK p l) () (fun k hk => ?_) (by simp) rfl).trans ?_
 · obtain ⟨x, hx⟩ := zv hk
   have hlt : (k : Int) < (l.length : Int) := by omega
   have hw : IntKind.wrap .i64 ((k : Int) + 1) = ((k + 1 : Nat) : Int) := w64 (by omega) (by omega)
   have n1 : (0 : Int) <= (k : Int) := by omega
   simp only [hlt, decide_true, cond_true, idxO, n1, if_true, Int.toNat_natCast, hx, Option.bind_some, letO, hw, zep h, auK]
   by_cases c1 : chkC p x = 0 <;> by_cases c2 : x.Site = 0 <;> simp [c1, c2]
 · cases scan (auK p l) 0 l.length <;> rfl
theorem zpi {p : TP} {x : TE} (h : chkC p x = 0) : labB p.Lattice x.Goal = true := by
 unfold chkC at h
 by_cases h1 : (polC p).2.2 = 0
 case neg => rw [if_neg h1] at h; exact absurd h h1
 rw [if_pos h1] at h
 by_cases h2 : (jY x.Fold).2 = 0
 case neg => rw [if_neg h2] at h; exact absurd h h2
 rw [if_pos h2] at h
 split at h
 · cases h
 by_cases h3 : (rulC p x.From x.Goal).2 = 0
 case neg => rw [if_neg h3] at h; exact absurd h h3
 unfold rulC at h3
 rw [if_pos h1] at h3
 by_cases h4 : labB p.Lattice x.From = true
 case neg => rw [if_neg h4] at h3; exact absurd h3 (by decide)
 rw [if_pos h4] at h3
 by_cases h5 : labB p.Lattice x.Goal = true
 · exact h5
 · rw [if_neg h5] at h3; exact absurd h3 (by decide)
theorem zm7 {p : TP} {l : List TE} (h : (audC p l).2 = 0) : (polC p).2.2 = 0 /\ l.length <= 2000 /\ ∀ x ∈ l, labB p.Lattice x.Goal = true := by
 unfold audC at h
 by_cases hk : (polC p).2.2 = 0
 case neg => rw [if_neg hk] at h; exact absurd h hk
 rw [if_pos hk] at h
 by_cases h2 : (2000 : Int) < (l.length : Int)
 · rw [if_pos h2] at h; exact absurd h (by decide)
 rw [if_neg h2] at h
 refine ⟨hk, by omega, fun x hx => ?_⟩
 cases hs : scan (auK p l) 0 l.length with
 | some r =>
   rw [hs] at h
   have : r.2 ≠ 0 := zkk (P := fun r => r.2 ≠ 0) (fun i r hr => by
    unfold auK at hr
    split at hr
    · split at hr
      · split at hr
        · cases hr; exact (by decide : (6 : Int) ≠ 0)
        · cases hr
      · cases hr; assumption
    · cases hr) hs
   exact absurd h this
 | none =>
   obtain ⟨i, hi, e⟩ := List.getElem_of_mem hx
   have := scan_none.1 hs i (by omega) (by omega)
   unfold auK at this
   rw [List.getElem?_eq_getElem hi, e] at this
   simp only at this
   split at this
   · rename_i hc; exact zpi hc
   · cases this
def zH (p : TP) (l : List TE) (o : Int) : List TE := l.filter fun x => up p.Lattice x.Goal.toNat o.toNat
theorem zfu {p : TP} {l : List TE} {o : Int} {k : Nat} {x : TE} (hx : l[k]? = some x) : zH p (l.take (k + 1)) o = if up p.Lattice x.Goal.toNat o.toNat = true then zH p (l.take k) o ++ [x] else zH p (l.take k) o := by
 unfold zH
 rw [List.take_add_one, hx, List.filter_append]
 by_cases c : up p.Lattice x.Goal.toNat o.toNat = true <;> simp [c]
theorem zh8 {p : TP} {l : List TE} {o : Int} {k : Nat} : (zH p (l.take k) o).length <= k := by
 unfold zH
 exact Nat.le_trans (List.length_filter_le _ _) (by simp; omega)
theorem jR {p : TP} (h : PolIn p) {l : List TE} (hl : (audC p l).2 = 0) {o : Int} (ho : labB p.Lattice o = true) : Fz92 p l o = some (zH p l o) := by
 obtain ⟨hk, h2, hg⟩ := zm7 hl
 have ok := yr h.lat (zj8 hk)
 have hle := ok.le
 have hlen := ok.len
 unfold labB at ho
 simp only [Bool.and_eq_true, decide_eq_true_eq] at ho
 unfold Fz92
 simp only [List.length_map]
 refine (xy l.length (fun k => ((k : Int), zH p (l.take k) o)) (zH p l o) (fun k hkn => ?_) ?_ rfl).trans rfl
 · obtain ⟨x, hx⟩ := zv hkn
   have hgx := hg x (List.mem_of_getElem? hx)
   unfold labB at hgx
   simp only [Bool.and_eq_true, decide_eq_true_eq] at hgx
   obtain ⟨y, hy⟩ := zv (l := p.Lattice.Up) (i := x.Goal.toNat) (by omega)
   have hy' := ok.u8.get hy
   have hlt : (k : Int) < (l.length : Int) := by omega
   have hw : IntKind.wrap .i64 ((k : Int) + 1) = ((k + 1 : Nat) : Int) := w64 (by omega) (by omega)
   have n1 : (0 : Int) <= (k : Int) := by omega
   have key : ∀ u : Fin 256, ∀ b : Fin 9, decide (bits .and .u8 (Int.fdiv (u.val : Int) (2 ^ min b.val (IntKind.bits .u8))) 1 = 1) = Nat.testBit u b := by decide +kernel
   have hb := key ⟨y.toNat, by omega⟩ ⟨o.toNat, by omega⟩
   simp only [Int.toNat_of_nonneg hy'.1] at hb
   have hside : ((zH p (l.take k) o).length + 1) * 56 <= 70368744177664 := by have := zh8 (p := p) (l := l) (o := o) (k := k); omega
   have hst := zfu (p := p) (o := o) hx
   have hi : ∀ {ρ : Type} (f : Int -> Option ρ), idxO p.Lattice.Up x.Goal f = f y := fun f => by
    unfold idxO
    rw [if_pos hgx.1, hy]
    rfl
   have hiL : ∀ {ρ : Type} (f : TE -> Option ρ), idxO l (k : Int) f = f x := fun f => by
    unfold idxO
    rw [if_pos n1, Int.toNat_natCast, hx]
    rfl
   have hu : decide (bits .and .u8 (Int.fdiv y (2 ^ min o.toNat (IntKind.bits .u8))) 1 = 1) = up p.Lattice x.Goal.toNat o.toNat := by rw [hb, yI hy]
   simp only [hlt, decide_true, cond_true, hiL, hi, wB ho.1, hu, wB hside, letO, hw, hst]
   cases up p.Lattice x.Goal.toNat o.toNat <;> simp
 · simp
theorem jT {p : TP} (h : PolIn p) {l : List TE} (hl : (audC p l).2 = 0) {o : Int} (ho : labB p.Lattice o = true) : Fz94 p l o = some (zH p l o) := by
 obtain ⟨hk, h2, hg⟩ := zm7 hl
 have ok := yr h.lat (zj8 hk)
 have hle := ok.le
 have hlen := ok.len
 unfold labB at ho
 simp only [Bool.and_eq_true, decide_eq_true_eq] at ho
 unfold Fz94
 simp only [List.length_map]
 refine (xy l.length (fun k => ((k : Int), zH p (l.take k) o)) (zH p l o) (fun k hkn => ?_) ?_ rfl).trans rfl
 · obtain ⟨x, hx⟩ := zv hkn
   have hgx := hg x (List.mem_of_getElem? hx)
   unfold labB at hgx
   simp only [Bool.and_eq_true, decide_eq_true_eq] at hgx
   have hlt : (k : Int) < (l.length : Int) := by omega
   have hw : IntKind.wrap .i64 ((k : Int) + 1) = ((k + 1 : Nat) : Int) := w64 (by omega) (by omega)
   have n1 : (0 : Int) <= (k : Int) := by omega
   have hb : Fz63 p.Lattice x.Goal o = some (up p.Lattice x.Goal.toNat o.toNat) := by
    have := yh ok.u8 (a := x.Goal.toNat) (b := o.toNat) (by omega) (by omega)
    rwa [Int.toNat_of_nonneg hgx.1, Int.toNat_of_nonneg ho.1] at this
   have hside : ((zH p (l.take k) o).length + 1) * 56 <= 70368744177664 := by have := zh8 (p := p) (l := l) (o := o) (k := k); omega
   have hst := zfu (p := p) (o := o) hx
   simp only [hlt, decide_true, cond_true, idxO, n1, if_true, Int.toNat_natCast, hx, letO, hw, zk, hb, Option.bind_some, hside, hst]
   cases up p.Lattice x.Goal.toNat o.toNat <;> simp
 · simp
end Go.Sx.O
namespace Go.Sx.O
open Go
noncomputable def askC (p : TP) (o : Int) (ls : List (List TE)) : Int := match scan (fun k => match ls[k]? with | some l => if (audC p l).2 = 0 then none else some (audC p l).2 | none => none) 0 ls.length with
 | some e => e
 | none => if labB p.Lattice o = true then 0 else 7
theorem ut {p : TP} (h : PolIn p) (o : Int) (ls : List (List TE)) (hls : ls.length <= 1000) (hl : ∀ l ∈ ls, l.length <= 1000000) : Fz91 p o ls = some (askC p o ls) := by
 unfold Fz91 askC
 simp only [List.length_map]
 refine (qf ls.length (fun k => (k : Int)) (fun k => match ls[k]? with | some l => if (audC p l).2 = 0 then none else some (audC p l).2 | none => none) () (fun k hk => ?_) (by simp) rfl).trans ?_
 · obtain ⟨x, hx⟩ := zv hk
   have hlt : (k : Int) < (ls.length : Int) := by omega
   have hw : IntKind.wrap .i64 ((k : Int) + 1) = ((k + 1 : Nat) : Int) := w64 (by omega) (by omega)
   have n1 : (0 : Int) <= (k : Int) := by omega
   simp only [hlt, decide_true, cond_true, idxO, n1, if_true, Int.toNat_natCast, hx, Option.bind_some, letO, hw, uh h x (hl x (List.mem_of_getElem? hx))]
   by_cases c1 : (audC p x).2 = 0 <;> simp [c1]
 · cases scan (fun k => match ls[k]? with | some l => if (audC p l).2 = 0 then none else some (audC p l).2 | none => none) 0 ls.length with
   | some e => rfl
   | none =>
     simp only [labB]
     by_cases c1 : o < 0
     · have : ¬ 0 <= o := by omega
       simp [c1, this]
     · have c1' : 0 <= o := by omega
       by_cases c2 : (p.Lattice.Names.length : Int) <= o
       · have : ¬ o < (p.Lattice.Names.length : Int) := by omega
         simp [c1, c2, this]
       · have : o < (p.Lattice.Names.length : Int) := by omega
         simp [c1, c1', c2, this]
noncomputable def belC (p : TP) (l : List TE) (o : Int) : List TE × Int := if (audC p l).2 = 0 then (if labB p.Lattice o = true then (zH p l o, 0) else ([], 7)) else ([], (audC p l).2)
theorem zer {p : TP} (h : PolIn p) (l : List TE) (hl : l.length <= 1000000) (o : Int) : Fz93 p l o = some (belC p l o) := by
 unfold Fz93 belC
 rw [ut h o [l] (by simp) (by simpa using hl)]
 have ha : askC p o [l] = if (audC p l).2 = 0 then (if labB p.Lattice o = true then 0 else 7) else (audC p l).2 := by
  unfold askC
  by_cases c : (audC p l).2 = 0 <;> simp [scan, c]
 rw [ha]
 by_cases c : (audC p l).2 = 0
 case neg => simp [c]
 by_cases d : labB p.Lattice o = true
 · simp [c, d, jR h c d]
 · simp [c, d]
theorem zea {p : TP} (h : PolIn p) (l : List TE) (hl : l.length <= 1000000) (o : Int) : Fz95 p l o = some (belC p l o) := by
 unfold Fz95 belC
 rw [yi h l hl]
 simp only [Option.bind_some, List.length_map]
 by_cases c : (audC p l).2 = 0
 case neg => simp [c]
 by_cases d : labB p.Lattice o = true
 · have d' := d
   unfold labB at d'
   simp only [Bool.and_eq_true, decide_eq_true_eq] at d'
   have c1 : ¬ o < 0 := by omega
   have c2 : ¬ (p.Lattice.Names.length : Int) <= o := by omega
   simp [c, d, c1, c2, jT h c d]
 · have d' := d
   unfold labB at d'
   simp only [Bool.and_eq_true, decide_eq_true_eq] at d'
   by_cases c1 : o < 0
   · simp [c, d, c1]
   · have c2 : (p.Lattice.Names.length : Int) <= o := by omega
     simp [c, d, c1, c2]
def dfK (x y : List TE) (k : Nat) : Option Nat := match x[k]?, y[k]? with
 | some u, some v => if u.Value = v.Value then none else some k
 | _, _ => none
def dfC (x y : List TE) : Nat := (scan (dfK x y) 0 (min x.length y.length)).getD (min x.length y.length)
theorem zrf (x y : List TE) : dfC x y <= min x.length y.length := by
 unfold dfC
 cases h : scan (dfK x y) 0 (min x.length y.length) with
 | none => exact Nat.le_refl _
 | some r =>
   have key : ∀ {n m r : Nat}, scan (dfK x y) m n = some r -> r < m + n := by
    intro n
    induction n with
    | zero => intro m r h; cases h
    | succ n ih =>
      intro m r h
      simp only [scan] at h
      split at h
      · rename_i b hb
        cases h
        unfold dfK at hb
        split at hb
        · split at hb
          · cases hb
          · cases hb; omega
        · cases hb
      · have := ih h; omega
   have := key h
   simp
   omega
theorem zmz (u v : TE) : (decide (u.Value.fst = v.Value.fst) && (decide (u.Value.snd = v.Value.snd) && true)) = decide (u.Value = v.Value) := by
 obtain ⟨_, _, _, _, _, a, b⟩ := u
 obtain ⟨_, _, _, _, _, c, d⟩ := v
 by_cases e : a = c <;> by_cases f : b = d <;> simp [e, f]
theorem zlh (x y : List TE) (hx : x.length <= 1000000) (hy : y.length <= 1000000) : (lpO (fun (s411 : Int) =>
 cond (decide (s411 < min (x.length : Int) (y.length : Int)))
 (idxO x (s411) fun x417 =>
 idxO y (s411) fun x418 =>
 cond (decide (x417.Value.fst = x418.Value.fst) && (decide (x417.Value.snd = x418.Value.snd) && true))
 (letO (IntKind.wrap IntKind.i64 (s411 + (1 : Int))) fun x420 =>
 some (Sum.inl (x420)))
 (some (Sum.inr (Sum.inl (s411)))))
 (some (Sum.inr (Sum.inl (s411))))) ((0 : Int))) = some (Sum.inl (dfC x y : Int) : Int ⊕ (Bool × Int × Int)) := by
 have := xJ (step := (fun (s411 : Int) =>
 cond (decide (s411 < min (x.length : Int) (y.length : Int)))
 (idxO x (s411) fun x417 =>
 idxO y (s411) fun x418 =>
 cond (decide (x417.Value.fst = x418.Value.fst) && (decide (x417.Value.snd = x418.Value.snd) && true))
 (letO (IntKind.wrap IntKind.i64 (s411 + (1 : Int))) fun x420 =>
 some (Sum.inl (x420)))
 (some (Sum.inr (Sum.inl (s411)))))
 (some (Sum.inr (Sum.inl (s411)))))) (min x.length y.length) (fun k => (k : Int)) (fun k => (dfK x y k).map fun (r : Nat) => (Sum.inl ((r : Nat) : Int) : Int ⊕ (Bool × Int × Int))) (Sum.inl ((min x.length y.length : Nat) : Int)) (fun k hk => ?_) ?_
 · refine this.trans ?_
   rw [wK]
   unfold dfC
   cases scan (dfK x y) 0 (min x.length y.length) <;> rfl
 · obtain ⟨u, hu⟩ := zv (l := x) (i := k) (by omega)
   obtain ⟨v, hv⟩ := zv (l := y) (i := k) (by omega)
   have hlt : (k : Int) < min (x.length : Int) (y.length : Int) := by omega
   have hw : IntKind.wrap .i64 ((k : Int) + 1) = ((k + 1 : Nat) : Int) := w64 (by omega) (by omega)
   have n1 : (0 : Int) <= (k : Int) := by omega
   simp only [hlt, decide_true, cond_true, idxO, n1, if_true, Int.toNat_natCast, hu, hv, Option.bind_some, letO, hw, zmz, dfK]
   by_cases c : u.Value = v.Value <;> simp [c]
 · have hlt : ¬ ((min x.length y.length : Nat) : Int) < min (x.length : Int) (y.length : Int) := by omega
   simp only [hlt, decide_false, cond_false]
noncomputable def agrC (p : TP) (a b : List TE) (o : Int) : Bool × Int × Int :=
 if (audC p a).2 = 0 then (if (audC p b).2 = 0 then (if labB p.Lattice o = true then (decide (dfC (zH p a o) (zH p b o) = min (zH p a o).length (zH p b o).length), (dfC (zH p a o) (zH p b o) : Int), 0) else (false, 0, 7)) else (false, 0, (audC p b).2)) else (false, 0, (audC p a).2)
theorem xm {p : TP} {l : List TE} {o : Int} : (zH p l o).length <= l.length := List.length_filter_le _ _
theorem zem {p : TP} (h : PolIn p) (a b : List TE) (ha : a.length <= 1000000) (hb : b.length <= 1000000) (o : Int) : Fz96 p a b o = some (agrC p a b o) := by
 unfold Fz96 agrC
 rw [ut h o [a, b] (by simp) (by simp [ha, hb])]
 have hA : askC p o [a, b] = if (audC p a).2 = 0 then (if (audC p b).2 = 0 then (if labB p.Lattice o = true then 0 else 7) else (audC p b).2) else (audC p a).2 := by
  unfold askC
  by_cases c : (audC p a).2 = 0 <;> by_cases d : (audC p b).2 = 0 <;> simp [scan, c, d]
 rw [hA]
 by_cases c : (audC p a).2 = 0
 case neg => simp [c]
 by_cases d : (audC p b).2 = 0
 case neg => simp [c, d]
 by_cases e : labB p.Lattice o = true
 case neg => simp [c, d, e]
 have l1 := xm (p := p) (l := a) (o := o)
 have l2 := xm (p := p) (l := b) (o := o)
 simp only [c, d, e, if_true, Option.bind_some, decide_true, Bool.not_true, cond_false, jR h c e, jR h d e, List.length_map]
 rw [zlh _ _ (by omega) (by omega)]
 have : ((dfC (zH p a o) (zH p b o) : Int) = min ((zH p a o).length : Int) ((zH p b o).length : Int)) ↔ (dfC (zH p a o) (zH p b o) = min (zH p a o).length (zH p b o).length) := by omega
 simp [this]
end Go.Sx.O
namespace Go.Sx.O
open Go
theorem zo3 (x y : List TE) (hx : x.length <= 1000000) (hy : y.length <= 1000000) : (lpO (fun (s433 : Int) =>
 cond (decide (s433 < (↑(List.length (List.map zd x)) : Int)))
 (cond (decide (s433 < (↑(List.length (List.map zd y)) : Int)))
 (idxO x (s433) fun x441 =>
 idxO y (s433) fun x442 =>
 cond (decide (x441.Value.fst = x442.Value.fst) && (decide (x441.Value.snd = x442.Value.snd) && true))
 (letO (IntKind.wrap IntKind.i64 (s433 + (1 : Int))) fun x444 =>
 some (Sum.inl (x444)))
 (some (Sum.inr (Sum.inl (s433)))))
 (some (Sum.inr (Sum.inl (s433)))))
 (some (Sum.inr (Sum.inl (s433))))) ((0 : Int))) = some (Sum.inl (dfC x y : Int) : Int ⊕ (Bool × Int × Int)) := by
 simp only [List.length_map]
 have := xJ (step := (fun (s433 : Int) =>
 cond (decide (s433 < (x.length : Int)))
 (cond (decide (s433 < (y.length : Int)))
 (idxO x (s433) fun x441 =>
 idxO y (s433) fun x442 =>
 cond (decide (x441.Value.fst = x442.Value.fst) && (decide (x441.Value.snd = x442.Value.snd) && true))
 (letO (IntKind.wrap IntKind.i64 (s433 + (1 : Int))) fun x444 =>
 some (Sum.inl (x444)))
 (some (Sum.inr (Sum.inl (s433)))))
 (some (Sum.inr (Sum.inl (s433)))))
 (some (Sum.inr (Sum.inl (s433)))))) (min x.length y.length) (fun k => (k : Int)) (fun k => (dfK x y k).map fun (r : Nat) => (Sum.inl ((r : Nat) : Int) : Int ⊕ (Bool × Int × Int))) (Sum.inl ((min x.length y.length : Nat) : Int)) (fun k hk => ?_) ?_
 · refine this.trans ?_
   rw [wK]
   unfold dfC
   cases scan (dfK x y) 0 (min x.length y.length) <;> rfl
 · obtain ⟨u, hu⟩ := zv (l := x) (i := k) (by omega)
   obtain ⟨v, hv⟩ := zv (l := y) (i := k) (by omega)
   have hlt : (k : Int) < (x.length : Int) := by omega
   have hlt2 : (k : Int) < (y.length : Int) := by omega
   have hw : IntKind.wrap .i64 ((k : Int) + 1) = ((k + 1 : Nat) : Int) := w64 (by omega) (by omega)
   have n1 : (0 : Int) <= (k : Int) := by omega
   simp only [hlt, hlt2, decide_true, cond_true, idxO, n1, if_true, Int.toNat_natCast, hu, hv, Option.bind_some, letO, hw, zmz, dfK]
   by_cases c : u.Value = v.Value <;> simp [c]
 · by_cases hlt : ((min x.length y.length : Nat) : Int) < (x.length : Int)
   · have hlt2 : ¬ ((min x.length y.length : Nat) : Int) < (y.length : Int) := by omega
     simp only [hlt, hlt2, decide_true, decide_false, cond_true, cond_false]
   · simp only [hlt, decide_false, cond_false]
theorem ze4 {p : TP} (h : PolIn p) (a b : List TE) (ha : a.length <= 1000000) (hb : b.length <= 1000000) (o : Int) : Fz97 p a b o = some (agrC p a b o) := by
 unfold Fz97 agrC
 rw [yi h a ha, yi h b hb]
 simp only [Option.bind_some]
 by_cases c : (audC p a).2 = 0
 case neg => simp only [c, decide_false, Bool.not_false, cond_true, cond_false, if_false]
 by_cases d : (audC p b).2 = 0
 case neg => simp only [c, d, decide_true, decide_false, Bool.not_false, cond_true, cond_false, if_true, if_false]
 simp only [c, d, if_true, decide_true, Bool.not_true, cond_true, cond_false]
 by_cases e : labB p.Lattice o = true
 case neg =>
  have d' := e
  unfold labB at d'
  simp only [Bool.and_eq_true, decide_eq_true_eq] at d'
  by_cases c1 : o < 0
  · simp [e, c1]
  · have c2 : (p.Lattice.Names.length : Int) <= o := by omega
    simp [e, c1, c2]
 have d' := e
 unfold labB at d'
 simp only [Bool.and_eq_true, decide_eq_true_eq] at d'
 have c1 : ¬ o < 0 := by omega
 have c2 : ¬ (p.Lattice.Names.length : Int) <= o := by omega
 have l1 := xm (p := p) (l := a) (o := o)
 have l2 := xm (p := p) (l := b) (o := o)
 have c2' : ¬ ((List.map SV.str p.Lattice.Names).length : Int) <= o := by simpa using c2
 simp only [e, if_true, c1, c2', decide_false, cond_false, jT h c e, jT h d e, Option.bind_some]
 rw [zo3 _ _ (by omega) (by omega)]
 have hle := zrf (zH p a o) (zH p b o)
 simp only [Option.bind_some, Sum.elim_inl, List.length_map]
 by_cases q1 : dfC (zH p a o) (zH p b o) = (zH p a o).length
 · have q1' : (dfC (zH p a o) (zH p b o) : Int) = ((zH p a o).length : Int) := by omega
   have q2 : dfC (zH p a o) (zH p b o) = min (zH p a o).length (zH p b o).length := by omega
   rw [decide_eq_true q1', decide_eq_true q2]
   rfl
 · have q1' : ¬ (dfC (zH p a o) (zH p b o) : Int) = ((zH p a o).length : Int) := by omega
   rw [decide_eq_false q1']
   have q3 : ((dfC (zH p a o) (zH p b o) : Int) = ((zH p b o).length : Int)) ↔ dfC (zH p a o) (zH p b o) = min (zH p a o).length (zH p b o).length := by omega
   simp [q3]
theorem zdi (a : List TE) (ha : a.length <= 1000000) : Fz98 a a = some true := by
 unfold Fz98
 simp only [List.length_map, decide_true, Bool.not_true, cond_false]
 refine (xy a.length (fun k => (k : Int)) () (fun k hk => ?_) (by simp) rfl).trans rfl
 obtain ⟨u, hu⟩ := zv hk
 have hlt : (k : Int) < (a.length : Int) := by omega
 have hw : IntKind.wrap .i64 ((k : Int) + 1) = ((k + 1 : Nat) : Int) := w64 (by omega) (by omega)
 have n1 : (0 : Int) <= (k : Int) := by omega
 simp only [hlt, decide_true, cond_true, idxO, n1, if_true, Int.toNat_natCast, hu, Option.bind_some, letO, hw, Bool.and_true, Bool.not_true, cond_false]
theorem zd6 (l : List TE) : ∃ b, Fz3 l = some b /\ (b = false -> l.length <= 2005) := by
 unfold Fz3
 simp only [List.length_map]
 by_cases c1 : (40 : Int) < (l.length : Int)
 · by_cases c2 : (l.length : Int) <= 2000
   · exact ⟨true, by simp [c1, c2], fun h => by cases h⟩
   · refine ⟨decide ((2005 : Int) < (l.length : Int)), by simp [c1, c2], fun h => ?_⟩
     simp at h; omega
 · refine ⟨decide ((2005 : Int) < (l.length : Int)), by simp [c1], fun h => ?_⟩
   simp at h; omega
theorem zon {p : TP} {l : List TE} {o : Int} : (belC p l o).1.length <= l.length := by
 unfold belC
 split
 · split
   · exact xm
   · simp
 · simp
theorem zhu (p : TP) (a b : List TE) (w1 : W_TP p) (_ : allW W_TE a) (_ : allW W_TE b) : Fz99 p a b = some true := by
 unfold Fz99
 obtain ⟨f, hf, hq⟩ := zn1 p (zr3 w1.Lattice.Up)
 rw [hf]
 cases f with
 | true => rfl
 | false =>
 have h := hq rfl
 obtain ⟨fa, hfa, hqa⟩ := zd6 a
 rw [hfa]
 cases fa with
 | true => rfl
 | false =>
 obtain ⟨fb, hfb, hqb⟩ := zd6 b
 rw [hfb]
 cases fb with
 | true => rfl
 | false =>
 have la := hqa rfl
 have lb := hqb rfl
 have hn := h.lat.names
 simp only [Option.bind_some, cond_false, uh h a (by omega), yi h a (by omega), decide_true, Bool.not_true]
 refine (xy (min p.Lattice.Names.length 8 + 2) (fun k => (k : Int) - 1) () (fun k hk => ?_) ?_ rfl).trans rfl
 · have c1 : (k : Int) - 1 <= ((List.map SV.str p.Lattice.Names).length : Int) := by rw [List.length_map]; omega
   have c2 : (k : Int) - 1 < 9 := by omega
   have hw : IntKind.wrap .i64 ((k : Int) - 1 + 1) = ((k + 1 : Nat) : Int) - 1 := by rw [w64 (by omega) (by omega)]; omega
   have hsame := zdi (belC p a ((k : Int) - 1)).1 (by have := zon (p := p) (l := a) (o := (k : Int) - 1); omega)
   simp only [c1, c2, decide_true, cond_true, zer h a (by omega), zea h a (by omega), zem h a b (by omega) (by omega), ze4 h a b (by omega) (by omega), Option.bind_some, hsame, Bool.not_true, cond_false, letO, hw]
   cases (agrC p a b ((k : Int) - 1)).1 <;> rfl
 · by_cases c8 : p.Lattice.Names.length <= 8
   · have c1 : ¬ ((min p.Lattice.Names.length 8 + 2 : Nat) : Int) - 1 <= ((List.map SV.str p.Lattice.Names).length : Int) := by rw [List.length_map]; omega
     simp only [c1, decide_false, cond_false]
   · have c1 : ((min p.Lattice.Names.length 8 + 2 : Nat) : Int) - 1 <= ((List.map SV.str p.Lattice.Names).length : Int) := by rw [List.length_map]; omega
     have c2 : ¬ ((min p.Lattice.Names.length 8 + 2 : Nat) : Int) - 1 < 9 := by omega
     simp only [c1, c2, decide_true, decide_false, cond_true, cond_false]
end Go.Sx.O
