/-
  SYMBOLIC VALUES AND WHAT THEY SAY OF A VALUE IN A WORLD. Generic: no program in sight. An own text.
-/
import Derived.Calls
import Derived.Laws.Sem
import Derived.Laws.World
import Derived.Laws.Entries
import Derived.Below
namespace Go.Sx
open Go.RowKit (Below)

inductive Step where
  | fld (i off : Nat)
  | idx (i sz : Nat)

/-- A symbolic value: what is known of a value. Data are lists; 'ptr', 'osl' name blocks that the running function owns. -/
inductive SV where
  | any
  | int (k : IntKind) (n : Int)
  | bool (b : Bool)
  | tru
  | fls
  | str (s : List UInt8)
  | agg (fs : List SV)
  | arr (n sz : Nat) (xs : List SV)
  | tup (vs : List SV)
  | sl (sz : Nat) (xs : List SV)
  | mt
  | nils
  | iptr (t : SV)
  | ptr (b : Nat) (p : List Step)
  | osl (b sz : Nat)
  | fn (f : FuncId) (caps : List SV)
  | nilf
  | nilp
  | nili
  | yld (b : Nat)

mutual
def SV.sz : SV → Nat
  | .agg fs => szs fs
  | .arr n s _ => n * s
  | _ => 1
def szs : List SV → Nat
  | [] => 0
  | v :: r => v.sz + szs r
end

structure Loc where
  r : Nat
  len : Nat
  cap : Nat

abbrev Beta := Nat → Option Loc
def nob : Beta := fun _ => none

def pOff : List Step → Nat
  | [] => 0
  | .fld _ off :: p => off + pOff p
  | .idx i sz :: p => i * sz + pOff p

/-- The cells from an address on hold these values. -/
def cellsAt (w : World) (b off : Nat) (cs : List Value) : Prop := ∀ j v, cs[j]? = some v → w.cell? ⟨b, off + j, none⟩ = some v

/-- A value out of its cells: what a slot holds of an aggregate. -/
def ofCells (agg : Bool) (cs : List Value) : Value := if agg then .agg cs.toArray else cs.headD undef

def SV.isAgg : SV → Bool
  | .agg _ | .arr .. => true
  | _ => false

mutual
/-- What a symbolic value says of the cells in which it lies. X: the blocks that somebody may still write. -/
def relP (w : World) (X : Nat → Prop) : SV → Beta → List Value → Prop
  | .any, _, cs => ∃ u, cs = [u] ∧ u.oneCell' = true
  | .int k n, _, cs => cs = [.int k n]
  | .bool b, _, cs => cs = [.bool b]
  | .tru, _, cs => cs = [.bool true]
  | .fls, _, cs => cs = [.bool false]
  | .str s, _, cs => cs = [.string ⟨s.toArray⟩]
  | .agg fs, β, cs => relC w X fs β cs
  | .arr n sz xs, _, cs => xs.length = n ∧ relR w X sz xs nob cs
  | .tup _, _, _ => False
  | .sl sz xs, _, cs => ∃ a cap, cs = [.slice a xs.length cap] ∧ xs.length ≤ cap ∧
      (xs = [] ∨ ∃ b off ds, a = some ⟨b, off, none⟩ ∧ ¬ X b ∧ b < w.heap.size ∧ cellsAt w b off ds ∧ relR w X sz xs nob ds)
  | .mt, _, cs => ∃ a, cs = [.slice a 0 0]
  | .nils, _, cs => cs = [.slice none 0 0]
  | .iptr t, _, cs => ∃ b off ds, cs = [.pointer (some ⟨b, off, none⟩)] ∧ ¬ X b ∧ b < w.heap.size ∧ cellsAt w b off ds ∧ relP w X t nob ds
  | .ptr b p, β, cs => ∃ l, β b = some l ∧ cs = [.pointer (some ⟨l.r, pOff p, none⟩)]
  | .osl b _, β, cs => ∃ l a, β b = some l ∧ cs = [.slice a l.len l.cap] ∧ (l.cap ≠ 0 → a = some ⟨l.r, 0, none⟩)
  | .fn f caps, β, cs => ∃ us, cs = [.func (.func f) #[] us] ∧ relL w X caps β us.toList
  | .nilf, _, cs => cs = [.nilFunc]
  | .nilp, _, cs => cs = [.pointer none]
  | .nili, _, cs => cs = [.nilIface]
  | .yld b, β, cs => ∃ l, β b = some l ∧ cs = [.func (.yield l.r) #[] #[]]
/-- fields, one behind the other -/
def relC (w : World) (X : Nat → Prop) : List SV → Beta → List Value → Prop
  | [], _, cs => cs = []
  | f :: r, β, cs => ∃ c1 c2, cs = c1 ++ c2 ∧ relP w X f β c1 ∧ relC w X r β c2
/-- rows of one size -/
def relR (w : World) (X : Nat → Prop) (sz : Nat) : List SV → Beta → List Value → Prop
  | [], _, cs => cs = []
  | x :: r, β, cs => ∃ c1 c2, cs = c1 ++ c2 ∧ c1.length = sz ∧ relP w X x β c1 ∧ relR w X sz r β c2
/-- values, one each (captured variables, a call's arguments, a tuple's parts) -/
def relL (w : World) (X : Nat → Prop) : List SV → Beta → List Value → Prop
  | [], _, us => us = []
  | v :: r, β, us => ∃ u us', us = u :: us' ∧ (match v.isAgg with | true => ∃ cs, u = .agg cs ∧ relP w X v β cs.toList | false => (match v with | .any => True | _ => relP w X v β [u])) ∧ relL w X r β us'
end

/-- What a symbolic value says of a value. -/
def relV (w : World) (X : Nat → Prop) (v : SV) (β : Beta) (u : Value) : Prop :=
  match v.isAgg with
  | true => ∃ cs, u = .agg cs ∧ relP w X v β cs.toList
  | false => match v with | .any => True | _ => relP w X v β [u]
def rel (w : World) (X : Nat → Prop) (v : SV) (β : Beta) (u : Value) : Prop :=
  match v with
  | .tup vs => ∃ us, u = .tuple us ∧ relL w X vs β us.toList
  | v => relV w X v β u

theorem rel_eq {w : World} {X : Nat → Prop} {β : Beta} {v : SV} {u : Value} (h : ∀ vs, v ≠ .tup vs) : rel w X v β u = relV w X v β u := by
  cases v <;> first | rfl | exact absurd rfl (h _)
theorem relV_leaf {w : World} {X : Nat → Prop} {β : Beta} {v : SV} {u : Value} (h : v.isAgg = false) (k : v ≠ .any) : relV w X v β u = relP w X v β [u] := by
  unfold relV
  cases v <;> simp_all [SV.isAgg]

section
variable {w : World} {X : Nat → Prop} {β : Beta}
theorem relL_nil {us : List Value} : relL w X [] β us ↔ us = [] := by simp [relL]
theorem relL_cons {v : SV} {r : List SV} {us : List Value} : relL w X (v :: r) β us ↔ ∃ u us', us = u :: us' ∧ relV w X v β u ∧ relL w X r β us' := by
  simp only [relL, relV]
theorem relC_nil {cs : List Value} : relC w X [] β cs ↔ cs = [] := by simp [relC]
theorem relC_cons {v : SV} {r : List SV} {cs : List Value} : relC w X (v :: r) β cs ↔ ∃ c1 c2, cs = c1 ++ c2 ∧ relP w X v β c1 ∧ relC w X r β c2 := by
  simp only [relC]
theorem relR_nil {sz : Nat} {cs : List Value} : relR w X sz [] β cs ↔ cs = [] := by simp [relR]
theorem relR_cons {sz : Nat} {v : SV} {r : List SV} {cs : List Value} : relR w X sz (v :: r) β cs ↔ ∃ c1 c2, cs = c1 ++ c2 ∧ c1.length = sz ∧ relP w X v β c1 ∧ relR w X sz r β c2 := by
  simp only [relR]
end

/-- The names in a value: all of a kind. (In slices, arrays and behind pointers into finished memory there are none.) -/
def nmsP (p : Nat → Prop) : SV → Prop
  | .ptr b _ => p b
  | .osl b _ => p b
  | .yld b => p b
  | _ => True
mutual
def SV.nms (p : Nat → Prop) : SV → Prop
  | .ptr b _ => p b
  | .osl b _ => p b
  | .yld b => p b
  | .agg fs => nmsL p fs
  | .tup fs => nmsL p fs
  | .fn _ fs => nmsL p fs
  | _ => True
def nmsL (p : Nat → Prop) : List SV → Prop
  | [] => True
  | v :: r => v.nms p ∧ nmsL p r
end

mutual
theorem nms_true {p : Nat → Prop} (h : ∀ b, p b) : ∀ v : SV, v.nms p
  | .ptr b _ => h b
  | .osl b _ => h b
  | .yld b => h b
  | .agg fs => nmsL_true h fs
  | .tup fs => nmsL_true h fs
  | .fn _ fs => nmsL_true h fs
  | .any | .int .. | .bool _ | .tru | .fls | .str _ | .arr .. | .sl .. | .mt | .nils | .iptr _ | .nilf | .nilp | .nili => trivial
theorem nmsL_true {p : Nat → Prop} (h : ∀ b, p b) : ∀ l : List SV, nmsL p l
  | [] => trivial
  | v :: r => ⟨nms_true h v, nmsL_true h r⟩
end
mutual
theorem nms_mono {p q : Nat → Prop} (h : ∀ b, p b → q b) : ∀ v : SV, v.nms p → v.nms q
  | .ptr b _, k => h b k
  | .osl b _, k => h b k
  | .yld b, k => h b k
  | .agg fs, k => nmsL_mono h fs k
  | .tup fs, k => nmsL_mono h fs k
  | .fn _ fs, k => nmsL_mono h fs k
  | .any, _ | .int .., _ | .bool _, _ | .tru, _ | .fls, _ | .str _, _ | .arr .., _ | .sl .., _ | .mt, _ | .nils, _ | .iptr _, _ | .nilf, _ | .nilp, _ | .nili, _ => trivial
theorem nmsL_mono {p q : Nat → Prop} (h : ∀ b, p b → q b) : ∀ l : List SV, nmsL p l → nmsL q l
  | [], _ => trivial
  | v :: r, k => ⟨nms_mono h v k.1, nmsL_mono h r k.2⟩
end

/-- From one world to a later one: what is no longer written reads as it did. -/
structure Ext (w : World) (X : Nat → Prop) (w' : World) (X' : Nat → Prop) : Prop where
  size : w.heap.size ≤ w'.heap.size
  same : ∀ r, r < w.heap.size → ¬ X r → w'.heap[r]? = w.heap[r]?
  less : ∀ r, r < w.heap.size → ¬ X r → ¬ X' r

theorem Ext.refl (w : World) (X : Nat → Prop) : Ext w X w X := ⟨Nat.le_refl _, fun _ _ _ => rfl, fun _ _ h => h⟩
theorem Ext.trans {w w' w'' : World} {X X' X'' : Nat → Prop} (h : Ext w X w' X') (k : Ext w' X' w'' X'') : Ext w X w'' X'' :=
  ⟨Nat.le_trans h.size k.size, fun r hr hx => (k.same r (Nat.lt_of_lt_of_le hr h.size) (h.less r hr hx)).trans (h.same r hr hx),
    fun r hr hx => k.less r (Nat.lt_of_lt_of_le hr h.size) (h.less r hr hx)⟩

theorem cellsAt_ext {w w' : World} {b off : Nat} {cs : List Value} (h : cellsAt w b off cs) (e : w'.heap[b]? = w.heap[b]?) : cellsAt w' b off cs :=
  fun j v hj => by rw [World.cell?_of_block (w := w) (by simpa using e)]; exact h j v hj

section
variable {w w' : World} {X X' : Nat → Prop}
mutual
theorem relP_ext (e : Ext w X w' X') {β β' : Beta} : ∀ (v : SV) (cs : List Value), v.nms (fun b => ∀ l, β b = some l → β' b = some l) → relP w X v β cs → relP w' X' v β' cs
  | .any, _, _, h => h
  | .int .., _, _, h => h
  | .bool _, _, _, h => h
  | .tru, _, _, h => h
  | .fls, _, _, h => h
  | .str _, _, _, h => h
  | .agg fs, cs, k, h => by simp only [relP] at h ⊢; exact relC_ext e fs cs k h
  | .arr n sz xs, cs, _, h => by simp only [relP] at h ⊢; exact ⟨h.1, relR_ext e sz xs cs (nmsL_true (fun b l hb => hb) xs) h.2⟩
  | .tup _, _, _, h => h
  | .sl sz xs, cs, _, h => by
    simp only [relP] at h ⊢
    obtain ⟨a, cap, h1, h2, h3⟩ := h
    refine ⟨a, cap, h1, h2, h3.imp id ?_⟩
    rintro ⟨b, off, ds, g1, g2, g3, g4, g5⟩
    exact ⟨b, off, ds, g1, e.less b g3 g2, Nat.lt_of_lt_of_le g3 e.size, cellsAt_ext g4 (e.same b g3 g2), relR_ext e sz xs ds (nmsL_true (fun b l hb => hb) xs) g5⟩
  | .mt, _, _, h => h
  | .nils, _, _, h => h
  | .iptr t, cs, _, h => by
    simp only [relP] at h ⊢
    obtain ⟨b, off, ds, g1, g2, g3, g4, g5⟩ := h
    exact ⟨b, off, ds, g1, e.less b g3 g2, Nat.lt_of_lt_of_le g3 e.size, cellsAt_ext g4 (e.same b g3 g2), relP_ext e t ds (nms_true (fun b l hb => hb) t) g5⟩
  | .ptr b p, cs, k, h => by
    simp only [relP] at h ⊢
    obtain ⟨l, h1, h2⟩ := h
    exact ⟨l, k l h1, h2⟩
  | .osl b s, cs, k, h => by
    simp only [relP] at h ⊢
    obtain ⟨l, a, h1, h2⟩ := h
    exact ⟨l, a, k l h1, h2⟩
  | .fn f caps, cs, k, h => by
    simp only [relP] at h ⊢
    obtain ⟨us, h1, h2⟩ := h
    exact ⟨us, h1, relL_ext e caps us.toList k h2⟩
  | .nilf, _, _, h => h
  | .nilp, _, _, h => h
  | .nili, _, _, h => h
  | .yld b, cs, k, h => by
    simp only [relP] at h ⊢
    obtain ⟨l, h1, h2⟩ := h
    exact ⟨l, k l h1, h2⟩
theorem relC_ext (e : Ext w X w' X') {β β' : Beta} : ∀ (l : List SV) (cs : List Value), nmsL (fun b => ∀ l, β b = some l → β' b = some l) l → relC w X l β cs → relC w' X' l β' cs
  | [], _, _, h => by simp only [relC] at h ⊢; exact h
  | v :: r, cs, k, h => by
    simp only [relC] at h ⊢
    obtain ⟨c1, c2, h1, h2, h3⟩ := h
    exact ⟨c1, c2, h1, relP_ext e v c1 k.1 h2, relC_ext e r c2 k.2 h3⟩
theorem relR_ext (e : Ext w X w' X') {β β' : Beta} (sz : Nat) : ∀ (l : List SV) (cs : List Value), nmsL (fun b => ∀ l, β b = some l → β' b = some l) l → relR w X sz l β cs → relR w' X' sz l β' cs
  | [], _, _, h => by simp only [relR] at h ⊢; exact h
  | v :: r, cs, k, h => by
    simp only [relR] at h ⊢
    obtain ⟨c1, c2, h1, h2, h3, h4⟩ := h
    exact ⟨c1, c2, h1, h2, relP_ext e v c1 k.1 h3, relR_ext e sz r c2 k.2 h4⟩
theorem relL_ext (e : Ext w X w' X') {β β' : Beta} : ∀ (l : List SV) (us : List Value), nmsL (fun b => ∀ l, β b = some l → β' b = some l) l → relL w X l β us → relL w' X' l β' us
  | [], _, _, h => by simp only [relL] at h ⊢; exact h
  | v :: r, us, k, h => by
    rw [relL_cons] at h ⊢
    obtain ⟨u, us', h1, h2, h3⟩ := h
    refine ⟨u, us', h1, ?_, relL_ext e r us' k.2 h3⟩
    have ih := fun cs => relP_ext e v cs k.1
    unfold relV at h2 ⊢
    cases hv : v.isAgg with
    | true => simp only [hv] at h2 ⊢; obtain ⟨cs, g1, g2⟩ := h2; exact ⟨cs, g1, ih _ g2⟩
    | false => simp only [hv] at h2 ⊢; cases v <;> first | trivial | exact ih _ h2
end

theorem relV_ext (e : Ext w X w' X') {β β' : Beta} {v : SV} {u : Value} (k : v.nms (fun b => ∀ l, β b = some l → β' b = some l)) (h : relV w X v β u) : relV w' X' v β' u := by
  unfold relV at h ⊢
  cases hv : v.isAgg with
  | true => simp only [hv] at h ⊢; obtain ⟨cs, g1, g2⟩ := h; exact ⟨cs, g1, relP_ext e _ _ k g2⟩
  | false => simp only [hv] at h ⊢; cases v <;> first | trivial | exact relP_ext e _ _ k h
theorem rel_ext (e : Ext w X w' X') {β β' : Beta} {v : SV} {u : Value} (k : v.nms (fun b => ∀ l, β b = some l → β' b = some l)) (h : rel w X v β u) : rel w' X' v β' u := by
  cases v with
  | tup vs =>
    obtain ⟨us, h1, h2⟩ := h
    exact ⟨us, h1, relL_ext e _ _ k h2⟩
  | _ => exact relV_ext (u := u) e k h
end

section
variable {w : World} {X : Nat → Prop}
mutual
theorem relP_len {β : Beta} : ∀ (v : SV) (cs : List Value), relP w X v β cs → cs.length = v.sz
  | .any, _, h => by simp only [relP] at h; obtain ⟨u, rfl, _⟩ := h; rfl
  | .int .., _, h => by simp only [relP] at h; subst h; rfl
  | .bool _, _, h => by simp only [relP] at h; subst h; rfl
  | .tru, _, h => by simp only [relP] at h; subst h; rfl
  | .fls, _, h => by simp only [relP] at h; subst h; rfl
  | .str _, _, h => by simp only [relP] at h; subst h; rfl
  | .agg fs, cs, h => by simp only [relP] at h; simpa [SV.sz] using relC_len fs cs h
  | .arr n sz xs, cs, h => by simp only [relP] at h; obtain ⟨rfl, h⟩ := h; simpa [SV.sz] using relR_len sz xs cs h
  | .tup _, _, h => h.elim
  | .sl .., _, h => by simp only [relP] at h; obtain ⟨a, cap, rfl, _⟩ := h; rfl
  | .mt, _, h => by simp only [relP] at h; obtain ⟨a, rfl⟩ := h; rfl
  | .nils, _, h => by simp only [relP] at h; subst h; rfl
  | .iptr _, _, h => by simp only [relP] at h; obtain ⟨b, off, ds, rfl, _⟩ := h; rfl
  | .ptr .., _, h => by simp only [relP] at h; obtain ⟨l, _, rfl⟩ := h; rfl
  | .osl .., _, h => by simp only [relP] at h; obtain ⟨l, a, _, rfl, _⟩ := h; rfl
  | .fn .., _, h => by simp only [relP] at h; obtain ⟨us, rfl, _⟩ := h; rfl
  | .nilf, _, h => by simp only [relP] at h; subst h; rfl
  | .nilp, _, h => by simp only [relP] at h; subst h; rfl
  | .nili, _, h => by simp only [relP] at h; subst h; rfl
  | .yld _, _, h => by simp only [relP] at h; obtain ⟨l, _, rfl⟩ := h; rfl
theorem relC_len {β : Beta} : ∀ (l : List SV) (cs : List Value), relC w X l β cs → cs.length = szs l
  | [], _, h => by simp only [relC] at h; subst h; rfl
  | v :: r, cs, h => by
    simp only [relC] at h
    obtain ⟨c1, c2, rfl, h2, h3⟩ := h
    simp [szs, relP_len v c1 h2, relC_len r c2 h3]
theorem relR_len {β : Beta} (sz : Nat) : ∀ (l : List SV) (cs : List Value), relR w X sz l β cs → cs.length = l.length * sz
  | [], _, h => by simp only [relR] at h; subst h; simp
  | v :: r, cs, h => by
    simp only [relR] at h
    obtain ⟨c1, c2, rfl, h2, h3, h4⟩ := h
    simp [h2, relR_len sz r c2 h4, Nat.add_mul, Nat.add_comm]
end

mutual
/-- each cell is one cell -/
theorem relP_one {β : Beta} : ∀ (v : SV) (cs : List Value), relP w X v β cs → ∀ u ∈ cs, u.oneCell' = true
  | .any, _, h => by simp only [relP] at h; obtain ⟨u, rfl, h⟩ := h; simpa using h
  | .int .., _, h => by simp only [relP] at h; subst h; simp [Value.oneCell']
  | .bool _, _, h => by simp only [relP] at h; subst h; simp [Value.oneCell']
  | .tru, _, h => by simp only [relP] at h; subst h; simp [Value.oneCell']
  | .fls, _, h => by simp only [relP] at h; subst h; simp [Value.oneCell']
  | .str _, _, h => by simp only [relP] at h; subst h; simp [Value.oneCell']
  | .agg fs, cs, h => by simp only [relP] at h; exact relC_one fs cs h
  | .arr n sz xs, cs, h => by simp only [relP] at h; exact relR_one sz xs cs h.2
  | .tup _, _, h => h.elim
  | .sl .., _, h => by simp only [relP] at h; obtain ⟨a, cap, rfl, _⟩ := h; simp [Value.oneCell']
  | .mt, _, h => by simp only [relP] at h; obtain ⟨a, rfl⟩ := h; simp [Value.oneCell']
  | .nils, _, h => by simp only [relP] at h; subst h; simp [Value.oneCell']
  | .iptr _, _, h => by simp only [relP] at h; obtain ⟨b, off, ds, rfl, _⟩ := h; simp [Value.oneCell']
  | .ptr .., _, h => by simp only [relP] at h; obtain ⟨l, _, rfl⟩ := h; simp [Value.oneCell']
  | .osl .., _, h => by simp only [relP] at h; obtain ⟨l, a, _, rfl, _⟩ := h; simp [Value.oneCell']
  | .fn .., _, h => by simp only [relP] at h; obtain ⟨us, rfl, _⟩ := h; simp [Value.oneCell']
  | .nilf, _, h => by simp only [relP] at h; subst h; simp [Value.oneCell']
  | .nilp, _, h => by simp only [relP] at h; subst h; simp [Value.oneCell']
  | .nili, _, h => by simp only [relP] at h; subst h; simp [Value.oneCell']
  | .yld _, _, h => by simp only [relP] at h; obtain ⟨l, _, rfl⟩ := h; simp [Value.oneCell']
theorem relC_one {β : Beta} : ∀ (l : List SV) (cs : List Value), relC w X l β cs → ∀ u ∈ cs, u.oneCell' = true
  | [], _, h => by simp only [relC] at h; subst h; simp
  | v :: r, cs, h => by
    simp only [relC] at h
    obtain ⟨c1, c2, rfl, h2, h3⟩ := h
    intro u hu
    rcases List.mem_append.1 hu with hu | hu
    · exact relP_one v c1 h2 u hu
    · exact relC_one r c2 h3 u hu
theorem relR_one {β : Beta} (sz : Nat) : ∀ (l : List SV) (cs : List Value), relR w X sz l β cs → ∀ u ∈ cs, u.oneCell' = true
  | [], _, h => by simp only [relR] at h; subst h; simp
  | v :: r, cs, h => by
    simp only [relR] at h
    obtain ⟨c1, c2, rfl, _, h3, h4⟩ := h
    intro u hu
    rcases List.mem_append.1 hu with hu | hu
    · exact relP_one v c1 h3 u hu
    · exact relR_one sz r c2 h4 u hu
end

/-- a field out of fields -/
theorem relC_get {β : Beta} {fs : List SV} {cs : List Value} (h : relC w X fs β cs) {i : Nat} {s : SV} (hs : fs[i]? = some s) :
    ∃ c1 c2 c3, cs = c1 ++ c2 ++ c3 ∧ c1.length = szs (fs.take i) ∧ relP w X s β c2 ∧
      ∀ s' c2', relP w X s' β c2' → relC w X (fs.set i s') β (c1 ++ c2' ++ c3) := by
  induction fs generalizing cs i with
  | nil => simp at hs
  | cons v r ih =>
    rw [relC_cons] at h
    obtain ⟨d1, d2, rfl, h1, h2⟩ := h
    cases i with
    | zero =>
      simp at hs; subst hs
      refine ⟨[], d1, d2, by simp, by simp [szs], h1, fun s' c2' hs' => ?_⟩
      simp only [List.set, List.nil_append, relC_cons]
      exact ⟨c2', d2, rfl, hs', h2⟩
    | succ i =>
      simp at hs
      obtain ⟨c1, c2, c3, rfl, g1, g2, g3⟩ := ih h2 hs
      refine ⟨d1 ++ c1, c2, c3, by simp, ?_, g2, fun s' c2' hs' => ?_⟩
      · simp [szs, relP_len _ _ h1, g1]
      · simp only [List.set, relC_cons]
        exact ⟨d1, c1 ++ c2' ++ c3, by simp, h1, g3 s' c2' hs'⟩

theorem relR_get {β : Beta} {sz : Nat} {xs : List SV} {cs : List Value} (h : relR w X sz xs β cs) {i : Nat} {s : SV} (hs : xs[i]? = some s) :
    ∃ c1 c2 c3, cs = c1 ++ c2 ++ c3 ∧ c1.length = i * sz ∧ c2.length = sz ∧ relP w X s β c2 ∧
      ∀ s' c2', c2'.length = sz → relP w X s' β c2' → relR w X sz (xs.set i s') β (c1 ++ c2' ++ c3) := by
  induction xs generalizing cs i with
  | nil => simp at hs
  | cons v r ih =>
    rw [relR_cons] at h
    obtain ⟨d1, d2, rfl, h0, h1, h2⟩ := h
    cases i with
    | zero =>
      simp at hs; subst hs
      refine ⟨[], d1, d2, by simp, by simp, h0, h1, fun s' c2' hl hs' => ?_⟩
      simp only [List.set, List.nil_append, relR_cons]
      exact ⟨c2', d2, rfl, hl, hs', h2⟩
    | succ i =>
      simp at hs
      obtain ⟨c1, c2, c3, rfl, g1, g2, g3, g4⟩ := ih h2 hs
      refine ⟨d1 ++ c1, c2, c3, by simp, ?_, g2, g3, fun s' c2' hl hs' => ?_⟩
      · simp [h0, g1, Nat.add_mul, Nat.add_comm]
      · simp only [List.set, relR_cons]
        exact ⟨d1, c1 ++ c2' ++ c3, by simp, h0, h1, g4 s' c2' hl hs'⟩

theorem relR_append {β : Beta} {sz : Nat} {xs ys : List SV} {cs ds : List Value} (h : relR w X sz xs β cs) (k : relR w X sz ys β ds) : relR w X sz (xs ++ ys) β (cs ++ ds) := by
  induction xs generalizing cs with
  | nil => simp only [relR_nil] at h; subst h; simpa using k
  | cons v r ih =>
    rw [relR_cons] at h
    obtain ⟨d1, d2, rfl, h0, h1, h2⟩ := h
    rw [List.cons_append, relR_cons]
    exact ⟨d1, d2 ++ ds, by simp, h0, h1, ih h2⟩
theorem relR_take {β : Beta} {sz : Nat} {xs : List SV} {cs : List Value} (h : relR w X sz xs β cs) (n : Nat) : relR w X sz (xs.take n) β (cs.take (n * sz)) := by
  induction xs generalizing cs n with
  | nil => simp only [relR_nil] at h; subst h; simp [relR_nil]
  | cons v r ih =>
    rw [relR_cons] at h
    obtain ⟨d1, d2, rfl, h0, h1, h2⟩ := h
    cases n with
    | zero => simp [relR_nil]
    | succ n =>
      rw [List.take_succ_cons, relR_cons]
      refine ⟨d1, d2.take (n * sz), ?_, h0, h1, ih h2 n⟩
      rw [List.take_append, List.take_of_length_le (by rw [h0, Nat.add_mul]; omega)]
      congr 2
      rw [h0, Nat.add_mul]; omega
theorem relR_drop {β : Beta} {sz : Nat} {xs : List SV} {cs : List Value} (h : relR w X sz xs β cs) (n : Nat) : relR w X sz (xs.drop n) β (cs.drop (n * sz)) := by
  induction xs generalizing cs n with
  | nil => simp only [relR_nil] at h; subst h; simp [relR_nil]
  | cons v r ih =>
    cases n with
    | zero => simpa using h
    | succ n =>
      rw [relR_cons] at h
      obtain ⟨d1, d2, rfl, h0, h1, h2⟩ := h
      have hk : (n + 1) * sz - d1.length = n * sz := by rw [h0, Nat.add_mul]; omega
      have hd : (d1 ++ d2).drop ((n + 1) * sz) = d2.drop (n * sz) := by
        rw [List.drop_append, hk, List.drop_of_length_le (l := d1) (by rw [h0, Nat.add_mul]; omega), List.nil_append]
      rw [List.drop_succ_cons, hd]
      exact ih h2 n
end
end Go.Sx
