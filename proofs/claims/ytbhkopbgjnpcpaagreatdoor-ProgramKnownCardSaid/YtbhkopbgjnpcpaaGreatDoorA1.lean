/-
  SYMBOLIC VALUES AND WHAT THEY SAY OF A VALUE IN A WORLD. Generic: no program in sight. An own text.
  THE SYMBOLIC EXECUTOR: 'exec' reads a function's code and says what is to be shown. Generic: no program in sight. An own text.
  THE MEMORY OF A RUNNING FUNCTION, and what each kind of step does to it. Generic: no program in sight. An own text.
  STORES, FINISHED BLOCKS, APPENDS, WEAKENED STATES: what they do to a running function's memory. Generic: no program in sight. An own text.
  EACH OPERATION OF THE EXECUTOR IS SOUND. Generic: no program in sight. An own text.
  EACH OPERATION OF THE EXECUTOR IS SOUND: comparison, arithmetic, addresses, loads. Generic: no program in sight. An own text.
  EACH OPERATION OF THE EXECUTOR IS SOUND: comparison of structs and arrays. Generic: no program in sight. An own text.
  EACH OPERATION OF THE EXECUTOR IS SOUND: binary operations. Generic: no program in sight. An own text.
  EACH OPERATION OF THE EXECUTOR IS SOUND: addresses, loads, stores, new blocks. Generic: no program in sight. An own text.
  EACH OPERATION OF THE EXECUTOR IS SOUND: one by one. Generic: no program in sight. An own text.
  EACH OPERATION OF THE EXECUTOR IS SOUND: one by one, memory. Generic: no program in sight. An own text.
  EACH OPERATION OF THE EXECUTOR IS SOUND: stores, indices, new blocks. Generic: no program in sight. An own text.
  EACH OPERATION OF THE EXECUTOR IS SOUND: new blocks, composites, slices, builtins. Generic: no program in sight. An own text.
  EACH OPERATION OF THE EXECUTOR IS SOUND: composites, slices, builtins, calls. Generic: no program in sight. An own text.
  EACH OPERATION OF THE EXECUTOR IS SOUND: slices and builtins. Generic: no program in sight. An own text.
  EACH OPERATION OF THE EXECUTOR IS SOUND: append and calls. Generic: no program in sight. An own text.
-/
import Derived.Calls
import Derived.Laws.Sem
import Derived.Laws.World
import Derived.Laws.Entries
import Derived.Below
import Derived.Laws.Append
import Derived.Laws.MakeOwn
import Derived.Laws.StructEq
import Derived.Laws.AppendOwn
namespace Go.Sx
open Go.RowKit (Below)
inductive Step where
 | fld (i off : Nat)
 | idx (i sz : Nat)
inductive SV where
 | any
 | int (k : IntKind) (n : Int)
 | bool (b : Bool)
 | tru
 | fls
 | str (s : List UInt8)
 | agg (fs : List SV)
 | arr (n sz : Nat) (xs : List SV)
 | tup (vs : List SV)
 | sl (sz : Nat) (xs : List SV)
 | mt
 | nils
 | iptr (t : SV)
 | ptr (b : Nat) (p : List Step)
 | osl (b sz : Nat)
 | fn (f : FuncId) (caps : List SV)
 | nilf
 | nilp
 | nili
 | yld (b : Nat)
 | mpr (b : Nat)
 | vsl (b : Nat) (p : List Step) (n : Nat)
 | ifc (T : TypeId) (vs : List SV)
mutual
def SV.sz : SV → Nat
 | .agg fs => szs fs
 | .arr n s _ => n * s
 | _ => 1
def szs : List SV → Nat
 | [] => 0
 | v :: r => v.sz + szs r
end
structure Loc where
 r : Nat
 len : Nat
 cap : Nat
abbrev Beta := Nat → Option Loc
def nob : Beta := fun _ => none
def pOff : List Step → Nat
 | [] => 0
 | .fld _ off :: p => off + pOff p
 | .idx i sz :: p => i * sz + pOff p
def cellsAt (w : World) (b off : Nat) (cs : List Value) : Prop := ∀ j v, cs[j]? = some v → w.cell? ⟨b, off + j, none⟩ = some v
def SV.isAgg : SV → Bool
 | .agg _ | .arr .. => true
 | _ => false
def intsA : List SV → Bool
 | [] => true
 | .int _ _ :: r => intsA r
 | _ :: _ => false
mutual
def SV.pur : SV → Bool
 | .int .. | .bool _ | .tru | .fls | .str _ => true
 | .agg fs => purA fs
 | .arr n sz xs => match Nat.beq xs.length n, Nat.beq sz 1 with | true, true => intsA xs | _, _ => false
 | _ => false
def purA : List SV → Bool
 | [] => true
 | v :: r => match v.pur with | true => purA r | false => false
end
mutual
def SV.cls : SV → List Value
 | .int k n => [.int k n]
 | .bool b => [.bool b]
 | .tru => [.bool true]
 | .fls => [.bool false]
 | .str s => [.string ⟨s.toArray⟩]
 | .agg fs => clsA fs
 | .arr _ _ xs => clsA xs
 | _ => []
def clsA : List SV → List Value
 | [] => []
 | v :: r => v.cls ++ clsA r
end
def SV.val (v : SV) : Value := match v with
 | .agg fs => .agg (clsA fs).toArray
 | .arr _ _ xs => .agg (clsA xs).toArray
 | v => v.cls.headD undef
def purL : List (SV × SV) → Bool
 | [] => true
 | p :: r => match p.1.pur, p.2.pur with | true, true => purL r | _, _ => false
def fnV (f : Nat) (us : Array Value) : Value := match Nat.ble 1000000 f with
 | false => .func (.func f) #[] us
 | true => .func (.func (f - 1000000)) us #[]
theorem fnV_lo {f : Nat} (h : f < 1000000) (us : Array Value) : fnV f us = .func (.func f) #[] us := by
 unfold fnV
 split
 · rfl
 · rename_i e; rw [Nat.ble_eq] at e; omega
theorem fnV_hi {f : Nat} (h : Nat.ble 1000000 f = true) (us : Array Value) : fnV f us = .func (.func (f - 1000000)) us #[] := by
 unfold fnV
 rw [h]
theorem ble_lt {f : Nat} (h : Nat.ble 1000000 f = false) : f < 1000000 := by
 by_cases e : 1000000 ≤ f
 · rw [← Nat.ble_eq, h] at e; cases e
 · omega
theorem fnV_func (f : Nat) (us : Array Value) : ∃ (g : Nat) (a c : Array Value), fnV f us = .func (.func g) a c := by
 unfold fnV; split <;> exact ⟨_, _, _, rfl⟩
mutual
def relP (w : World) (X : Nat → Prop) : SV → Beta → List Value → Prop
 | .any, _, cs => ∃ u, cs = [u] ∧ u.oneCell' = true
 | .int k n, _, cs => cs = [.int k n]
 | .bool b, _, cs => cs = [.bool b]
 | .tru, _, cs => cs = [.bool true]
 | .fls, _, cs => cs = [.bool false]
 | .str s, _, cs => cs = [.string ⟨s.toArray⟩]
 | .agg fs, β, cs => relC w X fs β cs
 | .arr n sz xs, _, cs => xs.length = n ∧ relR w X sz xs nob cs
 | .tup _, _, _ => False
 | .sl sz xs, _, cs => ∃ a cap, cs = [.slice a xs.length cap] ∧ xs.length ≤ cap ∧
    (xs = [] ∨ ∃ b off ds, a = some ⟨b, off, none⟩ ∧ ¬ X b ∧ b < w.heap.size ∧ cellsAt w b off ds ∧ relR w X sz xs nob ds)
 | .mt, _, cs => ∃ a, cs = [.slice a 0 0]
 | .nils, _, cs => cs = [.slice none 0 0]
 | .iptr t, _, cs => ∃ b off ds, cs = [.pointer (some ⟨b, off, none⟩)] ∧ ¬ X b ∧ b < w.heap.size ∧ cellsAt w b off ds ∧ relP w X t nob ds
 | .ptr b p, β, cs => ∃ l, β b = some l ∧ cs = [.pointer (some ⟨l.r, pOff p, none⟩)]
 | .osl b _, β, cs => ∃ l a, β b = some l ∧ cs = [.slice a l.len l.cap] ∧ (l.cap ≠ 0 → a = some ⟨l.r, 0, none⟩)
 | .fn f caps, β, cs => ∃ us, cs = [fnV f us] ∧ relL w X caps β us.toList
 | .ifc T vs, β, cs => ∃ u, cs = [.iface T u] ∧ relL w X vs β [u]
 | .nilf, _, cs => cs = [.nilFunc]
 | .nilp, _, cs => cs = [.pointer none]
 | .nili, _, cs => cs = [.nilIface]
 | .yld b, β, cs => ∃ l, β b = some l ∧ cs = [.func (.yield l.r) #[] #[]]
 | .mpr b, β, cs => ∃ l, β b = some l ∧ cs = [.map (some l.r)]
 | .vsl b p n, β, cs => ∃ l cap, β b = some l ∧ cs = [.slice (some ⟨l.r, pOff p, none⟩) n cap]
def relC (w : World) (X : Nat → Prop) : List SV → Beta → List Value → Prop
 | [], _, cs => cs = []
 | f :: r, β, cs => ∃ c1 c2, cs = c1 ++ c2 ∧ relP w X f β c1 ∧ relC w X r β c2
def relR (w : World) (X : Nat → Prop) (sz : Nat) : List SV → Beta → List Value → Prop
 | [], _, cs => cs = []
 | x :: r, β, cs => ∃ c1 c2, cs = c1 ++ c2 ∧ c1.length = sz ∧ relP w X x β c1 ∧ relR w X sz r β c2
def relL (w : World) (X : Nat → Prop) : List SV → Beta → List Value → Prop
 | [], _, us => us = []
 | v :: r, β, us => ∃ u us', us = u :: us' ∧ (match v.isAgg with | true => ∃ cs, u = .agg cs ∧ relP w X v β cs.toList | false => (match v with | .any => True | _ => relP w X v β [u])) ∧ relL w X r β us'
end
def relV (w : World) (X : Nat → Prop) (v : SV) (β : Beta) (u : Value) : Prop :=
 match v.isAgg with
 | true => ∃ cs, u = .agg cs ∧ relP w X v β cs.toList
 | false => match v with | .any => True | _ => relP w X v β [u]
def rel (w : World) (X : Nat → Prop) (v : SV) (β : Beta) (u : Value) : Prop :=
 match v with
 | .tup vs => ∃ us, u = .tuple us ∧ relL w X vs β us.toList
 | v => relV w X v β u
theorem rel_eq {w : World} {X : Nat → Prop} {β : Beta} {v : SV} {u : Value} (h : ∀ vs, v ≠ .tup vs) : rel w X v β u = relV w X v β u := by
 cases v <;> first | rfl | exact absurd rfl (h _)
theorem relV_leaf {w : World} {X : Nat → Prop} {β : Beta} {v : SV} {u : Value} (h : v.isAgg = false) (k : v ≠ .any) : relV w X v β u = relP w X v β [u] := by
 grind [relV]
section
variable {w : World} {X : Nat → Prop} {β : Beta}
theorem relL_nil {us : List Value} : relL w X [] β us ↔ us = [] := by simp [relL]
theorem relL_cons {v : SV} {r : List SV} {us : List Value} : relL w X (v :: r) β us ↔ ∃ u us', us = u :: us' ∧ relV w X v β u ∧ relL w X r β us' := by
 simp only [relL, relV]
theorem relC_nil {cs : List Value} : relC w X [] β cs ↔ cs = [] := by simp [relC]
theorem relC_cons {v : SV} {r : List SV} {cs : List Value} : relC w X (v :: r) β cs ↔ ∃ c1 c2, cs = c1 ++ c2 ∧ relP w X v β c1 ∧ relC w X r β c2 := by
 simp only [relC]
theorem relR_nil {sz : Nat} {cs : List Value} : relR w X sz [] β cs ↔ cs = [] := by simp [relR]
theorem relR_cons {sz : Nat} {v : SV} {r : List SV} {cs : List Value} : relR w X sz (v :: r) β cs ↔ ∃ c1 c2, cs = c1 ++ c2 ∧ c1.length = sz ∧ relP w X v β c1 ∧ relR w X sz r β c2 := by
 simp only [relR]
end
mutual
def SV.nms (p : Nat → Prop) : SV → Prop
 | .ptr b _ => p b
 | .osl b _ => p b
 | .yld b => p b
 | .mpr b => p b
 | .vsl b _ _ => p b
 | .agg fs => nmsL p fs
 | .tup fs => nmsL p fs
 | .fn _ fs => nmsL p fs
 | .ifc _ fs => nmsL p fs
 | _ => True
def nmsL (p : Nat → Prop) : List SV → Prop
 | [] => True
 | v :: r => v.nms p ∧ nmsL p r
end
mutual
theorem nms_true {p : Nat → Prop} (h : ∀ b, p b) : ∀ v : SV, v.nms p
 | .ptr b _ => h b
 | .osl b _ => h b
 | .yld b => h b
 | .mpr b => h b
 | .vsl b _ _ => h b
 | .agg fs => nmsL_true h fs
 | .tup fs => nmsL_true h fs
 | .fn _ fs => nmsL_true h fs
 | .ifc _ fs => nmsL_true h fs
 | .any | .int .. | .bool _ | .tru | .fls | .str _ | .arr .. | .sl .. | .mt | .nils | .iptr _ | .nilf | .nilp | .nili => trivial
theorem nmsL_true {p : Nat → Prop} (h : ∀ b, p b) : ∀ l : List SV, nmsL p l
 | [] => trivial
 | v :: r => ⟨nms_true h v, nmsL_true h r⟩
end
mutual
theorem nms_mono {p q : Nat → Prop} (h : ∀ b, p b → q b) : ∀ v : SV, v.nms p → v.nms q
 | .ptr b _, k => h b k
 | .osl b _, k => h b k
 | .yld b, k => h b k
 | .mpr b, k => h b k
 | .vsl b _ _, k => h b k
 | .agg fs, k => nmsL_mono h fs k
 | .tup fs, k => nmsL_mono h fs k
 | .fn _ fs, k => nmsL_mono h fs k
 | .ifc _ fs, k => nmsL_mono h fs k
 | .any, _ | .int .., _ | .bool _, _ | .tru, _ | .fls, _ | .str _, _ | .arr .., _ | .sl .., _ | .mt, _ | .nils, _ | .iptr _, _ | .nilf, _ | .nilp, _ | .nili, _ => trivial
theorem nmsL_mono {p q : Nat → Prop} (h : ∀ b, p b → q b) : ∀ l : List SV, nmsL p l → nmsL q l
 | [], _ => trivial
 | v :: r, k => ⟨nms_mono h v k.1, nmsL_mono h r k.2⟩
end
structure Ext (w : World) (X : Nat → Prop) (w' : World) (X' : Nat → Prop) : Prop where
 size : w.heap.size ≤ w'.heap.size
 same : ∀ r, r < w.heap.size → ¬ X r → w'.heap[r]? = w.heap[r]?
 less : ∀ r, r < w.heap.size → ¬ X r → ¬ X' r
theorem Ext.refl (w : World) (X : Nat → Prop) : Ext w X w X := ⟨Nat.le_refl _, fun _ _ _ => rfl, fun _ _ h => h⟩
theorem Ext.trans {w w' w'' : World} {X X' X'' : Nat → Prop} (h : Ext w X w' X') (k : Ext w' X' w'' X'') : Ext w X w'' X'' :=
 ⟨Nat.le_trans h.size k.size, fun r hr hx => (k.same r (Nat.lt_of_lt_of_le hr h.size) (h.less r hr hx)).trans (h.same r hr hx),
  fun r hr hx => k.less r (Nat.lt_of_lt_of_le hr h.size) (h.less r hr hx)⟩
theorem cellsAt_ext {w w' : World} {b off : Nat} {cs : List Value} (h : cellsAt w b off cs) (e : w'.heap[b]? = w.heap[b]?) : cellsAt w' b off cs :=
 fun j v hj => by rw [World.cell?_of_block (w := w) (by simpa using e)]; exact h j v hj
section
variable {w w' : World} {X X' : Nat → Prop}
mutual
theorem relP_ext (e : Ext w X w' X') {β β' : Beta} : ∀ (v : SV) (cs : List Value), v.nms (fun b => ∀ l, β b = some l → β' b = some l) → relP w X v β cs → relP w' X' v β' cs
 | .any, _, _, h => h
 | .int .., _, _, h => h
 | .bool _, _, _, h => h
 | .tru, _, _, h => h
 | .fls, _, _, h => h
 | .str _, _, _, h => h
 | .agg fs, cs, k, h => by simp only [relP] at h ⊢; exact relC_ext e fs cs k h
 | .arr n sz xs, cs, _, h => by simp only [relP] at h ⊢; exact ⟨h.1, relR_ext e sz xs cs (nmsL_true (fun b l hb => hb) xs) h.2⟩
 | .tup _, _, _, h => h
 | .sl sz xs, cs, _, h => by
   simp only [relP] at h ⊢
   obtain ⟨a, cap, h1, h2, h3⟩ := h
   refine ⟨a, cap, h1, h2, h3.imp id ?_⟩
   rintro ⟨b, off, ds, g1, g2, g3, g4, g5⟩
   exact ⟨b, off, ds, g1, e.less b g3 g2, Nat.lt_of_lt_of_le g3 e.size, cellsAt_ext g4 (e.same b g3 g2), relR_ext e sz xs ds (nmsL_true (fun b l hb => hb) xs) g5⟩
 | .mt, _, _, h => h
 | .nils, _, _, h => h
 | .iptr t, cs, _, h => by
   simp only [relP] at h ⊢
   obtain ⟨b, off, ds, g1, g2, g3, g4, g5⟩ := h
   exact ⟨b, off, ds, g1, e.less b g3 g2, Nat.lt_of_lt_of_le g3 e.size, cellsAt_ext g4 (e.same b g3 g2), relP_ext e t ds (nms_true (fun b l hb => hb) t) g5⟩
 | .ptr b p, cs, k, h => by
   simp only [relP] at h ⊢
   obtain ⟨l, h1, h2⟩ := h
   exact ⟨l, k l h1, h2⟩
 | .osl b s, cs, k, h => by
   simp only [relP] at h ⊢
   obtain ⟨l, a, h1, h2⟩ := h
   exact ⟨l, a, k l h1, h2⟩
 | .fn f caps, cs, k, h => by
   simp only [relP] at h ⊢
   obtain ⟨us, h1, h2⟩ := h
   exact ⟨us, h1, relL_ext e caps us.toList k h2⟩
 | .ifc T vs, cs, k, h => by
   simp only [relP] at h ⊢
   obtain ⟨u, h1, h2⟩ := h
   exact ⟨u, h1, relL_ext e vs [u] k h2⟩
 | .nilf, _, _, h => h
 | .nilp, _, _, h => h
 | .nili, _, _, h => h
 | .yld b, cs, k, h => by
   simp only [relP] at h ⊢
   obtain ⟨l, h1, h2⟩ := h
   exact ⟨l, k l h1, h2⟩
 | .mpr b, cs, k, h => by
   simp only [relP] at h ⊢
   obtain ⟨l, h1, h2⟩ := h
   exact ⟨l, k l h1, h2⟩
 | .vsl b p n, cs, k, h => by
   simp only [relP] at h ⊢
   obtain ⟨l, cap, h1, h2⟩ := h
   exact ⟨l, cap, k l h1, h2⟩
theorem relC_ext (e : Ext w X w' X') {β β' : Beta} : ∀ (l : List SV) (cs : List Value), nmsL (fun b => ∀ l, β b = some l → β' b = some l) l → relC w X l β cs → relC w' X' l β' cs
 | [], _, _, h => by simp only [relC] at h ⊢; exact h
 | v :: r, cs, k, h => by
   simp only [relC] at h ⊢
   obtain ⟨c1, c2, h1, h2, h3⟩ := h
   exact ⟨c1, c2, h1, relP_ext e v c1 k.1 h2, relC_ext e r c2 k.2 h3⟩
theorem relR_ext (e : Ext w X w' X') {β β' : Beta} (sz : Nat) : ∀ (l : List SV) (cs : List Value), nmsL (fun b => ∀ l, β b = some l → β' b = some l) l → relR w X sz l β cs → relR w' X' sz l β' cs
 | [], _, _, h => by simp only [relR] at h ⊢; exact h
 | v :: r, cs, k, h => by
   simp only [relR] at h ⊢
   obtain ⟨c1, c2, h1, h2, h3, h4⟩ := h
   exact ⟨c1, c2, h1, h2, relP_ext e v c1 k.1 h3, relR_ext e sz r c2 k.2 h4⟩
theorem relL_ext (e : Ext w X w' X') {β β' : Beta} : ∀ (l : List SV) (us : List Value), nmsL (fun b => ∀ l, β b = some l → β' b = some l) l → relL w X l β us → relL w' X' l β' us
 | [], _, _, h => by simp only [relL] at h ⊢; exact h
 | v :: r, us, k, h => by
   rw [relL_cons] at h ⊢
   obtain ⟨u, us', h1, h2, h3⟩ := h
   refine ⟨u, us', h1, ?_, relL_ext e r us' k.2 h3⟩
   have ih := fun cs => relP_ext e v cs k.1
   unfold relV at h2 ⊢
   cases hv : v.isAgg with
   | true => simp only [hv] at h2 ⊢; obtain ⟨cs, g1, g2⟩ := h2; exact ⟨cs, g1, ih _ g2⟩
   | false => simp only [hv] at h2 ⊢; cases v <;> first | trivial | exact ih _ h2
end
theorem relV_ext (e : Ext w X w' X') {β β' : Beta} {v : SV} {u : Value} (k : v.nms (fun b => ∀ l, β b = some l → β' b = some l)) (h : relV w X v β u) : relV w' X' v β' u := by
 unfold relV at h ⊢
 cases hv : v.isAgg with
 | true => simp only [hv] at h ⊢; obtain ⟨cs, g1, g2⟩ := h; exact ⟨cs, g1, relP_ext e _ _ k g2⟩
 | false => simp only [hv] at h ⊢; cases v <;> first | trivial | exact relP_ext e _ _ k h
theorem rel_ext (e : Ext w X w' X') {β β' : Beta} {v : SV} {u : Value} (k : v.nms (fun b => ∀ l, β b = some l → β' b = some l)) (h : rel w X v β u) : rel w' X' v β' u := by
 cases v with
 | tup vs =>
   obtain ⟨us, h1, h2⟩ := h
   exact ⟨us, h1, relL_ext e _ _ k h2⟩
 | _ => exact relV_ext (u := u) e k h
end
section
variable {w : World} {X : Nat → Prop}
mutual
theorem relP_len {β : Beta} : ∀ (v : SV) (cs : List Value), relP w X v β cs → cs.length = v.sz
 | .any, _, h => by simp only [relP] at h; obtain ⟨u, rfl, _⟩ := h; rfl
 | .int .., _, h => by simp only [relP] at h; subst h; rfl
 | .bool _, _, h => by simp only [relP] at h; subst h; rfl
 | .tru, _, h => by simp only [relP] at h; subst h; rfl
 | .fls, _, h => by simp only [relP] at h; subst h; rfl
 | .str _, _, h => by simp only [relP] at h; subst h; rfl
 | .agg fs, cs, h => by simp only [relP] at h; simpa [SV.sz] using relC_len fs cs h
 | .arr n sz xs, cs, h => by simp only [relP] at h; obtain ⟨rfl, h⟩ := h; simpa [SV.sz] using relR_len sz xs cs h
 | .tup _, _, h => h.elim
 | .sl .., _, h => by simp only [relP] at h; obtain ⟨a, cap, rfl, _⟩ := h; rfl
 | .mt, _, h => by simp only [relP] at h; obtain ⟨a, rfl⟩ := h; rfl
 | .nils, _, h => by simp only [relP] at h; subst h; rfl
 | .iptr _, _, h => by simp only [relP] at h; obtain ⟨b, off, ds, rfl, _⟩ := h; rfl
 | .ptr .., _, h => by simp only [relP] at h; obtain ⟨l, _, rfl⟩ := h; rfl
 | .osl .., _, h => by simp only [relP] at h; obtain ⟨l, a, _, rfl, _⟩ := h; rfl
 | .fn .., _, h => by simp only [relP] at h; obtain ⟨us, rfl, _⟩ := h; rfl
 | .ifc .., _, h => by simp only [relP] at h; obtain ⟨us, rfl, _⟩ := h; rfl
 | .nilf, _, h => by simp only [relP] at h; subst h; rfl
 | .nilp, _, h => by simp only [relP] at h; subst h; rfl
 | .nili, _, h => by simp only [relP] at h; subst h; rfl
 | .yld _, _, h => by simp only [relP] at h; obtain ⟨l, _, rfl⟩ := h; rfl
 | .mpr _, _, h => by simp only [relP] at h; obtain ⟨l, _, rfl⟩ := h; rfl
 | .vsl .., _, h => by simp only [relP] at h; obtain ⟨l, cap, _, rfl⟩ := h; rfl
theorem relC_len {β : Beta} : ∀ (l : List SV) (cs : List Value), relC w X l β cs → cs.length = szs l
 | [], _, h => by simp only [relC] at h; subst h; rfl
 | v :: r, cs, h => by
   simp only [relC] at h
   obtain ⟨c1, c2, rfl, h2, h3⟩ := h
   simp [szs, relP_len v c1 h2, relC_len r c2 h3]
theorem relR_len {β : Beta} (sz : Nat) : ∀ (l : List SV) (cs : List Value), relR w X sz l β cs → cs.length = l.length * sz
 | [], _, h => by simp only [relR] at h; subst h; simp
 | v :: r, cs, h => by
   simp only [relR] at h
   obtain ⟨c1, c2, rfl, h2, h3, h4⟩ := h
   simp [h2, relR_len sz r c2 h4, Nat.add_mul, Nat.add_comm]
end
mutual
theorem relP_one {β : Beta} : ∀ (v : SV) (cs : List Value), relP w X v β cs → ∀ u ∈ cs, u.oneCell' = true
 | .any, _, h => by simp only [relP] at h; obtain ⟨u, rfl, h⟩ := h; simpa using h
 | .int .., _, h => by simp only [relP] at h; subst h; simp [Value.oneCell']
 | .bool _, _, h => by simp only [relP] at h; subst h; simp [Value.oneCell']
 | .tru, _, h => by simp only [relP] at h; subst h; simp [Value.oneCell']
 | .fls, _, h => by simp only [relP] at h; subst h; simp [Value.oneCell']
 | .str _, _, h => by simp only [relP] at h; subst h; simp [Value.oneCell']
 | .agg fs, cs, h => by simp only [relP] at h; exact relC_one fs cs h
 | .arr n sz xs, cs, h => by simp only [relP] at h; exact relR_one sz xs cs h.2
 | .tup _, _, h => h.elim
 | .sl .., _, h => by simp only [relP] at h; obtain ⟨a, cap, rfl, _⟩ := h; simp [Value.oneCell']
 | .mt, _, h => by simp only [relP] at h; obtain ⟨a, rfl⟩ := h; simp [Value.oneCell']
 | .nils, _, h => by simp only [relP] at h; subst h; simp [Value.oneCell']
 | .iptr _, _, h => by simp only [relP] at h; obtain ⟨b, off, ds, rfl, _⟩ := h; simp [Value.oneCell']
 | .ptr .., _, h => by simp only [relP] at h; obtain ⟨l, _, rfl⟩ := h; simp [Value.oneCell']
 | .osl .., _, h => by simp only [relP] at h; obtain ⟨l, a, _, rfl, _⟩ := h; simp [Value.oneCell']
 | .fn .., _, h => by simp only [relP] at h; obtain ⟨us, rfl, _⟩ := h; obtain ⟨g, a, c, e⟩ := fnV_func _ us; rw [e]; simp [Value.oneCell']
 | .ifc .., _, h => by simp only [relP] at h; obtain ⟨us, rfl, _⟩ := h; simp [Value.oneCell']
 | .nilf, _, h => by simp only [relP] at h; subst h; simp [Value.oneCell']
 | .nilp, _, h => by simp only [relP] at h; subst h; simp [Value.oneCell']
 | .nili, _, h => by simp only [relP] at h; subst h; simp [Value.oneCell']
 | .yld _, _, h => by simp only [relP] at h; obtain ⟨l, _, rfl⟩ := h; simp [Value.oneCell']
 | .mpr _, _, h => by simp only [relP] at h; obtain ⟨l, _, rfl⟩ := h; simp [Value.oneCell']
 | .vsl .., _, h => by simp only [relP] at h; obtain ⟨l, cap, _, rfl⟩ := h; simp [Value.oneCell']
theorem relC_one {β : Beta} : ∀ (l : List SV) (cs : List Value), relC w X l β cs → ∀ u ∈ cs, u.oneCell' = true
 | [], _, h => by simp only [relC] at h; subst h; simp
 | v :: r, cs, h => by
   simp only [relC] at h
   obtain ⟨c1, c2, rfl, h2, h3⟩ := h
   intro u hu
   rcases List.mem_append.1 hu with hu | hu
   · exact relP_one v c1 h2 u hu
   · exact relC_one r c2 h3 u hu
theorem relR_one {β : Beta} (sz : Nat) : ∀ (l : List SV) (cs : List Value), relR w X sz l β cs → ∀ u ∈ cs, u.oneCell' = true
 | [], _, h => by simp only [relR] at h; subst h; simp
 | v :: r, cs, h => by
   simp only [relR] at h
   obtain ⟨c1, c2, rfl, _, h3, h4⟩ := h
   intro u hu
   rcases List.mem_append.1 hu with hu | hu
   · exact relP_one v c1 h3 u hu
   · exact relR_one sz r c2 h4 u hu
end
theorem relC_get {β : Beta} {fs : List SV} {cs : List Value} (h : relC w X fs β cs) {i : Nat} {s : SV} (hs : fs[i]? = some s) :
 ∃ c1 c2 c3, cs = c1 ++ c2 ++ c3 ∧ c1.length = szs (fs.take i) ∧ relP w X s β c2 ∧
  ∀ s' c2', relP w X s' β c2' → relC w X (fs.set i s') β (c1 ++ c2' ++ c3) := by
 induction fs generalizing cs i with
 | nil => simp at hs
 | cons v r ih =>
   rw [relC_cons] at h
   obtain ⟨d1, d2, rfl, h1, h2⟩ := h
   cases i with
   | zero =>
     simp at hs; subst hs
     refine ⟨[], d1, d2, by simp, by simp [szs], h1, fun s' c2' hs' => ?_⟩
     grind [List.set, relC_cons]
   | succ i =>
     simp at hs
     obtain ⟨c1, c2, c3, rfl, g1, g2, g3⟩ := ih h2 hs
     refine ⟨d1 ++ c1, c2, c3, by simp, ?_, g2, fun s' c2' hs' => ?_⟩
     · simp [szs, relP_len _ _ h1, g1]
     · grind [List.set, relC_cons]
theorem relR_get {β : Beta} {sz : Nat} {xs : List SV} {cs : List Value} (h : relR w X sz xs β cs) {i : Nat} {s : SV} (hs : xs[i]? = some s) :
 ∃ c1 c2 c3, cs = c1 ++ c2 ++ c3 ∧ c1.length = i * sz ∧ c2.length = sz ∧ relP w X s β c2 ∧
  ∀ s' c2', c2'.length = sz → relP w X s' β c2' → relR w X sz (xs.set i s') β (c1 ++ c2' ++ c3) := by
 induction xs generalizing cs i with
 | nil => simp at hs
 | cons v r ih =>
   rw [relR_cons] at h
   obtain ⟨d1, d2, rfl, h0, h1, h2⟩ := h
   cases i with
   | zero =>
     simp at hs; subst hs
     refine ⟨[], d1, d2, by simp, by simp, h0, h1, fun s' c2' hl hs' => ?_⟩
     grind [List.set, relR_cons]
   | succ i =>
     grind [List.set, Nat.add_comm, Nat.add_mul, relR_cons]
theorem relR_append {β : Beta} {sz : Nat} {xs ys : List SV} {cs ds : List Value} (h : relR w X sz xs β cs) (k : relR w X sz ys β ds) : relR w X sz (xs ++ ys) β (cs ++ ds) := by
 induction xs generalizing cs with
 | nil => simp only [relR_nil] at h; subst h; simpa using k
 | cons v r ih =>
   grind [relR_cons]
theorem relR_take {β : Beta} {sz : Nat} {xs : List SV} {cs : List Value} (h : relR w X sz xs β cs) (n : Nat) : relR w X sz (xs.take n) β (cs.take (n * sz)) := by
 induction xs generalizing cs n with
 | nil => simp only [relR_nil] at h; subst h; simp [relR_nil]
 | cons v r ih =>
   rw [relR_cons] at h
   obtain ⟨d1, d2, rfl, h0, h1, h2⟩ := h
   cases n with
   | zero => simp [relR_nil]
   | succ n =>
     grind [List.take_append, Nat.add_mul, relR_cons]
theorem relR_drop {β : Beta} {sz : Nat} {xs : List SV} {cs : List Value} (h : relR w X sz xs β cs) (n : Nat) : relR w X sz (xs.drop n) β (cs.drop (n * sz)) := by
 induction xs generalizing cs n with
 | nil => simp only [relR_nil] at h; subst h; simp [relR_nil]
 | cons v r ih =>
   cases n with
   | zero => simpa using h
   | succ n =>
     rw [relR_cons] at h
     obtain ⟨d1, d2, rfl, h0, h1, h2⟩ := h
     have hk : (n + 1) * sz - d1.length = n * sz := by rw [h0, Nat.add_mul]; omega
     have hd : (d1 ++ d2).drop ((n + 1) * sz) = d2.drop (n * sz) := by
      simp_all [List.drop_append, Nat.add_mul]
     grind
end
open Go.RowKit (Below)
abbrev Slots := List (Nat × SV)
structure Lp where
 st : LoopState
 pend : Option Code
 N : Nat
 ps : Array Tmp
 asg : Code
 body : Code
 dead : Bool := false
inductive Blk where
 | var (own : Bool) (v : SV)
 | row (own : Bool) (sz : Nat) (xs : List SV)
 | gho (q : Lp) (sl : Slots)
 | mp (es : List (SV × SV))
 | tv (T : Nat) (v : SV)
 | tr (T : Nat) (s : List UInt8)
 | nr (v : SV)
abbrev Heap := List (Nat × Blk)
def Blk.dead : Blk := .gho ⟨.exhausted, none, 0, #[], .skip, .skip, true⟩ []
inductive TD where
 | int (k : IntKind) | bool | str | fn | ptr (e : TypeId) | ifc
 | strct (fs : List (TypeId × Nat))
 | arr (n : Nat) (e : TypeId)
 | sl (e : TypeId)
 | mp (k e : TypeId)
 | other
structure TI where
 d : TD
 size : Nat
 bytes : Nat
 zero : SV
 cmp : Bool
structure Env where
 P : Program
 tt : List (Nat × TI)
 gl : List (Nat × SV)
 lend : List Nat := []
 idf : List Nat := []
 mt : List (Nat × String × Nat) := []
 bts : List Nat := []
 fx : List (Nat × Array Value) := []
 pan : List Nat := []
 nrT : List Nat := []
def lk : Slots → Nat → SV
 | [], _ => .any
 | (i, v) :: r, t => match Nat.beq i t with | true => v | false => lk r t
def lkT : List (Nat × TI) → Nat → TI
 | [], _ => ⟨.other, 0, 0, .any, false⟩
 | (i, v) :: r, t => match Nat.beq i t with | true => v | false => lkT r t
def lkM : List (Nat × String × Nat) → Nat → String → Option Nat
 | [], _, _ => none
 | (t, s, f) :: r, T, n => match Nat.beq t T, decide (s = n) with
   | true, true => some f
   | _, _ => lkM r T n
def lkB : Heap → Nat → Option Blk
 | [], _ => none
 | (i, v) :: r, t => match Nat.beq i t with | true => some v | false => lkB r t
def stB : Heap → Nat → Blk → Heap
 | [], _, _ => []
 | (i, v) :: r, t, b => match Nat.beq i t with | true => (i, b) :: r | false => (i, v) :: stB r t b
def ofVal : Value → SV
 | .int k n => .int k n
 | .bool true => .tru
 | .bool false => .fls
 | .string s => .str s.data.toList
 | .slice none 0 0 => .nils
 | .nilFunc => .nilf
 | .nilIface => .nili
 | .pointer none => .nilp
 | _ => .any
def ev (E : Env) (sl : Slots) : Operand → SV
 | .tmp t => match Nat.ble t 999999 with | true => lk sl t | false => .any
 | .const v => ofVal v
 | .global g => match lk E.gl g with | .any => .any | t => .iptr t
 | .func f => match Nat.ble 1000000 f with | false => .fn f [] | true => .any
def frc {R : Sort _} (v : SV) (K : SV → R) : R :=
 match v with
 | .any => K .any
 | .int k n => K (.int k n)
 | .bool b => K (.bool b)
 | .tru => K .tru
 | .fls => K .fls
 | .str s => K (.str s)
 | .agg fs => K (.agg fs)
 | .arr n sz xs => K (.arr n sz xs)
 | .tup vs => K (.tup vs)
 | .sl sz xs => K (.sl sz xs)
 | .mt => K .mt
 | .nils => K .nils
 | .iptr t => K (.iptr t)
 | .ptr b p => K (.ptr b p)
 | .osl b sz => K (.osl b sz)
 | .fn f c => K (.fn f c)
 | .ifc T c => K (.ifc T c)
 | .nilf => K .nilf
 | .nilp => K .nilp
 | .nili => K .nili
 | .yld b => K (.yld b)
 | .mpr b => K (.mpr b)
 | .vsl b p n => K (.vsl b p n)
theorem frc_eq {R : Sort _} (v : SV) (K : SV → R) : frc v K = K v := by cases v <;> rfl
def frcL {R : Sort _} : List SV → (List SV → R) → R
 | [], K => K []
 | v :: r, K => frc v fun v => frcL r fun r => K (v :: r)
theorem frcL_eq {R : Sort _} (l : List SV) (K : List SV → R) : frcL l K = K l := by
 induction l generalizing K with
 | nil => rfl
 | cons v r ih => simp [frcL, frc_eq, ih]
@[irreducible] def IdxVC (xs : List SV) (i : Int) (K : SV → Prop) : Prop := ∃ s, 0 ≤ i ∧ xs[i.toNat]? = some s ∧ K s
@[irreducible] def ArithVC (k : IntKind) (e : Int) (K : Int → Prop) : Prop := ∃ r, k.wrap e = r ∧ K r
@[irreducible] def ByteVC (s : List UInt8) (i : Int) (K : UInt8 → Prop) : Prop := ∃ c, 0 ≤ i ∧ s[i.toNat]? = some c ∧ K c
@[irreducible] def SideVC (p : Prop) (K : Prop) : Prop := p ∧ K
def aSt (z : SV) (i sz : Nat) : Step := match z with
 | .agg _ => .fld i (i * sz)
 | _ => .idx i sz
def nav (v : SV) : List Step → (SV → Prop) → Prop
 | [], K => frc v K
 | .fld i off :: p, K =>
   match v with
   | .agg fs => match Nat.beq off (szs (fs.take i)) with
     | true => (match fs[i]? with | some s => nav s p K | none => False)
     | false => False
   | _ => False
 | .idx i sz :: p, K =>
   match v with
   | .arr _ sz' xs => match Nat.beq sz sz' with
     | true => IdxVC xs i fun s => nav s p K
     | false => False
   | _ => False
def crosses : List Step → Bool
 | [] => false
 | .fld .. :: p => crosses p
 | .idx .. :: _ => true
def upd (v : SV) (x : SV) : List Step → (SV → Prop) → Prop
 | [], K => match Nat.beq v.sz x.sz with
   | true => frc x K
   | false => False
 | .fld i off :: p, K =>
   match v with
   | .agg fs => match Nat.beq off (szs (fs.take i)) with
     | true => (match fs[i]? with | some s => upd s x p fun s' => frcL (fs.set i s') fun fs' => K (.agg fs') | none => False)
     | false => False
   | _ => False
 | .idx i sz :: p, K =>
   match v with
   | .arr n sz' xs => match Nat.beq sz sz' with
     | true => IdxVC xs i fun s => upd s x p fun s' => K (.arr n sz' (xs.set i s'))
     | false => False
   | _ => False
mutual
def frz (h : Heap) : Nat → SV → List Nat → (SV → List Nat → Prop) → Prop
 | 0, _, _, _ => False
 | d + 1, v, ns, K => match v with
   | .ptr b p => match lkB h b with
     | some (.var _ u) => nav u p fun u => frz h d u (b :: ns) fun u ns => K (.iptr u) ns
     | _ => False
   | .osl b sz => match lkB h b with
     | some (.row _ sz' xs) => (match Nat.beq sz sz' with | true => K (.sl sz xs) (b :: ns) | false => False)
     | _ => False
   | .agg fs => frzL h d fs ns fun fs ns => K (.agg fs) ns
   | .tup fs => frzL h d fs ns fun fs ns => K (.tup fs) ns
   | .fn f cs => frzL h d cs ns fun cs ns => K (.fn f cs) ns
   | .ifc T cs => frzL h d cs ns fun cs ns => K (.ifc T cs) ns
   | .yld _ => False
   | .mpr _ => False
   | .vsl .. => False
   | v => frc v fun v => K v ns
def frzL (h : Heap) : Nat → List SV → List Nat → (List SV → List Nat → Prop) → Prop
 | 0, _, _, _ => False
 | d + 1, l, ns, K => match l with
   | [] => K [] ns
   | v :: r => frz h d v ns fun v ns => frzL h d r ns fun r ns => K (v :: r) ns
end
def stK {R : Sort _} : Heap → Nat → Blk → (Heap → R) → R
 | [], _, _, K => K []
 | (i, v) :: r, t, b, K => match Nat.beq i t with
   | true => K ((i, b) :: r)
   | false => stK r t b fun r => K ((i, v) :: r)
theorem stK_eq {R : Sort _} (h : Heap) (t : Nat) (b : Blk) (K : Heap → R) : stK h t b K = K (stB h t b) := by
 induction h generalizing K with
 | nil => rfl
 | cons x r ih =>
   grind [stB, stK]
def Blk.cold : Blk → Blk
 | .var _ v => .var false v
 | .row _ sz xs => .row false sz xs
 | .gho .. => .dead
 | .mp _ => .dead
 | .tv .. => .dead
 | .tr .. => .dead
 | .nr _ => .dead
def iceB : List Nat → Heap → Heap
 | [], h => h
 | b :: ns, h => match lkB h b with
   | some k => iceB ns (stB h b k.cold)
   | none => iceB ns h
def iceK {R : Sort _} : List Nat → Heap → (Heap → R) → R
 | [], h, K => K h
 | b :: ns, h, K => match lkB h b with
   | some (.var _ v) => stK h b (.var false v) fun h => iceK ns h K
   | some (.row _ sz xs) => stK h b (.row false sz xs) fun h => iceK ns h K
   | some (.gho ..) => stK h b .dead fun h => iceK ns h K
   | some (.mp _) => stK h b .dead fun h => iceK ns h K
   | some (.tv ..) => stK h b .dead fun h => iceK ns h K
   | some (.tr ..) => stK h b .dead fun h => iceK ns h K
   | some (.nr _) => stK h b .dead fun h => iceK ns h K
   | none => iceK ns h K
theorem iceK_eq {R : Sort _} (ns : List Nat) (h : Heap) (K : Heap → R) : iceK ns h K = K (iceB ns h) := by
 induction ns generalizing h K with
 | nil => rfl
 | cons b ns ih =>
   grind [Blk.cold, iceB, iceK, stK_eq]
mutual
def SV.kill (b : Nat) : SV → SV
 | .ptr c p => match Nat.beq c b with | true => .any | false => .ptr c p
 | .osl c s => match Nat.beq c b with | true => .any | false => .osl c s
 | .yld c => match Nat.beq c b with | true => .any | false => .yld c
 | .mpr c => match Nat.beq c b with | true => .any | false => .mpr c
 | .vsl c p n => match Nat.beq c b with | true => .any | false => .vsl c p n
 | .agg fs => .agg (killL b fs)
 | .tup fs => .tup (killL b fs)
 | .fn f fs => .fn f (killL b fs)
 | .ifc T fs => .ifc T (killL b fs)
 | v => v
def killL (b : Nat) : List SV → List SV
 | [] => []
 | v :: r => v.kill b :: killL b r
end
def killS (b : Nat) : Slots → Slots
 | [] => []
 | (i, v) :: r => (i, v.kill b) :: killS b r
def killH (b : Nat) : Heap → Heap
 | [] => []
 | (i, .var o v) :: r => (i, .var o (v.kill b)) :: killH b r
 | (i, .row o s x) :: r => (i, .row o s x) :: killH b r
 | (i, .gho q s) :: r => (i, .gho q (killS b s)) :: killH b r
 | (i, .mp es) :: r => (i, .mp es) :: killH b r
 | (i, .tv T v) :: r => (i, .tv T (v.kill b)) :: killH b r
 | (i, .tr T s) :: r => (i, .tr T s) :: killH b r
 | (i, .nr v) :: r => (i, .nr (v.kill b)) :: killH b r
def killSK {R : Sort _} (b : Nat) : Slots → (Slots → R) → R
 | [], K => K []
 | (i, v) :: r, K => frc (v.kill b) fun v => killSK b r fun r => K ((i, v) :: r)
def killHK {R : Sort _} (b : Nat) : Heap → (Heap → R) → R
 | [], K => K []
 | (i, .var o v) :: r, K => frc (v.kill b) fun v => killHK b r fun r => K ((i, .var o v) :: r)
 | (i, .row o s x) :: r, K => killHK b r fun r => K ((i, .row o s x) :: r)
 | (i, .gho q s) :: r, K => killSK b s fun s => killHK b r fun r => K ((i, .gho q s) :: r)
 | (i, .mp es) :: r, K => killHK b r fun r => K ((i, .mp es) :: r)
 | (i, .tv T v) :: r, K => frc (v.kill b) fun v => killHK b r fun r => K ((i, .tv T v) :: r)
 | (i, .tr T s) :: r, K => killHK b r fun r => K ((i, .tr T s) :: r)
 | (i, .nr v) :: r, K => frc (v.kill b) fun v => killHK b r fun r => K ((i, .nr v) :: r)
theorem killSK_eq {R : Sort _} (b : Nat) (sl : Slots) (K : Slots → R) : killSK b sl K = K (killS b sl) := by
 induction sl generalizing K with
 | nil => rfl
 | cons x r ih => obtain ⟨i, v⟩ := x; simp [killSK, killS, frc_eq, ih]
theorem killHK_eq {R : Sort _} (b : Nat) (h : Heap) (K : Heap → R) : killHK b h K = K (killH b h) := by
 induction h generalizing K with
 | nil => rfl
 | cons x r ih => obtain ⟨i, v⟩ := x; cases v <;> simp [killHK, killH, frc_eq, killSK_eq, ih]
mutual
def SV.scalar : SV → Bool
 | .int .. | .bool _ | .tru | .fls | .str _ => true
 | .tup vs => scalarL vs
 | _ => false
def scalarL : List SV → Bool
 | [] => true
 | v :: r => match v.scalar with | true => scalarL r | false => false
end
inductive EA where
 | nil
 | new (k : Blk)
 | set (b : Nat) (k : Blk)
 | app (b : Nat) (k : Blk)
abbrev KE := SV → List Nat → EA → Prop
def Good (E : Env) (w : World) (X : Nat → Prop) : Prop :=
 (∀ b, X b → b < w.heap.size) ∧ (∀ g t, lk E.gl g = t → (∀ (_ : t = .any), False) → relP w X (.iptr t) nob [.pointer (some ⟨g, 0, none⟩)]) ∧
 ∀ p ∈ E.fx, (∃ T fz, w.heap[p.1]? = some (.cells p.2 T fz)) ∧ ¬ X p.1
def Callable (P : Program) (f : FuncId) : Prop := ∃ fn, P.funcs[f]? = some fn ∧ fn.body.isSome = true ∧ (fn.name == "runtime.NumGoroutine") = false
def Ret (E : Env) (f : FuncId) (args : List SV) (r : SV) : Prop :=
 Callable E.P f ∧ ∀ (w : World) (X : Nat → Prop) (us : Array Value), Good E w X → relL w X args nob us.toList →
  Calls E.P f us w fun e w' => ∃ u, e = .returned u ∧ Below w.heap.size w w' ∧ rel w' X r nob u
@[irreducible] def CallVC (E : Env) (f : FuncId) (args : List SV) (K : SV → Prop) : Prop := ∃ r, Ret E f args r ∧ K r
def kq : IntKind → IntKind → Bool
 | .i8, .i8 | .i16, .i16 | .i32, .i32 | .i64, .i64 | .u8, .u8 | .u16, .u16 | .u32, .u32 | .u64, .u64 => true
 | _, _ => false
theorem kq_eq {a b : IntKind} (h : kq a b = true) : a = b := by cases a <;> cases b <;> first | rfl | cases h
def eqS : SV → SV → Option Bool
 | .int k a, .int k' b => match kq k k' with | true => some (decide (a = b)) | false => none
 | .tru, .tru | .fls, .fls => some true
 | .tru, .fls | .fls, .tru => some false
 | .bool a, .tru => some a
 | .bool a, .fls => some (!a)
 | .tru, .bool a => some a
 | .fls, .bool a => some (!a)
 | .bool a, .bool b => some (a == b)
 | .str a, .str b => some (decide (a = b))
 | .nils, .nils => some true
 | .sl _ (_ :: _), .nils => some false
 | .nilf, .nilf => some true
 | .fn .., .nilf | .nilf, .fn .. => some false
 | .nilp, .nilp => some true
 | .ptr .., .nilp | .nilp, .ptr .. | .iptr _, .nilp | .nilp, .iptr _ => some false
 | _, _ => none
def andO (a b : Option Bool) : Option Bool :=
 match a, b with
 | some a, some b => some (a && b)
 | _, _ => none
mutual
def eqT (tt : List (Nat × TI)) : Nat → TypeId → SV → SV → Option Bool
 | 0, _, _, _ => none
 | d + 1, T, x, y => match (lkT tt T).d with
   | .strct fs => (match x, y, (lkT tt T).cmp with | .agg xs, .agg ys, true => eqF tt d fs 0 xs ys | _, _, _ => none)
   | .arr n e => (match x, y, (lkT tt T).cmp && Nat.ble 1 n with
     | .arr _ s xs, .arr _ s' ys, true => (match Nat.beq s (lkT tt e).size, Nat.beq s' (lkT tt e).size with
       | true, true => eqR tt d e n xs ys
       | _, _ => none)
     | _, _, _ => none)
   | .int _ => (match x with | .int .. => eqS x y | _ => none)
   | .bool => (match x with | .tru | .fls | .bool _ => eqS x y | _ => none)
   | .str => (match x with | .str _ => eqS x y | _ => none)
   | .ptr _ => (match x with | .nilp | .ptr .. | .iptr _ => eqS x y | _ => none)
   | .sl _ => (match x with | .nils | .sl .. => eqS x y | _ => none)
   | .fn => (match x with | .nilf | .fn .. => eqS x y | _ => none)
   | _ => none
def eqF (tt : List (Nat × TI)) : Nat → List (TypeId × Nat) → Nat → List SV → List SV → Option Bool
 | 0, _, _, _, _ => none
 | d + 1, fs, off, xs, ys => match fs, xs, ys with
   | [], [], [] => some true
   | (T, o) :: fs, x :: xs, y :: ys => (match Nat.beq o off, Nat.beq x.sz (lkT tt T).size, Nat.beq y.sz (lkT tt T).size with
     | true, true, true => andO (eqT tt d T x y) (eqF tt d fs (off + (lkT tt T).size) xs ys)
     | _, _, _ => none)
   | _, _, _ => none
def eqR (tt : List (Nat × TI)) : Nat → TypeId → Nat → List SV → List SV → Option Bool
 | 0, _, _, _, _ => none
 | d + 1, e, n, xs, ys => match n, xs, ys with
   | 0, [], [] => some true
   | n + 1, x :: xs, y :: ys => andO (eqT tt d e x y) (eqR tt d e n xs ys)
   | _, _, _ => none
end
def binX (E : Env) (op : BinOp) (T : TypeId) (x y : SV) (K : SV → Prop) : Prop :=
 match op, x, y with
 | .add, .int k a, .int k' b => match kq k k' with | true => ArithVC k (a + b) fun r => K (.int k r) | false => False
 | .sub, .int k a, .int k' b => match kq k k' with | true => ArithVC k (a - b) fun r => K (.int k r) | false => False
 | .mul, .int k a, .int k' b => match kq k k' with | true => ArithVC k (a * b) fun r => K (.int k r) | false => False
 | .quo, .int k a, .int k' b => match kq k k' with | true => SideVC (b ≠ 0) (ArithVC k (a.tdiv b) fun r => K (.int k r)) | false => False
 | .rem, .int k a, .int k' b => match kq k k' with | true => SideVC (b ≠ 0) (K (.int k (a.tmod b))) | false => False
 | .and, .int k a, .int k' b => match kq k k' with | true => K (.int k (bits .and k a b)) | false => False
 | .or, .int k a, .int k' b => match kq k k' with | true => K (.int k (bits .or k a b)) | false => False
 | .xor, .int k a, .int k' b => match kq k k' with | true => K (.int k (bits .xor k a b)) | false => False
 | .andNot, .int k a, .int k' b => match kq k k' with | true => K (.int k (bits .andNot k a b)) | false => False
 | .shl, .int k a, .int _ b => SideVC (0 ≤ b) (ArithVC k (a * 2 ^ (min b.toNat k.bits)) fun r => K (.int k r))
 | .shr, .int k a, .int _ b => SideVC (0 ≤ b) (K (.int k (a.fdiv (2 ^ (min b.toNat k.bits)))))
 | .lss, .int k a, .int k' b => match kq k k' with | true => K (.bool (decide (a < b))) | false => False
 | .leq, .int k a, .int k' b => match kq k k' with | true => K (.bool (decide (a ≤ b))) | false => False
 | .gtr, .int k a, .int k' b => match kq k k' with | true => K (.bool (decide (b < a))) | false => False
 | .geq, .int k a, .int k' b => match kq k k' with | true => K (.bool (decide (b ≤ a))) | false => False
 | .add, .str s, .str t => SideVC (((s.length + t.length : Nat) : Int) ≤ 9223372036854775807) (K (.str (s ++ t)))
 | .eql, x, y => match eqT E.tt 50 T x y with | some b => K (.bool b) | none => False
 | .neq, x, y => match eqT E.tt 50 T x y with | some b => K (.bool (!b)) | none => False
 | _, _, _ => False
def inOrder : Nat → List (Nat × Operand) → Bool
 | _, [] => true
 | i, (j, _) :: r => match Nat.beq i j with | true => inOrder (i + 1) r | false => false
def fits (E : Env) : List (TypeId × Nat) → Nat → List SV → Bool
 | [], _, [] => true
 | (T, o) :: fs, off, v :: vs => match Nat.beq o off, Nat.beq v.sz (lkT E.tt T).size, Nat.ble 1 v.sz with
   | true, true, true => fits E fs (off + v.sz) vs
   | _, _, _ => false
 | _, _, _ => false
def bnds (E : Env) (sl : Slots) (lo hi : Option Operand) (n : Nat) (K : Int → Int → Prop) : Prop :=
 match lo with
 | none => (match hi with
   | none => K 0 n
   | some h => match ev E sl h with
     | .int _ h => SideVC (0 ≤ h ∧ h ≤ n) (K 0 h)
     | _ => False)
 | some l => match ev E sl l with
   | .int _ l => (match hi with
     | none => SideVC (0 ≤ l ∧ l ≤ n) (K l n)
     | some h => match ev E sl h with
       | .int _ h => SideVC (0 ≤ l ∧ l ≤ h ∧ h ≤ n) (K l h)
       | _ => False)
   | _ => False
def memb (x : Nat) : List Nat → Bool
 | [] => false
 | y :: r => match Nat.beq x y with | true => true | false => memb x r
def sameK (d : TD) : SV → SV → Option Bool
 | .str a, .str b => match d with
   | .str => some (decide (a = b))
   | _ => none
 | .int k a, .int k' b => match d with
   | .int _ => (match decide (k = k') with | true => some (decide (a = b)) | false => none)
   | _ => none
 | _, _ => none
def eqI : List SV → List SV → Bool
 | [], [] => true
 | .int k a :: r, .int k' b :: r' => match decide (k = k'), decide (a = b) with | true, true => eqI r r' | _, _ => false
 | _, _ => false
def keyQ (tt : List (Nat × TI)) (kT : TypeId) (x y : SV) : Option Bool := match (lkT tt kT).d with
 | .arr .. => (match x, y with
   | .arr _ _ xs, .arr _ _ ys => (match eqT tt 60 kT x y with
     | some true => (match eqI xs ys with | true => some true | false => none)
     | some false => some false
     | none => none)
   | _, _ => none)
 | d => sameK d x y
def findK {R : Sort _} (tt : List (Nat × TI)) (kT : TypeId) (k : SV) (Kno : R) (Kbad : R) (Kyes : Nat → SV → R) : List (SV × SV) → Nat → R
 | [], _ => Kno
 | p :: r, i => match keyQ tt kT k p.1 with
   | some true => Kyes i p.2
   | some false => findK tt kT k Kno Kbad Kyes r (i + 1)
   | none => Kbad
def keyD (tt : List (Nat × TI)) (kT : TypeId) (k : SV) : Bool := match (lkT tt kT).d with
 | .str => (match k with | .str _ => true | _ => false)
 | .int q => (match k with | .int q' _ => decide (q' = q) | _ => false)
 | .arr n e => (match k, (lkT tt e).d with
   | .arr m 1 xs, .int _ => (match Nat.beq m n, Nat.beq (lkT tt e).size 1, Nat.beq xs.length m with | true, true, true => intsA xs | _, _, _ => false)
   | _, _ => false)
 | _ => false
def setE (k v : SV) : List (SV × SV) → Nat → List (SV × SV)
 | [], _ => []
 | p :: r, i => match i with
   | 0 => (k, v) :: r
   | i + 1 => p :: setE k v r i
def snocE (k v : SV) : List (SV × SV) → List (SV × SV)
 | [] => [(k, v)]
 | p :: r => p :: snocE k v r
def sameT {R : Sort _} (v u : SV) (A B : R) : R := match v with
 | .tru => (match u with | .tru => A | _ => B)
 | _ => B
def noTup : List SV → Bool
 | [] => true
 | .tup _ :: _ => false
 | _ :: r => noTup r
def zeroFits (E : Env) (e : TypeId) : Bool :=
 match (lkT E.tt e).zero with
 | .any => false
 | z => Nat.beq z.sz (lkT E.tt e).size
def rows (h : Heap) (v : SV) (K : Option (Nat × List SV) → Prop) : Prop :=
 match v with
 | .sl sz xs => K (some (sz, xs))
 | .osl b _ => (match lkB h b with
   | some (.row _ sz xs) => K (some (sz, xs))
   | _ => False)
 | .nils | .mt => K none
 | _ => False
def solid (v : SV) (K : SV → Prop) : Prop :=
 match v with
 | .any => False
 | .tup _ => False
 | v => frc v K
theorem solid_iff {v : SV} {K : SV → Prop} (h : solid v K) : v ≠ .any ∧ (∀ vs, v ≠ .tup vs) ∧ K v := by
 cases v <;> first | exact h.elim | exact ⟨by simp, by simp, h⟩
def fillF (E : Env) (sl : Slots) : List (Nat × Operand) → List SV → (List SV → Prop) → Prop
 | [], vs, K => frcL vs K
 | (i, x) :: r, vs, K => match vs[i]? with
   | some z => solid (ev E sl x) fun v => (match Nat.beq z.sz v.sz with
     | true => fillF E sl r (vs.set i v) K
     | false => False)
   | none => False
def solids (E : Env) (sl : Slots) (sz : Nat) : List (Nat × Operand) → (List SV → Prop) → Prop
 | [], K => K []
 | (_, x) :: r, K => solid (ev E sl x) fun v => (match Nat.beq v.sz sz with
   | true => solids E sl sz r fun vs => K (v :: vs)
   | false => False)
def storeV (h : Heap) (b : Nat) (v : SV) (p : List Step) (u : SV) (K : KE) : Prop :=
 match crosses p with
 | false => upd v u p fun v => K .any [] (.set b (.var true v))
 | true => frz h 60 u [] fun u ns => (match memb b ns with
   | false => upd v u p fun v => K .any ns (.set b (.var true v))
   | true => False)
def storeR (h : Heap) (b sz : Nat) (xs : List SV) (p : List Step) (u : SV) (K : KE) : Prop :=
 frz h 60 u [] fun u ns => (match memb b ns, p with
  | false, .idx i s :: p => (match Nat.beq s sz with
    | true => IdxVC xs i fun x => upd x u p fun x => K .any ns (.set b (.row true sz (xs.set i x)))
    | false => False)
  | _, _ => False)
def opE (E : Env) (sl : Slots) (h : Heap) (n : Nat) (o : Op) (K : KE) : Prop :=
 match o with
 | .move x | .assign x => frc (ev E sl x) fun v => K v [] .nil
 | .pick c a b => match ev E sl c with
   | .tru => frc (ev E sl a) fun v => K v [] .nil
   | .fls => frc (ev E sl b) fun v => K v [] .nil
   | _ => False
 | .alloc T => solid (lkT E.tt T).zero fun v => K (.ptr n []) [] (.new (.var true v))
 | .box _ x => solid (ev E sl x) fun v => K (.ptr n []) [] (.new (.var true v))
 | .build T ps => match (lkT E.tt T).d, (lkT E.tt T).zero with
   | .strct fs, .agg zs => (match fits E fs 0 zs with
     | true => fillF E sl ps.toList zs fun vs => K (.agg vs) [] .nil
     | false => False)
   | .arr _ e, .arr m' sz zs => (match Nat.beq sz (lkT E.tt e).size, Nat.ble 1 sz with
     | true, true => fillF E sl ps.toList zs fun vs => frzL h 60 vs [] fun vs ns => K (.arr m' sz vs) ns .nil
     | _, _ => False)
   | _, _ => False
 | .buildSlice T len ps => match (lkT E.tt T).d with
   | .sl e => (match Nat.beq len ps.toList.length && inOrder 0 ps.toList, Nat.ble 1 (lkT E.tt e).size, Nat.ble (len * (lkT E.tt e).size) 16777216, (lkT E.tt e).zero with
     | _, _, _, .any => False
     | true, true, true, _ => solids E sl (lkT E.tt e).size ps.toList fun vs => frzL h 60 vs [] fun vs ns => K (.osl n (lkT E.tt e).size) ns (.new (.row true (lkT E.tt e).size vs))
     | false, true, true, z => solid z fun z => (match Nat.beq z.sz (lkT E.tt e).size with
       | true => fillF E sl ps.toList (List.replicate len z) fun vs => frzL h 60 vs [] fun vs ns => K (.osl n (lkT E.tt e).size) ns (.new (.row true (lkT E.tt e).size vs))
       | false => False)
     | _, _, _, _ => False)
   | _ => False
 | .nilCheck x => match ev E sl x with
   | .iptr t => K (.iptr t) [] .nil
   | .ptr b p => K (.ptr b p) [] .nil
   | .fn f c => K (.fn f c) [] .nil
   | _ => False
 | .fieldAddr T x f => match (lkT E.tt T).d with
   | .strct fs => (match fs[f]? with
     | some (T', off) => (match Nat.ble 1 (lkT E.tt T').size with
       | true => (match ev E sl x with
         | .ptr b p => K (.ptr b (p ++ [.fld f off])) [] .nil
         | .iptr t => nav t [.fld f off] fun u => K (.iptr u) [] .nil
         | _ => False)
       | false => False)
     | none => False)
   | _ => False
 | .field T x f => match (lkT E.tt T).d with
   | .strct fs => (match fs[f]? with
     | some (T', off) => nav (ev E sl x) [.fld f off] fun u => (match Nat.beq u.sz (lkT E.tt T').size with
       | true => (match (lkT E.tt T').d, u.isAgg with
         | .other, _ => False
         | .strct _, true | .arr .., true => K u [] .nil
         | .strct _, false | .arr .., false => False
         | _, false => K u [] .nil
         | _, true => False)
       | false => False)
     | none => False)
   | _ => False
 | .load T x => match ev E sl x with
   | .ptr b p => (match lkB h b with
     | some (.var _ v) => nav v p fun u => (match Nat.beq u.sz (lkT E.tt T).size with
       | true => (match (lkT E.tt T).d, u.isAgg with
         | .other, _ => False
         | .strct _, true | .arr .., true => K u [] .nil
         | .strct _, false | .arr .., false => False
         | _, false => K u [] .nil
         | _, true => False)
       | false => False)
     | some (.row _ sz xs) => (match p with
       | [] => False
       | _ :: _ => nav (.arr 0 sz xs) p fun u => (match Nat.beq u.sz (lkT E.tt T).size with
         | true => (match (lkT E.tt T).d, u.isAgg with
           | .other, _ => False
           | .strct _, true | .arr .., true => K u [] .nil
           | .strct _, false | .arr .., false => False
           | _, false => K u [] .nil
           | _, true => False)
         | false => False))
     | _ => False)
   | .iptr t => frc t fun u => (match Nat.beq u.sz (lkT E.tt T).size with
      | true => (match (lkT E.tt T).d, u.isAgg with
        | .other, _ => False
        | .strct _, true | .arr .., true => K u [] .nil
        | .strct _, false | .arr .., false => False
        | _, false => K u [] .nil
        | _, true => False)
      | false => False)
   | _ => False
 | .store T x y => match Nat.ble 1 (lkT E.tt T).size, ev E sl x with
   | true, .ptr b p => (match lkB h b with
     | some (.var true v) => solid (ev E sl y) fun u => (match Nat.beq u.sz (lkT E.tt T).size with
       | true => storeV h b v p u K
       | false => False)
     | some (.row true sz xs) => solid (ev E sl y) fun u => (match Nat.beq u.sz (lkT E.tt T).size with
       | true => storeR h b sz xs p u K
       | false => False)
     | _ => False)
   | _, _ => False
 | .indexAddr T x i => match ev E sl i with
   | .int _ i => (match (lkT E.tt T).d with
     | .sl e => (match ev E sl x with
       | .sl sz xs => (match Nat.beq sz (lkT E.tt e).size, Nat.ble 1 sz with
         | true, true => IdxVC xs i fun u => K (.iptr u) [] .nil
         | _, _ => False)
       | .osl b sz => (match lkB h b, Nat.beq sz (lkT E.tt e).size && Nat.ble 1 sz with
         | some (.row _ _ xs), true => SideVC (0 ≤ i ∧ i < xs.length) (K (.ptr b [.idx i.toNat sz]) [] .nil)
         | _, _ => False)
       | _ => False)
     | .arr m e => (match Nat.ble 1 (lkT E.tt e).size, ev E sl x with
       | true, .ptr b p => SideVC (0 ≤ i ∧ i < m) (K (.ptr b (p ++ [aSt (lkT E.tt T).zero i.toNat (lkT E.tt e).size])) [] .nil)
       | true, .iptr t => SideVC (0 ≤ i ∧ i < m) (nav t [aSt (lkT E.tt T).zero i.toNat (lkT E.tt e).size] fun u => K (.iptr u) [] .nil)
       | _, _ => False)
     | _ => False)
   | _ => False
 | .index T x i => match (lkT E.tt T).d, ev E sl i, ev E sl x with
   | .str, .int _ i, .str s => ByteVC s i fun c => K (.int .u8 c.toNat) [] .nil
   | .arr m e, .int _ i, .arr m' sz xs => (match Nat.beq m m' && Nat.beq sz (lkT E.tt e).size with
     | true => IdxVC xs i fun u => (match Nat.beq u.sz (lkT E.tt e).size with
       | true => (match (lkT E.tt e).d, u.isAgg with
         | .other, _ => False
         | .strct _, true | .arr .., true => K u [] .nil
         | .strct _, false | .arr .., false => False
         | _, false => K u [] .nil
         | _, true => False)
       | false => False)
     | false => False)
   | _, _, _ => False
 | .binOp op T x y _ => binX E op T (ev E sl x) (ev E sl y) fun v => K v [] .nil
 | .unOp .not _ x => match ev E sl x with
   | .bool b => K (.bool (!b)) [] .nil
   | .tru => K .fls [] .nil
   | .fls => K .tru [] .nil
   | _ => False
 | .unOp .neg _ x => match ev E sl x with
   | .int k a => ArithVC k (0 - a) fun r => K (.int k r) [] .nil
   | _ => False
 | .convert S T x => match (lkT E.tt S).d, (lkT E.tt T).d, ev E sl x with
   | .other, _, _ => False
   | _, .int k, .int _ a => ArithVC k a fun r => K (.int k r) [] .nil
   | _, .str, .str s => K (.str s) [] .nil
   | _, .str, .int _ a => K (.str (Utf8.encode a).data.toList) [] .nil
   | _, _, _ => False
 | .extract x i => match ev E sl x with
   | .tup vs => (match vs[i]? with
     | some v => frc v fun v => K v [] .nil
     | none => False)
   | _ => False
 | .makeFunc (.func f) fst caps => match fst.toList with
   | [] => frcL (caps.toList.map (ev E sl)) fun cs => (match noTup cs, Nat.ble 1000000 f with | true, false => K (.fn f cs) [] .nil | _, _ => False)
   | _ => False
 | .slice T x lo hi mx => match mx with
   | some _ => False
   | none => (match ev E sl x with
     | .str s => (match (lkT E.tt T).d with
       | .str => bnds E sl lo hi s.length fun l h => K (.str ((s.take h.toNat).drop l.toNat)) [] .nil
       | _ => False)
     | .sl sz xs => (match (lkT E.tt T).d with
       | .sl e => (match Nat.beq sz (lkT E.tt e).size && Nat.ble 1 sz with
         | true => bnds E sl lo hi xs.length fun l h => K (.sl sz ((xs.take h.toNat).drop l.toNat)) [] .nil
         | false => False)
       | _ => False)
     | .osl b sz => (match lkB h b with
       | some (.row _ sz' xs) => (match (lkT E.tt T).d with
         | .sl e => (match Nat.beq sz (lkT E.tt e).size && Nat.ble 1 sz && Nat.beq sz sz' with
           | true => bnds E sl lo hi xs.length fun l h => K (.sl sz ((xs.take h.toNat).drop l.toNat)) [b] .nil
           | false => False)
         | _ => False)
       | _ => False)
     | x => (match (lkT E.tt T).d with
       | .arr m e => frz h 60 x [] fun u ns => (match u with
         | .iptr (.arr m' sz xs) => (match Nat.beq m m' && Nat.beq sz (lkT E.tt e).size && Nat.ble 1 sz with
           | true => bnds E sl lo hi m fun l h => K (.sl sz ((xs.take h.toNat).drop l.toNat)) ns .nil
           | false => False)
         | _ => False)
       | _ => False))
 | .makeSlice T l c => match (lkT E.tt T).d, ev E sl l, ev E sl c with
   | .sl e, .int _ a, .int _ b => solid (lkT E.tt e).zero fun z => (match Nat.beq z.sz 1, Nat.beq (lkT E.tt e).size 1 with
     | true, true => SideVC (0 ≤ a ∧ a = b ∧ b ≤ 70368744177664 ∧ b * (lkT E.tt e).bytes ≤ 70368744177664) (K (.osl n 1) [] (.new (.row true 1 (List.replicate a.toNat z))))
     | _, _ => False)
   | _, _, _ => False
 | .makeMap _ none => K (.mpr n) [] (.new (.mp []))
 | .lookup T x i ok => match (lkT E.tt T).d, ev E sl x with
   | .mp kT e, .mpr b => (match lkB h b with
     | some (.mp es) => solid (ev E sl i) fun k => (match keyD E.tt kT k with
       | true => findK E.tt kT k
         (solid (lkT E.tt e).zero fun z => (match ok with | true => K (.tup [z, .bool false]) [] .nil | false => K z [] .nil)) False
         (fun _ v => match ok with | true => K (.tup [v, .bool true]) [] .nil | false => K v [] .nil) es 0
       | false => False)
     | _ => False)
   | _, _ => False
 | .mapUpdate T x i y => match (lkT E.tt T).d, ev E sl x with
   | .mp kT _, .mpr b => (match lkB h b with
     | some (.mp es) => solid (ev E sl i) fun k => solid (ev E sl y) fun v => (match keyD E.tt kT k, v.pur with
       | true, true => findK E.tt kT k (K .any [] (.set b (.mp (snocE k v es)))) False (fun j u => sameT v u (K .any [] (.set b (.mp es))) (K .any [] (.set b (.mp (setE k v es j))))) es 0
       | _, _ => False)
     | _ => False)
   | _, _ => False
 | .call c => match c.callee with
   | .builtin .len => (match c.args.toList, c.argTypes.toList with
     | [x], [T] => (match (lkT E.tt T).d, ev E sl x with
       | .sl _, .sl _ xs => K (.int .i64 xs.length) [] .nil
       | .str, .str xs => K (.int .i64 xs.length) [] .nil
       | .sl _, .nils | .sl _, .mt => K (.int .i64 0) [] .nil
       | .sl _, .osl b _ => (match lkB h b with
         | some (.row _ _ xs) => K (.int .i64 xs.length) [] .nil
         | _ => False)
       | _, _ => False)
     | _, _ => False)
   | .builtin .append => (match c.args.toList, c.argTypes.toList with
     | [x, y], [T, T'] => (match (lkT E.tt T).d with
       | .sl e => rows h (ev E sl y) fun o => (match o with
         | some (sz, ys) => (match Nat.beq sz (lkT E.tt e).size, Nat.ble 1 sz, Nat.beq T T' && zeroFits E e, Nat.ble 1 (lkT E.tt e).bytes with
           | true, true, true, true => (match ev E sl x with
             | .osl b _ => (match lkB h b with
               | some (.row true sz' xs) => (match Nat.beq sz sz' with
                 | true => SideVC ((xs.length + ys.length) * (lkT E.tt e).bytes ≤ 70368744177664) (K (.osl b sz) [] (.app b (.row true sz (xs ++ ys))))
                 | false => False)
               | _ => False)
             | .nils | .mt => SideVC (ys.length * (lkT E.tt e).bytes ≤ 70368744177664) (K (.osl n sz) [] (.new (.row true sz ys)))
             | _ => False)
           | _, _, _, _ => False)
         | none => (match Nat.beq T T' && Nat.ble 1 (lkT E.tt e).size, ev E sl x with
           | true, .osl b s => (match lkB h b with
             | some (.row ..) => K (.osl b s) [] .nil
             | _ => False)
           | true, .sl s xs => K (.sl s xs) [] .nil
           | true, .nils => K .nils [] .nil
           | true, .mt => K .mt [] .nil
           | _, _ => False))
       | _ => False)
     | _, _ => False)
   | .builtin .min => (match c.args.toList with
     | [x, y] => (match ev E sl x, ev E sl y with
       | .int k a, .int k' b => (match kq k k' with | true => K (.int k (min a b)) [] .nil | false => False)
       | _, _ => False)
     | _ => False)
   | .builtin .max => (match c.args.toList with
     | [x, y] => (match ev E sl x, ev E sl y with
       | .int k a, .int k' b => (match kq k k' with | true => K (.int k (max a b)) [] .nil | false => False)
       | _, _ => False)
     | _ => False)
   | .value f => (match ev E sl f with
     | .fn f caps => (match memb f E.idf with
       | true => (match c.args.toList, caps with
         | [x], [] => solid (ev E sl x) fun v => K v [] .nil
         | _, _ => False)
       | false => frcL (c.args.toList.map (ev E sl)) fun as => (match noTup as with
         | true => frzL h 60 as [] fun as ns => frzL h 60 caps ns fun caps ns => CallVC E f (as ++ caps) fun r => frc r fun r => (match ns with
           | [] => K r [] .nil
           | ns => match r.scalar with
             | true => K r [] .nil
             | false => K r ns .nil)
         | false => False))
     | _ => False)
   | _ => False
 | _ => False
def app (v : SV) (ns : List Nat) (a : EA) (d : Option Nat) (sl : Slots) (h : Heap) (n : Nat) (K : Slots → Heap → Prop) : Prop :=
 iceK ns h fun h =>
 match a with
 | .nil => (match d with | some d => K ((d, v) :: sl) h | none => K sl h)
 | .new k => (match d with | some d => K ((d, v) :: sl) ((n, k) :: h) | none => K sl ((n, k) :: h))
 | .set b k => stK h b k fun h => (match d with | some d => K ((d, v) :: sl) h | none => K sl h)
 | .app b k => killSK b sl fun sl => killHK b h fun h => stK h b k fun h => (match d with | some d => K ((d, v) :: sl) h | none => K sl h)
def opX (E : Env) (o : Oper) (sl : Slots) (h : Heap) (n : Nat) (K : Slots → Heap → Prop) : Prop :=
 opE E sl h n o.op fun v ns a => app v ns a o.dst sl h n K
abbrev und : SV := .tup []
def grd (all : List Oper) (g : Option (Nat × Bool)) (sl : Slots) (Kyes Kno : Slots → Prop) : Prop :=
 match g with
 | none => Kyes sl
 | some (j, want) => match all[j]? with
   | some o => (match o.dst with
     | some d => (match lk sl d with
       | .tru => (match want with | true => Kyes sl | false => Kno sl)
       | .fls => (match want with | true => Kno sl | false => Kyes sl)
       | .bool b => (match want with
         | true => (b = true → Kyes ((d, .tru) :: sl)) ∧ (b = false → Kno ((d, .fls) :: sl))
         | false => (b = false → Kyes ((d, .fls) :: sl)) ∧ (b = true → Kno ((d, .tru) :: sl)))
       | .tup [] => Kno sl
       | _ => False)
     | none => False)
   | none => False
def gopX (E : Env) (all : List Oper) (o : Oper) (sl : Slots) (h : Heap) (n : Nat) (K : Slots → Heap → Prop) : Prop :=
 grd all o.guard sl (fun sl => opX E o sl h n K)
  (fun sl => match o.dst with
    | some d => K ((d, und) :: sl) h
    | none => K sl h)
def opsX (E : Env) (all : List Oper) : List Oper → Slots → Heap → Nat → (Slots → Heap → Nat → Prop) → Prop
 | [], sl, h, n, K => K sl h n
 | o :: r, sl, h, n, K => gopX E all o sl h n fun sl h => opsX E all r sl h (n + 1) K
mutual
def SV.undr (n : Nat) : SV → Bool
 | .ptr b _ => Nat.blt b n
 | .osl b _ => Nat.blt b n
 | .yld b => Nat.blt b n
 | .mpr b => Nat.blt b n
 | .vsl b _ _ => Nat.blt b n
 | .agg fs => undrL n fs
 | .tup fs => undrL n fs
 | .fn _ fs => undrL n fs
 | .ifc _ fs => undrL n fs
 | _ => true
def undrL (n : Nat) : List SV → Bool
 | [] => true
 | v :: r => match v.undr n with | true => undrL n r | false => false
end
open Go.RowKit (Below)
structure Cx where
 E : Env
 w0 : World
 Z : Nat → Prop
 F0 : Nat → Prop
 sh : Nat → Value := fun _ => undef
 ro : Option Nat := none
 Y0 : Nat → Prop := fun _ => False
 bot : List Deferred := []
 nm : Bool := false
def live : Blk → Loc → Bool
 | .var own _, _ => own
 | .row own _ _, l => own && (l.cap != 0)
 | .gho q _, _ => !q.dead
 | .mp _, _ => true
 | .tv .., _ => true
 | .tr .., l => l.cap != 0
 | .nr _, l => l.cap != 0
def Own (β : Beta) (h : Heap) (r : Nat) : Prop := ∃ b k l, lkB h b = some k ∧ β b = some l ∧ live k l = true ∧ l.r = r
def XX (Z Y : Nat → Prop) (β : Beta) (h : Heap) (r : Nat) : Prop := Z r ∨ Y r ∨ Own β h r
def BlkOK (w : World) (X : Nat → Prop) (β : Beta) : Blk → Loc → Prop
 | .var own v, l => ∃ cs ty lo hi, w.heap[l.r]? = some (.cells cs ty (lo, hi)) ∧ (cs.size ≤ lo ∨ hi ≤ lo) ∧ relP w X v β cs.toList ∧ (own = false → ¬ X l.r)
 | .row own sz xs, l => l.len = xs.length ∧ l.len ≤ l.cap ∧ 1 ≤ sz ∧ (l.cap = 0 ∨ ∃ cs ty lo hi, w.heap[l.r]? = some (.cells cs ty (lo, hi)) ∧ (cs.size ≤ lo ∨ hi ≤ lo) ∧ l.cap * sz ≤ cs.size ∧
    (∃ c1 c2, cs.toList = c1 ++ c2 ∧ relR w X sz xs nob c1) ∧ (own = false → ¬ X l.r))
 | .gho q sl, l => q.dead = true ∨ ∃ fn tmps D, w.heap[l.r]? = some (.loop { state := q.st, pending := q.pend, fn, tmps, params := q.ps, assign := q.asg, body := q.body, defers := D }) ∧ tmps.size = q.N ∧ ∀ t, t ≤ 999999 → rel w X (lk sl t) β (tmps.getD t undef)
 | .mp es, l => ∃ ms clock, w.heap[l.r]? = some (.map ms clock) ∧ ms.toList.map (fun e => (e.key, e.val)) = es.map (fun p => (p.1.val, p.2.val)) ∧ purL es = true
 | .tv T v, l => ∃ cs, w.heap[l.r]? = some (.cells cs T (0, 0)) ∧ relP w X v β cs.toList
 | .nr v, l => l.len = v.sz ∧ l.len ≤ l.cap ∧ (l.cap = 0 ∨ ∃ cs ty lo hi, w.heap[l.r]? = some (.cells cs ty (lo, hi)) ∧ (cs.size ≤ lo ∨ hi ≤ lo) ∧ l.cap ≤ cs.size ∧ ∃ c1 c2, cs.toList = c1 ++ c2 ∧ relP w X v β c1)
 | .tr T s, l => l.len = s.length ∧ l.len ≤ l.cap ∧ l.cap ≤ maxLen ∧ (l.cap = 0 ∨ ∃ cs fz, w.heap[l.r]? = some (.cells cs T fz) ∧ fz.2 ≤ s.length ∧ cs.size = l.cap ∧ cs.toList.take s.length = s.map fun c => Value.int .u8 c.toNat)
def FXc (c : Cx) : Prop := ∀ p ∈ c.E.fx, (∃ T fz, c.w0.heap[p.1]? = some (.cells p.2 T fz)) ∧ ¬ c.F0 p.1 ∧ ¬ c.Z p.1
structure Mem (c : Cx) (h : Heap) (F : Nat → Prop) (β : Beta) (Y : Nat → Prop) (w : World) : Prop where
 fresh : ∀ b, F b → β b = none
 blk : ∀ b k, lkB h b = some k → ∃ l, β b = some l ∧ BlkOK w (XX c.Z Y β h) β k l
 inj : ∀ b b' k k' l l', lkB h b = some k → lkB h b' = some k' → β b = some l → β b' = some l' → live k l = true → live k' l' = true → l.r = l'.r → b = b'
 own : ∀ r, Own β h r → r < w.heap.size ∧ ¬ c.Z r ∧ ¬ Y r ∧ (c.w0.heap.size ≤ r ∨ c.F0 r)
 yy : ∀ r, Y r → w.heap[r]? = some (.deferred (some [])) ∧ ¬ c.Z r ∧ (c.w0.heap.size ≤ r ∨ c.F0 r)
 zz : ∀ r, c.Z r → r < c.w0.heap.size ∧ ¬ c.F0 r
 size : c.w0.heap.size ≤ w.heap.size
 frame : ∀ r, r < c.w0.heap.size → ¬ c.F0 r → w.heap[r]? = c.w0.heap[r]?
 os : w.os = c.w0.os
 tape : w.tape = c.w0.tape
 output : w.output = c.w0.output ∧ FXc c
 gl : ∀ g t, lk c.E.gl g = t → (t = .any → False) → relP w (XX c.Z Y β h) (.iptr t) nob [.pointer (some ⟨g, 0, none⟩)]
section
variable {c : Cx} {h : Heap} {n : Nat} {F : Nat → Prop} {β : Beta} {Y : Nat → Prop} {w : World}
theorem hlt_of {r : Nat} {o : Obj} (h : w.heap[r]? = some o) : r < w.heap.size := by
 grind
theorem Mem.xlt (m : Mem c h F β Y w) {r : Nat} (hr : XX c.Z Y β h r) : r < w.heap.size := by
 rcases hr with hr | hr | hr
 · exact Nat.lt_of_lt_of_le (m.zz r hr).1 m.size
 · exact hlt_of (m.yy r hr).1
 · exact (m.own r hr).1
theorem Mem.good (m : Mem c h F β Y w) : Good c.E w (XX c.Z Y β h) := by
 refine ⟨fun _ hb => m.xlt hb, fun g t hg ht => m.gl g t hg fun e => ht e, fun p hp => ?_⟩
 obtain ⟨⟨T, fz, e⟩, hF, hZ⟩ := m.output.2 p hp
 have hlt := hlt_of e
 have e' := (m.frame p.1 hlt hF).trans e
 refine ⟨⟨T, fz, e'⟩, fun hx => ?_⟩
 rcases hx with hx | hx | hx
 · exact hZ hx
 · have := (m.yy p.1 hx).1
   rw [e'] at this; cases this
 · rcases (m.own p.1 hx).2.2.2 with h1 | h1
   · omega
   · exact hF h1
theorem BlkOK.ext {w w' : World} {X X' : Nat → Prop} {β β' : Beta} {k : Blk} {l : Loc} (e : Ext w X w' X') (hs : w'.heap[l.r]? = w.heap[l.r]?) (hβ : ∀ b l, β b = some l → β' b = some l)
 (hx : l.r < w.heap.size → ¬ X l.r → ¬ X' l.r) (h : BlkOK w X β k l) : BlkOK w' X' β' k l := by
 cases k with
 | var own v =>
   obtain ⟨cs, ty, lo, hi, h1, h2, h3, h4⟩ := h
   have hlt : l.r < w.heap.size := by
    grind
   exact ⟨cs, ty, lo, hi, hs.trans h1, h2, relP_ext e _ _ (nms_true hβ _) h3, fun ho => hx hlt (h4 ho)⟩
 | row own sz xs =>
   obtain ⟨g1, g2, g3, g4⟩ := h
   refine ⟨g1, g2, g3, g4.imp id ?_⟩
   rintro ⟨cs, ty, lo, hi, h1, h2, h3, ⟨c1, c2, h5, h6⟩, h4⟩
   have hlt : l.r < w.heap.size := by
    grind
   exact ⟨cs, ty, lo, hi, hs.trans h1, h2, h3, ⟨c1, c2, h5, relR_ext e _ _ _ (nmsL_true (fun _ _ k => k) _) h6⟩, fun ho => hx hlt (h4 ho)⟩
 | gho q sl =>
   rcases h with h | ⟨fn, tmps, D, h1, h2, h3⟩
   · exact .inl h
   · exact .inr ⟨fn, tmps, D, hs.trans h1, h2, fun t ht => rel_ext e (nms_true hβ _) (h3 t ht)⟩
 | mp es =>
   obtain ⟨ms, clock, h1, h2⟩ := h
   exact ⟨ms, clock, hs.trans h1, h2⟩
 | tv T v =>
   obtain ⟨cs, h1, h2⟩ := h
   exact ⟨cs, hs.trans h1, relP_ext e _ _ (nms_true hβ _) h2⟩
 | tr T s =>
   obtain ⟨g1, g2, g3, g4⟩ := h
   refine ⟨g1, g2, g3, g4.imp id ?_⟩
   grind
 | nr v =>
   obtain ⟨g1, g2, g3⟩ := h
   refine ⟨g1, g2, g3.imp id ?_⟩
   rintro ⟨cs, ty, lo, hi, h1, h2, h3, c1, c2, h5, h6⟩
   exact ⟨cs, ty, lo, hi, hs.trans h1, h2, h3, c1, c2, h5, relP_ext e _ _ (nms_true hβ _) h6⟩
theorem Mem.step (m : Mem c h F β Y w) {w' : World} (b : Below w.heap.size w w') : Mem c h F β Y w' ∧ Ext w (XX c.Z Y β h) w' (XX c.Z Y β h) := by
 have e : Ext w (XX c.Z Y β h) w' (XX c.Z Y β h) := ⟨b.size, fun r hr _ => b.block r hr, fun _ _ hx => hx⟩
 refine ⟨⟨m.fresh, fun b' k hk => ?_, m.inj, fun r hr => ?_, fun r hr => ?_, m.zz, Nat.le_trans m.size b.size, fun r hr hf => ?_, b.os.trans m.os, b.tape.trans m.tape, ⟨b.output.trans m.output.1, m.output.2⟩, fun g t hg ht => ?_⟩, e⟩
 · obtain ⟨l, h1, h2⟩ := m.blk b' k hk
   refine ⟨l, h1, ?_⟩
   by_cases hl : l.r < w.heap.size
   · exact h2.ext e (b.block _ hl) (fun _ _ k => k) (fun _ hx => hx)
   · cases k with
     | var own v =>
       obtain ⟨cs, ty, lo, hi, g1, _⟩ := h2
       grind
     | row own sz xs =>
       obtain ⟨g1, g2, g3, g4⟩ := h2
       refine ⟨g1, g2, g3, g4.imp id ?_⟩
       grind
     | gho q sl =>
       rcases h2 with h2 | ⟨fn, tmps, D, g1, _⟩
       · exact .inl h2
       · grind
     | mp es =>
       obtain ⟨ms, clock, g1, _⟩ := h2
       grind
     | tv T v =>
       obtain ⟨cs, g1, _⟩ := h2
       grind
     | tr T s =>
       obtain ⟨g1, g2, g3, g4⟩ := h2
       refine ⟨g1, g2, g3, g4.imp id ?_⟩
       grind
     | nr v =>
       obtain ⟨g1, g2, g3⟩ := h2
       refine ⟨g1, g2, g3.imp id ?_⟩
       grind
 · obtain ⟨g1, g2, g3, g4⟩ := m.own r hr
   exact ⟨Nat.lt_of_lt_of_le g1 b.size, g2, g3, g4⟩
 · obtain ⟨g1, g2, g3⟩ := m.yy r hr
   exact ⟨(b.block r (hlt_of g1)).trans g1, g2, g3⟩
 · rw [b.block r (Nat.lt_of_lt_of_le hr m.size)]; exact m.frame r hr hf
 · exact relP_ext e _ _ (nms_true (fun _ _ k => k) _) (m.gl g t hg ht)
def setβ (β : Beta) (n : Nat) (l : Loc) : Beta := fun b => if b = n then some l else β b
theorem setβ_same (β : Beta) (n : Nat) (l : Loc) : setβ β n l n = some l := by simp [setβ]
theorem setβ_ne {β : Beta} {n b : Nat} {l : Loc} (h : b ≠ n) : setβ β n l b = β b := by simp [setβ, h]
theorem lkB_cons {k : Blk} {b n : Nat} : lkB ((n, k) :: h) b = if n = b then some k else lkB h b := by
 simp only [lkB]
 by_cases e : n = b
 · subst e; simp
 · rw [if_neg e]
   have : Nat.beq n b = false := by
    cases hb : Nat.beq n b with
    | false => rfl
    | true => exact absurd (Nat.eq_of_beq_eq_true hb) e
   rw [this]
def rmF (F : Nat → Prop) (n : Nat) : Nat → Prop := fun b => F b ∧ b ≠ n
theorem Mem.new (m : Mem c h F β Y w) (hF : F n) {o : Obj} {k : Blk} {l : Loc} (hr : l.r = w.heap.size)
 (hk : ∀ w' X' β', Ext w (XX c.Z Y β h) w' X' → (∀ b l, β b = some l → β' b = some l) → w'.heap[l.r]? = some o → BlkOK w' X' β' k l)
 :
 Mem c ((n, k) :: h) (rmF F n) (setβ β n l) Y (w.alloc o) ∧ Ext w (XX c.Z Y β h) (w.alloc o) (XX c.Z Y (setβ β n l) ((n, k) :: h)) := by
 have hn : β n = none := m.fresh n hF
 have hβ : ∀ b l', β b = some l' → setβ β n l b = some l' := fun b l' hb => by
  rw [setβ_ne]; · exact hb
  · grind
 have hlk : ∀ b k', lkB h b = some k' → b ≠ n := fun b k' hb => by
  rintro rfl
  obtain ⟨l', h1, _⟩ := m.blk _ _ hb
  rw [hn] at h1; cases h1
 have hown : ∀ r, Own (setβ β n l) ((n, k) :: h) r → Own β h r ∨ r = w.heap.size := by
  rintro r ⟨b, k', l', h1, h2, h3, h4⟩
  by_cases e : b = n
  · subst e
    rw [setβ_same] at h2; cases h2
    grind
  · rw [setβ_ne e] at h2
    rw [lkB_cons, if_neg (Ne.symm e)] at h1
    exact .inl ⟨b, k', l', h1, h2, h3, h4⟩
 have hown' : ∀ r, Own β h r → Own (setβ β n l) ((n, k) :: h) r := by
  rintro r ⟨b, k', l', h1, h2, h3, h4⟩
  have e : b ≠ n := hlk b k' h1
  exact ⟨b, k', l', by rw [lkB_cons, if_neg (Ne.symm e)]; exact h1, by rw [setβ_ne e]; exact h2, h3, h4⟩
 have hpush : ∀ r, r < w.heap.size → (w.alloc o).heap[r]? = w.heap[r]? := fun r hr => Below.heap_alloc w _ r hr
 have hnew : (w.alloc o).heap[w.heap.size]? = some o := by
  show (w.heap.push _)[w.heap.size]? = _
  simp
 have e : Ext w (XX c.Z Y β h) (w.alloc o) (XX c.Z Y (setβ β n l) ((n, k) :: h)) := by
  refine ⟨by simp, fun r hr _ => hpush r hr, fun r hr hx => ?_⟩
  rintro (g | g | g)
  · exact hx (.inl g)
  · exact hx (.inr (.inl g))
  · rcases hown r g with g | g
    · exact hx (.inr (.inr g))
    · omega
 refine ⟨⟨fun b hb => ?_, fun b k' hk' => ?_, ?_, fun r hr' => ?_, fun r hr' => ?_, m.zz, ?_, fun r hr' hf => ?_, m.os, m.tape, m.output, fun g t hg ht => ?_⟩, e⟩
 · rw [setβ_ne hb.2]; exact m.fresh b hb.1
 · rw [lkB_cons] at hk'
   by_cases eb : n = b
   · subst eb
     rw [if_pos rfl] at hk'; cases hk'
     exact ⟨l, setβ_same .., hk _ _ _ e hβ (by rw [hr]; exact hnew)⟩
   · rw [if_neg eb] at hk'
     obtain ⟨l', h1, h2⟩ := m.blk b k' hk'
     refine ⟨l', hβ _ _ h1, ?_⟩
     by_cases hl : l'.r < w.heap.size
     · exact h2.ext e (hpush _ hl) hβ (fun h1 h2 => e.less _ h1 h2)
     · cases k' with
       | var own v =>
         obtain ⟨cs, ty, lo, hi, g1, _⟩ := h2
         grind
       | row own sz xs =>
         obtain ⟨g1, g2, g3, g4⟩ := h2
         refine ⟨g1, g2, g3, g4.imp id ?_⟩
         grind
       | gho q sl =>
         rcases h2 with h2 | ⟨fn, tmps, D, g1, _⟩
         · exact .inl h2
         · grind
       | mp es =>
         obtain ⟨ms, clock, g1, _⟩ := h2
         grind
       | tv T v =>
         obtain ⟨cs, g1, _⟩ := h2
         grind
       | tr T s =>
         obtain ⟨g1, g2, g3, g4⟩ := h2
         refine ⟨g1, g2, g3, g4.imp id ?_⟩
         grind
       | nr v =>
         obtain ⟨g1, g2, g3⟩ := h2
         refine ⟨g1, g2, g3.imp id ?_⟩
         grind
 · intro b b' k1 k2 l1 l2 h1 h2 h3 h4 h5 h6 h7
   rw [lkB_cons] at h1 h2
   have hsz : ∀ b k l, lkB h b = some k → β b = some l → live k l = true → l.r < w.heap.size := fun b k l g1 g2 g3 => (m.own l.r ⟨b, k, l, g1, g2, g3, rfl⟩).1
   by_cases e1 : n = b
   · by_cases e2 : n = b'
     · grind
     · subst e1
       rw [setβ_same] at h3; cases h3
       rw [if_neg e2] at h2
       rw [setβ_ne (Ne.symm e2)] at h4
       grind
   · by_cases e2 : n = b'
     · subst e2
       rw [setβ_same] at h4; cases h4
       rw [if_neg e1] at h1
       rw [setβ_ne (Ne.symm e1)] at h3
       grind
     · rw [if_neg e1] at h1; rw [if_neg e2] at h2
       rw [setβ_ne (Ne.symm e1)] at h3; rw [setβ_ne (Ne.symm e2)] at h4
       exact m.inj _ _ _ _ _ _ h1 h2 h3 h4 h5 h6 h7
 · rcases hown r hr' with g | g
   · obtain ⟨g1, g2, g3, g4⟩ := m.own r g
     grind
   · subst g
     refine ⟨by simp, fun hz => ?_, fun hy => ?_, .inl m.size⟩
     · have := (m.zz _ hz).1; have := m.size; omega
     · have := hlt_of (m.yy _ hy).1; omega
 · obtain ⟨g1, g2, g3⟩ := m.yy r hr'
   grind
 · have := m.size; simp; omega
 · rw [hpush r (Nat.lt_of_lt_of_le hr' m.size)]; exact m.frame r hr' hf
 · exact relP_ext e _ _ (nms_true (fun _ _ k => k) _) (m.gl g t hg ht)
end
theorem beq_of {a b : Nat} (h : Nat.beq a b = true) : a = b := Nat.eq_of_beq_eq_true h
theorem beq_ne {a b : Nat} (h : Nat.beq a b = false) : a ≠ b := fun e => by subst e; simp at h
theorem beq_refl' (a : Nat) : Nat.beq a a = true := by simp
theorem beq_false {a b : Nat} (h : a ≠ b) : Nat.beq a b = false := by
 cases hb : Nat.beq a b with
 | false => rfl
 | true => exact absurd (beq_of hb) h
theorem relP_of_nob {w : World} {X : Nat → Prop} {β : Beta} {v : SV} {cs : List Value} (h : relP w X v nob cs) : relP w X v β cs :=
 relP_ext (Ext.refl w X) v cs (nms_true (fun b l hb => by cases hb) v) h
theorem nav_ok {w : World} {X : Nat → Prop} {β : Beta} : ∀ (p : List Step) (v : SV) (K : SV → Prop) (cs : List Value), nav v p K → relP w X v β cs →
 ∃ u pre mid post, K u ∧ cs = pre ++ mid ++ post ∧ pre.length = pOff p ∧ relP w X u β mid
 | [], v, K, cs, hn, hv => by
   simp only [nav, frc_eq] at hn
   exact ⟨v, [], cs, [], hn, by simp, rfl, hv⟩
 | .fld i off :: p, v, K, cs, hn, hv => by
   simp only [nav] at hn
   cases v <;> simp only at hn
   rename_i fs
   cases hb : Nat.beq off (szs (fs.take i)) <;> simp only [hb] at hn
   cases hs : fs[i]? with
   | none => simp only [hs] at hn
   | some s =>
     simp only [hs] at hn
     simp only [relP] at hv
     obtain ⟨c1, c2, c3, rfl, g1, g2, _⟩ := relC_get hv hs
     obtain ⟨u, pre, mid, post, k1, rfl, k3, k4⟩ := nav_ok p s K c2 hn g2
     refine ⟨u, c1 ++ pre, mid, post ++ c3, k1, by simp, ?_, k4⟩
     simp [g1, k3, pOff, beq_of hb]
 | .idx i sz :: p, v, K, cs, hn, hv => by
   simp only [nav] at hn
   cases v <;> simp only at hn
   rename_i m sz' xs
   cases hb : Nat.beq sz sz' <;> simp only [hb] at hn
   unfold IdxVC at hn
   obtain ⟨s, _, hs, hn⟩ := hn
   simp only [Int.toNat_natCast] at hs
   simp only [relP] at hv
   obtain ⟨c1, c2, c3, rfl, g1, _, g2, _⟩ := relR_get hv.2 hs
   obtain ⟨u, pre, mid, post, k1, rfl, k3, k4⟩ := nav_ok p s K c2 hn (relP_of_nob g2)
   refine ⟨u, c1 ++ pre, mid, post ++ c3, k1, by simp, ?_, k4⟩
   simp [g1, k3, pOff, beq_of hb]
theorem upd_nob {w : World} {X : Nat → Prop} (x : SV) (xs : List Value) (hx : relP w X x nob xs) : ∀ (p : List Step) (v : SV) (K : SV → Prop) (cs : List Value) (β : Beta), upd v x p K → relP w X v β cs →
 ∃ v' pre mid post, K v' ∧ cs = pre ++ mid ++ post ∧ pre.length = pOff p ∧ mid.length = xs.length ∧ relP w X v' β (pre ++ xs ++ post)
 | [], v, K, cs, β, hn, hv => by
   simp only [upd] at hn
   cases hb : Nat.beq v.sz x.sz <;> simp only [hb, frc_eq] at hn
   exact ⟨x, [], cs, [], hn, by simp, rfl, by rw [relP_len _ _ hv, relP_len _ _ hx, beq_of hb], by simpa using relP_of_nob hx⟩
 | .fld i off :: p, v, K, cs, β, hn, hv => by
   simp only [upd] at hn
   cases v <;> simp only at hn
   rename_i fs
   cases hb : Nat.beq off (szs (fs.take i)) <;> simp only [hb] at hn
   cases hs : fs[i]? with
   | none => simp only [hs] at hn
   | some s =>
     simp only [hs, frcL_eq] at hn
     simp only [relP] at hv
     obtain ⟨c1, c2, c3, rfl, g1, g2, g3⟩ := relC_get hv hs
     obtain ⟨v', pre, mid, post, k1, rfl, k3, k4, k5⟩ := upd_nob x xs hx p s _ c2 β hn g2
     refine ⟨_, c1 ++ pre, mid, post ++ c3, k1, by simp, ?_, k4, ?_⟩
     · simp [g1, k3, pOff, beq_of hb]
     · simp only [relP]
       have := g3 _ _ k5
       simpa using this
 | .idx i sz :: p, v, K, cs, β, hn, hv => by
   simp only [upd] at hn
   cases v <;> simp only at hn
   rename_i m sz' ys
   cases hb : Nat.beq sz sz' <;> simp only [hb] at hn
   unfold IdxVC at hn
   obtain ⟨s, _, hs, hn⟩ := hn
   simp only [Int.toNat_natCast] at hs hn
   simp only [relP] at hv
   obtain ⟨c1, c2, c3, rfl, g1, g0, g2, g3⟩ := relR_get hv.2 hs
   obtain ⟨v', pre, mid, post, k1, rfl, k3, k4, k5⟩ := upd_nob x xs hx p s _ c2 nob hn g2
   refine ⟨_, c1 ++ pre, mid, post ++ c3, k1, by simp, ?_, k4, ?_⟩
   · simp [g1, k3, pOff, beq_of hb]
   · simp only [relP]
     have := g3 v' (pre ++ xs ++ post) (by rw [← g0]; simp [k4]) k5
     exact ⟨by simp [hv.1], by simpa using this⟩
theorem upd_flat {w : World} {X : Nat → Prop} {β : Beta} (x : SV) (xs : List Value) (hx : relP w X x β xs) : ∀ (p : List Step) (v : SV) (K : SV → Prop) (cs : List Value), crosses p = false → upd v x p K → relP w X v β cs →
 ∃ v' pre mid post, K v' ∧ cs = pre ++ mid ++ post ∧ pre.length = pOff p ∧ mid.length = xs.length ∧ relP w X v' β (pre ++ xs ++ post)
 | [], v, K, cs, _, hn, hv => by
   simp only [upd] at hn
   cases hb : Nat.beq v.sz x.sz <;> simp only [hb, frc_eq] at hn
   exact ⟨x, [], cs, [], hn, by simp, rfl, by rw [relP_len _ _ hv, relP_len _ _ hx, beq_of hb], by simpa using hx⟩
 | .fld i off :: p, v, K, cs, hc, hn, hv => by
   simp only [upd] at hn
   cases v <;> simp only at hn
   rename_i fs
   cases hb : Nat.beq off (szs (fs.take i)) <;> simp only [hb] at hn
   cases hs : fs[i]? with
   | none => simp only [hs] at hn
   | some s =>
     simp only [hs, frcL_eq] at hn
     simp only [relP] at hv
     obtain ⟨c1, c2, c3, rfl, g1, g2, g3⟩ := relC_get hv hs
     obtain ⟨v', pre, mid, post, k1, rfl, k3, k4, k5⟩ := upd_flat x xs hx p s _ c2 hc hn g2
     refine ⟨_, c1 ++ pre, mid, post ++ c3, k1, by simp, ?_, k4, ?_⟩
     · simp [g1, k3, pOff, beq_of hb]
     · simp only [relP]
       have := g3 _ _ k5
       simpa using this
 | .idx i sz :: p, v, K, cs, hc, hn, hv => by cases hc
theorem killP {β β' : Beta} {b : Nat} (hβ : ∀ b' l, b' ≠ b → β b' = some l → β' b' = some l) : ∀ v : SV, (v.kill b).nms fun b' => ∀ l, β b' = some l → β' b' = some l := by
 have key : ∀ v : SV, (v.kill b).nms (· ≠ b) := by
  intro v
  exact SV.rec (motive_1 := fun v => (v.kill b).nms (· ≠ b)) (motive_2 := fun l => nmsL (· ≠ b) (killL b l))
   trivial (fun _ _ => trivial) (fun _ => trivial) trivial trivial (fun _ => trivial) (fun fs ih => by simpa [SV.kill, SV.nms] using ih) (fun _ _ _ _ => trivial)
   (fun fs ih => by simpa [SV.kill, SV.nms] using ih) (fun _ _ _ => trivial) trivial trivial (fun _ _ => trivial)
   (fun c p => by simp only [SV.kill]; cases hb : Nat.beq c b <;> simp only [SV.nms]; exact beq_ne hb)
   (fun c p => by simp only [SV.kill]; cases hb : Nat.beq c b <;> simp only [SV.nms]; exact beq_ne hb)
   (fun f fs ih => by simpa [SV.kill, SV.nms] using ih) trivial trivial trivial
   (fun c => by simp only [SV.kill]; cases hb : Nat.beq c b <;> simp only [SV.nms]; exact beq_ne hb)
   (fun c => by simp only [SV.kill]; cases hb : Nat.beq c b <;> simp only [SV.nms]; exact beq_ne hb)
   (fun c p n => by simp only [SV.kill]; cases hb : Nat.beq c b <;> simp only [SV.nms]; exact beq_ne hb)
   (fun f fs ih => by simpa [SV.kill, SV.nms] using ih) trivial (fun v r h1 h2 => ⟨h1, h2⟩) v
 intro v
 exact nms_mono (fun b' hb l hl => hβ b' l hb hl) _ (key v)
section
variable {w : World} {X : Nat → Prop} {β : Beta} (b : Nat)
mutual
theorem relP_kill : ∀ (v : SV) (cs : List Value), relP w X v β cs → relP w X (v.kill b) β cs
 | .any, _, h => h
 | .int .., _, h => h
 | .bool _, _, h => h
 | .tru, _, h => h
 | .fls, _, h => h
 | .str _, _, h => h
 | .agg fs, cs, h => by simp only [relP, SV.kill] at h ⊢; exact relC_kill fs cs h
 | .arr n sz xs, cs, h => h
 | .tup _, _, h => h.elim
 | .sl .., _, h => h
 | .mt, _, h => h
 | .nils, _, h => h
 | .iptr _, _, h => h
 | .ptr c p, cs, h => by
   simp only [SV.kill]
   cases hb : Nat.beq c b with
   | false => exact h
   | true => simp only [relP] at h ⊢; obtain ⟨l, _, rfl⟩ := h; exact ⟨_, rfl, rfl⟩
 | .osl c s, cs, h => by
   simp only [SV.kill]
   cases hb : Nat.beq c b with
   | false => exact h
   | true => simp only [relP] at h ⊢; obtain ⟨l, a, _, rfl, _⟩ := h; exact ⟨_, rfl, rfl⟩
 | .fn f caps, cs, h => by
   simp only [relP, SV.kill] at h ⊢
   obtain ⟨us, rfl, h⟩ := h
   exact ⟨us, rfl, relL_kill caps us.toList h⟩
 | .ifc T caps, cs, h => by
   simp only [relP, SV.kill] at h ⊢
   obtain ⟨u, rfl, h⟩ := h
   exact ⟨u, rfl, relL_kill caps [u] h⟩
 | .nilf, _, h => h
 | .nilp, _, h => h
 | .nili, _, h => h
 | .yld c, cs, h => by
   simp only [SV.kill]
   cases hb : Nat.beq c b with
   | false => exact h
   | true => simp only [relP] at h ⊢; obtain ⟨l, _, rfl⟩ := h; exact ⟨_, rfl, rfl⟩
 | .mpr c, cs, h => by
   simp only [SV.kill]
   cases hb : Nat.beq c b with
   | false => exact h
   | true => simp only [relP] at h ⊢; obtain ⟨l, _, rfl⟩ := h; exact ⟨_, rfl, rfl⟩
 | .vsl c p n, cs, h => by
   simp only [SV.kill]
   cases hb : Nat.beq c b with
   | false => exact h
   | true => simp only [relP] at h ⊢; obtain ⟨l, cap, _, rfl⟩ := h; exact ⟨_, rfl, rfl⟩
theorem relC_kill : ∀ (l : List SV) (cs : List Value), relC w X l β cs → relC w X (killL b l) β cs
 | [], _, h => h
 | v :: r, cs, h => by
   simp only [relC, killL] at h ⊢
   obtain ⟨c1, c2, h1, h2, h3⟩ := h
   exact ⟨c1, c2, h1, relP_kill v c1 h2, relC_kill r c2 h3⟩
theorem relL_kill : ∀ (l : List SV) (us : List Value), relL w X l β us → relL w X (killL b l) β us
 | [], _, h => h
 | v :: r, us, h => by
   simp only [killL]
   rw [relL_cons] at h ⊢
   obtain ⟨u, us', h1, h2, h3⟩ := h
   refine ⟨u, us', h1, ?_, relL_kill r us' h3⟩
   have ih := fun cs => relP_kill v cs
   revert h2
   unfold relV
   cases v <;> simp only [SV.isAgg, SV.kill] <;> intro h2
   all_goals first
    | exact h2
    | (obtain ⟨cs, g1, g2⟩ := h2; exact ⟨cs, g1, ih _ g2⟩)
    | (have := ih _ h2; simp only [SV.kill] at this; split at this <;> first | trivial | exact this)
    | (have := ih _ h2; simpa only [SV.kill] using this)
end
theorem relV_kill {v : SV} {u : Value} (h : relV w X v β u) : relV w X (v.kill b) β u := by
 have := relL_kill (w := w) (X := X) (β := β) b [v] [u] (relL_cons.2 ⟨u, [], rfl, h, relL_nil.2 rfl⟩)
 grind [killL, relL_cons]
theorem rel_kill {v : SV} {u : Value} (h : rel w X v β u) : rel w X (v.kill b) β u := by
 by_cases hv : ∃ vs, v = .tup vs
 · obtain ⟨vs, rfl⟩ := hv
   obtain ⟨us, h1, h2⟩ := h
   exact ⟨us, h1, relL_kill b _ _ h2⟩
 · rw [rel_eq (fun vs e => hv ⟨vs, e⟩)] at h
   rw [rel_eq]
   · exact relV_kill b h
   · intro vs e
     cases v <;> simp only [SV.kill] at e <;> first | exact absurd ⟨_, rfl⟩ hv | cases e | (split at e <;> cases e)
end
open Go.RowKit (Below)
def World.put (w : World) (r : Nat) (o : Obj) : World := { w with heap := w.heap.setIfInBounds r o }
theorem put_same {w : World} {r : Nat} {o : Obj} (h : r < w.heap.size) : (World.put w r o).heap[r]? = some o := by
 simp [World.put, h]
theorem put_ne {w : World} {r r' : Nat} {o : Obj} (h : r' ≠ r) : (World.put w r o).heap[r']? = w.heap[r']? := by
 grind [World.put]
theorem put_size {w : World} {r : Nat} {o : Obj} : (World.put w r o).heap.size = w.heap.size := by simp [World.put]
theorem heap_lt {w : World} {r : Nat} {o : Obj} (h : w.heap[r]? = some o) : r < w.heap.size := by
 grind
theorem add_plain (b off i : Nat) : Addr.add ⟨b, off, none⟩ i = ⟨b, off + i, none⟩ := by
 grind [Addr.add]
theorem run_storeCells {P : Program} {ty : TypeId} {lo hi b off : Nat} : ∀ (vs : List Value) (w : World) (cs : Array Value) (i : Nat) (pre old post : List Value),
 w.heap[b]? = some (.cells cs ty (lo, hi)) → (cs.size ≤ lo ∨ hi ≤ lo) → cs.toList = pre ++ old ++ post → pre.length = off + i → old.length = vs.length → (∀ u ∈ vs, u.oneCell' = true) →
 (storeCells ⟨b, off, none⟩ vs i).run P w = .ok () (World.put w b (.cells (pre ++ vs ++ post).toArray ty (lo, hi)))
 | [], w, cs, i, pre, old, post, hb, hf, hc, hp, ho, _ => by
   simp only [storeCells, Sem.run_pure]
   have : old = [] := List.length_eq_zero_iff.1 ho
   subst this
   have hcs : (pre ++ [] ++ post).toArray = cs := by rw [← hc]
   rw [hcs]
   have hlt := heap_lt hb
   have : w.heap.setIfInBounds b (.cells cs ty (lo, hi)) = w.heap := by
    grind
   simp only [World.put, this]
 | v :: r, w, cs, i, pre, old, post, hb, hf, hc, hp, ho, h1 => by
   match old, ho with
   | o :: old', ho =>
     have hoff : off + i < cs.size := by
      have := congrArg List.length hc
      simp at this
      omega
     have hcell : w.cell? ⟨b, off + i, none⟩ = some cs[off + i] := by
      simp [World.cell?, hb, hoff]
     have hfz : w.frozen? ⟨b, off + i, none⟩ = false := by
      simp only [World.frozen?, hb]
      grind
     have hv : v.oneCell' = true := h1 v (by simp)
     simp only [storeCells, Sem.run_bind, add_plain]
     rw [run_store P w _ v _ hv]
     simp only [hcell, hfz, Bool.false_eq_true, if_false, Result.andThen_ok]
     have hset : w.setCell ⟨b, off + i, none⟩ v = World.put w b (.cells (cs.setIfInBounds (off + i) v) ty (lo, hi)) := by
      unfold World.setCell World.put
      congr 1
      grind
     rw [hset]
     have hb' : (World.put w b (.cells (cs.setIfInBounds (off + i) v) ty (lo, hi))).heap[b]? = some (.cells (cs.setIfInBounds (off + i) v) ty (lo, hi)) := put_same (heap_lt hb)
     have hl : (cs.setIfInBounds (off + i) v).toList = (pre ++ [v]) ++ old' ++ post := by
      simp_all
     have := run_storeCells (P := P) (off := off) r _ _ (i + 1) (pre ++ [v]) old' post hb' (by simpa using hf) hl (by simp; omega) (by simpa using ho) (fun u hu => h1 u (by simp [hu]))
     simp_all [World.put]
theorem run_loadCells {P : Program} {w : World} {b off : Nat} : ∀ (cs : List Value) (acc : Array Value) (i : Nat), (∀ j v, cs[j]? = some v → w.cell? ⟨b, off + i + j, none⟩ = some v) →
 (loadCellsFrom ⟨b, off, none⟩ i cs.length acc).run P w = .ok (acc ++ cs.toArray) w
 | [], acc, i, _ => by simp [loadCellsFrom]
 | v :: r, acc, i, h => by
   simp only [List.length_cons, loadCellsFrom, Sem.run_bind, add_plain, run_load]
   have h0 := h 0 v rfl
   simp only [Nat.add_zero] at h0
   simp only [h0, Result.andThen_ok]
   rw [run_loadCells r (acc.push v) (i + 1) (fun j u hj => by
    have := h (j + 1) u (by simpa using hj)
    rw [show off + (i + 1) + j = off + i + (j + 1) from by omega]; exact this)]
   simp
theorem lkB_stB {k0 k : Blk} {b : Nat} : ∀ {h : Heap}, lkB h b = some k0 → ∀ b', lkB (stB h b k) b' = if b' = b then some k else lkB h b'
 | [], hk, _ => by simp [lkB] at hk
 | (i, v) :: r, hk, b' => by
   simp only [stB, lkB] at hk ⊢
   cases hi : Nat.beq i b with
   | true =>
     have := beq_of hi; subst this
     simp only [lkB]
     by_cases e : b' = i
     · subst e; simp
     · rw [if_neg e, beq_false (Ne.symm e)]
   | false =>
     simp only [hi] at hk
     simp only [lkB]
     have ih := lkB_stB (k := k) hk b'
     by_cases e : b' = b
     · subst e
       rw [hi, if_pos rfl]
       rw [if_pos rfl] at ih
       exact ih
     · rw [if_neg e] at ih ⊢
       cases Nat.beq i b' <;> simp [ih]
theorem Mem.set {c : Cx} {h : Heap} {F : Nat → Prop} {β : Beta} {Y : Nat → Prop} {w : World} (m : Mem c h F β Y w) {b : Nat} {k0 k : Blk} {l : Loc} {o o' : Obj}
 (hk0 : lkB h b = some k0) (hl : β b = some l) (hlive : live k0 l = true) (hlive' : live k l = true) (_ho : w.heap[l.r]? = some o)
 (hk : Ext w (XX c.Z Y β h) (World.put w l.r o') (XX c.Z Y β h) → (World.put w l.r o').heap[l.r]? = some o' → BlkOK (World.put w l.r o') (XX c.Z Y β h) β k l) :
 Mem c (stB h b k) F β Y (World.put w l.r o') ∧ Ext w (XX c.Z Y β h) (World.put w l.r o') (XX c.Z Y β (stB h b k)) := by
 have hlkB : ∀ b', lkB (stB h b k) b' = if b' = b then some k else lkB h b' := lkB_stB hk0
 have hOwn : ∀ r, Own β (stB h b k) r ↔ Own β h r := by
  intro r
  constructor
  · rintro ⟨b', k', l', h1, h2, h3, h4⟩
    rw [hlkB] at h1
    by_cases e : b' = b
    · subst e
      rw [hl] at h2; cases h2
      exact ⟨b', k0, l, hk0, hl, hlive, h4⟩
    · rw [if_neg e] at h1; exact ⟨b', k', l', h1, h2, h3, h4⟩
  · rintro ⟨b', k', l', h1, h2, h3, h4⟩
    by_cases e : b' = b
    · subst e
      rw [hl] at h2; cases h2
      exact ⟨b', k, l, by rw [hlkB, if_pos rfl], hl, hlive', h4⟩
    · exact ⟨b', k', l', by rw [hlkB, if_neg e]; exact h1, h2, h3, h4⟩
 have hX : XX c.Z Y β (stB h b k) = XX c.Z Y β h := by
  grind [XX]
 have hlr : Own β h l.r := ⟨b, k0, l, hk0, hl, hlive, rfl⟩
 have hxl : XX c.Z Y β h l.r := .inr (.inr hlr)
 have hlt := (m.own _ hlr).1
 have hsame : ∀ r, r ≠ l.r → (World.put w l.r o').heap[r]? = w.heap[r]? := fun r hr => put_ne hr
 have e : Ext w (XX c.Z Y β h) (World.put w l.r o') (XX c.Z Y β h) :=
  ⟨by rw [put_size]; exact Nat.le_refl _, fun r _ hx => hsame r fun er => hx (er ▸ hxl), fun _ _ hx => hx⟩
 rw [hX]
 refine ⟨⟨m.fresh, fun b' k' hk' => ?_, ?_, fun r hr => ?_, fun r hr => ?_, m.zz, ?_, fun r hr hf => ?_, m.os, m.tape, m.output, fun g t hg ht => ?_⟩, e⟩
 · rw [hX]
   rw [hlkB] at hk'
   by_cases eb : b' = b
   · subst eb
     rw [if_pos rfl] at hk'; cases hk'
     exact ⟨l, hl, hk e (put_same hlt)⟩
   · rw [if_neg eb] at hk'
     obtain ⟨l', h1, h2⟩ := m.blk b' k' hk'
     refine ⟨l', h1, ?_⟩
     by_cases el : l'.r = l.r
     · -- another name of the same block: then it is not live, and its block is finished, or it has none
       have hnl : live k' l' = false := by
        cases hlv : live k' l' with
        | false => rfl
        | true => exact absurd (m.inj _ _ _ _ _ _ hk' hk0 h1 hl hlv hlive el) eb
       cases k' with
       | var own v =>
         obtain ⟨cs, ty, lo, hi, g1, g2, g3, g4⟩ := h2
         grind [live]
       | row own sz xs =>
         obtain ⟨g1, g2, g3, g4⟩ := h2
         by_cases hc : l'.cap = 0
         · exact ⟨g1, g2, g3, .inl hc⟩
         · grind [live]
       | gho q s =>
         simp only [live, Bool.not_eq_eq_eq_not, Bool.not_false] at hnl
         exact .inl hnl
       | mp es => simp [live] at hnl
       | tv T v => simp [live] at hnl
       | tr T s =>
         obtain ⟨g1, g2, g3, _⟩ := h2
         exact ⟨g1, g2, g3, .inl (by simpa [live] using hnl)⟩
       | nr v =>
         obtain ⟨g1, g2, _⟩ := h2
         exact ⟨g1, g2, .inl (by simpa [live] using hnl)⟩
     · exact h2.ext e (hsame _ el) (fun _ _ k => k) (fun _ hx => hx)
 · intro b1 b2 k1 k2 l1 l2 h1 h2 h3 h4 h5 h6 h7
   rw [hlkB] at h1 h2
   have conv : ∀ b' k' l', (if b' = b then some k else lkB h b') = some k' → β b' = some l' → live k' l' = true → ∃ k'', lkB h b' = some k'' ∧ live k'' l' = true := by
    grind
   obtain ⟨k1', g1, g2⟩ := conv _ _ _ h1 h3 h5
   obtain ⟨k2', g3, g4⟩ := conv _ _ _ h2 h4 h6
   exact m.inj _ _ _ _ _ _ g1 g3 h3 h4 g2 g4 h7
 · obtain ⟨g1, g2, g3, g4⟩ := m.own r ((hOwn r).1 hr)
   grind [put_size]
 · obtain ⟨g1, g2, g3⟩ := m.yy r hr
   exact ⟨(hsame r fun er => (m.own _ hlr).2.2.1 (er ▸ hr)).trans g1, g2, g3⟩
 · rw [put_size]; exact m.size
 · rw [hsame r]
   · exact m.frame r hr hf
   · rintro rfl
     rcases (m.own _ hlr).2.2.2 with g | g
     · omega
     · exact hf g
 · rw [hX]; exact relP_ext e _ _ (nms_true (fun _ _ k => k) _) (m.gl g t hg ht)
theorem cold_not_live (k : Blk) (l : Loc) : live k.cold l = false := by cases k <;> simp [Blk.cold, live, Blk.dead]
theorem Mem.ice1 {c : Cx} {h : Heap} {F : Nat → Prop} {β : Beta} {Y : Nat → Prop} {w : World} (m : Mem c h F β Y w) {b : Nat} {k0 : Blk} (hk0 : lkB h b = some k0) :
 Mem c (stB h b k0.cold) F β Y w ∧ Ext w (XX c.Z Y β h) w (XX c.Z Y β (stB h b k0.cold)) ∧
  (∀ l, β b = some l → live k0 l = true → ¬ XX c.Z Y β (stB h b k0.cold) l.r) := by
 obtain ⟨l, hl, hok⟩ := m.blk b k0 hk0
 have hlkB := lkB_stB (k := k0.cold) hk0
 have hOwn : ∀ r, Own β (stB h b k0.cold) r → Own β h r ∧ (live k0 l = true → r ≠ l.r) := by
  rintro r ⟨b', k', l', h1, h2, h3, h4⟩
  rw [hlkB] at h1
  by_cases e : b' = b
  · grind [cold_not_live]
  · rw [if_neg e] at h1
    refine ⟨⟨b', k', l', h1, h2, h3, h4⟩, fun hlv er => e ?_⟩
    exact m.inj _ _ _ _ _ _ h1 hk0 h2 hl h3 hlv (h4.trans er)
 have hless : ∀ r, ¬ XX c.Z Y β h r → ¬ XX c.Z Y β (stB h b k0.cold) r := by
  rintro r hx (g | g | g)
  · exact hx (.inl g)
  · exact hx (.inr (.inl g))
  · exact hx (.inr (.inr (hOwn r g).1))
 have hcold : live k0 l = true → ¬ XX c.Z Y β (stB h b k0.cold) l.r := by
  intro hlv
  obtain ⟨g1, g2, g3, g4⟩ := m.own l.r ⟨b, k0, l, hk0, hl, hlv, rfl⟩
  rintro (g | g | g)
  · exact g2 g
  · exact g3 g
  · grind
 have e : Ext w (XX c.Z Y β h) w (XX c.Z Y β (stB h b k0.cold)) := ⟨Nat.le_refl _, fun _ _ _ => rfl, fun r _ hx => hless r hx⟩
 refine ⟨⟨m.fresh, fun b' k' hk' => ?_, ?_, fun r hr => m.own r (hOwn r hr).1, m.yy, m.zz, m.size, m.frame, m.os, m.tape, m.output, fun g t hg ht => ?_⟩, e, ?_⟩
 · rw [hlkB] at hk'
   by_cases eb : b' = b
   · subst eb
     rw [if_pos rfl] at hk'; cases hk'
     refine ⟨l, hl, ?_⟩
     cases k0 with
     | var own v =>
       obtain ⟨cs, ty, lo, hi, g1, g2, g3, g4⟩ := hok
       refine ⟨cs, ty, lo, hi, g1, g2, relP_ext e _ _ (nms_true (fun _ _ k => k) _) g3, fun _ => ?_⟩
       cases own with
       | false => exact hless _ (g4 rfl)
       | true => exact hcold rfl
     | row own sz xs =>
       obtain ⟨g1, g2, g3, g4⟩ := hok
       refine ⟨g1, g2, g3, ?_⟩
       by_cases hc : l.cap = 0
       · exact .inl hc
       · rcases g4 with g4 | ⟨cs, ty, lo, hi, f1, f2, f3, ⟨c1, c2, f4, f5⟩, f6⟩
         · grind
         · refine .inr ⟨cs, ty, lo, hi, f1, f2, f3, ⟨c1, c2, f4, relR_ext e _ _ _ (nmsL_true (fun _ _ k => k) _) f5⟩, fun _ => ?_⟩
           grind [live]
     | gho q s => exact .inl rfl
     | mp es => exact .inl rfl
     | tv T v => exact .inl rfl
     | tr T s => exact .inl rfl
     | nr v => exact .inl rfl
   · rw [if_neg eb] at hk'
     obtain ⟨l', h1, h2⟩ := m.blk b' k' hk'
     exact ⟨l', h1, h2.ext e rfl (fun _ _ k => k) (fun _ hx => hless _ hx)⟩
 · intro b1 b2 k1 k2 l1 l2 h1 h2 h3 h4 h5 h6 h7
   rw [hlkB] at h1 h2
   by_cases e1 : b1 = b
   · grind [cold_not_live]
   · by_cases e2 : b2 = b
     · grind [cold_not_live]
     · rw [if_neg e1] at h1; rw [if_neg e2] at h2
       exact m.inj _ _ _ _ _ _ h1 h2 h3 h4 h5 h6 h7
 · exact relP_ext e _ _ (nms_true (fun _ _ k => k) _) (m.gl g t hg ht)
 · grind
theorem Mem.ice {c : Cx} {F : Nat → Prop} {β : Beta} {Y : Nat → Prop} {w : World} (ns : List Nat) : ∀ {h : Heap}, Mem c h F β Y w →
 Mem c (iceB ns h) F β Y w ∧ Ext w (XX c.Z Y β h) w (XX c.Z Y β (iceB ns h)) ∧
  (∀ b ∈ ns, ∀ k l, lkB h b = some k → β b = some l → live k l = true → ¬ XX c.Z Y β (iceB ns h) l.r) := by
 induction ns with
 | nil => exact fun m => ⟨m, Ext.refl _ _, fun b hb => by cases hb⟩
 | cons b ns ih =>
   intro h m
   simp only [iceB]
   cases hk : lkB h b with
   | none =>
     grind
   | some k0 =>
     obtain ⟨m1, e1, f1⟩ := m.ice1 hk
     obtain ⟨g1, g2, g3⟩ := ih m1
     refine ⟨g1, e1.trans g2, fun b' hb' k l h1 h2 h3 => ?_⟩
     have hlt : l.r < w.heap.size := (m.own l.r ⟨b', k, l, h1, h2, h3, rfl⟩).1
     by_cases e : b' = b
     · subst e
       rw [hk] at h1; cases h1
       exact g2.less _ hlt (f1 l h2 h3)
     · rcases List.mem_cons.1 hb' with e' | e'
       · exact absurd e' e
       · exact g3 b' e' k l (by rw [lkB_stB hk, if_neg e]; exact h1) h2 h3
section
variable {c : Cx} {h : Heap} {F : Nat → Prop} {β : Beta} {Y : Nat → Prop} {w : World} (m : Mem c h F β Y w)
def Cold (h : Heap) (β : Beta) (w : World) (X X' : Nat → Prop) (ns : List Nat) : Prop :=
 (∀ r, r < w.heap.size → ¬ X r → ¬ X' r) ∧ ∀ b ∈ ns, ∀ k l, lkB h b = some k → β b = some l → live k l = true → ¬ X' l.r
theorem Cold.mono {X X' : Nat → Prop} {ns ns' : List Nat} (hc : Cold h β w X X' ns') (hs : ∀ b ∈ ns, b ∈ ns') : Cold h β w X X' ns :=
 ⟨hc.1, fun b hb => hc.2 b (hs b hb)⟩
theorem Cold.ext {X X' : Nat → Prop} {ns : List Nat} (hc : Cold h β w X X' ns) : Ext w X w X' := ⟨Nat.le_refl _, fun _ _ _ => rfl, hc.1⟩
def FrzOK (h : Heap) (β : Beta) (w : World) (X : Nat → Prop) (v v' : SV) (ns' : List Nat) : Prop :=
 ∀ X', Cold h β w X X' ns' → (∀ cs, relP w X v β cs → relP w X' v' nob cs) ∧ (∀ u, relV w X v β u → relV w X' v' nob u) ∧ (∀ u, rel w X v β u → rel w X' v' nob u)
def FrzLOK (h : Heap) (β : Beta) (w : World) (X : Nat → Prop) (l l' : List SV) (ns' : List Nat) : Prop :=
 ∀ X', Cold h β w X X' ns' → (∀ cs, relC w X l β cs → relC w X' l' nob cs) ∧ (∀ us, relL w X l β us → relL w X' l' nob us) ∧ (∀ sz cs, relR w X sz l β cs → relR w X' sz l' nob cs)
theorem frz_leaf {X : Nat → Prop} {v v' : SV} {ns' : List Nat} (ha : v.isAgg = false) (hn : v ≠ .any) (ht : ∀ vs, v ≠ .tup vs) (ha' : v'.isAgg = false) (hn' : v' ≠ .any) (ht' : ∀ vs, v' ≠ .tup vs)
 (hp : ∀ X', Cold h β w X X' ns' → ∀ cs, relP w X v β cs → relP w X' v' nob cs) : FrzOK h β w X v v' ns' := by
 intro X' hc
 refine ⟨hp X' hc, fun u hu => ?_, fun u hu => ?_⟩
 · rw [relV_leaf ha hn] at hu; rw [relV_leaf ha' hn']; exact hp X' hc _ hu
 · rw [rel_eq ht, relV_leaf ha hn] at hu; rw [rel_eq ht', relV_leaf ha' hn']; exact hp X' hc _ hu
theorem frz_self {X : Nat → Prop} {v : SV} {ns' : List Nat} (hn : v.nms fun _ => False) : FrzOK h β w X v v ns' := by
 intro X' hc
 have e := hc.ext
 refine ⟨fun cs hcs => relP_ext e _ _ (nms_mono (fun _ hb => hb.elim) _ hn) hcs, fun u hu => relV_ext e (nms_mono (fun _ hb => hb.elim) _ hn) hu, fun u hu => rel_ext e (nms_mono (fun _ hb => hb.elim) _ hn) hu⟩
theorem frz_row {xs : List SV} {b sz : Nat} {own : Bool} (m : Mem c h F β Y w) (hb : lkB h b = some (.row own sz xs)) {X' : Nat → Prop} {ns : List Nat} (hc : Cold h β w (XX c.Z Y β h) X' ns) (hbn : b ∈ ns) {cs : List Value}
 (hv : relP w (XX c.Z Y β h) (.osl b sz) β cs) : relP w X' (.sl sz xs) nob cs := by
 simp only [relP] at hv ⊢
 obtain ⟨l, a, hl, rfl, ha⟩ := hv
 obtain ⟨l', hl', hok⟩ := m.blk b _ hb
 rw [hl] at hl'; cases hl'
 obtain ⟨g1, g2, g3, g4⟩ := hok
 refine ⟨a, l.cap, by rw [g1], by omega, ?_⟩
 by_cases hcap : l.cap = 0
 · simp_all
 · right
   rcases g4 with g4 | ⟨cs, ty, lo, hi, f1, f2, f3, ⟨c1, c2, f4, f5⟩, f6⟩
   · exact absurd g4 hcap
   · refine ⟨l.r, 0, c1, ha hcap, ?_, heap_lt f1, ?_, relR_ext hc.ext _ _ _ (nmsL_true (fun _ _ k => k) _) f5⟩
     · cases own with
       | false => exact hc.1 _ (heap_lt f1) (f6 rfl)
       | true => exact hc.2 b hbn _ l hb hl (by simp [live, hcap])
     · intro j v hj
       have hjl : j < c1.length := by
        grind
       have : cs[j]? = some v := by
        rw [← Array.getElem?_toList, f4, List.getElem?_append_left hjl]; exact hj
       simp [World.cell?, f1, this]
theorem frz_var {u u' : SV} {b : Nat} {p : List Step} {own : Bool} {v : SV} (m : Mem c h F β Y w) (hb : lkB h b = some (.var own v)) {K : SV → Prop} {X' : Nat → Prop} {ns : List Nat}
 (hn : nav v p fun x => x = u ∧ K x) (hc : Cold h β w (XX c.Z Y β h) X' ns) (hbn : b ∈ ns) (hu : ∀ cs, relP w (XX c.Z Y β h) u β cs → relP w X' u' nob cs) {cs : List Value}
 (hv : relP w (XX c.Z Y β h) (.ptr b p) β cs) : relP w X' (.iptr u') nob cs := by
 simp only [relP] at hv ⊢
 obtain ⟨l, hl, rfl⟩ := hv
 obtain ⟨l', hl', hok⟩ := m.blk b _ hb
 rw [hl] at hl'; cases hl'
 obtain ⟨cs, ty, lo, hi, g1, g2, g3, g4⟩ := hok
 obtain ⟨x, pre, mid, post, ⟨hx, _⟩, h2, h3, h4⟩ := nav_ok p v _ _ hn g3
 subst hx
 refine ⟨l.r, pOff p, mid, rfl, ?_, heap_lt g1, ?_, hu _ h4⟩
 · cases own with
   | false => exact hc.1 _ (heap_lt g1) (g4 rfl)
   | true => exact hc.2 b hbn _ l hb hl rfl
 · intro j y hj
   have hjl : j < mid.length := by
    grind
   have : cs[pOff p + j]? = some y := by
    rw [← Array.getElem?_toList, h2, ← h3, List.append_assoc, List.getElem?_append_right (by omega), List.getElem?_append_left (by omega)]
    grind
   simp [World.cell?, g1, this]
theorem nav_strong : ∀ (p : List Step) (v : SV) (K : SV → Prop), nav v p K → ∃ u, K u ∧ nav v p fun x => x = u ∧ K x
 | [], v, K, h => by
   simp only [nav, frc_eq] at h ⊢
   exact ⟨v, h, rfl, h⟩
 | .fld i off :: p, v, K, h => by
   simp only [nav] at h ⊢
   cases v <;> simp only at h ⊢
   rename_i fs
   cases hb : Nat.beq off (szs (fs.take i)) <;> simp only [hb] at h ⊢
   cases hs : fs[i]? with
   | none => simp only [hs] at h
   | some s => simp only [hs] at h ⊢; exact nav_strong p s K h
 | .idx i sz :: p, v, K, h => by
   simp only [nav] at h ⊢
   cases v <;> simp only at h ⊢
   rename_i n' sz' xs
   cases hb : Nat.beq sz sz' <;> simp only [hb] at h ⊢
   unfold IdxVC at h ⊢
   obtain ⟨s, h0, hs, h⟩ := h
   obtain ⟨u, h1, h2⟩ := nav_strong p s K h
   exact ⟨u, h1, s, h0, hs, h2⟩
mutual
theorem frz_ok (m : Mem c h F β Y w) : ∀ (d : Nat) (v : SV) (ns : List Nat) (K : SV → List Nat → Prop), frz h d v ns K →
 ∃ v' ns', K v' ns' ∧ (∀ b ∈ ns, b ∈ ns') ∧ FrzOK h β w (XX c.Z Y β h) v v' ns'
 | 0, v, ns, K, hf => by simp only [frz] at hf
 | d + 1, v, ns, K, hf => by
   cases v with
   | ptr b p =>
     simp only [frz] at hf
     cases hb : lkB h b with
     | none => simp only [hb] at hf
     | some k =>
       simp only [hb] at hf
       cases k <;> simp only at hf
       rename_i own v0
       obtain ⟨u, hu1, hu2⟩ := nav_strong p v0 _ hf
       obtain ⟨v', ns', h1, h2, h3⟩ := frz_ok m d u (b :: ns) _ hu1
       refine ⟨.iptr v', ns', h1, fun b' hb' => h2 b' (by simp [hb']), ?_⟩
       exact frz_leaf rfl (by simp) (by simp) rfl (by simp) (by simp) fun X' hc cs hv => frz_var m hb hu2 hc (h2 b (by simp)) (h3 X' hc).1 hv
   | osl b sz =>
     simp only [frz] at hf
     cases hb : lkB h b with
     | none => simp only [hb] at hf
     | some k =>
       simp only [hb] at hf
       cases k <;> simp only at hf
       rename_i own sz' xs
       cases hs : Nat.beq sz sz' <;> simp only [hs] at hf
       have := beq_of hs; subst this
       refine ⟨.sl sz xs, b :: ns, hf, fun b' hb' => by simp [hb'], ?_⟩
       exact frz_leaf rfl (by simp) (by simp) rfl (by simp) (by simp) fun X' hc cs hv => frz_row m hb hc (by simp) hv
   | agg fs =>
     simp only [frz] at hf
     obtain ⟨l', ns', h1, h2, h3⟩ := frzL_ok m d fs ns _ hf
     refine ⟨.agg l', ns', h1, h2, fun X' hc => ?_⟩
     have hp : ∀ cs, relP w (XX c.Z Y β h) (.agg fs) β cs → relP w X' (.agg l') nob cs := fun cs hcs => by
      simp only [relP] at hcs ⊢; exact (h3 X' hc).1 cs hcs
     have hv : ∀ u, relV w (XX c.Z Y β h) (.agg fs) β u → relV w X' (.agg l') nob u := by
      rintro u ⟨cs, g1, g2⟩; exact ⟨cs, g1, hp _ g2⟩
     exact ⟨hp, hv, hv⟩
   | tup fs =>
     simp only [frz] at hf
     obtain ⟨l', ns', h1, h2, h3⟩ := frzL_ok m d fs ns _ hf
     refine ⟨.tup l', ns', h1, h2, fun X' hc => ⟨fun cs hcs => ?_, fun u hu => ?_, ?_⟩⟩
     · simp only [relP] at hcs
     · simp only [relV, SV.isAgg, relP] at hu
     · rintro u ⟨us, g1, g2⟩; exact ⟨us, g1, (h3 X' hc).2.1 _ g2⟩
   | fn f cs =>
     simp only [frz] at hf
     obtain ⟨l', ns', h1, h2, h3⟩ := frzL_ok m d cs ns _ hf
     refine ⟨.fn f l', ns', h1, h2, ?_⟩
     refine frz_leaf rfl (by simp) (by simp) rfl (by simp) (by simp) fun X' hc cs hv => ?_
     simp only [relP] at hv ⊢
     obtain ⟨us, g1, g2⟩ := hv
     exact ⟨us, g1, (h3 X' hc).2.1 _ g2⟩
   | ifc f cs =>
     simp only [frz] at hf
     obtain ⟨l', ns', h1, h2, h3⟩ := frzL_ok m d cs ns _ hf
     refine ⟨.ifc f l', ns', h1, h2, ?_⟩
     refine frz_leaf rfl (by simp) (by simp) rfl (by simp) (by simp) fun X' hc cs hv => ?_
     simp only [relP] at hv ⊢
     obtain ⟨us, g1, g2⟩ := hv
     exact ⟨us, g1, (h3 X' hc).2.1 _ g2⟩
   | yld b => simp only [frz] at hf
   | mpr b => simp only [frz] at hf
   | vsl b p n => simp only [frz] at hf
   | any | int _ _ | bool _ | tru | fls | str _ | arr _ _ _ | sl _ _ | mt | nils | iptr _ | nilf | nilp | nili =>
     simp only [frz, frc_eq] at hf
     exact ⟨_, ns, hf, fun _ hb => hb, frz_self trivial⟩
theorem frzL_ok (m : Mem c h F β Y w) : ∀ (d : Nat) (l : List SV) (ns : List Nat) (K : List SV → List Nat → Prop), frzL h d l ns K →
 ∃ l' ns', K l' ns' ∧ (∀ b ∈ ns, b ∈ ns') ∧ FrzLOK h β w (XX c.Z Y β h) l l' ns'
 | 0, l, ns, K, hf => by simp only [frzL] at hf
 | d + 1, [], ns, K, hf => by
   simp only [frzL] at hf
   refine ⟨[], ns, hf, fun _ hb => hb, fun X' hc => ⟨fun cs h => ?_, fun us h => ?_, fun sz cs h => ?_⟩⟩
   · rw [relC_nil] at h ⊢; exact h
   · rw [relL_nil] at h ⊢; exact h
   · rw [relR_nil] at h ⊢; exact h
 | d + 1, v :: r, ns, K, hf => by
   simp only [frzL] at hf
   obtain ⟨v', ns1, h1, h2, h3⟩ := frz_ok m d v ns _ hf
   obtain ⟨r', ns2, k1, k2, k3⟩ := frzL_ok m d r ns1 _ h1
   refine ⟨v' :: r', ns2, k1, fun b hb => k2 b (h2 b hb), fun X' hc => ?_⟩
   have hv := h3 X' (hc.mono k2)
   have hr := k3 X' hc
   refine ⟨fun cs h => ?_, fun us h => ?_, fun sz cs h => ?_⟩
   · rw [relC_cons] at h ⊢
     obtain ⟨c1, c2, g1, g2, g3⟩ := h
     exact ⟨c1, c2, g1, hv.1 _ g2, hr.1 _ g3⟩
   · rw [relL_cons] at h ⊢
     obtain ⟨u, us', g1, g2, g3⟩ := h
     exact ⟨u, us', g1, hv.2.1 _ g2, hr.2.1 _ g3⟩
   · rw [relR_cons] at h ⊢
     obtain ⟨c1, c2, g1, g0, g2, g3⟩ := h
     exact ⟨c1, c2, g1, g0, hv.1 _ g2, hr.2.2 _ _ g3⟩
end
end
theorem Mem.cold {c : Cx} {h : Heap} {F : Nat → Prop} {β : Beta} {Y : Nat → Prop} {w : World} (m : Mem c h F β Y w) (ns : List Nat) : Cold h β w (XX c.Z Y β h) (XX c.Z Y β (iceB ns h)) ns :=
 ⟨(m.ice ns).2.1.less, (m.ice ns).2.2⟩
theorem lk_killS {b : Nat} : ∀ (sl : Slots) (t : Nat), lk (killS b sl) t = (lk sl t).kill b
 | [], _ => rfl
 | (i, v) :: r, t => by
   simp only [killS, lk]
   cases Nat.beq i t with
   | true => rfl
   | false => exact lk_killS r t
theorem lkB_killH {b : Nat} : ∀ (h : Heap) (b' : Nat), lkB (killH b h) b' = (lkB h b').map fun | .var o v => .var o (v.kill b) | .row o s x => .row o s x | .gho q s => .gho q (killS b s) | .mp es => .mp es | .tv T v => .tv T (v.kill b) | .tr T s => .tr T s | .nr v => .nr (v.kill b)
 | [], _ => rfl
 | (i, .var o v) :: r, b' => by simp only [killH, lkB]; cases Nat.beq i b' <;> simp [lkB_killH r b']
 | (i, .row o s x) :: r, b' => by simp only [killH, lkB]; cases Nat.beq i b' <;> simp [lkB_killH r b']
 | (i, .gho q s) :: r, b' => by simp only [killH, lkB]; cases Nat.beq i b' <;> simp [lkB_killH r b']
 | (i, .mp es) :: r, b' => by simp only [killH, lkB]; cases Nat.beq i b' <;> simp [lkB_killH r b']
 | (i, .tv T v) :: r, b' => by simp only [killH, lkB]; cases Nat.beq i b' <;> simp [lkB_killH r b']
 | (i, .tr T s) :: r, b' => by simp only [killH, lkB]; cases Nat.beq i b' <;> simp [lkB_killH r b']
 | (i, .nr v) :: r, b' => by simp only [killH, lkB]; cases Nat.beq i b' <;> simp [lkB_killH r b']
mutual
theorem sz_kill (b : Nat) : ∀ v : SV, (v.kill b).sz = v.sz
 | .ptr c p => by simp only [SV.kill]; split <;> rfl
 | .osl c p => by simp only [SV.kill]; split <;> rfl
 | .yld c => by simp only [SV.kill]; split <;> rfl
 | .mpr c => by simp only [SV.kill]; split <;> rfl
 | .vsl c p n => by simp only [SV.kill]; split <;> rfl
 | .agg fs => by simp only [SV.kill, SV.sz]; exact szs_killL b fs
 | .tup _ | .fn .. | .ifc .. | .any | .int .. | .bool _ | .tru | .fls | .str _ | .arr .. | .sl .. | .mt | .nils | .iptr _ | .nilf | .nilp | .nili => rfl
theorem szs_killL (b : Nat) : ∀ l : List SV, szs (killL b l) = szs l
 | [] => rfl
 | v :: r => by simp only [killL, szs, sz_kill b v, szs_killL b r]
end
theorem live_gho {q : Lp} {s : Slots} {l : Loc} (h : ¬ q.dead = true) : live (.gho q s) l = true := by simpa [live] using h
theorem Mem.appK {c : Cx} {h : Heap} {F : Nat → Prop} {β : Beta} {Y : Nat → Prop} {w w' : World} (m : Mem c h F β Y w) {b : Nat} {k0 kN : Blk} {l l' : Loc}
 (hk0 : lkB h b = some k0) (hl : β b = some l) (hlv0 : ∀ l, live k0 l = (l.cap != 0)) (hlN : ∀ l, live kN l = (l.cap != 0)) (hx0 : ∃ k2, lkB (killH b h) b = some k2)
 (hsize : w.heap.size ≤ w'.heap.size) (hos : w'.os = w.os) (htape : w'.tape = w.tape) (hout : w'.output = w.output)
 (hsame : ∀ r, r < w.heap.size → ¬ (l.cap ≠ 0 ∧ r = l.r) → w'.heap[r]? = w.heap[r]?)
 (hl' : l'.cap ≠ 0 → (l'.r = l.r ∧ l.cap ≠ 0) ∨ (w.heap.size ≤ l'.r ∧ l'.r < w'.heap.size))
 (hk : ∀ X', Ext w (XX c.Z Y β h) w' X' → BlkOK w' X' (setβ β b l') kN l') :
 Mem c (stB (killH b h) b kN) F (setβ β b l') Y w' ∧ Ext w (XX c.Z Y β h) w' (XX c.Z Y (setβ β b l') (stB (killH b h) b kN)) := by
 obtain ⟨k2, hk1⟩ := hx0
 have hlkB := lkB_stB (k := kN) hk1
 have hconv : ∀ b' k', b' ≠ b → lkB (stB (killH b h) b kN) b' = some k' → ∃ k'', lkB h b' = some k'' ∧ (∀ l, live k' l = live k'' l) ∧
  (k' = match k'' with | .var o v => .var o (v.kill b) | .row o s x => .row o s x | .gho q s => .gho q (killS b s) | .mp es => .mp es | .tv T v => .tv T (v.kill b) | .tr T s => .tr T s | .nr v => .nr (v.kill b)) := by
  intro b' k' e hk'
  rw [hlkB, if_neg e, lkB_killH] at hk'
  cases hh : lkB h b' with
  | none => rw [hh] at hk'; cases hk'
  | some k'' =>
    rw [hh] at hk'
    refine ⟨k'', rfl, ?_, ?_⟩
    · cases k'' <;> cases hk' <;> intro l <;> rfl
    · grind
 have hnb : ¬ F b := fun g => by rw [m.fresh b g] at hl; cases hl
 have hlt : l.cap ≠ 0 → Own β h l.r := fun hc => ⟨b, _, l, hk0, hl, by rw [hlv0]; simp [hc], rfl⟩
 have hOwn : ∀ r, Own (setβ β b l') (stB (killH b h) b kN) r → Own β h r ∨ (w.heap.size ≤ r ∧ r < w'.heap.size) := by
  rintro r ⟨b', k', l'', h1, h2, h3, h4⟩
  by_cases e : b' = b
  · subst e
    rw [setβ_same] at h2; cases h2
    grind
  · obtain ⟨k'', g1, g2, _⟩ := hconv b' k' e h1
    rw [setβ_ne e] at h2
    exact .inl ⟨b', k'', l'', g1, h2, (g2 l'').symm.trans h3, h4⟩
 have hnx : ∀ r, ¬ XX c.Z Y β h r → ¬ (l.cap ≠ 0 ∧ r = l.r) := fun r hx ⟨hc, hr⟩ => hx (.inr (.inr (hr ▸ hlt hc)))
 have e : Ext w (XX c.Z Y β h) w' (XX c.Z Y (setβ β b l') (stB (killH b h) b kN)) := by
  refine ⟨hsize, fun r hr hx => hsame r hr (hnx r hx), fun r hr hx => ?_⟩
  rintro (g | g | g)
  · exact hx (.inl g)
  · exact hx (.inr (.inl g))
  · rcases hOwn r g with g | g
    · exact hx (.inr (.inr g))
    · omega
 have hβk : ∀ v : SV, (v.kill b).nms fun b' => ∀ l, β b' = some l → setβ β b l' b' = some l := killP fun b' l hb' hl => by rw [setβ_ne hb']; exact hl
 have hnotmine : ∀ b' k' l'', b' ≠ b → lkB h b' = some k' → β b' = some l'' → live k' l'' = true → ¬ (l.cap ≠ 0 ∧ l''.r = l.r) := by
  rintro b' k' l'' e h1 h2 h3 ⟨hc, hr⟩
  exact e (m.inj _ _ _ _ _ _ h1 hk0 h2 hl h3 (by rw [hlv0]; simp [hc]) hr)
 refine ⟨⟨fun b' hb' => ?_, fun b' k' hk' => ?_, ?_, fun r hr => ?_, fun r hr => ?_, m.zz, Nat.le_trans m.size hsize, fun r hr hf => ?_, hos.trans m.os, htape.trans m.tape, ⟨hout.trans m.output.1, m.output.2⟩, fun g t hg ht => ?_⟩, e⟩
 · rw [setβ_ne (fun e : b' = b => hnb (e ▸ hb'))]; exact m.fresh b' hb'
 · by_cases eb : b' = b
   · subst eb
     rw [hlkB, if_pos rfl] at hk'; cases hk'
     exact ⟨l', setβ_same .., hk _ e⟩
   · obtain ⟨k'', g1, g2, g3⟩ := hconv b' k' eb hk'
     obtain ⟨l'', h1, h2⟩ := m.blk b' k'' g1
     refine ⟨l'', by rw [setβ_ne eb]; exact h1, ?_⟩
     subst g3
     have hst : l''.r < w.heap.size → live k'' l'' = true ∨ ¬ XX c.Z Y β h l''.r → w'.heap[l''.r]? = w.heap[l''.r]? := by
      grind
     cases k'' with
     | var own v =>
       obtain ⟨cs, ty, lo, hi, f1, f2, f3, f4⟩ := h2
       refine ⟨cs, ty, lo, hi, ?_, f2, relP_ext e _ _ (hβk v) (relP_kill b _ _ f3), fun ho => e.less _ (heap_lt f1) (f4 ho)⟩
       rw [hst (heap_lt f1)]
       · exact f1
       · cases own with
         | true => exact .inl rfl
         | false => exact .inr (f4 rfl)
     | row own sz' xs' =>
       obtain ⟨f1, f2, f3, f4⟩ := h2
       refine ⟨f1, f2, f3, ?_⟩
       by_cases hc : l''.cap = 0
       · exact .inl hc
       · rcases f4 with f4 | ⟨cs, ty, lo, hi, d1, d2, d3, ⟨c1, c2, d4, d5⟩, d6⟩
         · grind
         · refine .inr ⟨cs, ty, lo, hi, ?_, d2, d3, ⟨c1, c2, d4, relR_ext e _ _ _ (nmsL_true (fun _ _ k => k) _) d5⟩, fun ho => e.less _ (heap_lt d1) (d6 ho)⟩
           grind [live]
     | gho q s =>
       rcases h2 with h2 | ⟨fn, tmps, D, d1, d2, d3⟩
       · exact .inl h2
       by_cases hx : q.dead = true
       · exact .inl hx
       refine .inr ⟨fn, tmps, D, ?_, d2, fun t ht => ?_⟩
       · rw [hst (heap_lt d1) (.inl (live_gho hx))]; exact d1
       · rw [lk_killS]; exact rel_ext e (hβk _) (rel_kill b (d3 t ht))
     | mp es =>
       obtain ⟨ms, clock, d1, d2⟩ := h2
       exact ⟨ms, clock, by rw [hst (heap_lt d1) (.inl rfl)]; exact d1, d2⟩
     | tv T v =>
       obtain ⟨cs, d1, d2⟩ := h2
       exact ⟨cs, by rw [hst (heap_lt d1) (.inl rfl)]; exact d1, relP_ext e _ _ (hβk v) (relP_kill b _ _ d2)⟩
     | tr T s =>
       obtain ⟨f1, f2, f3, f4⟩ := h2
       refine ⟨f1, f2, f3, ?_⟩
       grind [live]
     | nr v =>
       obtain ⟨f1, f2, f3⟩ := h2
       refine ⟨f1.trans (sz_kill b v).symm, f2, ?_⟩
       by_cases hc : l''.cap = 0
       · exact .inl hc
       · rcases f3 with f3 | ⟨cs, ty, lo, hi, d1, d2, d3, c1, c2, d4, d5⟩
         · exact .inl f3
         · exact .inr ⟨cs, ty, lo, hi, by rw [hst (heap_lt d1) (.inl (by simp [live, hc]))]; exact d1, d2, d3, c1, c2, d4, relP_ext e _ _ (hβk v) (relP_kill b _ _ d5)⟩
 · intro b1 b2 k1 k2 l1 l2 h1 h2 h3 h4 h5 h6 h7
   by_cases e1 : b1 = b
   · by_cases e2 : b2 = b
     · grind
     · subst e1
       rw [setβ_same] at h3; cases h3
       rw [hlkB, if_pos rfl] at h1; cases h1
       have hc : l'.cap ≠ 0 := by rw [hlN] at h5; simpa using h5
       obtain ⟨k'', g1, g2, _⟩ := hconv b2 k2 e2 h2
       rw [setβ_ne e2] at h4
       have hlv : live k'' l2 = true := (g2 l2).symm.trans h6
       rcases hl' hc with ⟨f1, f2⟩ | ⟨f1, f2⟩
       · grind
       · have := (m.own l2.r ⟨b2, k'', l2, g1, h4, hlv, rfl⟩).1
         omega
   · obtain ⟨k1', g1, g2, _⟩ := hconv b1 k1 e1 h1
     rw [setβ_ne e1] at h3
     have hlv1 : live k1' l1 = true := (g2 l1).symm.trans h5
     by_cases e2 : b2 = b
     · subst e2
       rw [setβ_same] at h4; cases h4
       rw [hlkB, if_pos rfl] at h2; cases h2
       have hc : l'.cap ≠ 0 := by rw [hlN] at h6; simpa using h6
       rcases hl' hc with ⟨f1, f2⟩ | ⟨f1, f2⟩
       · grind
       · have := (m.own l1.r ⟨b1, k1', l1, g1, h3, hlv1, rfl⟩).1
         omega
     · obtain ⟨k2', g3, g4, _⟩ := hconv b2 k2 e2 h2
       rw [setβ_ne e2] at h4
       exact m.inj _ _ _ _ _ _ g1 g3 h3 h4 hlv1 ((g4 l2).symm.trans h6) h7
 · rcases hOwn r hr with g | g
   · obtain ⟨g1, g2, g3, g4⟩ := m.own r g
     grind
   · refine ⟨g.2, fun hz => ?_, fun hy => ?_, .inl (Nat.le_trans m.size g.1)⟩
     · have := (m.zz _ hz).1; have := m.size; omega
     · have := heap_lt (m.yy _ hy).1; omega
 · obtain ⟨g1, g2, g3⟩ := m.yy r hr
   exact ⟨(hsame r (heap_lt g1) fun ⟨hc, er⟩ => (m.own _ (hlt hc)).2.2.1 (er ▸ hr)).trans g1, g2, g3⟩
 · rw [hsame r (Nat.lt_of_lt_of_le hr m.size)]
   · exact m.frame r hr hf
   · rintro ⟨hc, rfl⟩
     rcases (m.own _ (hlt hc)).2.2.2 with g | g
     · omega
     · exact hf g
 · exact relP_ext e _ _ (nms_true (fun _ _ k => k) _) (m.gl g t hg ht)
theorem Mem.app {c : Cx} {h : Heap} {F : Nat → Prop} {β : Beta} {Y : Nat → Prop} {w w' : World} (m : Mem c h F β Y w) {b sz : Nat} {xs ys : List SV} {l l' : Loc}
 (hk0 : lkB h b = some (.row true sz xs)) (hl : β b = some l)
 (hsize : w.heap.size ≤ w'.heap.size) (hos : w'.os = w.os) (htape : w'.tape = w.tape) (hout : w'.output = w.output)
 (hsame : ∀ r, r < w.heap.size → ¬ (l.cap ≠ 0 ∧ r = l.r) → w'.heap[r]? = w.heap[r]?)
 (hl' : l'.cap ≠ 0 → (l'.r = l.r ∧ l.cap ≠ 0) ∨ (w.heap.size ≤ l'.r ∧ l'.r < w'.heap.size))
 (hk : ∀ X', Ext w (XX c.Z Y β h) w' X' → BlkOK w' X' (setβ β b l') (.row true sz ys) l') :
 Mem c (stB (killH b h) b (.row true sz ys)) F (setβ β b l') Y w' ∧ Ext w (XX c.Z Y β h) w' (XX c.Z Y (setβ β b l') (stB (killH b h) b (.row true sz ys))) :=
 m.appK hk0 hl (fun _ => by simp [live]) (fun _ => by simp [live]) ⟨_, by rw [lkB_killH, hk0]; rfl⟩ hsize hos htape hout hsame hl' hk
mutual
theorem undr_nms {n : Nat} : ∀ v : SV, v.undr n = true → v.nms (· < n)
 | .ptr b _, h => by simp only [SV.undr, Nat.blt_eq] at h; exact h
 | .osl b _, h => by simp only [SV.undr, Nat.blt_eq] at h; exact h
 | .yld b, h => by simp only [SV.undr, Nat.blt_eq] at h; exact h
 | .mpr b, h => by simp only [SV.undr, Nat.blt_eq] at h; exact h
 | .vsl b _ _, h => by simp only [SV.undr, Nat.blt_eq] at h; exact h
 | .agg fs, h => undrL_nms fs h
 | .tup fs, h => undrL_nms fs h
 | .fn _ fs, h => undrL_nms fs h
 | .ifc _ fs, h => undrL_nms fs h
 | .any, _ | .int .., _ | .bool _, _ | .tru, _ | .fls, _ | .str _, _ | .arr .., _ | .sl .., _ | .mt, _ | .nils, _ | .iptr _, _ | .nilf, _ | .nilp, _ | .nili, _ => trivial
theorem undrL_nms {n : Nat} : ∀ l : List SV, undrL n l = true → nmsL (· < n) l
 | [], _ => trivial
 | v :: r, h => by
   simp only [undrL] at h
   cases hv : v.undr n <;> simp only [hv] at h
   · cases h
   · exact ⟨undr_nms v hv, undrL_nms r h⟩
end
def slotv (c : Cx) (a : Act) (t : Nat) : Value := if t ≤ 999999 then a.tmps.getD t undef else c.sh (t - 1000000)
def SlotsOK (c : Cx) (sl : Slots) (h : Heap) (β : Beta) (Y : Nat → Prop) (w : World) (a : Act) : Prop :=
 a.tmps.size ≤ 1000000 ∧ ∀ t, rel w (XX c.Z Y β h) (lk sl t) β (slotv c a t)
theorem rel_any {w : World} {X : Nat → Prop} {β : Beta} {u : Value} : rel w X .any β u := trivial
open Go.RowKit (Below)
def aggT : TD → Bool
 | .strct _ | .arr .. => true
 | _ => false
structure TIok (P : Program) (T : TypeId) (ti : TI) : Prop where
 info : ∃ i, P.info? T = some i ∧ i.size = ti.size ∧ i.bytes = ti.bytes ∧ (ti.zero ≠ .any → ∃ z, i.zero = some z ∧ ∀ w X, relV w X ti.zero nob z)
 desc : match ti.d with
  | .int k => P.underlying T = some (.int k)
  | .bool => P.underlying T = some .bool
  | .str => P.underlying T = some .string
  | .fn => ∃ ps rs v, P.underlying T = some (.func ps rs v)
  | .ptr e => P.underlying T = some (.pointer e)
  | .ifc => ∃ ms, P.underlying T = some (.interface ms)
  | .strct fs => ∃ F, P.underlying T = some (.struct F) ∧ F.toList.map (fun f => (f.type, f.offset)) = fs ∧ (ti.cmp = true → (∀ f ∈ F.toList, (f.name != "_") = true) ∧ P.stoodInHeld T = false ∧ P.eqGuardType P.depth T = false)
  | .arr n e => P.underlying T = some (.array n e) ∧ (ti.cmp = true → P.eqGuardType P.depth T = false)
  | .sl e => P.underlying T = some (.slice e)
  | .mp k e => P.underlying T = some (.map k e)
  | .other => True
structure EnvOK (E : Env) : Prop where
 tt' : ∀ T, (lkT E.tt T).d ≠ .other ∨ (lkT E.tt T).size ≠ 0 ∨ (lkT E.tt T).zero ≠ .any → TIok E.P T (lkT E.tt T)
 mixed : E.P.follows .mixedOrders = true
 idf : ∀ f, memb f E.idf = true → Callable E.P f ∧ ∀ (w : World) (u : Value), Calls E.P f #[u] w fun e w' => e = .returned u ∧ Below w.heap.size w w'
 fsz : ∀ f fn, E.P.funcs[f]? = some fn → f < 1000000
 mt : ∀ T name f, lkM E.mt T name = some f → ∀ (w : World) (v : Value), (method (E.P.types.size + Made.depth) T v name).run E.P w = .ok (f, v) w
theorem EnvOK.tt {E : Env} (ok : EnvOK E) (T : TypeId) (h : (lkT E.tt T).d ≠ .other) : TIok E.P T (lkT E.tt T) := ok.tt' T (.inl h)
theorem EnvOK.ts {E : Env} (ok : EnvOK E) (T : TypeId) (h : (lkT E.tt T).size ≠ 0) : TIok E.P T (lkT E.tt T) := ok.tt' T (.inr (.inl h))
theorem EnvOK.tz {E : Env} (ok : EnvOK E) (T : TypeId) (h : (lkT E.tt T).zero ≠ .any) : TIok E.P T (lkT E.tt T) := ok.tt' T (.inr (.inr h))
def hE (ns : List Nat) (ea : EA) (h : Heap) (n : Nat) : Heap :=
 match ea with
 | .nil => iceB ns h
 | .new k => (n, k) :: iceB ns h
 | .set b k => stB (iceB ns h) b k
 | .app b k => stB (killH b (iceB ns h)) b k
def nE (ea : EA) (n : Nat) : Nat := match ea with | .new _ => n + 1 | _ => n
def FE (ea : EA) (n : Nat) (F : Nat → Prop) : Nat → Prop := match ea with | .new _ => rmF F n | _ => F
def kE (ea : EA) (v : SV) : SV := match ea with | .app b _ => v.kill b | _ => v
structure Res (c : Cx) (h : Heap) (n : Nat) (F : Nat → Prop) (β : Beta) (Y : Nat → Prop) (w : World) (v : SV) (ns : List Nat) (ea : EA) (u : Value) (w' : World) (β' : Beta) : Prop where
 mem : Mem c (hE ns ea h n) (FE ea n F) β' Y w'
 val : rel w' (XX c.Z Y β' (hE ns ea h n)) v β' u
 keep : ∀ v0 u0, rel w (XX c.Z Y β h) v0 β u0 → rel w' (XX c.Z Y β' (hE ns ea h n)) (kE ea v0) β' u0
def OpOK (c : Cx) (o : Oper) (a : Act) (h : Heap) (n : Nat) (F : Nat → Prop) (β : Beta) (Y : Nat → Prop) (w : World) (v : SV) (ns : List Nat) (ea : EA) : Prop :=
 ∀ (next : Act → World → Prop) (Q : Exit → Act → World → Prop), (∀ u w' β', Res c h n F β Y w v ns ea u w' β' → next (a.put o.dst u) w') → o.upon c.E.P a next Q ((execOp a.eval o).run c.E.P w)
section
variable {c : Cx} {o : Oper} {a : Act} {sl : Slots} {h : Heap} {n : Nat} {F : Nat → Prop} {β : Beta} {Y : Nat → Prop} {w : World}
theorem Res.nil (m : Mem c h F β Y w) {v : SV} {u : Value} (hv : rel w (XX c.Z Y β h) v β u) : Res c h n F β Y w v [] .nil u w β :=
 ⟨m, hv, fun _ _ h => h⟩
theorem OpOK.value {v : SV} {ns : List Nat} {ea : EA} {u : Value} {w' : World} {β' : Beta} (hr : (execOp a.eval o).run c.E.P w = .ok (.value u) w') (hres : Res c h n F β Y w v ns ea u w' β') : OpOK c o a h n F β Y w v ns ea := by
 intro next Q hn
 rw [hr]
 exact hn u w' β' hres
theorem OpOK.skip {v : SV} {ns : List Nat} {ea : EA} {w' : World} {β' : Beta} (hr : (execOp a.eval o).run c.E.P w = .ok .skip w') (hres : Res c h n F β Y w v ns ea undef w' β') : OpOK c o a h n F β Y w v ns ea := by
 intro next Q hn
 rw [hr]
 exact hn undef w' β' hres
theorem OpOK.pure (m : Mem c h F β Y w) {v : SV} {u : Value} (hr : (execOp a.eval o).run c.E.P w = .ok (.value u) w) (hv : rel w (XX c.Z Y β h) v β u) : OpOK c o a h n F β Y w v [] .nil :=
 .value hr (.nil m hv)
theorem TIok.sz {P : Program} {T : TypeId} {ti : TI} (t : TIok P T ti) (w : World) : (sizeOf T).run P w = .ok ti.size w := by
 obtain ⟨i, h1, h2, _⟩ := t.info
 simp [sizeOf, typeInfo, h1, h2]
theorem rel_of_relP {X : Nat → Prop} {v : SV} {u : Value} (ha : v.isAgg = false) (hp : relP w X v β [u]) : rel w X v β u := by
 cases v <;> first | exact hp | exact trivial | (simp only [relP] at hp; done) | cases ha
theorem relP_of_rel {X : Nat → Prop} {v : SV} {u : Value} (ha : v.isAgg = false) (hn : v ≠ .any) (ht : ∀ vs, v ≠ .tup vs) (hp : rel w X v β u) : relP w X v β [u] := by
 rw [rel_eq ht, relV_leaf ha hn] at hp; exact hp
theorem rel_agg {X : Nat → Prop} {v : SV} {u : Value} (ha : v.isAgg = true) : rel w X v β u ↔ ∃ cs, u = .agg cs ∧ relP w X v β cs.toList := by
 rw [rel_eq (by rintro vs rfl; cases ha)]
 unfold relV
 simp only [ha]
theorem rel_cells {X : Nat → Prop} {v : SV} {u : Value} (hn : v ≠ .any) (ht : ∀ vs, v ≠ .tup vs) (hp : rel w X v β u) : relP w X v β u.cells.toList := by
 cases ha : v.isAgg with
 | true => obtain ⟨cs, rfl, h2⟩ := (rel_agg ha).1 hp; exact h2
 | false =>
   have h2 := relP_of_rel ha hn ht hp
   have h1 := relP_one _ _ h2 u (by simp)
   have : u.cells = #[u] := by cases u <;> first | rfl | cases h1
   rw [this]; exact h2
theorem ofVal_ok {X : Nat → Prop} (v : Value) : rel w X (ofVal v) β v := by
 cases v with
 | int k n => exact (rfl : [Value.int k n] = _)
 | bool b => cases b <;> exact (rfl : [_] = _)
 | string s => exact (rfl : [_] = _)
 | pointer a => cases a <;> first | exact (rfl : [_] = _) | exact trivial
 | slice a l cap =>
   cases a with
   | some a => exact trivial
   | none =>
     cases l with
     | succ l => exact trivial
     | zero => cases cap with
       | succ _ => exact trivial
       | zero => exact (rfl : [_] = _)
 | nilFunc => exact (rfl : [_] = _)
 | nilIface => exact (rfl : [_] = _)
 | _ => exact trivial
theorem ev_ok (m : Mem c h F β Y w) (hs : SlotsOK c sl h β Y w a) (x : Operand) : rel w (XX c.Z Y β h) (ev c.E sl x) β (a.eval x) := by
 cases x with
 | tmp t =>
   simp only [ev]
   split
   · rename_i e
     have := hs.2 t
     unfold slotv at this
     rw [if_pos (by rw [← Nat.ble_eq]; exact e)] at this
     exact this
   · exact trivial
 | const v => exact ofVal_ok v
 | global g =>
   simp only [ev]
   split
   · exact trivial
   · rename_i t ht
     have := m.gl g _ rfl ht
     exact rel_of_relP rfl (relP_of_nob this)
 | func f =>
   simp only [ev]
   split
   · rename_i e; exact rel_of_relP rfl ⟨#[], by rw [fnV_lo (ble_lt e)]; rfl, by simp [relL_nil]⟩
   · exact trivial
end
open Go.RowKit (Below)
section
variable {c : Cx} {o : Oper} {a : Act} {sl : Slots} {h : Heap} {n : Nat} {F : Nat → Prop} {β : Beta} {Y : Nat → Prop} {w : World}
theorem run_val {P : Program} {s : Sem Value} {u : Value} {w w' : World} (h : s.run P w = .ok u w') : (do pure (Next.value (← s)) : Sem Next).run P w = .ok (.value u) w' := by simp [h]
theorem relP_int {X : Nat → Prop} {k : IntKind} {m : Int} {u : Value} : rel w X (.int k m) β u ↔ u = .int k m := by
 constructor
 · intro h; have := relP_of_rel rfl (by simp) (by simp) h; simpa [relP] using this
 · rintro rfl; exact (rfl : [_] = _)
theorem rel_bool {X : Nat → Prop} {b : Bool} {u : Value} : rel w X (.bool b) β u ↔ u = .bool b := by
 constructor
 · intro h; have := relP_of_rel rfl (by simp) (by simp) h; simpa [relP] using this
 · rintro rfl; exact (rfl : [_] = _)
theorem rel_tru {X : Nat → Prop} {u : Value} : rel w X .tru β u ↔ u = .bool true := by
 constructor
 · intro h; have := relP_of_rel rfl (by simp) (by simp) h; simpa [relP] using this
 · rintro rfl; exact (rfl : [_] = _)
theorem rel_fls {X : Nat → Prop} {u : Value} : rel w X .fls β u ↔ u = .bool false := by
 constructor
 · intro h; have := relP_of_rel rfl (by simp) (by simp) h; simpa [relP] using this
 · rintro rfl; exact (rfl : [_] = _)
theorem rel_str {X : Nat → Prop} {s : List UInt8} {u : Value} : rel w X (.str s) β u ↔ u = .string ⟨s.toArray⟩ := by
 constructor
 · intro h; have := relP_of_rel rfl (by simp) (by simp) h; simpa [relP] using this
 · rintro rfl; exact (rfl : [_] = _)
theorem rel_nils {X : Nat → Prop} {u : Value} : rel w X .nils β u ↔ u = .slice none 0 0 := by
 constructor
 · intro h; have := relP_of_rel rfl (by simp) (by simp) h; simpa [relP] using this
 · rintro rfl; exact (rfl : [_] = _)
theorem rel_mt {X : Nat → Prop} {u : Value} : rel w X .mt β u ↔ ∃ a, u = .slice a 0 0 := by
 constructor
 · intro h; have := relP_of_rel rfl (by simp) (by simp) h; simpa [relP] using this
 · rintro ⟨a, rfl⟩; exact ⟨a, rfl⟩
theorem rel_nilf {X : Nat → Prop} {u : Value} : rel w X .nilf β u ↔ u = .nilFunc := by
 constructor
 · intro h; have := relP_of_rel rfl (by simp) (by simp) h; simpa [relP] using this
 · rintro rfl; exact (rfl : [_] = _)
theorem rel_nilp {X : Nat → Prop} {u : Value} : rel w X .nilp β u ↔ u = .pointer none := by
 constructor
 · intro h; have := relP_of_rel rfl (by simp) (by simp) h; simpa [relP] using this
 · rintro rfl; exact (rfl : [_] = _)
theorem rel_iptr {X : Nat → Prop} {t : SV} {u : Value} : rel w X (.iptr t) β u ↔ ∃ b off ds, u = .pointer (some ⟨b, off, none⟩) ∧ ¬ X b ∧ b < w.heap.size ∧ cellsAt w b off ds ∧ relP w X t nob ds := by
 constructor
 · intro h; have := relP_of_rel rfl (by simp) (by simp) h; simpa [relP] using this
 · rintro ⟨b, off, ds, rfl, r⟩; exact ⟨b, off, ds, rfl, r⟩
theorem rel_ptr {X : Nat → Prop} {b : Nat} {p : List Step} {u : Value} : rel w X (.ptr b p) β u ↔ ∃ l, β b = some l ∧ u = .pointer (some ⟨l.r, pOff p, none⟩) := by
 constructor
 · intro h; have := relP_of_rel rfl (by simp) (by simp) h; simpa [relP] using this
 · rintro ⟨l, h1, rfl⟩; exact ⟨l, h1, rfl⟩
theorem rel_osl {X : Nat → Prop} {b s : Nat} {u : Value} : rel w X (.osl b s) β u ↔ ∃ l ad, β b = some l ∧ u = .slice ad l.len l.cap ∧ (l.cap ≠ 0 → ad = some ⟨l.r, 0, none⟩) := by
 constructor
 · intro h; have := relP_of_rel rfl (by simp) (by simp) h; simpa [relP] using this
 · rintro ⟨l, ad, h1, rfl, h2⟩; exact ⟨l, ad, h1, rfl, h2⟩
theorem rel_sl {X : Nat → Prop} {sz : Nat} {xs : List SV} {u : Value} : rel w X (.sl sz xs) β u ↔ ∃ ad cap, u = .slice ad xs.length cap ∧ xs.length ≤ cap ∧
 (xs = [] ∨ ∃ b off ds, ad = some ⟨b, off, none⟩ ∧ ¬ X b ∧ b < w.heap.size ∧ cellsAt w b off ds ∧ relR w X sz xs nob ds) := by
 constructor
 · intro h; have := relP_of_rel rfl (by simp) (by simp) h; simpa [relP] using this
 · rintro ⟨ad, cap, rfl, r⟩; exact ⟨ad, cap, rfl, r⟩
theorem rel_fn {X : Nat → Prop} {f : FuncId} {caps : List SV} {u : Value} : rel w X (.fn f caps) β u ↔ ∃ us, u = fnV f us ∧ relL w X caps β us.toList := by
 constructor
 · intro h; have := relP_of_rel rfl (by simp) (by simp) h; simpa [relP] using this
 · rintro ⟨us, rfl, r⟩; exact ⟨us, rfl, r⟩
theorem str_eq (s t : List UInt8) : ((⟨s.toArray⟩ : ByteArray) == ⟨t.toArray⟩) = decide (s = t) := by
 show (s.toArray == t.toArray) = _
 by_cases e : s = t
 · subst e; simp
 · simp [e]
theorem int_beq (a b : Int) : (a == b) = decide (a = b) := by
 by_cases e : a = b
 · subst e; simp
 · simp [e]
theorem eqS_ok {P : Program} {X : Nat → Prop} {T : TypeId} {tt : List (Nat × TI)} (ok : ∀ T, (lkT tt T).d ≠ .other → TIok P T (lkT tt T)) {x y : SV} {u v : Value} {b : Bool} (hx : rel w X x β u) (hy : rel w X y β v)
 (ht : match (lkT tt T).d, x with
   | .int _, .int .. | .bool, .tru | .bool, .fls | .bool, .bool _ | .str, .str _ | .ptr _, .nilp | .ptr _, .ptr .. | .ptr _, .iptr _ | .sl _, .nils | .sl _, .sl .. | .fn, .nilf | .fn, .fn .. => True
   | _, _ => False)
 (he : eqS x y = some b) (D : Nat) : (Op.equalIn (D + 1) T u v).run P w = .ok b w := by
 by_cases hsl : ∃ sz xs, x = .sl sz xs
 · obtain ⟨sz, xs, rfl⟩ := hsl
   cases hd : (lkT tt T).d <;> simp only [hd] at ht
   have tok := (ok T (by rw [hd]; simp)).desc
   simp only [hd] at tok
   cases xs with
   | nil => cases y <;> (simp only [eqS] at he; cases he)
   | cons a xs =>
     cases y <;> simp only [eqS] at he
     all_goals first | (cases he; done) | skip
     cases he
     obtain ⟨ad, cap, rfl, hle, hm⟩ := rel_sl.1 hx
     rcases hm with hm | ⟨b, off, ds, rfl, _⟩
     · cases hm
     rw [rel_nils] at hy
     subst hy
     simp [Op.equalIn, run_underlying tok]
 cases hd : (lkT tt T).d <;> cases x <;> simp only [hd] at ht
 all_goals first | (exact absurd ⟨_, _, rfl⟩ hsl) | skip
 all_goals (have tok := (ok T (by rw [hd]; simp)).desc; simp only [hd] at tok)
 all_goals (cases y <;> simp only [eqS] at he)
 all_goals first | (cases he; done) | skip
 · -- int
   split at he
   · rename_i hk
     cases he
     have := kq_eq hk
     subst this
     rw [relP_int] at hx hy
     subst hx; subst hy
     rw [run_equalIn_int w D T _ _ _ _ tok]
     exact congrArg (fun z => Result.ok z w) (int_beq _ _)
   · cases he
 all_goals (cases he)
 all_goals (simp only [rel_bool, rel_tru, rel_fls, rel_str, rel_nils, rel_nilp, rel_nilf] at hx hy)
 all_goals first
  | (subst hx; subst hy; simp [Op.equalIn, run_underlying tok, str_eq]; done)
  | skip
 · obtain ⟨ps, rs, vv, tok⟩ := tok
   obtain ⟨us, rfl, _⟩ := rel_fn.1 hx
   obtain ⟨_, _, _, e⟩ := fnV_func _ us
   rw [e]
   subst hy
   simp [Op.equalIn, run_underlying tok]
 · obtain ⟨ps, rs, vv, tok⟩ := tok
   obtain ⟨us, rfl, _⟩ := rel_fn.1 hy
   obtain ⟨_, _, _, e⟩ := fnV_func _ us
   rw [e]
   subst hx
   simp [Op.equalIn, run_underlying tok]
 · obtain ⟨ps, rs, vv, tok⟩ := tok
   subst hx; subst hy
   simp [Op.equalIn, run_underlying tok]
 · obtain ⟨_, _, _, rfl, _⟩ := rel_iptr.1 hx
   subst hy
   simp [Op.equalIn, run_underlying tok]
 · obtain ⟨_, _, rfl⟩ := rel_ptr.1 hx
   subst hy
   simp [Op.equalIn, run_underlying tok]
 · obtain ⟨_, _, _, rfl, _⟩ := rel_iptr.1 hy
   subst hx
   simp [Op.equalIn, run_underlying tok]
 · obtain ⟨_, _, rfl⟩ := rel_ptr.1 hy
   subst hx
   simp [Op.equalIn, run_underlying tok]
theorem andO_some {x y : Option Bool} {b : Bool} (h : andO x y = some b) : ∃ p q, x = some p ∧ y = some q ∧ b = (p && q) := by
 cases x <;> cases y <;> simp only [andO] at h <;> first | (cases h; done) | exact ⟨_, _, rfl, rfl, (Option.some.inj h).symm⟩
theorem isAgg_run {P : Program} {T : TypeId} {ti : TI} (t : TIok P T ti) (hd : ti.d ≠ .other) (w : World) : (isAgg T).run P w = .ok (aggT ti.d) w := by
 have := t.desc
 unfold isAgg
 cases h : ti.d <;> simp only [h] at this hd <;> simp only [aggT]
 · simp [run_underlying this]
 · simp [run_underlying this]
 · simp [run_underlying this]
 · obtain ⟨_, _, _, this⟩ := this; simp [run_underlying this]
 · simp [run_underlying this]
 · obtain ⟨_, this⟩ := this; simp [run_underlying this]
 · obtain ⟨_, this, _⟩ := this; simp [run_underlying this]
 · simp [run_underlying this.1]
 · simp [run_underlying this]
 · simp [run_underlying this]
 · exact (hd rfl).elim
def cellsVal (agg : Bool) (cs : List Value) : Value := if agg then .agg cs.toArray else cs.headD undef
theorem run_part {P : Program} {T : TypeId} {ti : TI} (t : TIok P T ti) (hd : ti.d ≠ .other) {pre mid post : List Value} {cs : Array Value} (hc : cs.toList = pre ++ mid ++ post) (hm : mid.length = ti.size)
 (h1 : (aggT ti.d) = false → ti.size = 1) (w : World) :
 (part T cs pre.length).run P w = .ok (cellsVal (aggT ti.d) mid) w := by
 unfold part
 rw [Sem.run_bind, isAgg_run t hd]
 simp only [Result.andThen_ok]
 cases hag : (aggT ti.d) with
 | true =>
   simp only [if_true, Sem.run_bind, t.sz, Result.andThen_ok, Sem.run_pure, cellsVal]
   congr 2
   apply Array.toList_inj.1
   rw [Array.toList_extract, hc, ← hm]
   simp [List.extract]
 | false =>
   have h2 := h1 hag
   rw [h2] at hm
   match mid, hm with
   | [x], _ =>
     have : cs[pre.length]? = some x := by rw [← Array.getElem?_toList, hc]; simp
     simp [this, cellsVal]
theorem rel_cellsVal {X : Nat → Prop} {v : SV} {cs : List Value} (hp : relP w X v β cs) (h1 : v.isAgg = false → cs.length = 1) : rel w X v β (cellsVal v.isAgg cs) := by
 cases ha : v.isAgg with
 | true => exact (rel_agg ha).2 ⟨cs.toArray, rfl, by simpa using hp⟩
 | false =>
   match cs, h1 ha with
   | [x], _ => exact rel_of_relP ha hp
end
def eqElems (d : Nat) (e : TypeId) (n : Nat) (xs ys : Array Value) : Nat → Nat → Sem Bool
 | _, 0 => pure true
 | i, k + 1 => do
   let a ← part e xs (i * n)
   let b ← part e ys (i * n)
   let r ← Op.equalIn d e a b
   if (!r) = true then pure false else eqElems d e n xs ys (i + 1) k
section
variable {P : Program} (w : World)
theorem run_equalIn_array (d : Nat) (t : TypeId) (xs ys : Array Value) {len : Nat} {e : TypeId} {n : Nat} (ht : P.underlying t = some (.array len e)) (hn : ∀ w, (sizeOf e).run P w = .ok n w) :
 (Op.equalIn (d + 1) t (.agg xs) (.agg ys)).run P w = (eqElems d e n xs ys 0 len).run P w := by
 simp only [Op.equalIn, Sem.run_bind, run_underlying ht, Result.andThen_ok, hn]
 rw [Std.Legacy.Range.forIn_eq_forIn_range']
 simp only [Std.Legacy.Range.size, Nat.sub_zero, Nat.add_sub_cancel, Nat.div_one]
 generalize 0 = i
 clear ht
 induction len generalizing i w with
 | zero => simp [eqElems]
 | succ k ih =>
   simp only [List.range'_succ, List.forIn_cons, eqElems, Sem.run_bind, Sem.run_ite]
   generalize (part e xs (i * n)).run P w = r1
   cases r1 with
   | ok a w1 =>
     simp only [Result.andThen_ok]
     generalize (part e ys (i * n)).run P w1 = r2
     cases r2 with
     | ok b w2 =>
       simp only [Result.andThen_ok]
       generalize (Op.equalIn d e a b).run P w2 = r3
       cases r3 with
       | ok r w3 =>
         cases r
         · simp only [Result.andThen_ok, Bool.not_false, if_true, Sem.run_pure]
         · simp only [Result.andThen_ok, Bool.not_true, Bool.false_eq_true, if_false, Sem.run_pure]
           exact ih w3 (i + 1)
       | halt x w3 => simp [Result.andThen]
     | halt x w2 => simp [Result.andThen]
   | halt x w1 => simp [Result.andThen]
end
theorem eqS_leaf {x y : SV} {b : Bool} (h : eqS x y = some b) : x.isAgg = false ∧ y.isAgg = false := by
 cases x <;> cases y <;> simp only [eqS] at h <;> first | (cases h; done) | exact ⟨rfl, rfl⟩
theorem eqT_agg {tt : List (Nat × TI)} {d : Nat} {T : TypeId} {x y : SV} {b : Bool} (h : eqT tt d T x y = some b) :
 (lkT tt T).d ≠ .other ∧ x.isAgg = aggT (lkT tt T).d ∧ y.isAgg = aggT (lkT tt T).d := by
 cases d with
 | zero => simp only [eqT] at h; cases h
 | succ d =>
   unfold eqT at h
   cases hd : (lkT tt T).d <;> simp only [hd] at h
   all_goals first | (cases h; done) | skip
   all_goals (split at h <;> first | (cases h; done) | skip)
   all_goals first
    | exact ⟨by simp, rfl, rfl⟩
    | exact ⟨by simp, (eqS_leaf h).1, (eqS_leaf h).2⟩
section
variable {P : Program} {w : World} {X : Nat → Prop} {β : Beta} {tt : List (Nat × TI)} (ok : ∀ T, (lkT tt T).d ≠ .other → TIok P T (lkT tt T))
include ok
mutual
theorem eqT_ok : ∀ (d : Nat) (T : TypeId) (x y : SV) (b : Bool), eqT tt d T x y = some b → ∀ (u v : Value), rel w X x β u → rel w X y β v → ∀ D, d ≤ D → (Op.equalIn D T u v).run P w = .ok b w
 | 0, T, x, y, b, he, _, _, _, _, _, _ => by simp only [eqT] at he; cases he
 | d + 1, T, x, y, b, he, u, v, hx, hy, D, hD => by
   obtain ⟨D, rfl⟩ : ∃ D', D = D' + 1 := ⟨D - 1, by omega⟩
   have hag := eqT_agg he
   have tok := ok T hag.1
   unfold eqT at he
   cases hd : (lkT tt T).d with
   | strct fs =>
     simp only [hd] at he
     split at he
     · rename_i xs ys hc
       obtain ⟨cs, rfl, hcs⟩ := (rel_agg rfl).1 hx
       obtain ⟨ds, rfl, hds⟩ := (rel_agg rfl).1 hy
       simp only [relP] at hcs hds
       have desc := tok.desc
       simp only [hd] at desc
       obtain ⟨F, hF, hfs, hcmp⟩ := desc
       obtain ⟨h1, h2, _⟩ := hcmp hc
       have hf : P.underlying T = some (.struct (P.fieldsOf T)) := by simp [Program.fieldsOf, hF]
       rw [run_equalIn_struct w D T cs ds hf h2]
       have : P.fieldsOf T = F := by simp [Program.fieldsOf, hF]
       rw [this]
       exact eqF_ok d fs 0 xs ys b he F.toList hfs h1 cs ds [] [] cs.toList ds.toList (by simp) (by simp) rfl rfl hcs hds D (by omega)
     · cases he
   | arr m e =>
     simp only [hd] at he
     split at he
     · rename_i n1 s1 xs n2 s2 ys hc
       split at he
       · rename_i hs1 hs2
         have := beq_of hs1; have := beq_of hs2; subst s1; subst s2
         obtain ⟨cs, rfl, hcs⟩ := (rel_agg rfl).1 hx
         obtain ⟨ds, rfl, hds⟩ := (rel_agg rfl).1 hy
         simp only [relP] at hcs hds
         have desc := tok.desc
         simp only [hd] at desc
         simp only [Bool.and_eq_true, Nat.ble_eq] at hc
         have h1 : (lkT tt e).d ≠ .other := by
          cases d with
          | zero => unfold eqR at he; cases he
          | succ d =>
            unfold eqR at he
            split at he
            · omega
            · obtain ⟨p, q, he1, _⟩ := andO_some he
              exact (eqT_agg he1).1
            · cases he
         rw [run_equalIn_array w D T cs ds desc.1 (fun w => (ok e h1).sz w)]
         have hl1 := hcs.1
         exact eqR_ok d e m xs ys b he cs ds [] [] cs.toList ds.toList 0 (by simp) (by simp) (by simp) (by simp)
          (relR_ext (Ext.refl w X) _ _ _ (nmsL_true (fun _ _ k => by cases k) _) hcs.2) (relR_ext (Ext.refl w X) _ _ _ (nmsL_true (fun _ _ k => by cases k) _) hds.2) D (by omega)
       · cases he
     · cases he
   | ifc => simp only [hd] at he; cases he
   | other => simp only [hd] at he; cases he
   | mp k e => simp only [hd] at he; cases he
   | _ =>
     simp only [hd] at he
     split at he
     · refine eqS_ok (w := w) (X := X) (β := β) (T := T) ok hx hy ?_ he D
       rw [hd]
       trivial
     all_goals first | (cases he; done) | skip
     all_goals
      refine eqS_ok (w := w) (X := X) (β := β) (T := T) ok hx hy ?_ he D
      rw [hd]
      trivial
theorem eqF_ok : ∀ (d : Nat) (fs : List (TypeId × Nat)) (off : Nat) (xs ys : List SV) (b : Bool), eqF tt d fs off xs ys = some b →
 ∀ (F : List Field), F.map (fun f => (f.type, f.offset)) = fs → (∀ f ∈ F, (f.name != "_") = true) → ∀ (A B : Array Value) (pa pb ca cb : List Value), A.toList = pa ++ ca → B.toList = pb ++ cb → pa.length = off → pb.length = off →
  relC w X xs β ca → relC w X ys β cb → ∀ D, d ≤ D → (Op.eqFields D A B F).run P w = .ok b w
 | 0, _, _, _, _, _, he, _, _, _, _, _, _, _, _, _, _, _, _, _, _, _, _, _ => by simp only [eqF] at he; cases he
 | d + 1, fs, off, xs, ys, b, he, F, hF, hN, A, B, pa, pb, ca, cb, hA, hB, hpa, hpb, hca, hcb, D, hD => by
   unfold eqF at he
   split at he
   · cases he
     have : F = [] := List.map_eq_nil_iff.1 hF
     subst this
     simp [Op.eqFields]
   · rename_i T o fs x xs y ys
     split at he
     · rename_i h1 h2 h3
       match F, hF with
       | f :: F, hF =>
         simp only [List.map_cons, List.cons.injEq, Prod.mk.injEq] at hF
         obtain ⟨⟨rfl, rfl⟩, rfl⟩ := hF
         obtain ⟨p, q, he1, he2, rfl⟩ := andO_some he
         have hag := eqT_agg he1
         have tok := ok f.type hag.1
         rw [relC_cons] at hca hcb
         obtain ⟨a1, a2, rfl, ha1, ha2⟩ := hca
         obtain ⟨b1, b2, rfl, hb1, hb2⟩ := hcb
         have hla := relP_len _ _ ha1
         have hlb := relP_len _ _ hb1
         have e1 := beq_of h1; have e2 := beq_of h2; have e3 := beq_of h3
         have hname : f.name ≠ "_" := by simpa using hN f (by simp)
         have hone : aggT (lkT tt f.type).d = false → (lkT tt f.type).size = 1 := by
          intro hh
          rw [← e2]
          rw [← hag.2.1] at hh
          cases x <;> first | rfl | cases hh
         have r1 := run_part tok hag.1 (cs := A) (pre := pa) (mid := a1) (post := a2) (by rw [hA]; simp) (by rw [hla, e2]) hone w
         have r2 := run_part tok hag.1 (cs := B) (pre := pb) (mid := b1) (post := b2) (by rw [hB]; simp) (by rw [hlb, e3]) hone w
         rw [hpa, ← e1] at r1
         rw [hpb, ← e1] at r2
         have hra : rel w X x β (cellsVal (aggT (lkT tt f.type).d) a1) := by
          rw [← hag.2.1]; exact rel_cellsVal ha1 fun hh => by rw [hla, e2]; exact hone (hag.2.1 ▸ hh)
         have hrb : rel w X y β (cellsVal (aggT (lkT tt f.type).d) b1) := by
          rw [← hag.2.2]; exact rel_cellsVal hb1 fun hh => by rw [hlb, e3]; exact hone (hag.2.2 ▸ hh)
         have r3 := eqT_ok d f.type x y p he1 _ _ hra hrb D (by omega)
         have r4 := eqF_ok d _ _ xs ys q he2 F rfl (fun f hf => hN f (by simp [hf])) A B (pa ++ a1) (pb ++ b1) a2 b2 (by rw [hA]; simp) (by rw [hB]; simp)
          (by rw [List.length_append, hla, hpa, e2]) (by rw [List.length_append, hlb, hpb, e3]) ha2 hb2 D (by omega)
         simp only [Op.eqFields]
         rw [if_pos hname]
         have r1' : (part f.type A f.offset).run P w = .ok (cellsVal (aggT (lkT tt f.type).d) a1) w := r1
         have r2' : (part f.type B f.offset).run P w = .ok (cellsVal (aggT (lkT tt f.type).d) b1) w := r2
         simp only [Sem.run_bind, r1', r2', r3, Result.andThen_ok]
         cases p
         · simp
         · simpa using r4
     · cases he
   · cases he
theorem eqR_ok : ∀ (d : Nat) (e : TypeId) (m : Nat) (xs ys : List SV) (b : Bool), eqR tt d e m xs ys = some b →
 ∀ (A B : Array Value) (pa pb ca cb : List Value) (i : Nat), A.toList = pa ++ ca → B.toList = pb ++ cb → pa.length = i * (lkT tt e).size → pb.length = i * (lkT tt e).size →
  relR w X (lkT tt e).size xs β ca → relR w X (lkT tt e).size ys β cb → ∀ D, d ≤ D → (eqElems D e (lkT tt e).size A B i m).run P w = .ok b w
 | 0, _, _, _, _, _, he, _, _, _, _, _, _, _, _, _, _, _, _, _, _, _ => by unfold eqR at he; cases he
 | d + 1, e, m, xs, ys, b, he, A, B, pa, pb, ca, cb, i, hA, hB, hpa, hpb, hca, hcb, D, hD => by
   unfold eqR at he
   split at he
   · cases he
     simp [eqElems]
   · rename_i m x xs y ys
     obtain ⟨p, q, he1, he2, rfl⟩ := andO_some he
     have hag := eqT_agg he1
     have tok := ok e hag.1
     rw [relR_cons] at hca hcb
     obtain ⟨a1, a2, rfl, ha0, ha1, ha2⟩ := hca
     obtain ⟨b1, b2, rfl, hb0, hb1, hb2⟩ := hcb
     have hla := relP_len _ _ ha1
     have hlb := relP_len _ _ hb1
     have hone : aggT (lkT tt e).d = false → (lkT tt e).size = 1 := by
      intro hh
      rw [← ha0, hla]
      rw [← hag.2.1] at hh
      cases x <;> first | rfl | cases hh
     have r1 := run_part tok hag.1 (cs := A) (pre := pa) (mid := a1) (post := a2) (by rw [hA]; simp) ha0 hone w
     have r2 := run_part tok hag.1 (cs := B) (pre := pb) (mid := b1) (post := b2) (by rw [hB]; simp) hb0 hone w
     rw [hpa] at r1
     rw [hpb] at r2
     have hra : rel w X x β (cellsVal (aggT (lkT tt e).d) a1) := by
      rw [← hag.2.1]; exact rel_cellsVal ha1 fun hh => by rw [ha0]; exact hone (hag.2.1 ▸ hh)
     have hrb : rel w X y β (cellsVal (aggT (lkT tt e).d) b1) := by
      rw [← hag.2.2]; exact rel_cellsVal hb1 fun hh => by rw [hb0]; exact hone (hag.2.2 ▸ hh)
     have r3 := eqT_ok d e x y p he1 _ _ hra hrb D (by omega)
     have r4 := eqR_ok d e m xs ys q he2 A B (pa ++ a1) (pb ++ b1) a2 b2 (i + 1) (by rw [hA]; simp) (by rw [hB]; simp)
      (by rw [List.length_append, ha0, hpa, Nat.add_mul]; omega) (by rw [List.length_append, hb0, hpb, Nat.add_mul]; omega) ha2 hb2 D (by omega)
     have r1' : (part e A (i * (lkT tt e).size)).run P w = .ok (cellsVal (aggT (lkT tt e).d) a1) w := r1
     have r2' : (part e B (i * (lkT tt e).size)).run P w = .ok (cellsVal (aggT (lkT tt e).d) b1) w := r2
     simp only [eqElems, Sem.run_bind, r1', r2', r3, Result.andThen_ok]
     cases p
     · simp
     · simpa using r4
   · cases he
end
end
section
variable {c : Cx} {β : Beta} {w : World} {X : Nat → Prop}
theorem arith_ok {k : IntKind} {e : Int} {K : Int → Prop} (h : ArithVC k e K) : K (k.wrap e) := by
 unfold ArithVC at h
 obtain ⟨r, rfl, h⟩ := h
 exact h
theorem eqGuard_run {E : Env} (ok : EnvOK E) {op : BinOp} {T : TypeId} {x y : SV} {b : Bool} {d : Nat} {u v : Value} {xo yo : Operand} (he : eqT E.tt d T x y = some b) (hx : rel w X x β u) (_hy : rel w X y β v) :
 (eqGuard op T xo yo u v).run E.P w = .ok () w := by
 have hag := eqT_agg he
 have tok := ok.tt T hag.1
 cases hxa : x.isAgg with
 | true =>
   obtain ⟨cs, rfl, hcs0⟩ := (rel_agg hxa).1 hx
   have hya : y.isAgg = true := by rw [hag.2.2, ← hag.2.1]; exact hxa
   obtain ⟨ds, rfl, hds0⟩ := (rel_agg hya).1 _hy
   have hg : E.P.eqGuardType E.P.depth T = false := by
    have desc := tok.desc
    cases d with
    | zero => unfold eqT at he; cases he
    | succ d =>
      unfold eqT at he
      cases hd : (lkT E.tt T).d with
      | strct fs =>
        simp only [hd] at he desc
        obtain ⟨F, _, _, hc⟩ := desc
        split at he
        · rename_i hcm; exact (hc hcm).2.2
        · cases he
      | arr m e =>
        simp only [hd] at he desc
        split at he
        · rename_i hcm
          simp only [Bool.and_eq_true] at hcm
          exact desc.2 hcm.1
        · cases he
      | _ => rw [hag.2.1, hd] at hxa; cases hxa
   exact run_eqGuard_agg (P := E.P) w op T xo yo cs ds hg
 | false =>
   have : eqGuard op T xo yo u v = pure () := by
    cases d with
    | zero => unfold eqT at he; cases he
    | succ d =>
      unfold eqT at he
      have hcase : (∃ k m, u = .int k m) ∨ (∃ b, u = .bool b) ∨ (∃ s, u = .string s) ∨ (∃ a, u = .pointer a) ∨ (∃ a l c, u = .slice a l c) ∨ (∃ f a c, u = .func f a c) ∨ u = .nilFunc := by
       cases hd : (lkT E.tt T).d <;> simp only [hd] at he
       all_goals first | (cases he; done) | skip
       all_goals (split at he <;> first | (cases he; done) | skip)
       all_goals first
        | (rw [rel_tru] at hx; exact .inr (.inl ⟨_, hx⟩))
        | (rw [rel_fls] at hx; exact .inr (.inl ⟨_, hx⟩))
        | (rw [rel_bool] at hx; exact .inr (.inl ⟨_, hx⟩))
        | (rw [relP_int] at hx; exact .inl ⟨_, _, hx⟩)
        | (rw [rel_str] at hx; exact .inr (.inr (.inl ⟨_, hx⟩)))
        | (rw [rel_nilp] at hx; exact .inr (.inr (.inr (.inl ⟨_, hx⟩))))
        | (rw [rel_ptr] at hx; obtain ⟨_, _, hx⟩ := hx; exact .inr (.inr (.inr (.inl ⟨_, hx⟩))))
        | (rw [rel_iptr] at hx; obtain ⟨_, _, _, hx, _⟩ := hx; exact .inr (.inr (.inr (.inl ⟨_, hx⟩))))
        | (rw [rel_nils] at hx; exact .inr (.inr (.inr (.inr (.inl ⟨_, _, _, hx⟩)))))
        | (rw [rel_sl] at hx; obtain ⟨_, _, hx, _⟩ := hx; exact .inr (.inr (.inr (.inr (.inl ⟨_, _, _, hx⟩)))))
        | (rw [rel_nilf] at hx; exact .inr (.inr (.inr (.inr (.inr (.inr hx))))))
        | (rw [rel_fn] at hx; obtain ⟨us, hx, _⟩ := hx; obtain ⟨_, _, _, e⟩ := fnV_func _ us; exact .inr (.inr (.inr (.inr (.inr (.inl ⟨_, _, _, hx.trans e⟩))))))
        | (cases hxa; done)
      rcases hcase with ⟨k, m, rfl⟩ | ⟨b, rfl⟩ | ⟨s, rfl⟩ | ⟨a, rfl⟩ | ⟨a, l, c, rfl⟩ | ⟨f, a, c, rfl⟩ | rfl
      · exact eqGuard_at_int ..
      · exact eqGuard_at_bool ..
      · exact eqGuard_at_string ..
      · exact eqGuard_at_pointer ..
      · exact eqGuard_at_slice ..
      · exact eqGuard_at_func ..
      · exact eqGuard_at_nilFunc ..
   rw [this]; rfl
theorem eql_run {E : Env} (ok : EnvOK E) {T : TypeId} {x y : SV} {b : Bool} {u v : Value} (he : eqT E.tt 50 T x y = some b) (hx : rel w X x β u) (hy : rel w X y β v) :
 (binOp .eql T u v).run E.P w = .ok (.bool b) w ∧ (binOp .neq T u v).run E.P w = .ok (.bool (!b)) w := by
 have heq := eqT_ok ok.tt 50 T x y b he u v hx hy 10000 (by decide)
 have hag := eqT_agg he
 by_cases hi : ∃ k m, x = .int k m
 · obtain ⟨k, m, rfl⟩ := hi
   rw [relP_int] at hx; subst hx
   have : eqS (.int k m) y = some b := by
    unfold eqT at he
    cases hd : (lkT E.tt T).d <;> simp only [hd] at he
    all_goals first | (cases he; done) | exact he
   cases y <;> simp only [eqS] at this <;> first | (cases this; done) | skip
   split at this
   · rename_i hk
     have := kq_eq hk; subst this
     rw [relP_int] at hy; subst hy
     cases this
     rw [binOp_eql, binOp_neq]
     simp only [Sem.run_pure, int_beq, bne, and_self]
   · cases this
 · by_cases hst : ∃ s, x = .str s
   · obtain ⟨s, rfl⟩ := hst
     rw [rel_str] at hx; subst hx
     have : eqS (.str s) y = some b := by
      unfold eqT at he
      cases hd : (lkT E.tt T).d <;> simp only [hd] at he
      all_goals first | (cases he; done) | exact he
     cases y <;> simp only [eqS] at this <;> first | (cases this; done) | skip
     rw [rel_str] at hy; subst hy
     cases this
     have hb : ∀ s t : List UInt8, (s == t) = decide (s = t) := fun s t => by
      by_cases e : s = t
      · subst e; simp
      · simp [e]
     simp [binOp, Op.stringOp, ByteArray.toList_eq, hb]
   · have gen : binOp .eql T u v = (do pure (.bool (← Op.equal T u v))) ∧ binOp .neq T u v = (do pure (.bool (!(← Op.equal T u v)))) := by
      have hu : (∃ cs, u = .agg cs) ∨ (∃ b, u = .bool b) ∨ (∃ a, u = .pointer a) ∨ (∃ a l c, u = .slice a l c) ∨ (∃ f a c, u = .func f a c) ∨ u = .nilFunc := by
       cases hxa : x.isAgg with
       | true => obtain ⟨cs, rfl, _⟩ := (rel_agg hxa).1 hx; exact .inl ⟨_, rfl⟩
       | false =>
         right
         unfold eqT at he
         cases hd : (lkT E.tt T).d <;> simp only [hd] at he
         all_goals first | (cases he; done) | skip
         all_goals (split at he <;> first | (cases he; done) | skip)
         all_goals first
          | (rw [rel_tru] at hx; exact (.inl ⟨_, hx⟩))
          | (rw [rel_fls] at hx; exact (.inl ⟨_, hx⟩))
          | (rw [rel_bool] at hx; exact (.inl ⟨_, hx⟩))
          | (exact absurd ⟨_, _, rfl⟩ hi)
          | (exact absurd ⟨_, rfl⟩ hst)
          | (rw [rel_nilp] at hx; exact (.inr (.inl ⟨_, hx⟩)))
          | (rw [rel_ptr] at hx; obtain ⟨_, _, hx⟩ := hx; exact (.inr (.inl ⟨_, hx⟩)))
          | (rw [rel_iptr] at hx; obtain ⟨_, _, _, hx, _⟩ := hx; exact (.inr (.inl ⟨_, hx⟩)))
          | (rw [rel_nils] at hx; exact (.inr (.inr (.inl ⟨_, _, _, hx⟩))))
          | (rw [rel_sl] at hx; obtain ⟨_, _, hx, _⟩ := hx; exact (.inr (.inr (.inl ⟨_, _, _, hx⟩))))
          | (rw [rel_nilf] at hx; exact (.inr (.inr (.inr (.inr hx)))))
          | (rw [rel_fn] at hx; obtain ⟨us, hx, _⟩ := hx; obtain ⟨_, _, _, e⟩ := fnV_func _ us; exact (.inr (.inr (.inr (.inl ⟨_, _, _, hx.trans e⟩)))))
          | (cases hxa; done)
      have hnp : ∀ a, v ≠ .pointer a ∨ True := fun _ => .inr trivial
      clear hnp
      rcases hu with ⟨cs, rfl⟩ | ⟨b, rfl⟩ | ⟨a, rfl⟩ | ⟨a, l, c, rfl⟩ | ⟨f, a, c, rfl⟩ | rfl <;> exact ⟨rfl, rfl⟩
     rw [gen.1, gen.2]
     have : (Op.equal T u v).run E.P w = .ok b w := heq
     simp [this]
theorem binX_ok {E : Env} (ok : EnvOK E) {op : BinOp} {T : TypeId} {x y : SV} {u v : Value} {xo yo : Operand} {K : SV → Prop} (hK : binX E op T x y K) (hx : rel w X x β u) (hy : rel w X y β v) :
 ∃ r val, K r ∧ (do eqGuard op T xo yo u v; binOp op T u v : Sem Value).run E.P w = .ok val w ∧ rel w X r β val := by
 have run_it : ∀ {s : Sem Value} {val : Value}, eqGuard op T xo yo u v = pure () → binOp op T u v = s → s.run E.P w = .ok val w → (do eqGuard op T xo yo u v; binOp op T u v : Sem Value).run E.P w = .ok val w := by
  intro s val h1 h2 h3
  rw [h1, h2]
  simpa using h3
 unfold binX at hK
 split at hK
 all_goals first
  | (exact hK.elim; done)
  | (split at hK <;> first | (exact hK.elim; done) | skip)
  | skip
 all_goals first
  | (rename_i hk; have := kq_eq hk; subst this)
  | skip
 all_goals first
  | (rw [relP_int] at hx hy; subst hx; subst hy)
  | (rw [rel_str] at hx hy; subst hx; subst hy)
  | skip
 · exact ⟨_, _, arith_ok hK, run_it (eqGuard_at_int ..) (binOp_add ..) rfl, relP_int.2 rfl⟩
 · exact ⟨_, _, arith_ok hK, run_it (eqGuard_at_int ..) (binOp_sub ..) rfl, relP_int.2 rfl⟩
 · exact ⟨_, _, arith_ok hK, run_it (eqGuard_at_int ..) (binOp_mul ..) rfl, relP_int.2 rfl⟩
 · unfold SideVC at hK
   exact ⟨_, _, arith_ok hK.2, run_it (eqGuard_at_int ..) (binOp_quo ..) (by simp [Op.intDiv, hK.1]), relP_int.2 rfl⟩
 · unfold SideVC at hK
   exact ⟨_, _, hK.2, run_it (eqGuard_at_int ..) (binOp_rem ..) (by simp [Op.intDiv, hK.1]), relP_int.2 rfl⟩
 · exact ⟨_, _, hK, run_it (eqGuard_at_int ..) (binOp_and ..) rfl, relP_int.2 rfl⟩
 · exact ⟨_, _, hK, run_it (eqGuard_at_int ..) (binOp_or ..) rfl, relP_int.2 rfl⟩
 · exact ⟨_, _, hK, run_it (eqGuard_at_int ..) (binOp_xor ..) rfl, relP_int.2 rfl⟩
 · exact ⟨_, _, hK, run_it (eqGuard_at_int ..) (binOp_andNot ..) rfl, relP_int.2 rfl⟩
 · unfold SideVC at hK
   exact ⟨_, _, arith_ok hK.2, run_it (eqGuard_at_int ..) (binOp_shl ..) (by simp only [Op.shift]; rw [if_neg (by omega)]; rfl), relP_int.2 rfl⟩
 · unfold SideVC at hK
   exact ⟨_, _, hK.2, run_it (eqGuard_at_int ..) (binOp_shr ..) (by simp only [Op.shift]; rw [if_neg (by omega)]; rfl), relP_int.2 rfl⟩
 · exact ⟨_, _, hK, run_it (eqGuard_at_int ..) (binOp_lss ..) rfl, rel_bool.2 rfl⟩
 · exact ⟨_, _, hK, run_it (eqGuard_at_int ..) (binOp_leq ..) rfl, rel_bool.2 rfl⟩
 · exact ⟨_, _, hK, run_it (eqGuard_at_int ..) (binOp_gtr ..) rfl, rel_bool.2 rfl⟩
 · exact ⟨_, _, hK, run_it (eqGuard_at_int ..) (binOp_geq ..) rfl, rel_bool.2 rfl⟩
 · unfold SideVC at hK
   rename_i s t
   refine ⟨_, .string (⟨s.toArray⟩ ++ ⟨t.toArray⟩), hK.2, run_it (eqGuard_at_string ..) rfl ?_, rel_str.2 ?_⟩
   · have h1 := hK.1
     show Sem.run E.P (Op.stringOp .add (⟨s.toArray⟩ : ByteArray) ⟨t.toArray⟩) w = _
     unfold Op.stringOp
     dsimp only
     rw [if_neg]
     · rfl
     · rw [IntKind.max_i64]; simp only [ByteArray.size, List.size_toArray]; omega
   · congr 1
 · rename_i b he
   refine ⟨_, _, hK, ?_, rel_bool.2 rfl⟩
   rw [Sem.run_bind, eqGuard_run ok he hx hy]
   exact (eql_run ok he hx hy).1
 · rename_i b he
   refine ⟨_, _, hK, ?_, rel_bool.2 rfl⟩
   rw [Sem.run_bind, eqGuard_run ok he hx hy]
   exact (eql_run ok he hx hy).2
end
open Go.RowKit (Below)
section
variable {c : Cx} {o : Oper} {a : Act} {h : Heap} {n : Nat} {F : Nat → Prop} {β : Beta} {Y : Nat → Prop} {w : World}
theorem var_part (m : Mem c h F β Y w) {b : Nat} {own : Bool} {v : SV} (hb : lkB h b = some (.var own v)) {p : List Step} {K : SV → Prop} (hn : nav v p K) {l : Loc} (hl : β b = some l) :
 ∃ u mid, K u ∧ relP w (XX c.Z Y β h) u β mid ∧ cellsAt w l.r (pOff p) mid := by
 obtain ⟨l', hl', hok⟩ := m.blk b _ hb
 rw [hl] at hl'; cases hl'
 obtain ⟨cs, ty, lo, hi, g1, g2, g3, g4⟩ := hok
 obtain ⟨u, pre, mid, post, k1, k2, k3, k4⟩ := nav_ok p v K _ hn g3
 refine ⟨u, mid, k1, k4, fun j y hj => ?_⟩
 have hjl : j < mid.length := by
  rcases Nat.lt_or_ge j mid.length with g | g
  · exact g
  · rw [List.getElem?_eq_none g] at hj; cases hj
 have : cs[pOff p + j]? = some y := by
  rw [← Array.getElem?_toList, k2, ← k3, List.append_assoc, List.getElem?_append_right (by omega), List.getElem?_append_left (by omega)]
  rw [show pre.length + j - pre.length = j from by omega]; exact hj
 simp [World.cell?, g1, this]
theorem row_part (m : Mem c h F β Y w) {b : Nat} {own : Bool} {sz : Nat} {xs : List SV} (hb : lkB h b = some (.row own sz xs)) {p : List Step} {K : SV → Prop} (hn : nav (.arr 0 sz xs) p K) (hp : p ≠ []) {l : Loc} (hl : β b = some l) :
 ∃ u mid, K u ∧ relP w (XX c.Z Y β h) u β mid ∧ cellsAt w l.r (pOff p) mid := by
 obtain ⟨l', hl', hok⟩ := m.blk b _ hb
 rw [hl] at hl'; cases hl'
 obtain ⟨g1, g2, g3, g4⟩ := hok
 have hne : xs ≠ [] := by
  rintro rfl
  match p, hp with
  | .fld .. :: _, _ => simp only [nav] at hn
  | .idx i s :: p, _ =>
    simp only [nav] at hn
    split at hn
    · unfold IdxVC at hn; obtain ⟨_, _, h, _⟩ := hn; simp at h
    · exact hn
 have hcap : l.cap ≠ 0 := by
  have : xs.length ≠ 0 := fun e => hne (List.length_eq_zero_iff.1 e)
  omega
 rcases g4 with g4 | ⟨cs, ty, lo, hi, f1, f2, f3, ⟨c1, c2, f4, f5⟩, f6⟩
 · exact absurd g4 hcap
 · have hr : relP w (XX c.Z Y β h) (.arr xs.length sz xs) β c1 := by simp only [relP]; exact ⟨trivial, f5⟩
   have hn' : nav (.arr xs.length sz xs) p K := by
    match p, hp with
    | .fld .. :: _, _ => simp only [nav] at hn
    | .idx i s :: p, _ => simpa only [nav] using hn
   obtain ⟨u, pre, mid, post, k1, k2, k3, k4⟩ := nav_ok p _ K _ hn' hr
   refine ⟨u, mid, k1, k4, fun j y hj => ?_⟩
   have hjl : j < mid.length := by
    rcases Nat.lt_or_ge j mid.length with g | g
    · exact g
    · rw [List.getElem?_eq_none g] at hj; cases hj
   have : cs[pOff p + j]? = some y := by
    rw [← Array.getElem?_toList, f4, k2, ← k3]
    rw [List.append_assoc, List.append_assoc, List.getElem?_append_right (by omega)]
    rw [show pre.length + j - pre.length = j from by omega, List.getElem?_append_left (by omega)]; exact hj
   simp [World.cell?, f1, this]
theorem run_load_at {P : Program} {T : TypeId} {ti : TI} (tok : TIok P T ti) {X : Nat → Prop} {u : SV} {mid : List Value} {r off : Nat} (hsz : u.sz = ti.size) (hd : ti.d ≠ .other) (hag : aggT ti.d = u.isAgg)
 (hp : relP w X u β mid) (hc : cellsAt w r off mid) : ∃ val, (Instr.loadAt T (.pointer (some ⟨r, off, none⟩))).run P w = .ok val w ∧ rel w X u β val := by
 have hl := relP_len _ _ hp
 refine ⟨cellsVal u.isAgg mid, ?_, rel_cellsVal hp fun ha => ?_⟩
 · simp only [Instr.loadAt, Instr.sureAddr, loadVar, Sem.run_bind, Sem.run_pure, Result.andThen_ok, isAgg_run tok hd]
   rw [hag]
   cases ha : u.isAgg with
   | true =>
     simp only [if_true, Sem.run_bind, tok.sz, Result.andThen_ok]
     have := run_loadCells (P := P) (w := w) (b := r) (off := off) mid #[] 0 (fun j v hj => by simpa using hc j v hj)
     rw [← hsz, ← hl]
     unfold loadCells
     rw [this]
     simp [cellsVal]
   | false =>
     have hl1 : mid.length = 1 := by rw [hl]; cases u <;> first | rfl | cases ha
     match mid, hl1 with
     | [x], _ =>
       have := hc 0 x rfl
       simp only [Nat.add_zero] at this
       simp [this, cellsVal]
 · rw [hl]; cases u <;> first | rfl | cases ha
theorem fieldAt_run {P : Program} {T : TypeId} {ti tf : TI} {fs : List (TypeId × Nat)} {f : Nat} {T' : TypeId} {off : Nat} (tok : TIok P T ti) (hd : ti.d = .strct fs) (hf : fs[f]? = some (T', off)) (tok' : TIok P T' tf) (h1 : 1 ≤ tf.size)
 (r o : Nat) : (Instr.fieldAt T (.pointer (some ⟨r, o, none⟩)) f).run P w = .ok (.pointer (some ⟨r, o + off, none⟩)) w := by
 have desc := tok.desc
 simp only [hd] at desc
 obtain ⟨F, hF, hfs, _⟩ := desc
 rw [← hfs, List.getElem?_map] at hf
 cases hF' : F.toList[f]? with
 | none => rw [hF'] at hf; cases hf
 | some fl =>
   rw [hF'] at hf
   simp only [Option.map_some, Option.some.injEq, Prod.mk.injEq] at hf
   obtain ⟨rfl, rfl⟩ := hf
   rw [Array.getElem?_toList] at hF'
   have hne : ¬ tf.size = 0 := by omega
   simp [Instr.fieldAt, run_underlying hF, hF', Instr.sureAddr, fieldPlace, tok'.sz, hne, add_plain]
theorem indexAt_slice_run {P : Program} {T e : TypeId} {ti te : TI} (tok : TIok P T ti) (hd : ti.d = .sl e) (toke : TIok P e te) {k : IntKind} {i : Int} {r off len cap : Nat} (h0 : 0 ≤ i) (h1 : i < len) :
 (Instr.indexAt T (.slice (some ⟨r, off, none⟩) len cap) (.int k i)).run P w = .ok (.pointer (some ⟨r, off + i.toNat * te.size, none⟩)) w := by
 have desc := tok.desc
 simp only [hd] at desc
 simp only [Instr.indexAt, asIntOf, Sem.run_bind, Sem.run_pure, Result.andThen_ok, run_underlying desc]
 rw [if_pos ⟨h0, h1⟩]
 simp [toke.sz, add_plain]
theorem indexAt_array_run {P : Program} {T e : TypeId} {m : Nat} {ti te : TI} (tok : TIok P T ti) (hd : ti.d = .arr m e) (toke : TIok P e te) {k : IntKind} {i : Int} {r off : Nat} (h0 : 0 ≤ i) (h1 : i < m) :
 (Instr.indexAt T (.pointer (some ⟨r, off, none⟩)) (.int k i)).run P w = .ok (.pointer (some ⟨r, off + i.toNat * te.size, none⟩)) w := by
 have desc := tok.desc
 simp only [hd] at desc
 simp only [Instr.indexAt, asIntOf, Sem.run_bind, Sem.run_pure, Result.andThen_ok, run_underlying desc.1, Instr.sureAddr]
 rw [if_pos ⟨h0, h1⟩]
 simp [toke.sz, add_plain]
theorem pOff_append (p q : List Step) : pOff (p ++ q) = pOff p + pOff q := by
 induction p with
 | nil => simp [pOff]
 | cons s p ih => cases s <;> simp [pOff, ih] <;> omega
theorem cellsAt_mid {r off : Nat} {ds pre mid post : List Value} (hc : cellsAt w r off ds) (hd : ds = pre ++ mid ++ post) : cellsAt w r (off + pre.length) mid := by
 intro j v hj
 have hjl : j < mid.length := by
  rcases Nat.lt_or_ge j mid.length with g | g
  · exact g
  · rw [List.getElem?_eq_none g] at hj; cases hj
 have := hc (pre.length + j) v (by
  rw [hd, List.append_assoc, List.getElem?_append_right (by omega), List.getElem?_append_left (by omega)]
  rw [show pre.length + j - pre.length = j from by omega]; exact hj)
 rw [show off + pre.length + j = off + (pre.length + j) from by omega]; exact this
theorem Res.newVar (m : Mem c h F β Y w) (hF : F n) {v : SV} {cs : Array Value} {ty : TypeId} (hp : relP w (XX c.Z Y β h) v β cs.toList) :
 Res c h n F β Y w (.ptr n []) [] (.new (.var true v)) (.pointer (some ⟨w.heap.size, 0, none⟩)) (w.alloc (.cells cs ty)) (setβ β n ⟨w.heap.size, 0, 0⟩) := by
 have hn : β n = none := m.fresh n hF
 have hβ : ∀ b l', β b = some l' → setβ β n ⟨w.heap.size, 0, 0⟩ b = some l' := fun b l' hb => by
  rw [setβ_ne]; · exact hb
  · rintro rfl; rw [hn] at hb; cases hb
 obtain ⟨m', e⟩ := m.new (k := .var true v) (l := ⟨w.heap.size, 0, 0⟩) (o := .cells cs ty) hF rfl (fun w' X' β' e hβ' hh => ⟨cs, ty, 0, 0, hh, .inr (Nat.le_refl _), relP_ext e _ _ (nms_true hβ' _) hp, fun ho => by cases ho⟩)
 exact ⟨m', rel_ptr.2 ⟨_, setβ_same .., rfl⟩, fun v0 u0 h0 => rel_ext e (nms_true hβ _) h0⟩
theorem Res.setVar (m : Mem c h F β Y w) {b : Nat} {v v' : SV} {l : Loc} {cs : Array Value} {ty : TypeId} {lo hi : Nat} {cs' : List Value} (hb : lkB h b = some (.var true v)) (hl : β b = some l)
 (hw : w.heap[l.r]? = some (.cells cs ty (lo, hi))) (hf : cs.size ≤ lo ∨ hi ≤ lo) (hs : cs'.length = cs.size) (hp : relP w (XX c.Z Y β h) v' β cs') :
 Res c h n F β Y w .any [] (.set b (.var true v')) undef (World.put w l.r (.cells cs'.toArray ty (lo, hi))) β := by
 obtain ⟨m', e⟩ := m.set (k := .var true v') (o' := .cells cs'.toArray ty (lo, hi)) hb hl rfl rfl hw (fun e hh =>
  ⟨cs'.toArray, ty, lo, hi, hh, by simpa [hs] using hf, by simpa using relP_ext e _ _ (nms_true (fun _ _ k => k) _) hp, fun ho => by cases ho⟩)
 exact ⟨m', trivial, fun v0 u0 h0 => rel_ext e (nms_true (fun _ _ k => k) _) h0⟩
end
end Go.Sx
set_option linter.unusedSectionVars false
namespace Go.Sx
open Go.RowKit (Below)
theorem noTup_cons {v : SV} {r : List SV} (h : noTup (v :: r) = true) : (∀ vs, v ≠ .tup vs) ∧ noTup r = true := by
 cases v <;> first | (simp only [noTup] at h; exact ⟨by simp, h⟩) | (simp [noTup] at h)
theorem evL_ok {E : Env} {sl : Slots} {w : World} {X : Nat → Prop} {β : Beta} {a : Act} : ∀ l : List Operand, (∀ x ∈ l, rel w X (ev E sl x) β (a.eval x)) → noTup (l.map (ev E sl)) = true → relL w X (l.map (ev E sl)) β (l.map a.eval)
 | [], _, _ => by simp [relL_nil]
 | x :: r, hl, hn => by
   simp only [List.map_cons] at hn ⊢
   obtain ⟨h1, h2⟩ := noTup_cons hn
   rw [relL_cons]
   refine ⟨_, _, rfl, ?_, evL_ok r (fun y hy => hl y (by simp [hy])) h2⟩
   have := hl x (by simp)
   rw [rel_eq h1] at this
   exact this
section
variable {c : Cx} (ok : EnvOK c.E) {o : Oper} {a : Act} {sl : Slots} {h : Heap} {n : Nat} {F : Nat → Prop} {β : Beta} {Y : Nat → Prop} {w : World} (m : Mem c h F β Y w) (hF : F n)
 (hev : ∀ x ∈ o.op.operands.toList, rel w (XX c.Z Y β h) (ev c.E sl x) β (a.eval x)) {K : KE} (hK : opE c.E sl h n o.op K)
include m hF hev hK
theorem ok_move {x : Operand} (ho : o.op = .move x ∨ o.op = .assign x) : ∃ v ns ea, K v ns ea ∧ OpOK c o a h n F β Y w v ns ea := by
 rcases ho with ho | ho
 all_goals
  rw [ho] at hK hev
  simp only [opE, frc_eq] at hK
  exact ⟨_, _, _, hK, .pure m (by simp [execOp, ho]) (hev x (by simp [Op.operands]))⟩
theorem ok_pick {x y z : Operand} (ho : o.op = .pick x y z) : ∃ v ns ea, K v ns ea ∧ OpOK c o a h n F β Y w v ns ea := by
 rw [ho] at hK hev
 simp only [opE] at hK
 have hx := hev x (by simp [Op.operands])
 have hy := hev y (by simp [Op.operands])
 have hz := hev z (by simp [Op.operands])
 split at hK
 · rename_i he
   rw [he, rel_tru] at hx
   simp only [frc_eq] at hK
   exact ⟨_, _, _, hK, .pure m (by simp [execOp, ho, hx, asBool]) hy⟩
 · rename_i he
   rw [he, rel_fls] at hx
   simp only [frc_eq] at hK
   exact ⟨_, _, _, hK, .pure m (by simp [execOp, ho, hx, asBool]) hz⟩
 · cases hK
theorem ok_nilCheck {x : Operand} (ho : o.op = .nilCheck x) : ∃ v ns ea, K v ns ea ∧ OpOK c o a h n F β Y w v ns ea := by
 rw [ho] at hK hev
 simp only [opE] at hK
 have hx := hev x (by simp [Op.operands])
 split at hK
 · rename_i t he
   rw [he] at hx
   refine ⟨_, _, _, hK, .pure m (u := a.eval x) ?_ hx⟩
   obtain ⟨b, off, ds, hu, _⟩ := rel_iptr.1 hx
   simp [execOp, ho, hu]
 · rename_i b p he
   rw [he] at hx
   refine ⟨_, _, _, hK, .pure m (u := a.eval x) ?_ hx⟩
   obtain ⟨l, _, hu⟩ := rel_ptr.1 hx
   simp [execOp, ho, hu]
 · rename_i f cs he
   rw [he] at hx
   refine ⟨_, _, _, hK, .pure m (u := a.eval x) ?_ hx⟩
   obtain ⟨us, hu, _⟩ := rel_fn.1 hx
   obtain ⟨_, _, _, e⟩ := fnV_func f us
   rw [e] at hu
   simp [execOp, ho, hu]
 · cases hK
theorem ok_extract {x : Operand} {i : Nat} (ho : o.op = .extract x i) : ∃ v ns ea, K v ns ea ∧ OpOK c o a h n F β Y w v ns ea := by
 rw [ho] at hK hev
 simp only [opE] at hK
 have hx := hev x (by simp [Op.operands])
 split at hK
 · rename_i vs he
   rw [he] at hx
   split at hK
   · rename_i v hv
     simp only [frc_eq] at hK
     obtain ⟨us, hu, hl⟩ := hx
     have key : ∀ (vs : List SV) (us : List Value) (i : Nat), relL w (XX c.Z Y β h) vs β us → vs[i]? = some v → ∃ u, us[i]? = some u ∧ relV w (XX c.Z Y β h) v β u := by
      intro vs
      induction vs with
      | nil => intro us i _ h; simp at h
      | cons v0 r ih =>
        intro us i hl hi
        rw [relL_cons] at hl
        obtain ⟨u, us', rfl, h1, h2⟩ := hl
        cases i with
        | zero => simp at hi; subst hi; exact ⟨u, rfl, h1⟩
        | succ i => simpa using ih us' i h2 (by simpa using hi)
     obtain ⟨u, h1, h2⟩ := key vs us.toList i hl hv
     rw [Array.getElem?_toList] at h1
     by_cases hvt : ∃ ws, v = .tup ws
     · obtain ⟨ws, rfl⟩ := hvt
       simp only [relV, SV.isAgg, relP] at h2
     · refine ⟨_, _, _, hK, .pure m (u := u) ?_ ?_⟩
       · simp [execOp, ho, hu, Instr.extract, h1]
       · rw [rel_eq fun ws e => hvt ⟨ws, e⟩]; exact h2
   · cases hK
 · cases hK
theorem ok_unOp {op : UnOp} {T : TypeId} {x : Operand} (ho : o.op = .unOp op T x) : ∃ v ns ea, K v ns ea ∧ OpOK c o a h n F β Y w v ns ea := by
 rw [ho] at hK hev
 have hx := hev x (by simp [Op.operands])
 cases op with
 | not =>
   simp only [opE] at hK
   split at hK
   · rename_i b he
     rw [he, rel_bool] at hx
     exact ⟨_, _, _, hK, .pure m (u := .bool (!b)) (by simp [execOp, ho, hx, Op.unary]) (rel_bool.2 rfl)⟩
   · rename_i he
     rw [he, rel_tru] at hx
     exact ⟨_, _, _, hK, .pure m (u := .bool false) (by simp [execOp, ho, hx, Op.unary]) (rel_fls.2 rfl)⟩
   · rename_i he
     rw [he, rel_fls] at hx
     exact ⟨_, _, _, hK, .pure m (u := .bool true) (by simp [execOp, ho, hx, Op.unary]) (rel_tru.2 rfl)⟩
   · cases hK
 | neg =>
   simp only [opE] at hK
   split at hK
   · rename_i k b he
     rw [he, relP_int] at hx
     exact ⟨_, _, _, arith_ok hK, .pure m (u := .int k (k.wrap (0 - b))) (by simp [execOp, ho, hx, Op.unary, Op.intArith]) (relP_int.2 rfl)⟩
   · cases hK
 | xor => simp only [opE] at hK
 | plus => simp only [opE] at hK
theorem ok_makeFunc {f : Fn} {fst caps : Array Operand} (ho : o.op = .makeFunc f fst caps) : ∃ v ns ea, K v ns ea ∧ OpOK c o a h n F β Y w v ns ea := by
 rw [ho] at hK hev
 cases f <;> simp only [opE] at hK
 rename_i f
 split at hK
 · rename_i hfst
   simp only [frcL_eq] at hK
   split at hK
   case h_2 => cases hK
   rename_i hnt hlt
   have hf : fst = #[] := by simpa using hfst
   subst hf
   refine ⟨_, _, _, hK, .pure m (u := .func (.func f) #[] (caps.map a.eval)) (by simp [execOp, ho, Instr.makeFunc]) ?_⟩
   rw [rel_fn]
   refine ⟨_, (fnV_lo (ble_lt hlt) _).symm, ?_⟩
   rw [Array.toList_map]
   exact evL_ok caps.toList (fun x hx => hev x (by simpa [Op.operands] using hx)) hnt
 · cases hK
end
end Go.Sx
set_option linter.unusedSectionVars false
namespace Go.Sx
open Go.RowKit (Below)
theorem load_kind {ti : TD} {u : SV} {q : Prop} (h : match ti, u.isAgg with
 | .other, _ => False
 | .strct _, true | .arr .., true => q
 | .strct _, false | .arr .., false => False
 | _, false => q
 | _, true => False) : ti ≠ .other ∧ aggT ti = u.isAgg ∧ q := by
 cases ti <;> cases hu : u.isAgg <;> simp only [hu] at h <;> first | exact ⟨by simp, rfl, h⟩ | cases h
section
variable {c : Cx} (ok : EnvOK c.E) {o : Oper} {a : Act} {sl : Slots} {h : Heap} {n : Nat} {F : Nat → Prop} {β : Beta} {Y : Nat → Prop} {w : World} (m : Mem c h F β Y w) (hF : F n)
 (hev : ∀ x ∈ o.op.operands.toList, rel w (XX c.Z Y β h) (ev c.E sl x) β (a.eval x)) {K : KE} (hK : opE c.E sl h n o.op K)
include ok m hF hev hK
theorem ok_binOp {op : BinOp} {T T' : TypeId} {x y : Operand} (ho : o.op = .binOp op T x y T') : ∃ v ns ea, K v ns ea ∧ OpOK c o a h n F β Y w v ns ea := by
 rw [ho] at hK hev
 simp only [opE] at hK
 obtain ⟨r, val, h1, h2, h3⟩ := binX_ok (xo := x) (yo := y) ok hK (hev x (by simp [Op.operands])) (hev y (by simp [Op.operands]))
 exact ⟨_, _, _, h1, .pure m (u := val) (by simp only [execOp, ho]; exact run_val h2) h3⟩
omit m hF hev hK in
theorem under_some {S : TypeId} (h : (lkT c.E.tt S).d ≠ .other) : ∃ d, c.E.P.underlying S = some d := by
 have desc := (ok.tt S h).desc
 cases hd : (lkT c.E.tt S).d <;> simp only [hd] at desc
 · exact ⟨_, desc⟩
 · exact ⟨_, desc⟩
 · exact ⟨_, desc⟩
 · obtain ⟨_, _, _, desc⟩ := desc; exact ⟨_, desc⟩
 · exact ⟨_, desc⟩
 · obtain ⟨_, desc⟩ := desc; exact ⟨_, desc⟩
 · obtain ⟨_, desc, _⟩ := desc; exact ⟨_, desc⟩
 · exact ⟨_, desc.1⟩
 · exact ⟨_, desc⟩
 · exact ⟨_, desc⟩
 · exact absurd hd h
theorem ok_convert {S T : TypeId} {x : Operand} (ho : o.op = .convert S T x) : ∃ v ns ea, K v ns ea ∧ OpOK c o a h n F β Y w v ns ea := by
 rw [ho] at hK hev
 simp only [opE] at hK
 have hx := hev x (by simp [Op.operands])
 split at hK
 · cases hK
 · rename_i k k' b hT he hS
   obtain ⟨d, hd⟩ := under_some ok (S := S) (by simpa using hS)
   rw [he, relP_int] at hx
   have desc := (ok.tt T (by rw [hT]; simp)).desc
   simp only [hT] at desc
   exact ⟨_, _, _, arith_ok hK, .pure m (u := .int k (k.wrap b)) (by simp only [execOp, ho, hx]; exact run_val (by simp [convert, run_underlying hd, run_underlying desc, Conv.intToInt])) (relP_int.2 rfl)⟩
 · rename_i s hT he hS
   obtain ⟨d, hd⟩ := under_some ok (S := S) (by simpa using hS)
   rw [he, rel_str] at hx
   have desc := (ok.tt T (by rw [hT]; simp)).desc
   simp only [hT] at desc
   exact ⟨_, _, _, hK, .pure m (u := a.eval x) (by simp only [execOp, ho]; exact run_val (by simp [convert, run_underlying hd, run_underlying desc, hx])) (rel_str.2 hx)⟩
 · rename_i k b hT he hS
   obtain ⟨d, hd⟩ := under_some ok (S := S) (by simpa using hS)
   rw [he, relP_int] at hx
   have desc := (ok.tt T (by rw [hT]; simp)).desc
   simp only [hT] at desc
   exact ⟨_, _, _, hK, .pure m (u := .string (Utf8.encode b)) (by simp only [execOp, ho, hx]; exact run_val (by simp [convert, run_underlying hd, run_underlying desc, Conv.intToString])) (rel_str.2 (by simp))⟩
 · cases hK
theorem ok_fieldAddr {T : TypeId} {x : Operand} {f : Nat} (ho : o.op = .fieldAddr T x f) : ∃ v ns ea, K v ns ea ∧ OpOK c o a h n F β Y w v ns ea := by
 rw [ho] at hK hev
 simp only [opE] at hK
 have hx := hev x (by simp [Op.operands])
 split at hK
 case h_2 => cases hK
 rename_i fs hd
 split at hK
 case h_2 => cases hK
 rename_i T' off hf
 split at hK
 case h_2 => cases hK
 rename_i h1
 have tok := ok.tt T (by rw [hd]; simp)
 have h1' : 1 ≤ (lkT c.E.tt T').size := by simpa using h1
 have tok' : TIok c.E.P T' (lkT c.E.tt T') := ok.ts T' (by omega)
 split at hK
 · rename_i b p he
   rw [he] at hx
   obtain ⟨l, hl, hu⟩ := rel_ptr.1 hx
   refine ⟨_, _, _, hK, .pure m (u := .pointer (some ⟨l.r, pOff p + off, none⟩)) (by simp only [execOp, ho, hu]; exact run_val (fieldAt_run tok hd hf tok' h1' _ _)) (rel_ptr.2 ⟨l, hl, ?_⟩)⟩
   simp [pOff_append, pOff]
 · rename_i t he
   rw [he] at hx
   obtain ⟨b, o1, ds, hu, hX, hlt, hc, hp⟩ := rel_iptr.1 hx
   obtain ⟨u, pre, mid, post, k1, k2, k3, k4⟩ := nav_ok _ _ _ _ hK hp
   have hoff : pre.length = off := by rw [k3]; simp [pOff]
   refine ⟨_, _, _, k1, .pure m (u := .pointer (some ⟨b, o1 + off, none⟩)) (by simp only [execOp, ho, hu]; exact run_val (fieldAt_run tok hd hf tok' h1' _ _)) (rel_iptr.2 ⟨b, o1 + off, mid, rfl, hX, hlt, ?_, k4⟩)⟩
   rw [← hoff]; exact cellsAt_mid hc k2
 · cases hK
omit hF hev hK in
theorem load_val {T : TypeId} {x : Operand} {ux : Value} {K : KE} (hK : opE c.E sl h n (.load T x) K) (hx : rel w (XX c.Z Y β h) (ev c.E sl x) β ux) :
 ∃ v u ad, K v [] .nil ∧ ux = .pointer (some ad) ∧ (loadVar T ad).run c.E.P w = .ok u w ∧ rel w (XX c.Z Y β h) v β u := by
 simp only [opE] at hK
 have fin : ∀ {u : SV} {mid : List Value} {r off : Nat}, ux = .pointer (some ⟨r, off, none⟩) → relP w (XX c.Z Y β h) u β mid → cellsAt w r off mid →
  (match Nat.beq u.sz (lkT c.E.tt T).size with
    | true => (match (lkT c.E.tt T).d, u.isAgg with
      | .other, _ => False
      | .strct _, true | .arr .., true => K u [] .nil
      | .strct _, false | .arr .., false => False
      | _, false => K u [] .nil
      | _, true => False)
    | false => False) → ∃ v u ad, K v [] .nil ∧ ux = .pointer (some ad) ∧ (loadVar T ad).run c.E.P w = .ok u w ∧ rel w (XX c.Z Y β h) v β u := by
  intro u mid r off hu hp hc hk
  split at hk
  case h_2 => cases hk
  rename_i hsz
  obtain ⟨hd, hag, hk⟩ := load_kind hk
  obtain ⟨val, h1, h2⟩ := run_load_at (ok.tt T hd) (beq_of hsz) hd hag hp hc
  exact ⟨_, val, _, hk, hu, by simpa [Instr.loadAt, Instr.sureAddr] using h1, h2⟩
 split at hK
 · rename_i b p he
   rw [he] at hx
   obtain ⟨l, hl, hu⟩ := rel_ptr.1 hx
   split at hK
   · rename_i own v hb
     obtain ⟨u, mid, k1, k2, k3⟩ := var_part m hb hK hl
     exact fin hu k2 k3 k1
   · rename_i own sz xs hb
     split at hK
     · cases hK
     · obtain ⟨u, mid, k1, k2, k3⟩ := row_part m hb hK (by simp) hl
       exact fin hu k2 k3 k1
   · cases hK
 · rename_i t he
   rw [he] at hx
   obtain ⟨b, o1, ds, hu, hX, hlt, hc, hp⟩ := rel_iptr.1 hx
   simp only [frc_eq] at hK
   exact fin hu (relP_of_nob hp) hc hK
 · cases hK
theorem ok_load {T : TypeId} {x : Operand} (ho : o.op = .load T x) : ∃ v ns ea, K v ns ea ∧ OpOK c o a h n F β Y w v ns ea := by
 rw [ho] at hK hev
 obtain ⟨v, u, ad, k1, hu, k2, k3⟩ := load_val ok m hK (hev x (by simp [Op.operands]))
 exact ⟨_, _, _, k1, .pure m (u := u) (by simp only [execOp, ho, hu]; exact run_val (by simpa [Instr.loadAt, Instr.sureAddr] using k2)) k3⟩
end
end Go.Sx
set_option linter.unusedSectionVars false
namespace Go.Sx
open Go.RowKit (Below)
theorem memb_false {b : Nat} : ∀ {ns : List Nat}, memb b ns = false → ∀ x ∈ ns, x ≠ b
 | [], _, _, hx => by cases hx
 | y :: r, h, x, hx => by
   simp only [memb] at h
   cases hb : Nat.beq b y with
   | true => simp only [hb] at h; cases h
   | false =>
     simp only [hb] at h
     rcases List.mem_cons.1 hx with rfl | hx
     · exact (beq_ne hb).symm
     · exact memb_false h x hx
theorem lkB_ice_ne {b : Nat} : ∀ {ns : List Nat} {h : Heap}, (∀ x ∈ ns, x ≠ b) → lkB (iceB ns h) b = lkB h b
 | [], _, _ => rfl
 | y :: r, h, hn => by
   simp only [iceB]
   cases hy : lkB h y with
   | none => exact lkB_ice_ne fun x hx => hn x (by simp [hx])
   | some k =>
     simp only
     rw [lkB_ice_ne fun x hx => hn x (by simp [hx]), lkB_stB hy, if_neg (hn y (by simp)).symm]
section
variable {c : Cx} {h : Heap} {n : Nat} {F : Nat → Prop} {β : Beta} {Y : Nat → Prop} {w : World} (m : Mem c h F β Y w) (hF : F n)
include m
theorem Res.ice {v : SV} {ns : List Nat} {ea : EA} {u : Value} {w' : World} {β' : Beta} (r : Res c (iceB ns h) n F β Y w v [] ea u w' β') : Res c h n F β Y w v ns ea u w' β' := by
 obtain ⟨_, e, _⟩ := m.ice ns
 have he : hE [] ea (iceB ns h) n = hE ns ea h n := by cases ea <;> rfl
 obtain ⟨r1, r2, r3⟩ := r
 rw [he] at r1 r2 r3
 exact ⟨r1, r2, fun v0 u0 h0 => r3 v0 u0 (rel_ext e (nms_true (fun _ _ k => k) _) h0)⟩
theorem Res.setRow {b sz : Nat} {xs xs' : List SV} {l : Loc} {cs : Array Value} {ty : TypeId} {lo hi : Nat} {c1 c2 : List Value} (hb : lkB h b = some (.row true sz xs)) (hl : β b = some l) (hcap : l.cap ≠ 0)
 (hlen : xs'.length = xs.length) (hw : w.heap[l.r]? = some (.cells cs ty (lo, hi))) (hf : cs.size ≤ lo ∨ hi ≤ lo) (hs : (c1 ++ c2).length = cs.size) (hp : relR w (XX c.Z Y β h) sz xs' nob c1) :
 Res c h n F β Y w .any [] (.set b (.row true sz xs')) undef (World.put w l.r (.cells (c1 ++ c2).toArray ty (lo, hi))) β := by
 obtain ⟨l', hl', hok⟩ := m.blk b _ hb
 rw [hl] at hl'; cases hl'
 obtain ⟨g1, g2, g3, g4⟩ := hok
 rcases g4 with g4 | ⟨cs0, ty0, lo0, hi0, f1, f2, f3, f4, f5⟩
 · exact absurd g4 hcap
 rw [f1] at hw; cases hw
 obtain ⟨m', e⟩ := m.set (k := .row true sz xs') (o' := .cells (c1 ++ c2).toArray ty (lo, hi)) hb hl (by simp [live, hcap]) (by simp [live, hcap]) f1 (fun e hh =>
  ⟨by rw [g1, hlen], g2, g3, .inr ⟨_, ty, lo, hi, hh, by simpa [← hs] using hf, by simpa [← hs] using f3, ⟨c1, c2, by simp, relR_ext e _ _ _ (nmsL_true (fun _ _ k => k) _) hp⟩, fun ho => by cases ho⟩⟩)
 exact ⟨m', trivial, fun v0 u0 h0 => rel_ext e (nms_true (fun _ _ k => k) _) h0⟩
end
theorem run_storeAt {P : Program} {T : TypeId} {ti : TI} (tok : TIok P T ti) {w : World} {r off : Nat} {u : Value} {cs : Array Value} {ty : TypeId} {lo hi : Nat} {pre mid post : List Value}
 (hw : w.heap[r]? = some (.cells cs ty (lo, hi))) (hf : cs.size ≤ lo ∨ hi ≤ lo) (hc : cs.toList = pre ++ mid ++ post) (hp : pre.length = off) (hm : mid.length = u.cells.toList.length) (hs : u.cells.toList.length = ti.size) (h1 : ∀ x ∈ u.cells.toList, x.oneCell' = true) :
 (Instr.storeAt T (.pointer (some ⟨r, off, none⟩)) u).run P w = .ok () (World.put w r (.cells (pre ++ u.cells.toList ++ post).toArray ty (lo, hi))) := by
 have hsz : u.cells.size = ti.size := by simpa using hs
 have := run_storeCells (P := P) (off := off) u.cells.toList w cs 0 pre mid post hw hf hc (by simpa using hp) hm h1
 simp only [Instr.storeAt, Instr.sureAddr, storeVar, Sem.run_bind, Sem.run_pure, Result.andThen_ok, tok.sz]
 rw [if_neg (by simp [hsz])]
 simpa using this
theorem pOff_aSt {z : SV} {i sz : Nat} : pOff [aSt z i sz] = i * sz := by
 unfold aSt
 split <;> simp [pOff]
section
variable {c : Cx} (ok : EnvOK c.E) {o : Oper} {a : Act} {sl : Slots} {h : Heap} {n : Nat} {F : Nat → Prop} {β : Beta} {Y : Nat → Prop} {w : World} (m : Mem c h F β Y w) (hF : F n)
 (hev : ∀ x ∈ o.op.operands.toList, rel w (XX c.Z Y β h) (ev c.E sl x) β (a.eval x)) {K : KE} (hK : opE c.E sl h n o.op K)
include ok m hF hev hK
omit ok hev hK in
theorem storeV_ok {T : TypeId} {b : Nat} {v u : SV} {p : List Step} {l : Loc} {val : Value} {K : KE} (tok : TIok c.E.P T (lkT c.E.tt T)) (hk : storeV h b v p u K) (hb : lkB h b = some (.var true v)) (hl : β b = some l)
 (hcells : relP w (XX c.Z Y β h) u β val.cells.toList) (hlen : val.cells.toList.length = (lkT c.E.tt T).size) :
 ∃ v ns ea w', K v ns ea ∧ (Instr.storeAt T (.pointer (some ⟨l.r, pOff p, none⟩)) val).run c.E.P w = .ok () w' ∧ Res c h n F β Y w v ns ea undef w' β := by
 obtain ⟨l', hl', hok⟩ := m.blk b _ hb
 rw [hl] at hl'; cases hl'
 obtain ⟨cs, ty, lo, hi, g1, g2, g3, g4⟩ := hok
 have hv1 : val.cells.size = val.cells.toList.length := by simp
 unfold storeV at hk
 split at hk
 · rename_i hcr
   obtain ⟨v', pre, mid, post, k1, k2, k3, k4, k5⟩ := upd_flat u _ hcells p v _ _ hcr hk g3
   refine ⟨_, _, _, _, k1, run_storeAt tok g1 g2 k2 k3 k4 hlen (relP_one _ _ hcells), ?_⟩
   exact Res.setVar m hb hl g1 g2 (by have := congrArg List.length k2; simp at this k4 ⊢; omega) k5
 · obtain ⟨u', ns', k0, _, k⟩ := frz_ok m 60 u [] _ hk
   split at k0
   case h_2 => cases k0
   rename_i hmb
   have hcold := m.cold ns'
   have hc' := (k _ hcold).1 _ hcells
   obtain ⟨v', pre, mid, post, k1, k2, k3, k4, k5⟩ := upd_nob u' _ hc' p v _ _ β k0 (relP_ext hcold.ext _ _ (nms_true (fun _ _ k => k) _) g3)
   refine ⟨_, _, _, _, k1, run_storeAt tok g1 g2 k2 k3 k4 hlen (relP_one _ _ hcells), ?_⟩
   refine Res.ice m ?_
   exact Res.setVar (m.ice ns').1 (by rw [lkB_ice_ne (memb_false hmb)]; exact hb) hl g1 g2 (by have := congrArg List.length k2; simp at this k4 ⊢; omega) k5
omit ok hev hK in
theorem storeR_ok {T : TypeId} {b sz : Nat} {xs : List SV} {u : SV} {p : List Step} {l : Loc} {val : Value} {K : KE} (tok : TIok c.E.P T (lkT c.E.tt T)) (hk : storeR h b sz xs p u K) (hb : lkB h b = some (.row true sz xs)) (hl : β b = some l)
 (hcells : relP w (XX c.Z Y β h) u β val.cells.toList) (hlen : val.cells.toList.length = (lkT c.E.tt T).size) :
 ∃ v ns ea w', K v ns ea ∧ (Instr.storeAt T (.pointer (some ⟨l.r, pOff p, none⟩)) val).run c.E.P w = .ok () w' ∧ Res c h n F β Y w v ns ea undef w' β := by
 obtain ⟨l', hl', hok⟩ := m.blk b _ hb
 rw [hl] at hl'; cases hl'
 obtain ⟨g1, g2, g3, g4⟩ := hok
 unfold storeR at hk
 obtain ⟨u', ns', k0, _, k⟩ := frz_ok m 60 u [] _ hk
 split at k0
 case h_2 => cases k0
 rename_i i s p hmb
 split at k0
 case h_2 => cases k0
 rename_i hss
 have hss := beq_of hss
 have hcold := m.cold ns'
 have hc' := (k _ hcold).1 _ hcells
 unfold IdxVC at k0
 obtain ⟨s0, _, hs0, k0⟩ := k0
 simp only [Int.toNat_natCast] at hs0
 have hcap : l.cap ≠ 0 := by
  have : i < xs.length := by
   rcases Nat.lt_or_ge i xs.length with g | g
   · exact g
   · rw [List.getElem?_eq_none g] at hs0; cases hs0
  omega
 rcases g4 with g4 | ⟨cs, ty, lo, hi, f1, f2, f3, ⟨c1, c2, f4, f5⟩, f6⟩
 · exact absurd g4 hcap
 have f5' := relR_ext hcold.ext _ _ _ (nmsL_true (fun _ _ k => k) _) f5
 obtain ⟨d1, d2, d3, rfl, e1, e2, e3, e4⟩ := relR_get f5' hs0
 obtain ⟨v', pre, mid, post, k1, rfl, k3, k4, k5⟩ := upd_nob u' _ hc' p s0 _ _ nob k0 e3
 have k4' : mid.length = val.cells.size := by simpa using k4
 have e5 := e4 v' (pre ++ val.cells.toList ++ post) (by rw [← e2]; simp [k4']) k5
 have hrun := run_storeAt (pre := d1 ++ pre) (mid := mid) (post := post ++ d3 ++ c2) (r := l.r) (off := pOff (.idx i s :: p)) tok f1 f2 (by rw [f4]; simp) (by simp [e1, k3, pOff, hss]) k4 hlen (relP_one _ _ hcells)
 refine ⟨_, _, _, _, k1, hrun, ?_⟩
 refine Res.ice m ?_
 have hsetRow := Res.setRow (n := n) (m.ice ns').1 (xs' := xs.set i v') (c1 := d1 ++ (pre ++ val.cells.toList ++ post) ++ d3) (c2 := c2) (by rw [lkB_ice_ne (memb_false hmb)]; exact hb) hl hcap (by simp) f1 f2
  (by have := congrArg List.length f4; simp at this ⊢; omega) e5
 simpa using hsetRow
theorem ok_store {T : TypeId} {x y : Operand} (ho : o.op = .store T x y) : ∃ v ns ea, K v ns ea ∧ OpOK c o a h n F β Y w v ns ea := by
 rw [ho] at hK hev
 simp only [opE] at hK
 have hx := hev x (by simp [Op.operands])
 have hy := hev y (by simp [Op.operands])
 have skip : ∀ {w' : World}, (Instr.storeAt T (a.eval x) (a.eval y)).run c.E.P w = .ok () w' → (execOp a.eval o).run c.E.P w = .ok .skip w' := by
  intro w' hr
  simp only [execOp, ho, Sem.run_bind, hr, Result.andThen_ok, Sem.run_pure]
 split at hK
 case h_2 => cases hK
 rename_i b p hone he
 have tok := ok.ts T (by have : 1 ≤ (lkT c.E.tt T).size := (by simpa using hone); omega)
 rw [he] at hx
 obtain ⟨l, hl, hu⟩ := rel_ptr.1 hx
 rw [hu] at skip
 split at hK
 · rename_i v hb
   obtain ⟨hn1, hn2, hK⟩ := solid_iff hK
   split at hK
   case h_2 => cases hK
   rename_i hsz
   have hcells := rel_cells hn1 hn2 hy
   have hlen : (a.eval y).cells.toList.length = (lkT c.E.tt T).size := by rw [relP_len _ _ hcells, beq_of hsz]
   obtain ⟨v1, ns, ea, w', k1, k2, k3⟩ := storeV_ok m hF tok hK hb hl hcells hlen
   exact ⟨_, _, _, k1, .skip (β' := β) (skip k2) k3⟩
 · rename_i sz xs hb
   obtain ⟨hn1, hn2, hK⟩ := solid_iff hK
   split at hK
   case h_2 => cases hK
   rename_i hsz
   have hcells := rel_cells hn1 hn2 hy
   have hlen : (a.eval y).cells.toList.length = (lkT c.E.tt T).size := by rw [relP_len _ _ hcells, beq_of hsz]
   obtain ⟨v1, ns, ea, w', k1, k2, k3⟩ := storeR_ok m hF tok hK hb hl hcells hlen
   exact ⟨_, _, _, k1, .skip (β' := β) (skip k2) k3⟩
 · cases hK
theorem ok_indexAddr {T : TypeId} {x y : Operand} (ho : o.op = .indexAddr T x y) : ∃ v ns ea, K v ns ea ∧ OpOK c o a h n F β Y w v ns ea := by
 rw [ho] at hK hev
 simp only [opE] at hK
 have hx := hev x (by simp [Op.operands])
 have hy := hev y (by simp [Op.operands])
 split at hK
 case h_2 => cases hK
 rename_i k i hi
 rw [hi, relP_int] at hy
 have vrun : ∀ {val : Value}, (Instr.indexAt T (a.eval x) (.int k i)).run c.E.P w = .ok val w → (execOp a.eval o).run c.E.P w = .ok (.value val) w := by
  intro val hr
  simp only [execOp, ho, hy]
  exact run_val hr
 split at hK
 · rename_i e hd
   have tok := ok.tt T (by rw [hd]; simp)
   split at hK
   · rename_i sz xs he
     rw [he] at hx
     split at hK
     case h_2 => cases hK
     rename_i hsz h1
     have hsz := beq_of hsz
     have h1 : 1 ≤ sz := by simpa using h1
     have toke := ok.ts e (by omega)
     unfold IdxVC at hK
     obtain ⟨s, h0, hs, hK⟩ := hK
     obtain ⟨ad, cap, hu, hle, hmem⟩ := rel_sl.1 hx
     have hlt : i.toNat < xs.length := by
      rcases Nat.lt_or_ge i.toNat xs.length with g | g
      · exact g
      · rw [List.getElem?_eq_none g] at hs; cases hs
     rcases hmem with rfl | ⟨b, off, ds, rfl, hX, hb, hc, hr⟩
     · simp at hs
     · obtain ⟨c1, c2, c3, rfl, g1, g2, g3, _⟩ := relR_get hr hs
       refine ⟨_, _, _, hK, .pure m (u := .pointer (some ⟨b, off + i.toNat * (lkT c.E.tt e).size, none⟩)) (vrun ?_) (rel_iptr.2 ⟨b, _, c2, rfl, hX, hb, ?_, g3⟩)⟩
       · rw [hu]; exact indexAt_slice_run tok hd toke h0 (by omega)
       · rw [← hsz, ← g1]; exact cellsAt_mid hc rfl
   · rename_i b sz he
     rw [he] at hx
     split at hK
     case h_2 => cases hK
     rename_i own sz' xs hb hc
     simp only [Bool.and_eq_true] at hc
     have hsz := beq_of hc.1
     have h1 : 1 ≤ sz := by simpa using hc.2
     have toke := ok.ts e (by omega)
     unfold SideVC at hK
     obtain ⟨⟨h0, hlt⟩, hK⟩ := hK
     obtain ⟨l, ad, hl, hu, had⟩ := rel_osl.1 hx
     obtain ⟨l', hl', hok⟩ := m.blk b _ hb
     rw [hl] at hl'; cases hl'
     obtain ⟨g1, g2, g3, g4⟩ := hok
     have hcap : l.cap ≠ 0 := by omega
     refine ⟨_, _, _, hK, .pure m (u := .pointer (some ⟨l.r, 0 + i.toNat * (lkT c.E.tt e).size, none⟩)) (vrun ?_) (rel_ptr.2 ⟨l, hl, ?_⟩)⟩
     · rw [hu, had hcap]; exact indexAt_slice_run tok hd toke h0 (by omega)
     · simp [pOff, hsz]
   · cases hK
 · rename_i q e hd
   have tok := ok.tt T (by rw [hd]; simp)
   split at hK
   · rename_i b p h1 he
     have h1 : 1 ≤ (lkT c.E.tt e).size := by simpa using h1
     have toke := ok.ts e (by omega)
     rw [he] at hx
     unfold SideVC at hK
     obtain ⟨⟨h0, hlt⟩, hK⟩ := hK
     obtain ⟨l, hl, hu⟩ := rel_ptr.1 hx
     refine ⟨_, _, _, hK, .pure m (u := .pointer (some ⟨l.r, pOff p + i.toNat * (lkT c.E.tt e).size, none⟩)) (vrun ?_) (rel_ptr.2 ⟨l, hl, ?_⟩)⟩
     · rw [hu]; exact indexAt_array_run tok hd toke h0 hlt
     · simp [pOff_append, pOff_aSt]
   · rename_i t h1 he
     have h1 : 1 ≤ (lkT c.E.tt e).size := by simpa using h1
     have toke := ok.ts e (by omega)
     rw [he] at hx
     unfold SideVC at hK
     obtain ⟨⟨h0, hlt⟩, hK⟩ := hK
     obtain ⟨b, o1, ds, hu, hX, hb, hc, hp⟩ := rel_iptr.1 hx
     obtain ⟨u, pre, mid, post, k1, k2, k3, k4⟩ := nav_ok _ _ _ _ hK hp
     have hoff : pre.length = i.toNat * (lkT c.E.tt e).size := by rw [k3]; exact pOff_aSt
     refine ⟨_, _, _, k1, .pure m (u := .pointer (some ⟨b, o1 + i.toNat * (lkT c.E.tt e).size, none⟩)) (vrun ?_) (rel_iptr.2 ⟨b, _, mid, rfl, hX, hb, ?_, k4⟩)⟩
     · rw [hu]; exact indexAt_array_run tok hd toke h0 hlt
     · rw [← hoff]; exact cellsAt_mid hc k2
   · cases hK
 · cases hK
include ok in
theorem ok_index {T : TypeId} {x y : Operand} (ho : o.op = .index T x y) : ∃ v ns ea, K v ns ea ∧ OpOK c o a h n F β Y w v ns ea := by
 rw [ho] at hK hev
 simp only [opE] at hK
 have hx := hev x (by simp [Op.operands])
 have hy := hev y (by simp [Op.operands])
 split at hK
 · rename_i k i s hd hi he
   have desc := (ok.tt T (by rw [hd]; simp)).desc
   simp only [hd] at desc
   rw [hi, relP_int] at hy
   rw [he, rel_str] at hx
   unfold ByteVC at hK
   obtain ⟨b, h0, hb, hK⟩ := hK
   refine ⟨_, _, _, hK, .pure m (u := .int .u8 b.toNat) ?_ (relP_int.2 rfl)⟩
   simp only [execOp, ho, hx, hy]
   refine run_val ?_
   have hlt : i.toNat < s.length := by
    rcases Nat.lt_or_ge i.toNat s.length with g | g
    · exact g
    · rw [List.getElem?_eq_none g] at hb; cases hb
   have hsz : (⟨s.toArray⟩ : ByteArray).size = s.length := by simp [ByteArray.size]
   rw [run_index_string (P := c.E.P) w T _ k i desc, dif_pos ⟨h0, by rw [hsz]; omega⟩]
   congr 3
   have : s[i.toNat]'hlt = b := by rw [List.getElem?_eq_getElem hlt] at hb; exact Option.some.inj hb
   rw [← this]
   rfl
 · rename_i mm e kk i m0 sz xs hd hi he
   rw [hi, relP_int] at hy
   rw [he] at hx
   split at hK
   case h_2 => cases hK
   rename_i hsz0
   rw [Bool.and_eq_true] at hsz0
   obtain ⟨hmm, hsz0⟩ := hsz0
   have := beq_of hmm; subst this
   unfold IdxVC at hK
   obtain ⟨s, h0, hs, hK⟩ := hK
   split at hK
   case h_2 => cases hK
   rename_i hsz
   obtain ⟨hd', hag, hK⟩ := load_kind hK
   have tok := ok.tt T (by rw [hd]; simp)
   have tok' := ok.tt e hd'
   obtain ⟨cs, hu, hp⟩ := (rel_agg rfl).1 hx
   simp only [relP] at hp
   obtain ⟨c1, c2, c3, hc, g1, g0, g2, _⟩ := relR_get hp.2 hs
   have g2 := relP_of_nob (β := β) g2
   have hone : aggT (lkT c.E.tt e).d = false → (lkT c.E.tt e).size = 1 := by
    intro hh
    rw [← beq_of hsz]
    rw [hag] at hh
    cases s <;> first | rfl | cases hh
   have hlen := relP_len _ _ g2
   have r1 := run_part tok' hd' (cs := cs) (pre := c1) (mid := c2) (post := c3) hc (by rw [hlen, beq_of hsz]) hone w
   refine ⟨_, _, _, hK, .pure m (u := cellsVal (aggT (lkT c.E.tt e).d) c2) ?_ (by rw [hag]; exact rel_cellsVal g2 fun hh => by rw [hlen, beq_of hsz]; exact hone (hag ▸ hh))⟩
   have desc := tok.desc
   simp only [hd] at desc
   simp only [execOp, ho, hu, hy]
   refine run_val ?_
   have hlt : i.toNat < xs.length := by
    rcases Nat.lt_or_ge i.toNat xs.length with g | g
    · exact g
    · rw [List.getElem?_eq_none g] at hs; cases hs
   rw [g1, beq_of hsz0] at r1
   simp only [Instr.index, asIntOf, Sem.run_bind, Sem.run_pure, Result.andThen_ok, run_underlying desc.1]
   rw [if_pos ⟨h0, by have := hp.1; omega⟩]
   simp only [Sem.run_bind, tok'.sz, Result.andThen_ok]
   exact r1
 · cases hK
end
end Go.Sx
set_option linter.unusedSectionVars false
namespace Go.Sx
open Go.RowKit (Below)
section
variable {c : Cx} (ok : EnvOK c.E) {o : Oper} {a : Act} {sl : Slots} {h : Heap} {n : Nat} {F : Nat → Prop} {β : Beta} {Y : Nat → Prop} {w : World} (m : Mem c h F β Y w) (hF : F n)
 (hev : ∀ x ∈ o.op.operands.toList, rel w (XX c.Z Y β h) (ev c.E sl x) β (a.eval x)) {K : KE} (hK : opE c.E sl h n o.op K)
include m hF hev hK
theorem ok_box {T : TypeId} {x : Operand} (ho : o.op = .box T x) : ∃ v ns ea, K v ns ea ∧ OpOK c o a h n F β Y w v ns ea := by
 rw [ho] at hK hev
 simp only [opE] at hK
 have hx := hev x (by simp [Op.operands])
 obtain ⟨h1, h2, hK⟩ := solid_iff hK
 refine ⟨_, _, _, hK, .value (w' := w.alloc (.cells (a.eval x).cells T)) (u := .pointer (some ⟨w.heap.size, 0, none⟩)) (by simp only [execOp, ho, Instr.box, newVar, newRow]; rfl) (Res.newVar m hF (rel_cells h1 h2 hx))⟩
include ok in
omit hev in
theorem ok_alloc {T : TypeId} (ho : o.op = .alloc T) : ∃ v ns ea, K v ns ea ∧ OpOK c o a h n F β Y w v ns ea := by
 rw [ho] at hK
 simp only [opE] at hK
 obtain ⟨h1, h2, hK⟩ := solid_iff hK
 have tok := ok.tz T h1
 obtain ⟨i, hi, _, _, hz⟩ := tok.info
 obtain ⟨z, hz1, hz2⟩ := hz h1
 have hzr : rel w (XX c.Z Y β h) (lkT c.E.tt T).zero β z := by
  rw [rel_eq h2]
  exact relV_ext (Ext.refl _ _) (nms_true (fun _ _ k => by cases k) _) (hz2 w _)
 refine ⟨_, _, _, hK, .value (w' := w.alloc (.cells z.cells T)) (u := .pointer (some ⟨w.heap.size, 0, none⟩)) ?_ (Res.newVar m hF (rel_cells h1 h2 hzr))⟩
 simp only [execOp, ho]
 refine run_val ?_
 simp only [Instr.alloc, zeroValue, typeInfo, Sem.run_bind, run_program, Result.andThen_ok, hi, Sem.run_pure, hz1, newVar, newRow, run_newObj]
 rfl
include ok in
theorem ok_field {T : TypeId} {x : Operand} {f : Nat} (ho : o.op = .field T x f) : ∃ v ns ea, K v ns ea ∧ OpOK c o a h n F β Y w v ns ea := by
 rw [ho] at hK hev
 simp only [opE] at hK
 have hx := hev x (by simp [Op.operands])
 split at hK
 case h_2 => cases hK
 rename_i fs hd
 split at hK
 case h_2 => cases hK
 rename_i T' off hf
 have tok := ok.tt T (by rw [hd]; simp)
 generalize ev c.E sl x = v at hK hx
 cases v <;> simp only [nav] at hK
 rename_i vs
 split at hK
 case h_2 => cases hK
 rename_i hoff
 split at hK
 case h_2 => cases hK
 rename_i s hs
 simp only [frc_eq] at hK
 split at hK
 case h_2 => cases hK
 rename_i hsz
 obtain ⟨hd', hag, hK⟩ := load_kind hK
 have tok' := ok.tt T' hd'
 obtain ⟨cs, hu, hp⟩ := (rel_agg rfl).1 hx
 simp only [relP] at hp
 obtain ⟨c1, c2, c3, hc, g1, g2, _⟩ := relC_get hp hs
 have hlen := relP_len _ _ g2
 have hone : aggT (lkT c.E.tt T').d = false → (lkT c.E.tt T').size = 1 := by
  intro hh
  rw [← beq_of hsz]
  rw [hag] at hh
  cases s <;> first | rfl | cases hh
 have r1 := run_part tok' hd' (cs := cs) (pre := c1) (mid := c2) (post := c3) hc (by rw [hlen, beq_of hsz]) hone w
 refine ⟨_, _, _, hK, .pure m (u := cellsVal (aggT (lkT c.E.tt T').d) c2) ?_ (by rw [hag]; exact rel_cellsVal g2 fun hh => by rw [hlen, beq_of hsz]; exact hone (hag ▸ hh))⟩
 have desc := tok.desc
 simp only [hd] at desc
 obtain ⟨F, hF, hfs, _⟩ := desc
 rw [← hfs, List.getElem?_map] at hf
 cases hF' : F.toList[f]? with
 | none => rw [hF'] at hf; cases hf
 | some fl =>
   rw [hF'] at hf
   simp only [Option.map_some, Option.some.injEq, Prod.mk.injEq] at hf
   obtain ⟨rfl, rfl⟩ := hf
   rw [Array.getElem?_toList] at hF'
   simp only [execOp, ho, hu]
   refine run_val ?_
   rw [g1, ← beq_of hoff] at r1
   simp [Instr.field, run_underlying hF, hF', asAgg, r1]
end
theorem fold_set {off : Nat} : ∀ (vs : List Value) (A : Array Value) (pre mid post : List Value) (k : Nat), A.toList = pre ++ mid ++ post → pre.length = off + k → mid.length = vs.length →
 ((vs.zipIdx k).foldl (fun cs (x : Value × Nat) => cs.setIfInBounds (off + x.2) x.1) A).toList = pre ++ vs ++ post
 | [], A, pre, mid, post, k, hA, _, hm => by
   have : mid = [] := List.length_eq_zero_iff.1 hm
   subst this
   simpa using hA
 | v :: r, A, pre, mid, post, k, hA, hp, hm => by
   match mid, hm with
   | x :: mid, hm =>
     simp only [List.zipIdx_cons, List.foldl_cons]
     have := fold_set (off := off) r (A.setIfInBounds (off + k) v) (pre ++ [v]) mid post (k + 1) (by
      rw [Array.toList_setIfInBounds, hA, show off + k = pre.length from hp.symm]
      simp) (by simp; omega) (by simpa using hm)
     rw [this]
     simp
theorem fill_step {place : Nat → Option (Nat × Nat)} {i off size : Nat} {v : Value} {A : Array Value} {rest : List (Nat × Value)} {pre mid post : List Value} (hp : place i = some (off, size)) (hv : v.cells.size = size)
 (hA : A.toList = pre ++ mid ++ post) (hpre : pre.length = off) (hmid : mid.length = size) :
 Instr.fill place A ((i, v) :: rest) = Instr.fill place (pre ++ v.cells.toList ++ post).toArray rest := by
 have hsz : off + size ≤ A.size := by
  have := congrArg List.length hA
  simp at this
  omega
 simp only [Instr.fill, hp]
 rw [if_neg (by simp [hv]; omega)]
 congr 1
 apply Array.toList_inj.1
 have h2 := fold_set (off := off) v.cells.toList A pre mid post 0 hA (by simpa using hpre) (by rw [hmid, ← hv]; simp)
 have h3 : v.cells.zipIdx = (v.cells.toList.zipIdx).toArray := by
  apply Array.toList_inj.1
  simp
 rw [h3]
 simpa using h2
theorem szs_set {z v : SV} (hz : z.sz = v.sz) : ∀ {vs : List SV} {i j : Nat}, vs[i]? = some z → szs ((vs.set i v).take j) = szs (vs.take j)
 | [], _, _, h => by simp at h
 | x :: r, 0, j, h => by
   simp at h; subst h
   cases j with
   | zero => simp
   | succ j => simp [szs, hz]
 | x :: r, i + 1, j, h => by
   cases j with
   | zero => simp
   | succ j => simp [szs, szs_set hz (vs := r) (i := i) (j := j) (by simpa using h)]
section
variable {c : Cx} {a : Act} {sl : Slots} {β : Beta} {w : World} {X : Nat → Prop}
theorem fillF_ok {E : Env} {place : Nat → Option (Nat × Nat)} : ∀ (ps : List (Nat × Operand)) (vs : List SV) (K : List SV → Prop) (A : Array Value), fillF E sl ps vs K → (∀ p ∈ ps, rel w X (ev E sl p.2) β (a.eval p.2)) →
 relC w X vs β A.toList → (∀ i z, vs[i]? = some z → place i = some (szs (vs.take i), z.sz)) →
 ∃ vs' A', K vs' ∧ Instr.fill place A (ps.map fun p => (p.1, a.eval p.2)) = some A' ∧ relC w X vs' β A'.toList
 | [], vs, K, A, hf, _, hr, _ => by
   simp only [fillF, frcL_eq] at hf
   exact ⟨vs, A, hf, rfl, hr⟩
 | (i, x) :: r, vs, K, A, hf, hev, hr, hpl => by
   simp only [fillF] at hf
   split at hf
   case h_2 => cases hf
   rename_i z hz
   obtain ⟨h1, h2, hf⟩ := solid_iff hf
   split at hf
   case h_2 => cases hf
   rename_i hsz
   have hsz := beq_of hsz
   have hx := hev (i, x) (by simp)
   have hcells := rel_cells h1 h2 hx
   obtain ⟨c1, c2, c3, hA, g1, g2, g3⟩ := relC_get hr hz
   have hst := fill_step (rest := r.map fun p => (p.1, a.eval p.2)) (v := a.eval x) (hpl i z hz) (by rw [← Array.length_toList, relP_len _ _ hcells, hsz]) hA g1 (relP_len _ _ g2)
   simp only [List.map_cons, hst]
   refine fillF_ok r _ K _ hf (fun p hp => hev p (by simp [hp])) (by simpa using g3 _ _ hcells) ?_
   intro j y hy
   rw [szs_set hsz hz]
   by_cases e : i = j
   · subst e
     have hlt : i < vs.length := by
      rcases Nat.lt_or_ge i vs.length with g | g
      · exact g
      · rw [List.getElem?_eq_none g] at hz; cases hz
     rw [List.getElem?_set_self hlt] at hy
     cases hy
     rw [hpl i z hz, hsz]
   · rw [List.getElem?_set_ne e] at hy
     exact hpl j y hy
theorem fillR_ok {E : Env} {sz : Nat} : ∀ (ps : List (Nat × Operand)) (vs : List SV) (K : List SV → Prop) (A : Array Value), fillF E sl ps vs K → (∀ p ∈ ps, rel w X (ev E sl p.2) β (a.eval p.2)) →
 relR w X sz vs β A.toList → ∃ vs' A', K vs' ∧ vs'.length = vs.length ∧ Instr.fill (fun i => some (i * sz, sz)) A (ps.map fun p => (p.1, a.eval p.2)) = some A' ∧ relR w X sz vs' β A'.toList
 | [], vs, K, A, hf, _, hr => by
   simp only [fillF, frcL_eq] at hf
   exact ⟨vs, A, hf, rfl, rfl, hr⟩
 | (i, x) :: r, vs, K, A, hf, hev, hr => by
   simp only [fillF] at hf
   split at hf
   case h_2 => cases hf
   rename_i z hz
   obtain ⟨h1, h2, hf⟩ := solid_iff hf
   split at hf
   case h_2 => cases hf
   rename_i hsz
   have hsz := beq_of hsz
   have hx := hev (i, x) (by simp)
   have hcells := rel_cells h1 h2 hx
   obtain ⟨c1, c2, c3, hA, g1, g0, g2, g3⟩ := relR_get hr hz
   have hl : (a.eval x).cells.toList.length = sz := by rw [relP_len _ _ hcells, ← hsz, ← relP_len _ _ g2, g0]
   have hst := fill_step (place := fun i => some (i * sz, sz)) (rest := r.map fun p => (p.1, a.eval p.2)) (v := a.eval x) (i := i) rfl (by rw [← hl]; simp) hA g1 g0
   simp only [List.map_cons, hst]
   obtain ⟨vs', A', k1, k2, k3, k4⟩ := fillR_ok r _ K (c1 ++ (a.eval x).cells.toList ++ c3).toArray hf (fun p hp => hev p (by simp [hp])) (by simpa using g3 _ _ hl hcells)
   exact ⟨vs', A', k1, by rw [k2]; simp, k3, k4⟩
theorem solids_ok {E : Env} {sz : Nat} : ∀ (ps : List (Nat × Operand)) (K : List SV → Prop) (k : Nat), solids E sl sz ps K → inOrder k ps = true → (∀ p ∈ ps, rel w X (ev E sl p.2) β (a.eval p.2)) →
 ∃ vs, K vs ∧ vs.length = ps.length ∧ ∀ (A : Array Value) (pre rest : List Value), A.toList = pre ++ rest → pre.length = k * sz → rest.length = ps.length * sz →
  ∃ A' ds, Instr.fill (fun i => some (i * sz, sz)) A (ps.map fun p => (p.1, a.eval p.2)) = some A' ∧ A'.toList = pre ++ ds ∧ relR w X sz vs β ds
 | [], K, k, hf, _, _ => ⟨[], hf, rfl, fun A pre rest hA _ hl => ⟨A, [], rfl, by
    have : rest = [] := List.length_eq_zero_iff.1 (by simpa using hl)
    rw [hA, this], by simp [relR_nil]⟩⟩
 | (i, x) :: r, K, k, hf, ho, hev => by
   simp only [solids] at hf
   obtain ⟨h1, h2, hf⟩ := solid_iff hf
   split at hf
   case h_2 => cases hf
   rename_i hsz
   have hsz := beq_of hsz
   simp only [inOrder] at ho
   split at ho
   case h_2 => cases ho
   rename_i hki
   have hki := beq_of hki
   subst hki
   have hx := hev (k, x) (by simp)
   have hcells := rel_cells h1 h2 hx
   have hl : (a.eval x).cells.toList.length = sz := by rw [relP_len _ _ hcells, hsz]
   obtain ⟨vs, k1, k2, k3⟩ := solids_ok r _ (k + 1) hf ho (fun p hp => hev p (by simp [hp]))
   refine ⟨_, k1, by simp [k2], fun A pre rest hA hp hr => ?_⟩
   have hrl : rest.length = sz + r.length * sz := by rw [hr]; simp [Nat.add_mul, Nat.add_comm]
   have hst := fill_step (place := fun i => some (i * sz, sz)) (rest := r.map fun p => (p.1, a.eval p.2)) (v := a.eval x) (i := k) (pre := pre) (mid := rest.take sz) (post := rest.drop sz) rfl (by rw [← hl]; simp)
    (by rw [hA]; simp) hp (by simp; omega)
   simp only [List.map_cons, hst]
   obtain ⟨A', ds, f1, f2, f3⟩ := k3 (pre ++ (a.eval x).cells.toList ++ rest.drop sz).toArray (pre ++ (a.eval x).cells.toList) (rest.drop sz) (by simp) (by simp [hp, Nat.add_mul]; simpa using hl) (by simp; omega)
   refine ⟨A', (a.eval x).cells.toList ++ ds, f1, by rw [f2]; simp, ?_⟩
   rw [relR_cons]
   exact ⟨_, _, rfl, hl, hcells, f3⟩
end
end Go.Sx
set_option linter.unusedSectionVars false
namespace Go.Sx
open Go.RowKit (Below)
section
variable {c : Cx} {h : Heap} {n : Nat} {F : Nat → Prop} {β : Beta} {Y : Nat → Prop} {w : World} (m : Mem c h F β Y w) (hF : F n)
include m hF
omit hF in
theorem Res.iced {v : SV} {ns : List Nat} {u : Value} (hv : rel w (XX c.Z Y β (iceB ns h)) v β u) : Res c h n F β Y w v ns .nil u w β :=
 ⟨(m.ice ns).1, hv, fun _ _ h0 => rel_ext (m.ice ns).2.1 (nms_true (fun _ _ k => k) _) h0⟩
theorem Res.newRow {xs : List SV} {sz len cap : Nat} {cs : Array Value} {ty : TypeId} {ds rest : List Value} (hs : 1 ≤ sz) (hlen : len = xs.length) (hle : len ≤ cap) (hcs : cap * sz ≤ cs.size) (hd : cs.toList = ds ++ rest)
 (hp : relR w (XX c.Z Y β h) sz xs nob ds) :
 Res c h n F β Y w (.osl n sz) [] (.new (.row true sz xs)) (.slice (some ⟨w.heap.size, 0, none⟩) len cap) (w.alloc (.cells cs ty)) (setβ β n ⟨w.heap.size, len, cap⟩) := by
 have hn : β n = none := m.fresh n hF
 have hβ : ∀ b l', β b = some l' → setβ β n ⟨w.heap.size, len, cap⟩ b = some l' := fun b l' hb => by
  rw [setβ_ne]; · exact hb
  · rintro rfl; rw [hn] at hb; cases hb
 obtain ⟨m', e⟩ := m.new (k := .row true sz xs) (l := ⟨w.heap.size, len, cap⟩) (o := .cells cs ty) hF rfl (fun w' X' β' e hβ' hh =>
  ⟨hlen, hle, hs, .inr ⟨cs, ty, 0, 0, hh, .inr (Nat.le_refl _), hcs, ⟨ds, rest, hd, relR_ext e _ _ _ (nmsL_true (fun _ _ k => k) _) hp⟩, fun ho => by cases ho⟩⟩)
 exact ⟨m', rel_osl.2 ⟨_, _, setβ_same .., rfl, fun _ => rfl⟩, fun v0 u0 h0 => rel_ext e (nms_true hβ _) h0⟩
end
theorem relR_gap {w : World} {X : Nat → Prop} {z : SV} {β : Beta} {sz : Nat} {zc : Array Value} (hs : zc.size = sz) (h1 : 1 ≤ sz) (h : relP w X z β zc.toList) : ∀ n, relR w X sz (List.replicate n z) β ((Array.range (n * sz)).map (fun j => zc[j % zc.size]!)).toList
 | 0 => by simp [relR_nil]
 | n + 1 => by
   have ih := relR_gap hs h1 h n
   rw [List.replicate_succ, relR_cons]
   refine ⟨zc.toList, _, ?_, by simpa using hs, h, ih⟩
   have e1 : (n + 1) * sz = sz + n * sz := by rw [Nat.succ_mul, Nat.add_comm]
   rw [e1]
   simp only [Array.toList_map, Array.toList_range, List.range_add, List.map_append, List.map_map]
   congr 1
   · apply List.ext_getElem
     · simp [hs]
     · intro i g1 g2
       simp at g1 g2 ⊢
       rw [Nat.mod_eq_of_lt g2, getElem!_pos zc i g2]
   · apply List.map_congr_left
     intro j _
     simp only [Function.comp_apply]
     rw [← hs, Nat.add_mod_left]
theorem run_places {E : Env} (ok : EnvOK E) {w : World} : ∀ (l : List Field) (off : Nat) (zs : List SV), fits E (l.map fun f => (f.type, f.offset)) off zs = true →
 ∃ ps : List (Nat × Nat), (l.mapM fun f => do pure (f.offset, ← sizeOf f.type) : Sem (List (Nat × Nat))).run E.P w = .ok ps w ∧ ∀ i z, zs[i]? = some z → ps[i]? = some (off + szs (zs.take i), z.sz)
 | [], off, zs, hf => ⟨[], by simp, fun i z hz => by cases zs <;> simp [fits] at hf hz⟩
 | f :: l, off, [], hf => by simp [fits] at hf
 | f :: l, off, v :: vs, hf => by
   simp only [List.map_cons, fits] at hf
   split at hf
   case h_2 => cases hf
   rename_i h1 h2 h3
   obtain ⟨ps, g1, g2⟩ := run_places ok (w := w) l _ vs hf
   have h2 := beq_of h2
   have h3 : 1 ≤ v.sz := by simpa using h3
   refine ⟨(f.offset, v.sz) :: ps, ?_, fun i z hz => ?_⟩
   · simp only [List.mapM_cons, Sem.run_bind, (ok.ts f.type (by omega)).sz, Result.andThen_ok, Sem.run_pure, g1, h2]
   · cases i with
     | zero => simp at hz; subst hz; simp [szs, beq_of h1]
     | succ i =>
       have := g2 i z (by simpa using hz)
       simp only [List.getElem?_cons_succ, this, List.take_succ_cons, szs]
       rw [Nat.add_assoc]
section
variable {c : Cx} (ok : EnvOK c.E) {o : Oper} {a : Act} {sl : Slots} {h : Heap} {n : Nat} {F : Nat → Prop} {β : Beta} {Y : Nat → Prop} {w : World} (m : Mem c h F β Y w) (hF : F n)
 (hev : ∀ x ∈ o.op.operands.toList, rel w (XX c.Z Y β h) (ev c.E sl x) β (a.eval x)) {K : KE} (hK : opE c.E sl h n o.op K)
include ok m hF hev hK
theorem ok_build {T : TypeId} {ps : Array (Nat × Operand)} (ho : o.op = .build T ps) : ∃ v ns ea, K v ns ea ∧ OpOK c o a h n F β Y w v ns ea := by
 rw [ho] at hK hev
 simp only [opE] at hK
 have hev' : ∀ p ∈ ps.toList, rel w (XX c.Z Y β h) (ev c.E sl p.2) β (a.eval p.2) := fun p hp => hev p.2 (by simp [Op.operands]; exact ⟨p.1, by simpa using hp⟩)
 have hargs : (ps.map fun (x : Nat × Operand) => (x.1, a.eval x.2)).toList = ps.toList.map fun p => (p.1, a.eval p.2) := by simp
 split at hK
 · rename_i fs zs hd hz
   have tok := ok.tt T (by rw [hd]; simp)
   split at hK
   case h_2 => cases hK
   rename_i hfits
   have desc := tok.desc
   simp only [hd] at desc
   obtain ⟨F, hF, hfs, _⟩ := desc
   obtain ⟨i, hi, _, _, hzz⟩ := tok.info
   obtain ⟨z, hz1, hz2⟩ := hzz (by rw [hz]; simp)
   have hzr := hz2 w (XX c.Z Y β h)
   rw [hz] at hzr
   obtain ⟨cs, rfl, hcs⟩ := hzr
   simp only [relP] at hcs
   have hcs' := relC_ext (Ext.refl w (XX c.Z Y β h)) (β' := β) _ _ (nmsL_true (fun _ _ k => by cases k) _) hcs
   have hpl : ∃ places : Array (Nat × Nat), (F.mapM fun f => do pure (f.offset, ← sizeOf f.type) : Sem (Array (Nat × Nat))).run c.E.P w = .ok places w ∧ ∀ i z, zs[i]? = some z → places[i]? = some (szs (zs.take i), z.sz) := by
    rw [← hfs] at hfits
    obtain ⟨ps, g1, g2⟩ := run_places ok (w := w) F.toList 0 zs hfits
    refine ⟨ps.toArray, ?_, fun i z hz => by simpa using g2 i z hz⟩
    rw [Array.mapM_eq_mapM_toList, Sem.run_map, g1]
    rfl
   obtain ⟨places, hp1, hp2⟩ := hpl
   obtain ⟨vs', A', k1, k2, k3⟩ := fillF_ok (place := (places[·]?)) ps.toList zs _ cs hK hev' hcs' hp2
   refine ⟨_, _, _, k1, .pure m (u := .agg A') ?_ ((rel_agg rfl).2 ⟨A', rfl, by simpa only [relP] using k3⟩)⟩
   simp only [execOp, ho]
   refine run_val ?_
   simp only [Instr.build, zeroValue, typeInfo, Sem.run_bind, run_program, Result.andThen_ok, hi, Sem.run_pure, hz1, run_underlying hF, Value.cells, hp1, hargs, k2]
 · rename_i m0 e m' sz zs hd hz
   have tok := ok.tt T (by rw [hd]; simp)
   split at hK
   case h_2 => cases hK
   rename_i hsz h1
   have hsz := beq_of hsz
   have h1 : 1 ≤ sz := by simpa using h1
   have toke := ok.ts e (by omega)
   have desc := tok.desc
   simp only [hd] at desc
   obtain ⟨i, hi, _, _, hzz⟩ := tok.info
   obtain ⟨z, hz1, hz2⟩ := hzz (by rw [hz]; simp)
   have hzr := hz2 w (XX c.Z Y β h)
   rw [hz] at hzr
   obtain ⟨cs, rfl, hcs⟩ := hzr
   simp only [relP] at hcs
   obtain ⟨hlen, hcs⟩ := hcs
   have hcs' := relR_ext (Ext.refl w (XX c.Z Y β h)) (β' := β) _ _ _ (nmsL_true (fun _ _ k => by cases k) _) hcs
   obtain ⟨vs', A', k1, k2, k3, k4⟩ := fillR_ok (sz := sz) ps.toList zs _ cs hK hev' hcs'
   obtain ⟨vs2, ns, g1, _, g2⟩ := frzL_ok m 60 vs' [] _ k1
   have g3 := (g2 _ (m.cold ns)).2.2 sz _ k4
   have hl2 : vs2.length = m' := by
    have e1 := relR_len _ _ _ k4
    have e2 := relR_len _ _ _ g3
    rw [e1] at e2
    have := Nat.eq_of_mul_eq_mul_right (by omega) e2
    omega
   refine ⟨_, _, _, g1, .value (w' := w) (β' := β) (u := .agg A') ?_ (Res.iced m ((rel_agg rfl).2 ⟨A', rfl, by simp only [relP]; exact ⟨hl2, g3⟩⟩))⟩
   simp only [execOp, ho]
   refine run_val ?_
   rw [hsz] at k3
   simp only [Instr.build, zeroValue, typeInfo, Sem.run_bind, run_program, Result.andThen_ok, hi, Sem.run_pure, hz1, run_underlying desc.1, Value.cells, toke.sz, hargs, k3]
 · cases hK
theorem ok_buildSlice {T : TypeId} {len : Nat} {ps : Array (Nat × Operand)} (ho : o.op = .buildSlice T len ps) : ∃ v ns ea, K v ns ea ∧ OpOK c o a h n F β Y w v ns ea := by
 rw [ho] at hK hev
 simp only [opE] at hK
 have hev' : ∀ p ∈ ps.toList, rel w (XX c.Z Y β h) (ev c.E sl p.2) β (a.eval p.2) := fun p hp => hev p.2 (by simp [Op.operands]; exact ⟨p.1, by simpa using hp⟩)
 have hargs : (ps.map fun (x : Nat × Operand) => (x.1, a.eval x.2)).toList = ps.toList.map fun p => (p.1, a.eval p.2) := by simp
 split at hK
 case h_2 => cases hK
 rename_i e hd
 have tok := ok.tt T (by rw [hd]; simp)
 have desc := tok.desc
 simp only [hd] at desc
 split at hK
 case h_1 => cases hK
 case h_4 => cases hK
 case h_3 =>
  rename_i hl h1 hmx hz0
  obtain ⟨hz, htup, hK⟩ := solid_iff hK
  split at hK
  case h_2 => cases hK
  rename_i hzs
  have hzs := beq_of hzs
  have h1 : 1 ≤ (lkT c.E.tt e).size := by simpa using h1
  have hmx : len * (lkT c.E.tt e).size ≤ 16777216 := by simpa using hmx
  have toke := ok.ts e (by omega)
  obtain ⟨i, hi, hsi, _, hzz⟩ := toke.info
  obtain ⟨z, hz1, hz2⟩ := hzz hz
  have hzr : rel w (XX c.Z Y β h) (lkT c.E.tt e).zero β z := rel_ext (Ext.refl _ _) (nms_true (fun b l k => by cases k) _) (by rw [rel_eq htup]; exact hz2 w (XX c.Z Y β h))
  have hzc := rel_cells hz htup hzr
  have hzl : z.cells.size = (lkT c.E.tt e).size := by
   rw [← Array.length_toList, relP_len _ _ hzc]
   exact hzs
  generalize hA : (if len * (lkT c.E.tt e).size = 0 then (#[] : Array Value) else z.cells) = zc
  have hrep : relR w (XX c.Z Y β h) (lkT c.E.tt e).size (List.replicate len (lkT c.E.tt e).zero) β ((Array.range (len * (lkT c.E.tt e).size)).map (fun j => zc[j % zc.size]!)).toList := by
   by_cases h0 : len * (lkT c.E.tt e).size = 0
   · have : len = 0 := by
      rcases Nat.mul_eq_zero.1 h0 with g | g <;> omega
     subst this
     simp [relR_nil]
   · rw [if_neg h0] at hA
     subst hA
     exact relR_gap hzl h1 hzc len
  obtain ⟨vs, A', k1, k2, k3, k4⟩ := fillR_ok (w := w) (X := XX c.Z Y β h) (β := β) (a := a) (sz := (lkT c.E.tt e).size) ps.toList _ _ _ hK hev' hrep
  obtain ⟨vs2, ns, g1, _, g2⟩ := frzL_ok m 60 vs [] _ k1
  have g3 := (g2 _ (m.cold ns)).2.2 _ _ k4
  have hl2 : vs2.length = len := by
   have e1 := relR_len _ _ _ k4
   have e2 := relR_len _ _ _ g3
   rw [e1] at e2
   have := Nat.eq_of_mul_eq_mul_right (by omega) e2
   rw [← this, k2]; simp
  have hsz : A'.size = len * (lkT c.E.tt e).size := by
   have := relR_len _ _ _ k4
   rw [← Array.length_toList, this, k2]
   simp
  refine ⟨_, _, _, g1, .value ?_ (Res.ice m (Res.newRow (m.ice ns).1 hF (len := len) (cap := len) (cs := A') (ty := e) (ds := A'.toList) (rest := []) h1 hl2.symm (Nat.le_refl _) (by omega) (by simp) g3))⟩
  simp only [execOp, ho]
  refine run_val ?_
  have hmx' : ¬ (len * (lkT c.E.tt e).size > 2 ^ 24) := by omega
  simp only [Instr.buildSlice, Sem.run_bind, run_underlying desc, Result.andThen_ok, toke.sz, hmx', if_false]
  by_cases h0 : len * (lkT c.E.tt e).size = 0
  · rw [if_pos h0] at hA
    rw [if_pos h0, hA]
    simp only [Sem.run_bind, Sem.run_pure, Result.andThen_ok, hargs, k3, newRow, run_newObj]
    rfl
  · rw [if_neg h0] at hA
    rw [if_neg h0]
    simp only [Sem.run_bind, Sem.run_pure, Result.andThen_ok, zeroValue, typeInfo, run_program, hi, hz1, hA, hargs, k3, newRow, run_newObj]
    rfl
 rename_i hl h1 hmx hz
 simp only [Bool.and_eq_true] at hl
 have hlen := beq_of hl.1
 have h1 : 1 ≤ (lkT c.E.tt e).size := by simpa using h1
 have hmx : len * (lkT c.E.tt e).size ≤ 16777216 := by simpa using hmx
 have toke := ok.ts e (by omega)
 obtain ⟨i, hi, hsi, _, hzz⟩ := toke.info
 obtain ⟨z, hz1, hz2⟩ := hzz hz
 obtain ⟨vs, k1, k2, k3⟩ := solids_ok (w := w) (X := XX c.Z Y β h) (β := β) (a := a) ps.toList _ 0 hK hl.2 hev'
 obtain ⟨vs2, ns, g1, _, g2⟩ := frzL_ok m 60 vs [] _ k1
 generalize hA : (if len * (lkT c.E.tt e).size = 0 then (#[] : Array Value) else z.cells) = zc
 obtain ⟨A', ds, f1, f2, f3⟩ := k3 ((Array.range (len * (lkT c.E.tt e).size)).map (fun j => zc[j % zc.size]!)) [] ((Array.range (len * (lkT c.E.tt e).size)).map (fun j => zc[j % zc.size]!)).toList (by simp) (by simp) (by simp [hlen])
 have g3 := (g2 _ (m.cold ns)).2.2 _ _ f3
 have hl2 : vs2.length = len := by
  have e1 := relR_len _ _ _ f3
  have e2 := relR_len _ _ _ g3
  rw [e1] at e2
  have := Nat.eq_of_mul_eq_mul_right (by omega) e2
  rw [hlen, ← k2]; exact this.symm
 have hsz : A'.size = len * (lkT c.E.tt e).size := by
  have := relR_len _ _ _ f3
  rw [← Array.length_toList, f2]
  simp only [List.nil_append, this, k2, hlen]
 refine ⟨_, _, _, g1, .value ?_ (Res.ice m (Res.newRow (m.ice ns).1 hF (len := len) (cap := len) (cs := A') (ty := e) (ds := ds) (rest := []) h1 hl2.symm (Nat.le_refl _) (by omega) (by simpa using f2) g3))⟩
 simp only [execOp, ho]
 refine run_val ?_
 have hmx' : ¬ (len * (lkT c.E.tt e).size > 2 ^ 24) := by omega
 simp only [Instr.buildSlice, Sem.run_bind, run_underlying desc, Result.andThen_ok, toke.sz, hmx', if_false]
 by_cases h0 : len * (lkT c.E.tt e).size = 0
 · rw [if_pos h0] at hA
   rw [if_pos h0, hA]
   simp only [Sem.run_bind, Sem.run_pure, Result.andThen_ok, hargs, f1, newRow, run_newObj]
   rfl
 · rw [if_neg h0] at hA
   rw [if_neg h0]
   simp only [Sem.run_bind, Sem.run_pure, Result.andThen_ok, zeroValue, typeInfo, run_program, hi, hz1, hA, hargs, f1, newRow, run_newObj]
   rfl
end
end Go.Sx
set_option linter.unusedSectionVars false
namespace Go.Sx
open Go.RowKit (Below)
theorem Mem.newNil {c : Cx} {h : Heap} {n : Nat} {F : Nat → Prop} {β : Beta} {Y : Nat → Prop} {w : World} (m : Mem c h F β Y w) (hF : F n) {sz : Nat} (hs : 1 ≤ sz) :
 Mem c ((n, .row true sz []) :: h) (rmF F n) (setβ β n ⟨0, 0, 0⟩) Y w ∧ Ext w (XX c.Z Y β h) w (XX c.Z Y (setβ β n ⟨0, 0, 0⟩) ((n, .row true sz []) :: h)) := by
 have hn : β n = none := m.fresh n hF
 have hβ : ∀ b l', β b = some l' → setβ β n ⟨0, 0, 0⟩ b = some l' := fun b l' hb => by
  rw [setβ_ne]; · exact hb
  · rintro rfl; rw [hn] at hb; cases hb
 have hlk : ∀ b k', lkB h b = some k' → b ≠ n := fun b k' hb => by
  rintro rfl
  obtain ⟨l', h1, _⟩ := m.blk _ _ hb
  rw [hn] at h1; cases h1
 have hown : ∀ r, Own (setβ β n ⟨0, 0, 0⟩) ((n, .row true sz []) :: h) r → Own β h r := by
  rintro r ⟨b, k', l', h1, h2, h3, h4⟩
  by_cases e : b = n
  · subst e
    rw [setβ_same] at h2; cases h2
    rw [lkB_cons, if_pos rfl] at h1; cases h1
    simp [live] at h3
  · rw [setβ_ne e] at h2
    rw [lkB_cons, if_neg (Ne.symm e)] at h1
    exact ⟨b, k', l', h1, h2, h3, h4⟩
 have hless : ∀ r, ¬ XX c.Z Y β h r → ¬ XX c.Z Y (setβ β n ⟨0, 0, 0⟩) ((n, .row true sz []) :: h) r := by
  rintro r hx (g | g | g)
  · exact hx (.inl g)
  · exact hx (.inr (.inl g))
  · exact hx (.inr (.inr (hown r g)))
 have e : Ext w (XX c.Z Y β h) w (XX c.Z Y (setβ β n ⟨0, 0, 0⟩) ((n, .row true sz []) :: h)) := ⟨Nat.le_refl _, fun _ _ _ => rfl, fun r _ hx => hless r hx⟩
 refine ⟨⟨fun b hb => ?_, fun b k' hk' => ?_, ?_, fun r hr => m.own r (hown r hr), m.yy, m.zz, m.size, m.frame, m.os, m.tape, m.output, fun g t hg ht => relP_ext e _ _ (nms_true (fun _ _ k => k) _) (m.gl g t hg ht)⟩, e⟩
 · rw [setβ_ne hb.2]; exact m.fresh b hb.1
 · rw [lkB_cons] at hk'
   by_cases eb : n = b
   · subst eb
     rw [if_pos rfl] at hk'; cases hk'
     exact ⟨_, setβ_same .., rfl, Nat.le_refl _, hs, .inl rfl⟩
   · rw [if_neg eb] at hk'
     obtain ⟨l', h1, h2⟩ := m.blk b k' hk'
     exact ⟨l', hβ _ _ h1, h2.ext e rfl hβ (fun _ hx => hless _ hx)⟩
 · intro b1 b2 k1 k2 l1 l2 h1 h2 h3 h4 h5 h6 h7
   rw [lkB_cons] at h1 h2
   by_cases e1 : n = b1
   · rw [if_pos e1] at h1; cases h1
     subst e1
     rw [setβ_same] at h3; cases h3
     simp [live] at h5
   · by_cases e2 : n = b2
     · rw [if_pos e2] at h2; cases h2
       subst e2
       rw [setβ_same] at h4; cases h4
       simp [live] at h6
     · rw [if_neg e1] at h1; rw [if_neg e2] at h2
       rw [setβ_ne (Ne.symm e1)] at h3; rw [setβ_ne (Ne.symm e2)] at h4
       exact m.inj _ _ _ _ _ _ h1 h2 h3 h4 h5 h6 h7
theorem run_bound {P : Program} {w : World} {k : IntKind} {i : Int} {y : Nat} {code : BoundsCode} (h0 : 0 ≤ i) (h1 : i ≤ y) : (Instr.sliceBound (.int k i) y code).run P w = .ok i.toNat w := by
 simp [Instr.sliceBound, asIntOf, h0, h1]
theorem bnds_ok {E : Env} {sl : Slots} {w : World} {X : Nat → Prop} {β : Beta} {a : Act} {lo hi : Option Operand} {n : Nat} {K : Int → Int → Prop} (hK : bnds E sl lo hi n K)
 (hlo : ∀ x, lo = some x → rel w X (ev E sl x) β (a.eval x)) (hhi : ∀ x, hi = some x → rel w X (ev E sl x) β (a.eval x)) :
 ∃ l h, K l h ∧ 0 ≤ l ∧ l ≤ h ∧ h ≤ n ∧ ∀ (cap : Nat) (s : Bool), n ≤ cap → (Instr.sliceBounds s n cap (lo.map a.eval) (hi.map a.eval) none).run E.P w = .ok (l.toNat, h.toNat, cap) w := by
 unfold bnds at hK
 split at hK
 · split at hK
   · exact ⟨_, _, hK, by omega, by omega, by omega, fun cap s hc => by simp [Instr.sliceBounds]⟩
   · split at hK
     case h_2 => cases hK
     rename_i x k i hx
     unfold SideVC at hK
     obtain ⟨⟨h1, h2⟩, hK⟩ := hK
     have := hhi _ rfl
     rw [hx, relP_int] at this
     exact ⟨_, _, hK, by omega, h1, h2, fun cap s hc => by
      simp only [Instr.sliceBounds, Option.map_some, Option.map_none, this, Sem.run_bind, Sem.run_pure, Result.andThen_ok]
      rw [run_bound h1 (by omega)]
      rfl⟩
 · rename_i lx
   split at hK
   case h_2 => cases hK
   rename_i k i hx
   have hl := hlo _ rfl
   rw [hx, relP_int] at hl
   split at hK
   · unfold SideVC at hK
     obtain ⟨⟨h1, h2⟩, hK⟩ := hK
     exact ⟨_, _, hK, h1, h2, by omega, fun cap s hc => by
      simp only [Instr.sliceBounds, Option.map_some, Option.map_none, hl, Sem.run_bind, Sem.run_pure, Result.andThen_ok]
      rw [run_bound h1 h2]
      simp⟩
   · split at hK
     case h_2 => cases hK
     rename_i y k' j hy
     have hh := hhi _ rfl
     rw [hy, relP_int] at hh
     unfold SideVC at hK
     obtain ⟨⟨h1, h2, h3⟩, hK⟩ := hK
     exact ⟨_, _, hK, h1, h2, h3, fun cap s hc => by
      simp only [Instr.sliceBounds, Option.map_some, hl, hh, Sem.run_bind, Sem.run_pure, Result.andThen_ok]
      rw [run_bound (by omega) (by omega)]
      simp only [Result.andThen_ok]
      rw [run_bound h1 (by omega)]
      rfl⟩
theorem slice_part {w : World} {X : Nat → Prop} {β : Beta} {sz : Nat} {xs : List SV} {ad : Option Addr} {cap : Nat} {l h : Int} (hle : xs.length ≤ cap)
 (hm : xs = [] ∨ ∃ b off ds, ad = some ⟨b, off, none⟩ ∧ ¬ X b ∧ b < w.heap.size ∧ cellsAt w b off ds ∧ relR w X sz xs nob ds) (h0 : 0 ≤ l) (h1 : l ≤ h) (h2 : h ≤ xs.length) :
 rel w X (.sl sz ((xs.take h.toNat).drop l.toNat)) β (.slice (if cap = l.toNat then ad else ad.map (·.add (l.toNat * sz))) (h.toNat - l.toNat) (cap - l.toNat)) := by
 have hlen : ((xs.take h.toNat).drop l.toNat).length = h.toNat - l.toNat := by simp; omega
 rw [rel_sl]
 refine ⟨_, _, by rw [hlen], by rw [hlen]; omega, ?_⟩
 by_cases he : h.toNat - l.toNat = 0
 · left; exact List.length_eq_zero_iff.1 (by rw [hlen]; exact he)
 · right
   rcases hm with rfl | ⟨b, off, ds, rfl, hX, hb, hc, hr⟩
   · simp at h2; omega
   · have hcl : ¬ cap = l.toNat := by omega
     rw [if_neg hcl]
     have hr2 := relR_drop (relR_take hr h.toNat) l.toNat
     refine ⟨b, off + l.toNat * sz, _, by simp [add_plain], hX, hb, ?_, hr2⟩
     have hd : ds = (ds.take (h.toNat * sz)).take (l.toNat * sz) ++ (ds.take (h.toNat * sz)).drop (l.toNat * sz) ++ ds.drop (h.toNat * sz) := by simp
     have hlds := relR_len _ _ _ hr
     have hmul : h.toNat * sz ≤ xs.length * sz := Nat.mul_le_mul_right _ (by omega)
     have hmul2 : l.toNat * sz ≤ h.toNat * sz := Nat.mul_le_mul_right _ (by omega)
     have := cellsAt_mid hc hd
     rwa [show ((ds.take (h.toNat * sz)).take (l.toNat * sz)).length = l.toNat * sz from by simp; omega] at this
section
variable {c : Cx} (ok : EnvOK c.E) {o : Oper} {a : Act} {sl : Slots} {h : Heap} {n : Nat} {F : Nat → Prop} {β : Beta} {Y : Nat → Prop} {w : World} (m : Mem c h F β Y w) (hF : F n)
 (hev : ∀ x ∈ o.op.operands.toList, rel w (XX c.Z Y β h) (ev c.E sl x) β (a.eval x)) {K : KE} (hK : opE c.E sl h n o.op K)
include ok m hF hev hK
theorem ok_slice {T : TypeId} {x : Operand} {lo hi mx : Option Operand} (ho : o.op = .slice T x lo hi mx) : ∃ v ns ea, K v ns ea ∧ OpOK c o a h n F β Y w v ns ea := by
 rw [ho] at hK hev
 simp only [opE] at hK
 have hx := hev x (by simp [Op.operands])
 split at hK
 · cases hK
 have hlo : ∀ y, lo = some y → rel w (XX c.Z Y β h) (ev c.E sl y) β (a.eval y) := fun y hy => hev y (by simp [Op.operands, hy])
 have hhi : ∀ y, hi = some y → rel w (XX c.Z Y β h) (ev c.E sl y) β (a.eval y) := fun y hy => hev y (by simp [Op.operands, hy])
 split at hK
 · rename_i s he
   rw [he, rel_str] at hx
   split at hK
   case h_2 => cases hK
   rename_i hd
   have desc := (ok.tt T (by rw [hd]; simp)).desc
   simp only [hd] at desc
   obtain ⟨l, h', k1, h0, h1, h2, k2⟩ := bnds_ok hK hlo hhi
   refine ⟨_, _, _, k1, .pure m (u := .string ((⟨s.toArray⟩ : ByteArray).extract l.toNat h'.toNat)) ?_ (rel_str.2 ?_)⟩
   · simp only [execOp, ho, hx]
     refine run_val ?_
     have hsz : (⟨s.toArray⟩ : ByteArray).size = s.length := by simp [ByteArray.size]
     have := k2 s.length false (Nat.le_refl _)
     simp only [Instr.sliceAt, Sem.run_bind, run_underlying desc, Result.andThen_ok, Instr.slice, hsz, Option.map_none, Option.isSome_none, Bool.false_eq_true, if_false, this, Sem.run_pure]
   · congr 1
     apply ByteArray.ext
     rw [ByteArray.data_extract]
     apply Array.toList_inj.1
     simp [List.extract, List.drop_take]
 · rename_i sz xs he
   rw [he] at hx
   split at hK
   case h_2 => cases hK
   rename_i e hd
   have desc := (ok.tt T (by rw [hd]; simp)).desc
   simp only [hd] at desc
   split at hK
   case h_2 => cases hK
   rename_i hsz
   simp only [Bool.and_eq_true] at hsz
   have h1' : 1 ≤ sz := by simpa using hsz.2
   have hsz := beq_of hsz.1
   have toke := ok.ts e (by omega)
   obtain ⟨ad, cap, hu, hle, hm⟩ := rel_sl.1 hx
   obtain ⟨l, h', k1, h0, h1, h2, k2⟩ := bnds_ok hK hlo hhi
   refine ⟨_, _, _, k1, .pure m ?_ (slice_part hle hm h0 h1 h2)⟩
   simp only [execOp, ho, hu]
   refine run_val ?_
   have := k2 cap true hle
   simp only [Instr.sliceAt, Sem.run_bind, run_underlying desc, Result.andThen_ok, Instr.slice, Option.map_none, this, toke.sz, Sem.run_pure, hsz]
 · rename_i b sz he
   rw [he] at hx
   split at hK
   case h_2 => cases hK
   rename_i own sz' xs hb
   split at hK
   case h_2 => cases hK
   rename_i e hd
   have desc := (ok.tt T (by rw [hd]; simp)).desc
   simp only [hd] at desc
   split at hK
   case h_2 => cases hK
   rename_i hsz
   simp only [Bool.and_eq_true] at hsz
   have h1' : 1 ≤ sz := by simpa using hsz.1.2
   have hss := beq_of hsz.2
   subst hss
   have hsz := beq_of hsz.1.1
   have toke := ok.ts e (by omega)
   obtain ⟨l, h', k1, h0, h1, h2, k2⟩ := bnds_ok hK hlo hhi
   have hp := relP_of_rel rfl (by simp) (by simp) hx
   have hf := frz_row m hb (m.cold [b]) (by simp) hp
   obtain ⟨ad, cap, hu, hle, hm⟩ := rel_sl.1 (rel_of_relP rfl hf)
   refine ⟨_, _, _, k1, .value ?_ (Res.iced m (ns := [b]) (slice_part hle hm h0 h1 h2))⟩
   simp only [execOp, ho, hu]
   refine run_val ?_
   have := k2 cap true hle
   simp only [Instr.sliceAt, Sem.run_bind, run_underlying desc, Result.andThen_ok, Instr.slice, Option.map_none, this, toke.sz, Sem.run_pure, hsz]
 · split at hK
   case h_2 => cases hK
   rename_i mm e hd
   have desc := (ok.tt T (by rw [hd]; simp)).desc
   simp only [hd] at desc
   obtain ⟨u', ns, k0, _, k⟩ := frz_ok m 60 _ [] _ hK
   split at k0
   case h_2 => cases k0
   rename_i m' sz xs
   split at k0
   case h_2 => cases k0
   rename_i hsq
   simp only [Bool.and_eq_true] at hsq
   have h1' : 1 ≤ sz := by simpa using hsq.2
   have hmm := beq_of hsq.1.1
   have hsz := beq_of hsq.1.2
   clear hsq
   subst hmm
   have toke := ok.ts e (by omega)
   obtain ⟨l, h', k1, h0, h1, h2, k2⟩ := bnds_ok k0 hlo hhi
   have hp := (k _ (m.cold ns)).2.2 _ hx
   obtain ⟨b, off, ds, hu, hX, hb, hc, hr⟩ := rel_iptr.1 hp
   simp only [relP] at hr
   obtain ⟨hlen, hr⟩ := hr
   refine ⟨_, _, _, k1, .value ?_ (Res.iced m (ns := ns) (slice_part (cap := mm) (ad := some ⟨b, off, none⟩) (Nat.le_of_eq hlen) (.inr ⟨b, off, ds, rfl, hX, hb, hc, hr⟩) h0 h1 (by rw [hlen]; exact h2)))⟩
   simp only [execOp, ho, hu]
   refine run_val ?_
   have := k2 mm false (Nat.le_refl _)
   simp only [Instr.sliceAt, Sem.run_bind, run_underlying desc.1, Result.andThen_ok, Instr.sureAddr, Option.map_none, this, toke.sz, Sem.run_pure, hsz]
   congr 2
   split <;> simp
omit ok m hF hev hK in
theorem builtin_run {P : Program} {o : Oper} {cl : Call} {b : Builtin} {w w' : World} {val : Value} (ho : o.op = .call cl) (hb : cl.callee = .builtin b) (hr : (builtin b cl.argTypes o.type (cl.args.map fun | .const _ => true | _ => false) (cl.args.map a.eval)).run P w = .ok (.value val) w') :
 (execOp a.eval o).run P w = .ok (.value val) w' := by
 simp only [execOp, ho, resolve, hb, Sem.run_bind, Sem.run_pure, Result.andThen_ok, invoke]
 exact hr
theorem ok_len {cl : Call} (ho : o.op = .call cl) (hb : cl.callee = .builtin .len) : ∃ v ns ea, K v ns ea ∧ OpOK c o a h n F β Y w v ns ea := by
 rw [ho] at hK hev
 simp only [opE, hb] at hK
 split at hK
 case h_2 => cases hK
 rename_i x T hargs htys
 have ha : cl.args = #[x] := by apply Array.toList_inj.1; simpa using hargs
 have ht : cl.argTypes = #[T] := by apply Array.toList_inj.1; simpa using htys
 have hx := hev x (by simp [Op.operands, Call.operands, ha])
 have run1 : ∀ {k : Nat}, (Builtin.len_ #[T] o.type #[a.eval x]).run c.E.P w = .ok (goInt k) w → (execOp a.eval o).run c.E.P w = .ok (.value (goInt k)) w := by
  intro k hr
  refine builtin_run (a := a) ho hb ?_
  rw [ha, ht]
  simp only [builtin]
  exact run_val (by simpa using hr)
 split at hK
 · rename_i e sz xs hd he
   have desc := (ok.tt T (by rw [hd]; simp)).desc
   simp only [hd] at desc
   rw [he] at hx
   obtain ⟨ad, cap, hu, _, _⟩ := rel_sl.1 hx
   refine ⟨_, _, _, hK, .pure m (u := goInt xs.length) (run1 ?_) (relP_int.2 rfl)⟩
   rw [hu]
   exact run_len_slice (P := c.E.P) w T o.type ad xs.length cap (by simp only [Program.elem, desc])
 · rename_i s hd he
   have desc := (ok.tt T (by rw [hd]; simp)).desc
   simp only [hd] at desc
   rw [he, rel_str] at hx
   refine ⟨_, _, _, hK, .pure m (u := goInt s.length) (run1 ?_) (relP_int.2 rfl)⟩
   rw [hx]
   have h2 := run_len_string (P := c.E.P) w T o.type (⟨s.toArray⟩ : ByteArray) desc
   have h3 : (⟨s.toArray⟩ : ByteArray).size = s.length := by simp [ByteArray.size]
   rw [h3] at h2
   exact h2
 · rename_i e hd he
   have desc := (ok.tt T (by rw [hd]; simp)).desc
   simp only [hd] at desc
   rw [he, rel_nils] at hx
   refine ⟨_, _, _, hK, .pure m (u := goInt (0 : Nat)) (run1 ?_) (relP_int.2 rfl)⟩
   unfold Builtin.len_
   simp [hx, run_underlying desc]
 · rename_i e hd he
   have desc := (ok.tt T (by rw [hd]; simp)).desc
   simp only [hd] at desc
   rw [he, rel_mt] at hx
   obtain ⟨ad, hx⟩ := hx
   refine ⟨_, _, _, hK, .pure m (u := goInt (0 : Nat)) (run1 ?_) (relP_int.2 rfl)⟩
   unfold Builtin.len_
   simp [hx, run_underlying desc]
 · rename_i e b sz hd he
   have desc := (ok.tt T (by rw [hd]; simp)).desc
   simp only [hd] at desc
   rw [he] at hx
   split at hK
   case h_2 => cases hK
   rename_i own sz' xs hb'
   obtain ⟨l, ad, hl, hu, _⟩ := rel_osl.1 hx
   obtain ⟨l', hl', hok⟩ := m.blk b _ hb'
   rw [hl] at hl'; cases hl'
   refine ⟨_, _, _, hK, .pure m (u := goInt xs.length) (run1 ?_) (relP_int.2 rfl)⟩
   unfold Builtin.len_
   simp [hu, run_underlying desc, hok.1]
 · cases hK
omit ok in
theorem ok_minmax {cl : Call} (ho : o.op = .call cl) (hb : cl.callee = .builtin .min ∨ cl.callee = .builtin .max) : ∃ v ns ea, K v ns ea ∧ OpOK c o a h n F β Y w v ns ea := by
 rw [ho] at hK hev
 rcases hb with hb | hb
 all_goals
  simp only [opE, hb] at hK
  split at hK
  case h_2 => cases hK
  rename_i x y hargs
  have ha : cl.args = #[x, y] := by apply Array.toList_inj.1; simpa using hargs
  have hx := hev x (by simp [Op.operands, Call.operands, ha])
  have hy := hev y (by simp [Op.operands, Call.operands, ha])
  split at hK
  case h_2 => cases hK
  rename_i k p k' q hp hq
  split at hK
  case h_2 => cases hK
  rename_i hk
  have := kq_eq hk; subst this
  rw [hp, relP_int] at hx
  rw [hq, relP_int] at hy
 · refine ⟨_, _, _, hK, .pure m (u := .int k (min p q)) ?_ (relP_int.2 rfl)⟩
   refine builtin_run (a := a) ho hb ?_
   rw [ha]
   simp only [builtin]
   refine run_val ?_
   have : (if q < p then q else p) = min p q := by omega
   simp [Builtin.min_, hx, hy, Builtin.min2, this]
 · refine ⟨_, _, _, hK, .pure m (u := .int k (max p q)) ?_ (relP_int.2 rfl)⟩
   refine builtin_run (a := a) ho hb ?_
   rw [ha]
   simp only [builtin]
   refine run_val ?_
   have : (if p < q then q else p) = max p q := by omega
   simp [Builtin.max_, hx, hy, Builtin.max2, this]
end
end Go.Sx
set_option linter.unusedSectionVars false
namespace Go.Sx
open Go.RowKit (Below)
section
variable {c : Cx} {h : Heap} {n : Nat} {F : Nat → Prop} {β : Beta} {Y : Nat → Prop} {w : World} (m : Mem c h F β Y w) (hF : F n)
include m
theorem rows_ok {v : SV} {u : Value} {K : Option (Nat × List SV) → Prop} (hK : rows h v K) (hv : rel w (XX c.Z Y β h) v β u) :
 (∃ ad, u = .slice ad 0 0 ∧ K none) ∨ ∃ sz xs ad cap ds, K (some (sz, xs)) ∧ u = .slice ad xs.length cap ∧ relR w (XX c.Z Y β h) sz xs nob ds ∧ (xs = [] ∨ ∃ b off, ad = some ⟨b, off, none⟩ ∧ cellsAt w b off ds) := by
 unfold rows at hK
 split at hK
 · rename_i sz xs
   obtain ⟨ad, cap, hu, hle, hm⟩ := rel_sl.1 hv
   rcases hm with rfl | ⟨b, off, ds, h1, _, _, h2, h3⟩
   · exact .inr ⟨sz, [], ad, cap, [], hK, hu, by simp [relR_nil], .inl rfl⟩
   · grind
 · rename_i b s
   split at hK
   case h_2 => cases hK
   rename_i own sz xs hb
   obtain ⟨l, ad, hl, hu, had⟩ := rel_osl.1 hv
   obtain ⟨l', hl', hok⟩ := m.blk b _ hb
   rw [hl] at hl'; cases hl'
   obtain ⟨g1, g2, g3, g4⟩ := hok
   by_cases hc : l.cap = 0
   · have : xs = [] := List.length_eq_zero_iff.1 (by omega)
     subst this
     exact .inr ⟨sz, [], ad, l.cap, [], hK, by rw [hu, g1], by simp [relR_nil], .inl rfl⟩
   · rcases g4 with g4 | ⟨cs, ty, lo, hi, f1, f2, f3, ⟨c1, c2, f4, f5⟩, f6⟩
     · exact absurd g4 hc
     · refine .inr ⟨sz, xs, ad, l.cap, c1, hK, by rw [hu, g1], f5, .inr ⟨l.r, 0, had hc, fun j v hj => ?_⟩⟩
       have hjl : j < c1.length := by
        grind
       have : cs[j]? = some v := by rw [← Array.getElem?_toList, f4, List.getElem?_append_left hjl]; exact hj
       simp [World.cell?, f1, this]
 · grind [rel_nils]
 · grind [rel_mt]
 · cases hK
end
section
variable {P : Program} {w : World} {T e : TypeId} {ti te : TI} (tok : TIok P T ti) (hd : ti.d = .sl e) (toke : TIok P e te)
include tok hd toke
theorem run_append_none {ty : TypeId} {ad ad' : Option Addr} {len cap cap' : Nat} (hle : len ≤ cap) :
 (Builtin.append_ #[T, T] ty #[.slice ad len cap, .slice ad' 0 cap']).run P w = .ok (.slice ad len cap) w := by
 have desc := tok.desc
 simp only [hd] at desc
 have hf : (Builtin.firstCells te.size 0 (.slice ad' 0 cap')).run P w = .ok #[] w := by
  cases ad' <;> simp [Builtin.firstCells, loadCells, loadCellsFrom]
 unfold Builtin.append_
 cases ad <;> simp [run_underlying desc, toke.sz, Builtin.lenOf, hle, hf, storeCells]
theorem run_append_in {ty : TypeId} {r len cap cap' b off m : Nat} {cs : Array Value} {et : TypeId} {lo hi : Nat} {pre mid post news : List Value} (hw : w.heap[r]? = some (.cells cs et (lo, hi))) (hf : cs.size ≤ lo ∨ hi ≤ lo)
 (hc : cs.toList = pre ++ mid ++ post) (hp : pre.length = len * te.size) (hm : mid.length = news.length) (hn : news.length = m * te.size) (hcells : cellsAt w b off news) (h1 : ∀ u ∈ news, u.oneCell' = true) (hroom : len + m ≤ cap) :
 (Builtin.append_ #[T, T] ty #[.slice (some ⟨r, 0, none⟩) len cap, .slice (some ⟨b, off, none⟩) m cap']).run P w = .ok (.slice (some ⟨r, 0, none⟩) (len + m) cap) (World.put w r (.cells (pre ++ news ++ post).toArray et (lo, hi))) := by
 have desc := tok.desc
 simp only [hd] at desc
 have hfc : (Builtin.firstCells te.size m (.slice (some ⟨b, off, none⟩) m cap')).run P w = .ok news.toArray w :=
  run_firstCells_some (P := P) w te.size m ⟨b, off, none⟩ m cap' news hn (fun j v hj => by rw [add_plain]; exact hcells j v hj)
 have hst := run_storeCells (P := P) (off := len * te.size) news w cs 0 pre mid post hw hf hc (by simpa using hp) hm h1
 unfold Builtin.append_
 simp [run_underlying desc, toke.sz, Builtin.lenOf, hroom, hfc, add_plain, hst]
end
section
variable {c : Cx} (ok : EnvOK c.E) {o : Oper} {a : Act} {sl : Slots} {h : Heap} {n : Nat} {F : Nat → Prop} {β : Beta} {Y : Nat → Prop} {w : World} (m : Mem c h F β Y w) (hF : F n)
include m
omit m in
theorem kill_nms_ne {b : Nat} {β' : Beta} (hβ : ∀ b' l, b' ≠ b → β b' = some l → β' b' = some l) {w' : World} {X' : Nat → Prop} (e : Ext w (XX c.Z Y β h) w' X') {v : SV} {u : Value} (hv : rel w (XX c.Z Y β h) v β u) : rel w' X' (v.kill b) β' u :=
 rel_ext e (killP hβ v) (rel_kill b hv)
theorem Res.app {b sz : Nat} {xs ys : List SV} {l l' : Loc} {w' : World} {ad : Option Addr} (hk0 : lkB h b = some (.row true sz xs)) (hl : β b = some l)
 (hsize : w.heap.size ≤ w'.heap.size) (hos : w'.os = w.os) (htape : w'.tape = w.tape) (hout : w'.output = w.output)
 (hsame : ∀ r, r < w.heap.size → ¬ (l.cap ≠ 0 ∧ r = l.r) → w'.heap[r]? = w.heap[r]?)
 (hl' : l'.cap ≠ 0 → (l'.r = l.r ∧ l.cap ≠ 0) ∨ (w.heap.size ≤ l'.r ∧ l'.r < w'.heap.size)) (had : l'.cap ≠ 0 → ad = some ⟨l'.r, 0, none⟩)
 (hk : ∀ X', Ext w (XX c.Z Y β h) w' X' → BlkOK w' X' (setβ β b l') (.row true sz ys) l') :
 Res c h n F β Y w (.osl b sz) [] (.app b (.row true sz ys)) (.slice ad l'.len l'.cap) w' (setβ β b l') := by
 obtain ⟨m', e⟩ := m.app hk0 hl hsize hos htape hout hsame hl' hk
 exact ⟨m', rel_osl.2 ⟨l', ad, setβ_same .., rfl, had⟩, fun v0 u0 h0 => kill_nms_ne (fun b' l hb hl => by rw [setβ_ne hb]; exact hl) e h0⟩
omit m in
theorem blk_grown {sz : Nat} {zs : List SV} {w' : World} {X' : Nat → Prop} {β' : Beta} {ds : List Value} {rest : Array Value} {et : TypeId} {r cap : Nat} (hs : 1 ≤ sz) (hle : zs.length ≤ cap) (hh : w'.heap[r]? = some (.cells (ds.toArray ++ rest) et (0, 0)))
 (hc : cap * sz ≤ ds.length + rest.size) (hr : relR w' X' sz zs nob ds) : BlkOK w' X' β' (.row true sz zs) ⟨r, zs.length, cap⟩ :=
 ⟨rfl, hle, hs, .inr ⟨_, et, 0, 0, hh, .inr (Nat.le_refl _), by simpa using hc, ⟨ds, rest.toList, by simp, hr⟩, fun ho => by cases ho⟩⟩
theorem Res.from_step {w1 : World} (bl : Below w.heap.size w w1) {v : SV} {ns : List Nat} {ea : EA} {u : Value} {w' : World} {β' : Beta} (r : Res c h n F β Y w1 v ns ea u w' β') : Res c h n F β Y w v ns ea u w' β' :=
 ⟨r.mem, r.val, fun v0 u0 h0 => r.keep v0 u0 (rel_ext (m.step bl).2 (nms_true (fun _ _ k => k) _) h0)⟩
omit m in
theorem zero_size (ok : EnvOK c.E) {e : TypeId} (hz : zeroFits c.E e = true) : ∃ i z, c.E.P.info? e = some i ∧ i.zero = some z ∧ i.size = (lkT c.E.tt e).size ∧ i.bytes = (lkT c.E.tt e).bytes ∧ z.cells.size = (lkT c.E.tt e).size := by
 have hne : (lkT c.E.tt e).zero ≠ .any := by
  grind [zeroFits]
 have hsz : (lkT c.E.tt e).zero.sz = (lkT c.E.tt e).size := by
  simp_all [zeroFits]
 obtain ⟨i, hi, h1, h2, h3⟩ := (ok.tz e hne).info
 obtain ⟨z, hz1, hz2⟩ := h3 hne
 refine ⟨i, z, hi, hz1, h1, h2, ?_⟩
 have hrv := hz2 default (fun _ => False)
 by_cases ht : ∃ vs, (lkT c.E.tt e).zero = .tup vs
 · grind [SV.isAgg, relP, relV]
 · have hr : rel default (fun _ => False) (lkT c.E.tt e).zero nob z := by rw [rel_eq fun vs e => ht ⟨vs, e⟩]; exact hrv
   have hp := rel_cells hne (fun vs e => ht ⟨vs, e⟩) hr
   have := relP_len _ _ hp
   grind
include ok in
omit m in
theorem grow_run {T e : TypeId} {ty : TypeId} (hd : (lkT c.E.tt T).d = .sl e) (hz : zeroFits c.E e = true) (hb1 : 1 ≤ (lkT c.E.tt e).bytes) {ad : Option Addr} {cap k cap' b off : Nat} {xs ys : List SV} {olds news : List Value}
 (hox : relR w (XX c.Z Y β h) (lkT c.E.tt e).size xs nob olds) (hold : xs = [] ∧ cap = 0 ∨ ∃ b0 off0, ad = some ⟨b0, off0, none⟩ ∧ cellsAt w b0 off0 olds) (hny : relR w (XX c.Z Y β h) (lkT c.E.tt e).size ys nob news)
 (hcells : cellsAt w b off news) (hk : ys.length = k) (hk0 : k ≠ 0) (hg : cap < xs.length + k) (hbound : (xs.length + k) * (lkT c.E.tt e).bytes ≤ 70368744177664) :
 ∃ ncap rest, xs.length + k ≤ ncap ∧ ncap * (lkT c.E.tt e).size ≤ (olds ++ news).length + rest.size ∧
  (Builtin.append_ #[T, T] ty #[.slice ad xs.length cap, .slice (some ⟨b, off, none⟩) k cap']).run c.E.P w = .ok (.slice (some ⟨w.heap.size, 0, none⟩) (xs.length + k) ncap) (w.drew.alloc (.cells ((olds ++ news).toArray ++ rest) e)) := by
 obtain ⟨i, z, hi, hz1, hs, hb, hzs⟩ := zero_size ok hz
 have desc := (ok.tt T (by rw [hd]; simp)).desc
 simp only [hd] at desc
 have hlo := relR_len _ _ _ hox
 have hln := relR_len _ _ _ hny
 have hmul : xs.length + k ≤ (xs.length + k) * (lkT c.E.tt e).bytes := Nat.le_mul_of_pos_right _ hb1
 have h63 : ((xs.length + k : Nat) : Int) ≤ 9223372036854775807 := by omega
 have hfit : Builtin.nextslicecap (xs.length + k) cap * i.bytes ≤ 281474976710656 := growslice_fits hg (by rw [hb]; omega)
 have hge := grownCap_ge w (xs.length + k) cap e
 refine ⟨grownCap w (xs.length + k) cap e, Builtin.zeroCells z.cells (grownCap w (xs.length + k) cap e - (xs.length + k)), hge, ?_, ?_⟩
 · rw [size_zeroCells, hzs, List.length_append, hlo, hln, hk, ← Nat.add_mul, ← Nat.add_mul]
   exact Nat.mul_le_mul_right _ (by omega)
 · have hnews : ∀ j v, news[j]? = some v → w.cell? ((⟨b, off, none⟩ : Addr).add j) = some v := fun j v hj => by rw [add_plain]; exact hcells j v hj
   by_cases hn : ad = none
   · subst hn
     rcases hold with ⟨rfl, rfl⟩ | ⟨_, _, h, _⟩
     · have : olds = [] := by simpa [relR_nil] using hox
       subst this
       have hr := run_append_nil (P := c.E.P) w T ty e i z desc hi hz1 ⟨b, off, none⟩ k cap' news (by rw [hln, hk, hs]) hnews (by omega) (by simpa using h63) (by
        have := growslice_fits (need := k) (old := 0) (bytes := i.bytes) (by omega) (by rw [hb]; simp at hbound; omega)
        rw [hb]; simp at hbound; omega)
       simpa using hr
     · cases h
   · obtain ⟨ad0, rfl⟩ := Option.ne_none_iff_exists'.1 hn
     have holds : ∀ j v, olds[j]? = some v → w.cell? (ad0.add j) = some v := by
      rcases hold with ⟨rfl, _⟩ | ⟨b0, off0, h, hc⟩
      · have : olds = [] := by simpa [relR_nil] using hox
        subst this
        intro j v hj; simp at hj
      · cases h
        intro j v hj; rw [add_plain]; exact hc j v hj
     have hr := run_append_grow (P := c.E.P) w T ty e i z desc hi hz1 ad0 xs.length cap olds (by rw [hlo, hs]) holds ⟨b, off, none⟩ k cap' news (by rw [hln, hk, hs]) hnews hg h63 hfit
     rw [hr]
     simp
end
section
variable {c : Cx} (ok : EnvOK c.E) {o : Oper} {a : Act} {sl : Slots} {h : Heap} {n : Nat} {F : Nat → Prop} {β : Beta} {Y : Nat → Prop} {w : World} (m : Mem c h F β Y w) (hF : F n)
 (hev : ∀ x ∈ o.op.operands.toList, rel w (XX c.Z Y β h) (ev c.E sl x) β (a.eval x)) {K : KE} (hK : opE c.E sl h n o.op K)
include ok m hF hev hK
theorem ok_append {cl : Call} (ho : o.op = .call cl) (hb : cl.callee = .builtin .append) : ∃ v ns ea, K v ns ea ∧ OpOK c o a h n F β Y w v ns ea := by
 rw [ho] at hK hev
 simp only [opE, hb] at hK
 split at hK
 case h_2 => cases hK
 rename_i x y T T' hargs htys
 have ha : cl.args = #[x, y] := by apply Array.toList_inj.1; simpa using hargs
 have ht : cl.argTypes = #[T, T'] := by apply Array.toList_inj.1; simpa using htys
 have hx := hev x (by simp [Op.operands, Call.operands, ha])
 have hy := hev y (by simp [Op.operands, Call.operands, ha])
 split at hK
 case h_2 => cases hK
 rename_i e hd
 have tok := ok.tt T (by rw [hd]; simp)
 have run1 : ∀ {val : Value} {w' : World}, T = T' → (Builtin.append_ #[T, T] o.type #[a.eval x, a.eval y]).run c.E.P w = .ok val w' → (execOp a.eval o).run c.E.P w = .ok (.value val) w' := by
  intro val w' e hr
  refine builtin_run (a := a) ho hb ?_
  simp_all [builtin]
 rcases rows_ok m hK hy with ⟨ady, hyu, hK⟩ | ⟨sz, ys, ady, capy, dsy, hK, hyu, hyr, hyc⟩
 · simp only at hK
   have fin : ∀ {ad : Option Addr} {len cap : Nat}, T = T' → 1 ≤ (lkT c.E.tt e).size → a.eval x = .slice ad len cap → len ≤ cap → (execOp a.eval o).run c.E.P w = .ok (.value (a.eval x)) w := by
    intro ad len cap e1 h1 hxu hle
    refine run1 e1 ?_
    rw [hxu, hyu]
    exact run_append_none tok hd (ok.ts e (by omega)) hle
   split at hK
   · rename_i b s hc he
     simp only [Bool.and_eq_true] at hc
     rw [he] at hx
     obtain ⟨l, ad, hl, hxu, had⟩ := rel_osl.1 hx
     split at hK
     case h_2 => cases hK
     rename_i hb0
     obtain ⟨l', hl', hok⟩ := m.blk b _ hb0
     rw [hl] at hl'; cases hl'
     exact ⟨_, _, _, hK, .pure m (fin (beq_of hc.1) (by simpa using hc.2) hxu hok.2.1) hx⟩
   · rename_i s xs hc he
     simp only [Bool.and_eq_true] at hc
     rw [he] at hx
     obtain ⟨ad, cap, hxu, hle, hmm⟩ := rel_sl.1 hx
     exact ⟨_, _, _, hK, .pure m (fin (beq_of hc.1) (by simpa using hc.2) hxu hle) hx⟩
   · rename_i hc he
     simp only [Bool.and_eq_true] at hc
     rw [he] at hx
     exact ⟨_, _, _, hK, .pure m (fin (beq_of hc.1) (by simpa using hc.2) (rel_nils.1 hx) (Nat.le_refl _)) hx⟩
   · rename_i hc he
     simp only [Bool.and_eq_true] at hc
     rw [he] at hx
     obtain ⟨ad, hxu⟩ := rel_mt.1 hx
     exact ⟨_, _, _, hK, .pure m (fin (beq_of hc.1) (by simpa using hc.2) hxu (Nat.le_refl _)) hx⟩
   · cases hK
 · simp only at hK
   split at hK
   case h_2 => cases hK
   rename_i hs1 hs2 hs3 hs4
   have hsz := beq_of hs1
   subst hsz
   have h1 : 1 ≤ (lkT c.E.tt e).size := by simpa using hs2
   have hb1 : 1 ≤ (lkT c.E.tt e).bytes := by simpa using hs4
   simp only [Bool.and_eq_true] at hs3
   have e1 := beq_of hs3.1
   have hz := hs3.2
   have toke := ok.ts e (by omega)
   split at hK
   · -- an own row
     rename_i b s he
     rw [he] at hx
     split at hK
     case h_2 => cases hK
     rename_i sz' xs hb0
     split at hK
     case h_2 => cases hK
     rename_i hss
     have hss := beq_of hss
     subst hss
     unfold SideVC at hK
     obtain ⟨hbound, hK⟩ := hK
     obtain ⟨l, ad, hl, hxu, had⟩ := rel_osl.1 hx
     obtain ⟨l', hl', hok⟩ := m.blk b _ hb0
     rw [hl] at hl'; cases hl'
     obtain ⟨g1, g2, g3, g4⟩ := hok
     refine ⟨_, _, _, hK, ?_⟩
     by_cases hys : ys = []
     · subst hys
       have hr := run1 e1 (by rw [hxu, hyu]; exact run_append_none (len := l.len) (cap := l.cap) tok hd toke g2)
       refine .value hr (Res.app m hb0 hl (l' := l) (Nat.le_refl _) rfl rfl rfl (fun _ _ _ => rfl) ?_ had ?_)
       · grind
       · intro X' e'
         rw [List.append_nil]
         refine ⟨g1, g2, g3, g4.imp id ?_⟩
         rintro ⟨cs, ty, lo, hi, f1, f2, f3, ⟨c1, c2, f4, f5⟩, f6⟩
         exact ⟨cs, ty, lo, hi, f1, f2, f3, ⟨c1, c2, f4, relR_ext e' _ _ _ (nmsL_true (fun _ _ k => k) _) f5⟩, fun ho => by cases ho⟩
     · rcases hyc with hyc | ⟨b2, off2, rfl, hcells⟩
       · grind
       have hk0 : ys.length ≠ 0 := fun e => hys (List.length_eq_zero_iff.1 e)
       have hln := relR_len _ _ _ hyr
       by_cases hroom : l.len + ys.length ≤ l.cap
       · have hcap : l.cap ≠ 0 := by omega
         rcases g4 with g4 | ⟨cs, ty, lo, hi, f1, f2, f3, ⟨c1, c2, f4, f5⟩, f6⟩
         · grind
         have hl1 := relR_len _ _ _ f5
         have hmulroom : (l.len + ys.length) * (lkT c.E.tt e).size ≤ l.cap * (lkT c.E.tt e).size := Nat.mul_le_mul_right _ hroom
         have hc2 : dsy.length ≤ c2.length := by
          have := congrArg List.length f4
          grind
         have hr := run1 e1 (by
          rw [hxu, hyu, had hcap]
          exact run_append_in (len := l.len) (cap := l.cap) (m := ys.length) (pre := c1) (mid := c2.take dsy.length) (post := c2.drop dsy.length) (news := dsy) tok hd toke f1 f2 (by rw [f4]; simp) (by rw [hl1, g1]) (by simp; omega) hln hcells (relR_one _ _ _ hyr) hroom)
         refine .value hr (Res.app m hb0 hl (l' := ⟨l.r, l.len + ys.length, l.cap⟩) (by rw [put_size]; exact Nat.le_refl _) rfl rfl rfl (fun r hr hne => put_ne fun e => hne ⟨hcap, e⟩) (fun _ => .inl ⟨rfl, hcap⟩) (fun _ => rfl) fun X' e' => ?_)
         refine ⟨by simp [g1], hroom, g3, .inr ⟨_, ty, lo, hi, put_same (heap_lt f1), ?_, ?_, ⟨c1 ++ dsy, c2.drop dsy.length, by simp, ?_⟩, fun ho => by cases ho⟩⟩
         · have := congrArg List.length f4
           grind
         · have := congrArg List.length f4
           grind
         · exact relR_append (relR_ext e' _ _ _ (nmsL_true (fun _ _ k => k) _) f5) (relR_ext e' _ _ _ (nmsL_true (fun _ _ k => k) _) hyr)
       · have hold : xs = [] ∧ l.cap = 0 ∧ (∃ olds, relR w (XX c.Z Y β h) (lkT c.E.tt e).size xs nob olds ∧ olds = []) ∨ ∃ olds, relR w (XX c.Z Y β h) (lkT c.E.tt e).size xs nob olds ∧ ∃ b0 off0, ad = some ⟨b0, off0, none⟩ ∧ cellsAt w b0 off0 olds := by
          by_cases hcap : l.cap = 0
          · simp_all [relR_nil]
          · rcases g4 with g4 | ⟨cs, ty, lo, hi, f1, f2, f3, ⟨c1, c2, f4, f5⟩, f6⟩
            · grind
            refine .inr ⟨c1, f5, l.r, 0, had hcap, fun j v hj => ?_⟩
            have hjl : j < c1.length := by
             grind
            have : cs[j]? = some v := by rw [← Array.getElem?_toList, f4, List.getElem?_append_left hjl]; exact hj
            simp [World.cell?, f1, this]
         have hold' : ∃ olds, relR w (XX c.Z Y β h) (lkT c.E.tt e).size xs nob olds ∧ (xs = [] ∧ l.cap = 0 ∨ ∃ b0 off0, ad = some ⟨b0, off0, none⟩ ∧ cellsAt w b0 off0 olds) := by
          grind
         obtain ⟨olds, hox, hold''⟩ := hold'
         obtain ⟨ncap, rest, q1, q2, q3⟩ := grow_run (ty := o.type) (cap' := capy) ok hd hz hb1 hox hold'' hyr hcells rfl hk0 (by omega) hbound
         have hr := run1 e1 (by rw [hxu, hyu, g1]; exact q3)
         have bl : Below w.heap.size w (w.drew.alloc (.cells ((olds ++ dsy).toArray ++ rest) e)) := ((Below.refl _ _).drew).alloc (by simp) _
         refine .value hr (Res.app m hb0 hl (l' := ⟨w.heap.size, xs.length + ys.length, ncap⟩) bl.size rfl rfl rfl (fun r hr _ => bl.block r hr) (fun _ => .inr ⟨Nat.le_refl _, by simp⟩) (fun _ => rfl) fun X' e' => ?_)
         have hlen : xs.length + ys.length = (xs ++ ys).length := by simp
         rw [hlen]
         exact blk_grown (zs := xs ++ ys) (ds := olds ++ dsy) (rest := rest) (et := e) h1 (by rw [← hlen]; exact q1) (heap_alloc_new w.drew _) q2
          (relR_append (relR_ext e' _ _ _ (nmsL_true (fun _ _ k => k) _) hox) (relR_ext e' _ _ _ (nmsL_true (fun _ _ k => k) _) hyr))
   all_goals first | (exact hK.elim; done) | skip
   all_goals
    rename_i he
    rw [he] at hx
    have hxu : ∃ ad, a.eval x = .slice ad 0 0 := by
     first
      | exact ⟨none, rel_nils.1 hx⟩
      | exact rel_mt.1 hx
    obtain ⟨ad, hxu⟩ := hxu
    unfold SideVC at hK
    obtain ⟨hbound, hK⟩ := hK
    refine ⟨_, _, _, hK, ?_⟩
    by_cases hys : ys = []
    · subst hys
      have hr := run1 e1 (by rw [hxu, hyu]; exact run_append_none (len := 0) (cap := 0) tok hd toke (Nat.le_refl _))
      obtain ⟨m', e'⟩ := m.newNil hF (sz := (lkT c.E.tt e).size) h1
      have hn : β n = none := m.fresh n hF
      have hβ : ∀ b l', β b = some l' → setβ β n ⟨0, 0, 0⟩ b = some l' := fun b l' hb => by
       rw [setβ_ne]; · exact hb
       · grind
      exact .value hr ⟨m', rel_osl.2 ⟨_, ad, setβ_same .., rfl, fun hc => absurd rfl hc⟩, fun v0 u0 h0 => rel_ext e' (nms_true hβ _) h0⟩
    · rcases hyc with hyc | ⟨b2, off2, rfl, hcells⟩
      · grind
      have hk0 : ys.length ≠ 0 := fun e => hys (List.length_eq_zero_iff.1 e)
      obtain ⟨ncap, rest, q1, q2, q3⟩ := grow_run (ty := o.type) (cap' := capy) (ad := ad) (xs := []) (olds := []) (cap := 0) ok hd hz hb1 (by simp [relR_nil]) (.inl ⟨rfl, rfl⟩) hyr hcells rfl hk0 (by simp; omega) (by simpa using hbound)
      simp only [List.length_nil, Nat.zero_add, List.nil_append] at q1 q2 q3
      have hr := run1 e1 (by rw [hxu, hyu]; exact q3)
      have bl : Below w.heap.size w w.drew := (Below.refl _ _).drew
      have mm := (m.step bl).1
      refine .value hr (Res.from_step m bl (Res.newRow mm hF h1 rfl q1 (by simpa using q2) (ds := dsy) (rest := rest.toList) (by simp) (relR_ext (m.step bl).2 _ _ _ (nmsL_true (fun _ _ k => k) _) hyr)))
end
end Go.Sx
