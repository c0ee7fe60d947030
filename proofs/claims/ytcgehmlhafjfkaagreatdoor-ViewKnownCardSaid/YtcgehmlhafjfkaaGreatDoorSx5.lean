/-
  EACH OPERATION OF THE EXECUTOR IS SOUND. Generic: no program in sight. An own text.
-/
import Derived.Test.YtcgehmlhafjfkaaGreatDoorSx4
import Derived.Laws.Append
import Derived.Laws.MakeOwn
namespace Go.Sx
open Go.RowKit (Below)

def aggT : TD → Bool
  | .strct _ | .arr .. => true
  | _ => false

/-- The table tells the truth of a type. -/
structure TIok (P : Program) (T : TypeId) (ti : TI) : Prop where
  info : ∃ i, P.info? T = some i ∧ i.size = ti.size ∧ i.bytes = ti.bytes ∧ (ti.zero ≠ .any → ∃ z, i.zero = some z ∧ ∀ w X, relV w X ti.zero nob z)
  desc : match ti.d with
    | .int k => P.underlying T = some (.int k)
    | .bool => P.underlying T = some .bool
    | .str => P.underlying T = some .string
    | .fn => ∃ ps rs v, P.underlying T = some (.func ps rs v)
    | .ptr e => P.underlying T = some (.pointer e)
    | .ifc => ∃ ms, P.underlying T = some (.interface ms)
    | .strct fs => ∃ F, P.underlying T = some (.struct F) ∧ F.toList.map (fun f => (f.type, f.offset)) = fs ∧ (ti.cmp = true → (∀ f ∈ F.toList, (f.name != "_") = true) ∧ P.stoodInHeld T = false ∧ P.eqGuardType P.depth T = false)
    | .arr n e => P.underlying T = some (.array n e) ∧ (ti.cmp = true → P.eqGuardType P.depth T = false)
    | .sl e => P.underlying T = some (.slice e)
    | .other => True

structure EnvOK (E : Env) : Prop where
  tt' : ∀ T, (lkT E.tt T).d ≠ .other ∨ (lkT E.tt T).size ≠ 0 ∨ (lkT E.tt T).zero ≠ .any → TIok E.P T (lkT E.tt T)
  mixed : E.P.follows .mixedOrders = true
  idf : ∀ f, memb f E.idf = true → Callable E.P f ∧ ∀ (w : World) (u : Value), Calls E.P f #[u] w fun e w' => e = .returned u ∧ Below w.heap.size w w'

theorem EnvOK.tt {E : Env} (ok : EnvOK E) (T : TypeId) (h : (lkT E.tt T).d ≠ .other) : TIok E.P T (lkT E.tt T) := ok.tt' T (.inl h)
theorem EnvOK.ts {E : Env} (ok : EnvOK E) (T : TypeId) (h : (lkT E.tt T).size ≠ 0) : TIok E.P T (lkT E.tt T) := ok.tt' T (.inr (.inl h))
theorem EnvOK.tz {E : Env} (ok : EnvOK E) (T : TypeId) (h : (lkT E.tt T).zero ≠ .any) : TIok E.P T (lkT E.tt T) := ok.tt' T (.inr (.inr h))

def hE (ns : List Nat) (ea : EA) (h : Heap) (n : Nat) : Heap :=
  match ea with
  | .nil => iceB ns h
  | .new k => (n, k) :: iceB ns h
  | .set b k => stB (iceB ns h) b k
  | .app b k => stB (killH b (iceB ns h)) b k
def nE (ea : EA) (n : Nat) : Nat := match ea with | .new _ => n + 1 | _ => n
def FE (ea : EA) (n : Nat) (F : Nat → Prop) : Nat → Prop := match ea with | .new _ => rmF F n | _ => F
def kE (ea : EA) (v : SV) : SV := match ea with | .app b _ => v.kill b | _ => v

structure Res (c : Cx) (h : Heap) (n : Nat) (F : Nat → Prop) (β : Beta) (Y : Nat → Prop) (w : World) (v : SV) (ns : List Nat) (ea : EA) (u : Value) (w' : World) (β' : Beta) : Prop where
  mem : Mem c (hE ns ea h n) (FE ea n F) β' Y w'
  val : rel w' (XX c.Z Y β' (hE ns ea h n)) v β' u
  keep : ∀ v0 u0, rel w (XX c.Z Y β h) v0 β u0 → rel w' (XX c.Z Y β' (hE ns ea h n)) (kE ea v0) β' u0

def OpOK (c : Cx) (o : Oper) (a : Act) (h : Heap) (n : Nat) (F : Nat → Prop) (β : Beta) (Y : Nat → Prop) (w : World) (v : SV) (ns : List Nat) (ea : EA) : Prop :=
  ∀ (next : Act → World → Prop) (Q : Exit → Act → World → Prop), (∀ u w' β', Res c h n F β Y w v ns ea u w' β' → next (a.put o.dst u) w') → o.upon c.E.P a next Q ((execOp a.eval o).run c.E.P w)

section
variable {c : Cx} {o : Oper} {a : Act} {sl : Slots} {h : Heap} {n : Nat} {F : Nat → Prop} {β : Beta} {Y : Nat → Prop} {w : World}

theorem Res.nil (m : Mem c h F β Y w) {v : SV} {u : Value} (hv : rel w (XX c.Z Y β h) v β u) : Res c h n F β Y w v [] .nil u w β :=
  ⟨m, hv, fun _ _ h => h⟩

theorem OpOK.value {v : SV} {ns : List Nat} {ea : EA} {u : Value} {w' : World} {β' : Beta} (hr : (execOp a.eval o).run c.E.P w = .ok (.value u) w') (hres : Res c h n F β Y w v ns ea u w' β') : OpOK c o a h n F β Y w v ns ea := by
  intro next Q hn
  rw [hr]
  exact hn u w' β' hres
theorem OpOK.skip {v : SV} {ns : List Nat} {ea : EA} {w' : World} {β' : Beta} (hr : (execOp a.eval o).run c.E.P w = .ok .skip w') (hres : Res c h n F β Y w v ns ea undef w' β') : OpOK c o a h n F β Y w v ns ea := by
  intro next Q hn
  rw [hr]
  exact hn undef w' β' hres
/-- a value, and nothing else happens -/
theorem OpOK.pure (m : Mem c h F β Y w) {v : SV} {u : Value} (hr : (execOp a.eval o).run c.E.P w = .ok (.value u) w) (hv : rel w (XX c.Z Y β h) v β u) : OpOK c o a h n F β Y w v [] .nil :=
  .value hr (.nil m hv)

theorem TIok.sz {P : Program} {T : TypeId} {ti : TI} (t : TIok P T ti) (w : World) : (sizeOf T).run P w = .ok ti.size w := by
  obtain ⟨i, h1, h2, _⟩ := t.info
  simp [sizeOf, typeInfo, h1, h2]

theorem rel_of_relP {X : Nat → Prop} {v : SV} {u : Value} (ha : v.isAgg = false) (hp : relP w X v β [u]) : rel w X v β u := by
  cases v <;> first | exact hp | exact trivial | (simp only [relP] at hp; done) | cases ha
theorem relP_of_rel {X : Nat → Prop} {v : SV} {u : Value} (ha : v.isAgg = false) (hn : v ≠ .any) (ht : ∀ vs, v ≠ .tup vs) (hp : rel w X v β u) : relP w X v β [u] := by
  rw [rel_eq ht, relV_leaf ha hn] at hp; exact hp
theorem rel_agg {X : Nat → Prop} {v : SV} {u : Value} (ha : v.isAgg = true) : rel w X v β u ↔ ∃ cs, u = .agg cs ∧ relP w X v β cs.toList := by
  rw [rel_eq (by rintro vs rfl; cases ha)]
  unfold relV
  simp only [ha]

/-- the cells of a value that may be laid in a variable -/
theorem rel_cells {X : Nat → Prop} {v : SV} {u : Value} (hn : v ≠ .any) (ht : ∀ vs, v ≠ .tup vs) (hp : rel w X v β u) : relP w X v β u.cells.toList := by
  cases ha : v.isAgg with
  | true => obtain ⟨cs, rfl, h2⟩ := (rel_agg ha).1 hp; exact h2
  | false =>
    have h2 := relP_of_rel ha hn ht hp
    have h1 := relP_one _ _ h2 u (by simp)
    have : u.cells = #[u] := by cases u <;> first | rfl | cases h1
    rw [this]; exact h2

theorem ofVal_ok {X : Nat → Prop} (v : Value) : rel w X (ofVal v) β v := by
  cases v with
  | int k n => exact (rfl : [Value.int k n] = _)
  | bool b => cases b <;> exact (rfl : [_] = _)
  | string s => exact (rfl : [_] = _)
  | pointer a => cases a <;> first | exact (rfl : [_] = _) | exact trivial
  | slice a l cap =>
    cases a with
    | some a => exact trivial
    | none =>
      cases l with
      | succ l => exact trivial
      | zero => cases cap with
        | succ _ => exact trivial
        | zero => exact (rfl : [_] = _)
  | nilFunc => exact (rfl : [_] = _)
  | nilIface => exact (rfl : [_] = _)
  | _ => exact trivial

theorem ev_ok (m : Mem c h F β Y w) (hs : SlotsOK c sl h β Y w a) (x : Operand) : rel w (XX c.Z Y β h) (ev c.E sl x) β (a.eval x) := by
  cases x with
  | tmp t =>
    simp only [ev]
    split
    · rename_i e
      have := hs.2 t
      unfold slotv at this
      rw [if_pos (by rw [← Nat.ble_eq]; exact e)] at this
      exact this
    · exact trivial
  | const v => exact ofVal_ok v
  | global g =>
    simp only [ev]
    split
    · exact trivial
    · rename_i t ht
      have := m.gl g _ rfl ht
      exact rel_of_relP rfl (relP_of_nob this)
  | func f => exact ⟨#[], rfl, by simp [relL_nil]⟩
end
end Go.Sx
