/-
  EACH OPERATION OF THE EXECUTOR IS SOUND: comparison, arithmetic, addresses, loads. Generic: no program in sight. An own text.
-/
import Derived.Test.YtcgehmlhafjfkaaGreatDoorSx5
import Derived.Laws.StructEq
namespace Go.Sx
open Go.RowKit (Below)

section
variable {c : Cx} {o : Oper} {a : Act} {sl : Slots} {h : Heap} {n : Nat} {F : Nat → Prop} {β : Beta} {Y : Nat → Prop} {w : World}

theorem run_val {P : Program} {s : Sem Value} {u : Value} {w w' : World} (h : s.run P w = .ok u w') : (do pure (Next.value (← s)) : Sem Next).run P w = .ok (.value u) w' := by simp [h]

theorem relP_int {X : Nat → Prop} {k : IntKind} {m : Int} {u : Value} : rel w X (.int k m) β u ↔ u = .int k m := by
  constructor
  · intro h; have := relP_of_rel rfl (by simp) (by simp) h; simpa [relP] using this
  · rintro rfl; exact (rfl : [_] = _)
theorem rel_bool {X : Nat → Prop} {b : Bool} {u : Value} : rel w X (.bool b) β u ↔ u = .bool b := by
  constructor
  · intro h; have := relP_of_rel rfl (by simp) (by simp) h; simpa [relP] using this
  · rintro rfl; exact (rfl : [_] = _)
theorem rel_tru {X : Nat → Prop} {u : Value} : rel w X .tru β u ↔ u = .bool true := by
  constructor
  · intro h; have := relP_of_rel rfl (by simp) (by simp) h; simpa [relP] using this
  · rintro rfl; exact (rfl : [_] = _)
theorem rel_fls {X : Nat → Prop} {u : Value} : rel w X .fls β u ↔ u = .bool false := by
  constructor
  · intro h; have := relP_of_rel rfl (by simp) (by simp) h; simpa [relP] using this
  · rintro rfl; exact (rfl : [_] = _)
theorem rel_str {X : Nat → Prop} {s : List UInt8} {u : Value} : rel w X (.str s) β u ↔ u = .string ⟨s.toArray⟩ := by
  constructor
  · intro h; have := relP_of_rel rfl (by simp) (by simp) h; simpa [relP] using this
  · rintro rfl; exact (rfl : [_] = _)
theorem rel_nils {X : Nat → Prop} {u : Value} : rel w X .nils β u ↔ u = .slice none 0 0 := by
  constructor
  · intro h; have := relP_of_rel rfl (by simp) (by simp) h; simpa [relP] using this
  · rintro rfl; exact (rfl : [_] = _)
theorem rel_mt {X : Nat → Prop} {u : Value} : rel w X .mt β u ↔ ∃ a, u = .slice a 0 0 := by
  constructor
  · intro h; have := relP_of_rel rfl (by simp) (by simp) h; simpa [relP] using this
  · rintro ⟨a, rfl⟩; exact ⟨a, rfl⟩
theorem rel_nilf {X : Nat → Prop} {u : Value} : rel w X .nilf β u ↔ u = .nilFunc := by
  constructor
  · intro h; have := relP_of_rel rfl (by simp) (by simp) h; simpa [relP] using this
  · rintro rfl; exact (rfl : [_] = _)
theorem rel_nilp {X : Nat → Prop} {u : Value} : rel w X .nilp β u ↔ u = .pointer none := by
  constructor
  · intro h; have := relP_of_rel rfl (by simp) (by simp) h; simpa [relP] using this
  · rintro rfl; exact (rfl : [_] = _)
theorem rel_iptr {X : Nat → Prop} {t : SV} {u : Value} : rel w X (.iptr t) β u ↔ ∃ b off ds, u = .pointer (some ⟨b, off, none⟩) ∧ ¬ X b ∧ b < w.heap.size ∧ cellsAt w b off ds ∧ relP w X t nob ds := by
  constructor
  · intro h; have := relP_of_rel rfl (by simp) (by simp) h; simpa [relP] using this
  · rintro ⟨b, off, ds, rfl, r⟩; exact ⟨b, off, ds, rfl, r⟩
theorem rel_ptr {X : Nat → Prop} {b : Nat} {p : List Step} {u : Value} : rel w X (.ptr b p) β u ↔ ∃ l, β b = some l ∧ u = .pointer (some ⟨l.r, pOff p, none⟩) := by
  constructor
  · intro h; have := relP_of_rel rfl (by simp) (by simp) h; simpa [relP] using this
  · rintro ⟨l, h1, rfl⟩; exact ⟨l, h1, rfl⟩
theorem rel_osl {X : Nat → Prop} {b s : Nat} {u : Value} : rel w X (.osl b s) β u ↔ ∃ l ad, β b = some l ∧ u = .slice ad l.len l.cap ∧ (l.cap ≠ 0 → ad = some ⟨l.r, 0, none⟩) := by
  constructor
  · intro h; have := relP_of_rel rfl (by simp) (by simp) h; simpa [relP] using this
  · rintro ⟨l, ad, h1, rfl, h2⟩; exact ⟨l, ad, h1, rfl, h2⟩
theorem rel_sl {X : Nat → Prop} {sz : Nat} {xs : List SV} {u : Value} : rel w X (.sl sz xs) β u ↔ ∃ ad cap, u = .slice ad xs.length cap ∧ xs.length ≤ cap ∧
      (xs = [] ∨ ∃ b off ds, ad = some ⟨b, off, none⟩ ∧ ¬ X b ∧ b < w.heap.size ∧ cellsAt w b off ds ∧ relR w X sz xs nob ds) := by
  constructor
  · intro h; have := relP_of_rel rfl (by simp) (by simp) h; simpa [relP] using this
  · rintro ⟨ad, cap, rfl, r⟩; exact ⟨ad, cap, rfl, r⟩
theorem rel_fn {X : Nat → Prop} {f : FuncId} {caps : List SV} {u : Value} : rel w X (.fn f caps) β u ↔ ∃ us, u = .func (.func f) #[] us ∧ relL w X caps β us.toList := by
  constructor
  · intro h; have := relP_of_rel rfl (by simp) (by simp) h; simpa [relP] using this
  · rintro ⟨us, rfl, r⟩; exact ⟨us, rfl, r⟩

theorem str_eq (s t : List UInt8) : ((⟨s.toArray⟩ : ByteArray) == ⟨t.toArray⟩) = decide (s = t) := by
  show (s.toArray == t.toArray) = _
  by_cases e : s = t
  · subst e; simp
  · simp [e]

theorem int_beq (a b : Int) : (a == b) = decide (a = b) := by
  by_cases e : a = b
  · subst e; simp
  · simp [e]

/-- comparison of two values that are no structs -/
theorem eqS_ok {P : Program} {X : Nat → Prop} {T : TypeId} {tt : List (Nat × TI)} (ok : ∀ T, (lkT tt T).d ≠ .other → TIok P T (lkT tt T)) {x y : SV} {u v : Value} {b : Bool} (hx : rel w X x β u) (hy : rel w X y β v)
    (ht : match (lkT tt T).d, x with
      | .int _, .int .. | .bool, .tru | .bool, .fls | .bool, .bool _ | .str, .str _ | .ptr _, .nilp | .ptr _, .ptr .. | .ptr _, .iptr _ | .sl _, .nils | .fn, .nilf | .fn, .fn .. => True
      | _, _ => False)
    (he : eqS x y = some b) (D : Nat) : (Op.equalIn (D + 1) T u v).run P w = .ok b w := by
  cases hd : (lkT tt T).d <;> cases x <;> simp only [hd] at ht
  all_goals (have tok := (ok T (by rw [hd]; simp)).desc; simp only [hd] at tok)
  all_goals (cases y <;> simp only [eqS] at he)
  all_goals first | (cases he; done) | skip
  · -- int
    split at he
    · rename_i hk
      cases he
      have := kq_eq hk
      subst this
      rw [relP_int] at hx hy
      subst hx; subst hy
      rw [run_equalIn_int w D T _ _ _ _ tok]
      exact congrArg (fun z => Result.ok z w) (int_beq _ _)
    · cases he
  all_goals (cases he)
  all_goals (simp only [rel_bool, rel_tru, rel_fls, rel_str, rel_nils, rel_nilp, rel_nilf] at hx hy)
  all_goals first
    | (subst hx; subst hy; simp [Op.equalIn, run_underlying tok, str_eq]; done)
    | skip
  · obtain ⟨ps, rs, vv, tok⟩ := tok
    obtain ⟨us, rfl, _⟩ := rel_fn.1 hx
    subst hy
    simp [Op.equalIn, run_underlying tok]
  · obtain ⟨ps, rs, vv, tok⟩ := tok
    obtain ⟨us, rfl, _⟩ := rel_fn.1 hy
    subst hx
    simp [Op.equalIn, run_underlying tok]
  · obtain ⟨ps, rs, vv, tok⟩ := tok
    subst hx; subst hy
    simp [Op.equalIn, run_underlying tok]
  · obtain ⟨_, _, _, rfl, _⟩ := rel_iptr.1 hx
    subst hy
    simp [Op.equalIn, run_underlying tok]
  · obtain ⟨_, _, rfl⟩ := rel_ptr.1 hx
    subst hy
    simp [Op.equalIn, run_underlying tok]
  · obtain ⟨_, _, _, rfl, _⟩ := rel_iptr.1 hy
    subst hx
    simp [Op.equalIn, run_underlying tok]
  · obtain ⟨_, _, rfl⟩ := rel_ptr.1 hy
    subst hx
    simp [Op.equalIn, run_underlying tok]

theorem andO_some {x y : Option Bool} {b : Bool} (h : andO x y = some b) : ∃ p q, x = some p ∧ y = some q ∧ b = (p && q) := by
  cases x <;> cases y <;> simp only [andO] at h <;> first | (cases h; done) | exact ⟨_, _, rfl, rfl, (Option.some.inj h).symm⟩

theorem isAgg_run {P : Program} {T : TypeId} {ti : TI} (t : TIok P T ti) (hd : ti.d ≠ .other) (w : World) : (isAgg T).run P w = .ok (aggT ti.d) w := by
  have := t.desc
  unfold isAgg
  cases h : ti.d <;> simp only [h] at this hd <;> simp only [aggT]
  · simp [run_underlying this]
  · simp [run_underlying this]
  · simp [run_underlying this]
  · obtain ⟨_, _, _, this⟩ := this; simp [run_underlying this]
  · simp [run_underlying this]
  · obtain ⟨_, this⟩ := this; simp [run_underlying this]
  · obtain ⟨_, this, _⟩ := this; simp [run_underlying this]
  · simp [run_underlying this.1]
  · simp [run_underlying this]
  · exact (hd rfl).elim

/-- a value out of its cells, for a type -/
def cellsVal (agg : Bool) (cs : List Value) : Value := if agg then .agg cs.toArray else cs.headD undef

/-- a part of an aggregate -/
theorem run_part {P : Program} {T : TypeId} {ti : TI} (t : TIok P T ti) (hd : ti.d ≠ .other) {pre mid post : List Value} {cs : Array Value} (hc : cs.toList = pre ++ mid ++ post) (hm : mid.length = ti.size)
    (h1 : (aggT ti.d) = false → ti.size = 1) (w : World) :
    (part T cs pre.length).run P w = .ok (cellsVal (aggT ti.d) mid) w := by
  unfold part
  rw [Sem.run_bind, isAgg_run t hd]
  simp only [Result.andThen_ok]
  cases hag : (aggT ti.d) with
  | true =>
    simp only [if_true, Sem.run_bind, t.sz, Result.andThen_ok, Sem.run_pure, cellsVal]
    congr 2
    apply Array.toList_inj.1
    rw [Array.toList_extract, hc, ← hm]
    simp [List.extract]
  | false =>
    have h2 := h1 hag
    rw [h2] at hm
    match mid, hm with
    | [x], _ =>
      have : cs[pre.length]? = some x := by rw [← Array.getElem?_toList, hc]; simp
      simp [this, cellsVal]

theorem rel_cellsVal {X : Nat → Prop} {v : SV} {cs : List Value} (hp : relP w X v β cs) (h1 : v.isAgg = false → cs.length = 1) : rel w X v β (cellsVal v.isAgg cs) := by
  cases ha : v.isAgg with
  | true => exact (rel_agg ha).2 ⟨cs.toArray, rfl, by simpa using hp⟩
  | false =>
    match cs, h1 ha with
    | [x], _ => exact rel_of_relP ha hp
end
end Go.Sx

