/-
  EACH OPERATION OF THE EXECUTOR IS SOUND: comparison of structs and arrays. Generic: no program in sight. An own text.
-/
import Derived.Test.YtcgehmlhafjfkaaGreatDoorSx6
namespace Go.Sx

def eqElems (d : Nat) (e : TypeId) (n : Nat) (xs ys : Array Value) : Nat → Nat → Sem Bool
  | _, 0 => pure true
  | i, k + 1 => do
    let a ← part e xs (i * n)
    let b ← part e ys (i * n)
    let r ← Op.equalIn d e a b
    if (!r) = true then pure false else eqElems d e n xs ys (i + 1) k

section
variable {P : Program} (w : World)
theorem run_equalIn_array (d : Nat) (t : TypeId) (xs ys : Array Value) {len : Nat} {e : TypeId} {n : Nat} (ht : P.underlying t = some (.array len e)) (hn : ∀ w, (sizeOf e).run P w = .ok n w) :
    (Op.equalIn (d + 1) t (.agg xs) (.agg ys)).run P w = (eqElems d e n xs ys 0 len).run P w := by
  simp only [Op.equalIn, Sem.run_bind, run_underlying ht, Result.andThen_ok, hn]
  rw [Std.Legacy.Range.forIn_eq_forIn_range']
  simp only [Std.Legacy.Range.size, Nat.sub_zero, Nat.add_sub_cancel, Nat.div_one]
  generalize 0 = i
  clear ht
  induction len generalizing i w with
  | zero => simp [eqElems]
  | succ k ih =>
    simp only [List.range'_succ, List.forIn_cons, eqElems, Sem.run_bind, Sem.run_ite]
    generalize (part e xs (i * n)).run P w = r1
    cases r1 with
    | ok a w1 =>
      simp only [Result.andThen_ok]
      generalize (part e ys (i * n)).run P w1 = r2
      cases r2 with
      | ok b w2 =>
        simp only [Result.andThen_ok]
        generalize (Op.equalIn d e a b).run P w2 = r3
        cases r3 with
        | ok r w3 =>
          cases r
          · simp only [Result.andThen_ok, Bool.not_false, if_true, Sem.run_pure]
          · simp only [Result.andThen_ok, Bool.not_true, Bool.false_eq_true, if_false, Sem.run_pure]
            exact ih w3 (i + 1)
        | halt x w3 => simp [Result.andThen]
      | halt x w2 => simp [Result.andThen]
    | halt x w1 => simp [Result.andThen]
end

theorem eqS_leaf {x y : SV} {b : Bool} (h : eqS x y = some b) : x.isAgg = false ∧ y.isAgg = false := by
  cases x <;> cases y <;> simp only [eqS] at h <;> first | (cases h; done) | exact ⟨rfl, rfl⟩

theorem eqT_agg {tt : List (Nat × TI)} {d : Nat} {T : TypeId} {x y : SV} {b : Bool} (h : eqT tt d T x y = some b) :
    (lkT tt T).d ≠ .other ∧ x.isAgg = aggT (lkT tt T).d ∧ y.isAgg = aggT (lkT tt T).d := by
  cases d with
  | zero => simp only [eqT] at h; cases h
  | succ d =>
    unfold eqT at h
    cases hd : (lkT tt T).d <;> simp only [hd] at h
    all_goals first | (cases h; done) | skip
    all_goals (split at h <;> first | (cases h; done) | skip)
    all_goals first
      | exact ⟨by simp, rfl, rfl⟩
      | exact ⟨by simp, (eqS_leaf h).1, (eqS_leaf h).2⟩

section
variable {P : Program} {w : World} {X : Nat → Prop} {β : Beta} {tt : List (Nat × TI)} (ok : ∀ T, (lkT tt T).d ≠ .other → TIok P T (lkT tt T))
include ok

mutual
theorem eqT_ok : ∀ (d : Nat) (T : TypeId) (x y : SV) (b : Bool), eqT tt d T x y = some b → ∀ (u v : Value), rel w X x β u → rel w X y β v → ∀ D, d ≤ D → (Op.equalIn D T u v).run P w = .ok b w
  | 0, T, x, y, b, he, _, _, _, _, _, _ => by simp only [eqT] at he; cases he
  | d + 1, T, x, y, b, he, u, v, hx, hy, D, hD => by
    obtain ⟨D, rfl⟩ : ∃ D', D = D' + 1 := ⟨D - 1, by omega⟩
    have hag := eqT_agg he
    have tok := ok T hag.1
    unfold eqT at he
    cases hd : (lkT tt T).d with
    | strct fs =>
      simp only [hd] at he
      split at he
      · rename_i xs ys hc
        obtain ⟨cs, rfl, hcs⟩ := (rel_agg rfl).1 hx
        obtain ⟨ds, rfl, hds⟩ := (rel_agg rfl).1 hy
        simp only [relP] at hcs hds
        have desc := tok.desc
        simp only [hd] at desc
        obtain ⟨F, hF, hfs, hcmp⟩ := desc
        obtain ⟨h1, h2, _⟩ := hcmp hc
        have hf : P.underlying T = some (.struct (P.fieldsOf T)) := by simp [Program.fieldsOf, hF]
        rw [run_equalIn_struct w D T cs ds hf h2]
        have : P.fieldsOf T = F := by simp [Program.fieldsOf, hF]
        rw [this]
        exact eqF_ok d fs 0 xs ys b he F.toList hfs h1 cs ds [] [] cs.toList ds.toList (by simp) (by simp) rfl rfl hcs hds D (by omega)
      · cases he
    | arr m e =>
      simp only [hd] at he
      split at he
      · rename_i n1 s1 xs n2 s2 ys hc
        split at he
        · rename_i hs1 hs2
          have := beq_of hs1; have := beq_of hs2; subst s1; subst s2
          obtain ⟨cs, rfl, hcs⟩ := (rel_agg rfl).1 hx
          obtain ⟨ds, rfl, hds⟩ := (rel_agg rfl).1 hy
          simp only [relP] at hcs hds
          have desc := tok.desc
          simp only [hd] at desc
          simp only [Bool.and_eq_true, Nat.ble_eq] at hc
          have h1 : (lkT tt e).d ≠ .other := by
            cases d with
            | zero => unfold eqR at he; cases he
            | succ d =>
              unfold eqR at he
              split at he
              · omega
              · obtain ⟨p, q, he1, _⟩ := andO_some he
                exact (eqT_agg he1).1
              · cases he
          rw [run_equalIn_array w D T cs ds desc.1 (fun w => (ok e h1).sz w)]
          have hl1 := hcs.1
          exact eqR_ok d e m xs ys b he cs ds [] [] cs.toList ds.toList 0 (by simp) (by simp) (by simp) (by simp)
            (relR_ext (Ext.refl w X) _ _ _ (nmsL_true (fun _ _ k => by cases k) _) hcs.2) (relR_ext (Ext.refl w X) _ _ _ (nmsL_true (fun _ _ k => by cases k) _) hds.2) D (by omega)
        · cases he
      · cases he
    | ifc => simp only [hd] at he; cases he
    | other => simp only [hd] at he; cases he
    | _ =>
      simp only [hd] at he
      split at he
      · refine eqS_ok (w := w) (X := X) (β := β) (T := T) ok hx hy ?_ he D
        rw [hd]
        trivial
      all_goals first | (cases he; done) | skip
      all_goals
        refine eqS_ok (w := w) (X := X) (β := β) (T := T) ok hx hy ?_ he D
        rw [hd]
        trivial
theorem eqF_ok : ∀ (d : Nat) (fs : List (TypeId × Nat)) (off : Nat) (xs ys : List SV) (b : Bool), eqF tt d fs off xs ys = some b →
    ∀ (F : List Field), F.map (fun f => (f.type, f.offset)) = fs → (∀ f ∈ F, (f.name != "_") = true) → ∀ (A B : Array Value) (pa pb ca cb : List Value), A.toList = pa ++ ca → B.toList = pb ++ cb → pa.length = off → pb.length = off →
      relC w X xs β ca → relC w X ys β cb → ∀ D, d ≤ D → (Op.eqFields D A B F).run P w = .ok b w
  | 0, _, _, _, _, _, he, _, _, _, _, _, _, _, _, _, _, _, _, _, _, _, _, _ => by simp only [eqF] at he; cases he
  | d + 1, fs, off, xs, ys, b, he, F, hF, hN, A, B, pa, pb, ca, cb, hA, hB, hpa, hpb, hca, hcb, D, hD => by
    unfold eqF at he
    split at he
    · cases he
      have : F = [] := List.map_eq_nil_iff.1 hF
      subst this
      simp [Op.eqFields]
    · rename_i T o fs x xs y ys
      split at he
      · rename_i h1 h2 h3
        match F, hF with
        | f :: F, hF =>
          simp only [List.map_cons, List.cons.injEq, Prod.mk.injEq] at hF
          obtain ⟨⟨rfl, rfl⟩, rfl⟩ := hF
          obtain ⟨p, q, he1, he2, rfl⟩ := andO_some he
          have hag := eqT_agg he1
          have tok := ok f.type hag.1
          rw [relC_cons] at hca hcb
          obtain ⟨a1, a2, rfl, ha1, ha2⟩ := hca
          obtain ⟨b1, b2, rfl, hb1, hb2⟩ := hcb
          have hla := relP_len _ _ ha1
          have hlb := relP_len _ _ hb1
          have e1 := beq_of h1; have e2 := beq_of h2; have e3 := beq_of h3
          have hname : f.name ≠ "_" := by simpa using hN f (by simp)
          have hone : aggT (lkT tt f.type).d = false → (lkT tt f.type).size = 1 := by
            intro hh
            rw [← e2]
            rw [← hag.2.1] at hh
            cases x <;> first | rfl | cases hh
          have r1 := run_part tok hag.1 (cs := A) (pre := pa) (mid := a1) (post := a2) (by rw [hA]; simp) (by rw [hla, e2]) hone w
          have r2 := run_part tok hag.1 (cs := B) (pre := pb) (mid := b1) (post := b2) (by rw [hB]; simp) (by rw [hlb, e3]) hone w
          rw [hpa, ← e1] at r1
          rw [hpb, ← e1] at r2
          have hra : rel w X x β (cellsVal (aggT (lkT tt f.type).d) a1) := by
            rw [← hag.2.1]; exact rel_cellsVal ha1 fun hh => by rw [hla, e2]; exact hone (hag.2.1 ▸ hh)
          have hrb : rel w X y β (cellsVal (aggT (lkT tt f.type).d) b1) := by
            rw [← hag.2.2]; exact rel_cellsVal hb1 fun hh => by rw [hlb, e3]; exact hone (hag.2.2 ▸ hh)
          have r3 := eqT_ok d f.type x y p he1 _ _ hra hrb D (by omega)
          have r4 := eqF_ok d _ _ xs ys q he2 F rfl (fun f hf => hN f (by simp [hf])) A B (pa ++ a1) (pb ++ b1) a2 b2 (by rw [hA]; simp) (by rw [hB]; simp)
            (by rw [List.length_append, hla, hpa, e2]) (by rw [List.length_append, hlb, hpb, e3]) ha2 hb2 D (by omega)
          simp only [Op.eqFields]
          rw [if_pos hname]
          have r1' : (part f.type A f.offset).run P w = .ok (cellsVal (aggT (lkT tt f.type).d) a1) w := r1
          have r2' : (part f.type B f.offset).run P w = .ok (cellsVal (aggT (lkT tt f.type).d) b1) w := r2
          simp only [Sem.run_bind, r1', r2', r3, Result.andThen_ok]
          cases p
          · simp
          · simpa using r4
      · cases he
    · cases he
theorem eqR_ok : ∀ (d : Nat) (e : TypeId) (m : Nat) (xs ys : List SV) (b : Bool), eqR tt d e m xs ys = some b →
    ∀ (A B : Array Value) (pa pb ca cb : List Value) (i : Nat), A.toList = pa ++ ca → B.toList = pb ++ cb → pa.length = i * (lkT tt e).size → pb.length = i * (lkT tt e).size →
      relR w X (lkT tt e).size xs β ca → relR w X (lkT tt e).size ys β cb → ∀ D, d ≤ D → (eqElems D e (lkT tt e).size A B i m).run P w = .ok b w
  | 0, _, _, _, _, _, he, _, _, _, _, _, _, _, _, _, _, _, _, _, _, _ => by unfold eqR at he; cases he
  | d + 1, e, m, xs, ys, b, he, A, B, pa, pb, ca, cb, i, hA, hB, hpa, hpb, hca, hcb, D, hD => by
    unfold eqR at he
    split at he
    · cases he
      simp [eqElems]
    · rename_i m x xs y ys
      obtain ⟨p, q, he1, he2, rfl⟩ := andO_some he
      have hag := eqT_agg he1
      have tok := ok e hag.1
      rw [relR_cons] at hca hcb
      obtain ⟨a1, a2, rfl, ha0, ha1, ha2⟩ := hca
      obtain ⟨b1, b2, rfl, hb0, hb1, hb2⟩ := hcb
      have hla := relP_len _ _ ha1
      have hlb := relP_len _ _ hb1
      have hone : aggT (lkT tt e).d = false → (lkT tt e).size = 1 := by
        intro hh
        rw [← ha0, hla]
        rw [← hag.2.1] at hh
        cases x <;> first | rfl | cases hh
      have r1 := run_part tok hag.1 (cs := A) (pre := pa) (mid := a1) (post := a2) (by rw [hA]; simp) ha0 hone w
      have r2 := run_part tok hag.1 (cs := B) (pre := pb) (mid := b1) (post := b2) (by rw [hB]; simp) hb0 hone w
      rw [hpa] at r1
      rw [hpb] at r2
      have hra : rel w X x β (cellsVal (aggT (lkT tt e).d) a1) := by
        rw [← hag.2.1]; exact rel_cellsVal ha1 fun hh => by rw [ha0]; exact hone (hag.2.1 ▸ hh)
      have hrb : rel w X y β (cellsVal (aggT (lkT tt e).d) b1) := by
        rw [← hag.2.2]; exact rel_cellsVal hb1 fun hh => by rw [hb0]; exact hone (hag.2.2 ▸ hh)
      have r3 := eqT_ok d e x y p he1 _ _ hra hrb D (by omega)
      have r4 := eqR_ok d e m xs ys q he2 A B (pa ++ a1) (pb ++ b1) a2 b2 (i + 1) (by rw [hA]; simp) (by rw [hB]; simp)
        (by rw [List.length_append, ha0, hpa, Nat.add_mul]; omega) (by rw [List.length_append, hb0, hpb, Nat.add_mul]; omega) ha2 hb2 D (by omega)
      have r1' : (part e A (i * (lkT tt e).size)).run P w = .ok (cellsVal (aggT (lkT tt e).d) a1) w := r1
      have r2' : (part e B (i * (lkT tt e).size)).run P w = .ok (cellsVal (aggT (lkT tt e).d) b1) w := r2
      simp only [eqElems, Sem.run_bind, r1', r2', r3, Result.andThen_ok]
      cases p
      · simp
      · simpa using r4
    · cases he
end
end
end Go.Sx
