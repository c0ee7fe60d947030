/-
  EACH OPERATION OF THE EXECUTOR IS SOUND: binary operations. Generic: no program in sight. An own text.
-/
import Derived.Test.YtcgehmlhafjfkaaGreatDoorSx7
namespace Go.Sx

section
variable {c : Cx} {β : Beta} {w : World} {X : Nat → Prop}

theorem arith_ok {k : IntKind} {e : Int} {K : Int → Prop} (h : ArithVC k e K) : K (k.wrap e) := by
  unfold ArithVC at h
  obtain ⟨r, rfl, h⟩ := h
  exact h

theorem intCmp_decide (a b : Int) : (a < b : Bool) = decide (a < b) := rfl

theorem eqGuard_run {E : Env} (ok : EnvOK E) {op : BinOp} {T : TypeId} {x y : SV} {b : Bool} {d : Nat} {u v : Value} {xo yo : Operand} (he : eqT E.tt d T x y = some b) (hx : rel w X x β u) (_hy : rel w X y β v) :
    (eqGuard op T xo yo u v).run E.P w = .ok () w := by
  have hag := eqT_agg he
  have tok := ok.tt T hag.1
  cases hxa : x.isAgg with
  | true =>
    obtain ⟨cs, rfl, hcs0⟩ := (rel_agg hxa).1 hx
    have hya : y.isAgg = true := by rw [hag.2.2, ← hag.2.1]; exact hxa
    obtain ⟨ds, rfl, hds0⟩ := (rel_agg hya).1 _hy
    have hg : E.P.eqGuardType E.P.depth T = false := by
      have desc := tok.desc
      cases d with
      | zero => unfold eqT at he; cases he
      | succ d =>
        unfold eqT at he
        cases hd : (lkT E.tt T).d with
        | strct fs =>
          simp only [hd] at he desc
          obtain ⟨F, _, _, hc⟩ := desc
          split at he
          · rename_i hcm; exact (hc hcm).2.2
          · cases he
        | arr m e =>
          simp only [hd] at he desc
          split at he
          · rename_i hcm
            simp only [Bool.and_eq_true] at hcm
            exact desc.2 hcm.1
          · cases he
        | _ => rw [hag.2.1, hd] at hxa; cases hxa
    exact run_eqGuard_agg (P := E.P) w op T xo yo cs ds hg
  | false =>
    have : eqGuard op T xo yo u v = pure () := by
      cases d with
      | zero => unfold eqT at he; cases he
      | succ d =>
        unfold eqT at he
        have hcase : (∃ k m, u = .int k m) ∨ (∃ b, u = .bool b) ∨ (∃ s, u = .string s) ∨ (∃ a, u = .pointer a) ∨ (∃ a l c, u = .slice a l c) ∨ (∃ f a c, u = .func f a c) ∨ u = .nilFunc := by
          cases hd : (lkT E.tt T).d <;> simp only [hd] at he
          all_goals first | (cases he; done) | skip
          all_goals (split at he <;> first | (cases he; done) | skip)
          all_goals first
            | (rw [rel_tru] at hx; exact .inr (.inl ⟨_, hx⟩))
            | (rw [rel_fls] at hx; exact .inr (.inl ⟨_, hx⟩))
            | (rw [rel_bool] at hx; exact .inr (.inl ⟨_, hx⟩))
            | (rw [relP_int] at hx; exact .inl ⟨_, _, hx⟩)
            | (rw [rel_str] at hx; exact .inr (.inr (.inl ⟨_, hx⟩)))
            | (rw [rel_nilp] at hx; exact .inr (.inr (.inr (.inl ⟨_, hx⟩))))
            | (rw [rel_ptr] at hx; obtain ⟨_, _, hx⟩ := hx; exact .inr (.inr (.inr (.inl ⟨_, hx⟩))))
            | (rw [rel_iptr] at hx; obtain ⟨_, _, _, hx, _⟩ := hx; exact .inr (.inr (.inr (.inl ⟨_, hx⟩))))
            | (rw [rel_nils] at hx; exact .inr (.inr (.inr (.inr (.inl ⟨_, _, _, hx⟩)))))
            | (rw [rel_nilf] at hx; exact .inr (.inr (.inr (.inr (.inr (.inr hx))))))
            | (rw [rel_fn] at hx; obtain ⟨_, hx, _⟩ := hx; exact .inr (.inr (.inr (.inr (.inr (.inl ⟨_, _, _, hx⟩))))))
            | (cases hxa; done)
        rcases hcase with ⟨k, m, rfl⟩ | ⟨b, rfl⟩ | ⟨s, rfl⟩ | ⟨a, rfl⟩ | ⟨a, l, c, rfl⟩ | ⟨f, a, c, rfl⟩ | rfl
        · exact eqGuard_at_int ..
        · exact eqGuard_at_bool ..
        · exact eqGuard_at_string ..
        · exact eqGuard_at_pointer ..
        · exact eqGuard_at_slice ..
        · exact eqGuard_at_func ..
        · exact eqGuard_at_nilFunc ..
    rw [this]; rfl

theorem eql_run {E : Env} (ok : EnvOK E) {T : TypeId} {x y : SV} {b : Bool} {u v : Value} (he : eqT E.tt 50 T x y = some b) (hx : rel w X x β u) (hy : rel w X y β v) :
    (binOp .eql T u v).run E.P w = .ok (.bool b) w ∧ (binOp .neq T u v).run E.P w = .ok (.bool (!b)) w := by
  have heq := eqT_ok ok.tt 50 T x y b he u v hx hy 10000 (by decide)
  have hag := eqT_agg he
  by_cases hi : ∃ k m, x = .int k m
  · obtain ⟨k, m, rfl⟩ := hi
    rw [relP_int] at hx; subst hx
    have : eqS (.int k m) y = some b := by
      unfold eqT at he
      cases hd : (lkT E.tt T).d <;> simp only [hd] at he
      all_goals first | (cases he; done) | exact he
    cases y <;> simp only [eqS] at this <;> first | (cases this; done) | skip
    split at this
    · rename_i hk
      have := kq_eq hk; subst this
      rw [relP_int] at hy; subst hy
      cases this
      rw [binOp_eql, binOp_neq]
      simp only [Sem.run_pure, int_beq, bne, and_self]
    · cases this
  · by_cases hst : ∃ s, x = .str s
    · obtain ⟨s, rfl⟩ := hst
      rw [rel_str] at hx; subst hx
      have : eqS (.str s) y = some b := by
        unfold eqT at he
        cases hd : (lkT E.tt T).d <;> simp only [hd] at he
        all_goals first | (cases he; done) | exact he
      cases y <;> simp only [eqS] at this <;> first | (cases this; done) | skip
      rw [rel_str] at hy; subst hy
      cases this
      have hb : ∀ s t : List UInt8, (s == t) = decide (s = t) := fun s t => by
        by_cases e : s = t
        · subst e; simp
        · simp [e]
      simp [binOp, Op.stringOp, ByteArray.toList_eq, hb]
    · have gen : binOp .eql T u v = (do pure (.bool (← Op.equal T u v))) ∧ binOp .neq T u v = (do pure (.bool (!(← Op.equal T u v)))) := by
        have hu : (∃ cs, u = .agg cs) ∨ (∃ b, u = .bool b) ∨ (∃ a, u = .pointer a) ∨ (∃ a l c, u = .slice a l c) ∨ (∃ f a c, u = .func f a c) ∨ u = .nilFunc := by
          cases hxa : x.isAgg with
          | true => obtain ⟨cs, rfl, _⟩ := (rel_agg hxa).1 hx; exact .inl ⟨_, rfl⟩
          | false =>
            right
            unfold eqT at he
            cases hd : (lkT E.tt T).d <;> simp only [hd] at he
            all_goals first | (cases he; done) | skip
            all_goals (split at he <;> first | (cases he; done) | skip)
            all_goals first
              | (rw [rel_tru] at hx; exact (.inl ⟨_, hx⟩))
              | (rw [rel_fls] at hx; exact (.inl ⟨_, hx⟩))
              | (rw [rel_bool] at hx; exact (.inl ⟨_, hx⟩))
              | (exact absurd ⟨_, _, rfl⟩ hi)
              | (exact absurd ⟨_, rfl⟩ hst)
              | (rw [rel_nilp] at hx; exact (.inr (.inl ⟨_, hx⟩)))
              | (rw [rel_ptr] at hx; obtain ⟨_, _, hx⟩ := hx; exact (.inr (.inl ⟨_, hx⟩)))
              | (rw [rel_iptr] at hx; obtain ⟨_, _, _, hx, _⟩ := hx; exact (.inr (.inl ⟨_, hx⟩)))
              | (rw [rel_nils] at hx; exact (.inr (.inr (.inl ⟨_, _, _, hx⟩))))
              | (rw [rel_nilf] at hx; exact (.inr (.inr (.inr (.inr hx)))))
              | (rw [rel_fn] at hx; obtain ⟨_, hx, _⟩ := hx; exact (.inr (.inr (.inr (.inl ⟨_, _, _, hx⟩)))))
              | (cases hxa; done)
        have hnp : ∀ a, v ≠ .pointer a ∨ True := fun _ => .inr trivial
        clear hnp
        rcases hu with ⟨cs, rfl⟩ | ⟨b, rfl⟩ | ⟨a, rfl⟩ | ⟨a, l, c, rfl⟩ | ⟨f, a, c, rfl⟩ | rfl <;> exact ⟨rfl, rfl⟩
      rw [gen.1, gen.2]
      have : (Op.equal T u v).run E.P w = .ok b w := heq
      simp [this]

theorem binX_ok {E : Env} (ok : EnvOK E) {op : BinOp} {T : TypeId} {x y : SV} {u v : Value} {xo yo : Operand} {K : SV → Prop} (hK : binX E op T x y K) (hx : rel w X x β u) (hy : rel w X y β v) :
    ∃ r val, K r ∧ (do eqGuard op T xo yo u v; binOp op T u v : Sem Value).run E.P w = .ok val w ∧ rel w X r β val := by
  have run_it : ∀ {s : Sem Value} {val : Value}, eqGuard op T xo yo u v = pure () → binOp op T u v = s → s.run E.P w = .ok val w → (do eqGuard op T xo yo u v; binOp op T u v : Sem Value).run E.P w = .ok val w := by
    intro s val h1 h2 h3
    rw [h1, h2]
    simpa using h3
  unfold binX at hK
  split at hK
  all_goals first
    | (exact hK.elim; done)
    | (split at hK <;> first | (exact hK.elim; done) | skip)
    | skip
  all_goals first
    | (rename_i hk; have := kq_eq hk; subst this)
    | skip
  all_goals first
    | (rw [relP_int] at hx hy; subst hx; subst hy)
    | (rw [rel_str] at hx hy; subst hx; subst hy)
    | skip
  · exact ⟨_, _, arith_ok hK, run_it (eqGuard_at_int ..) (binOp_add ..) rfl, relP_int.2 rfl⟩
  · exact ⟨_, _, arith_ok hK, run_it (eqGuard_at_int ..) (binOp_sub ..) rfl, relP_int.2 rfl⟩
  · exact ⟨_, _, arith_ok hK, run_it (eqGuard_at_int ..) (binOp_mul ..) rfl, relP_int.2 rfl⟩
  · unfold SideVC at hK
    exact ⟨_, _, arith_ok hK.2, run_it (eqGuard_at_int ..) (binOp_quo ..) (by simp [Op.intDiv, hK.1]), relP_int.2 rfl⟩
  · unfold SideVC at hK
    exact ⟨_, _, hK.2, run_it (eqGuard_at_int ..) (binOp_rem ..) (by simp [Op.intDiv, hK.1]), relP_int.2 rfl⟩
  · exact ⟨_, _, hK, run_it (eqGuard_at_int ..) (binOp_and ..) rfl, relP_int.2 rfl⟩
  · exact ⟨_, _, hK, run_it (eqGuard_at_int ..) (binOp_or ..) rfl, relP_int.2 rfl⟩
  · exact ⟨_, _, hK, run_it (eqGuard_at_int ..) (binOp_xor ..) rfl, relP_int.2 rfl⟩
  · exact ⟨_, _, hK, run_it (eqGuard_at_int ..) (binOp_andNot ..) rfl, relP_int.2 rfl⟩
  · unfold SideVC at hK
    exact ⟨_, _, arith_ok hK.2, run_it (eqGuard_at_int ..) (binOp_shl ..) (by simp only [Op.shift]; rw [if_neg (by omega)]; rfl), relP_int.2 rfl⟩
  · unfold SideVC at hK
    exact ⟨_, _, hK.2, run_it (eqGuard_at_int ..) (binOp_shr ..) (by simp only [Op.shift]; rw [if_neg (by omega)]; rfl), relP_int.2 rfl⟩
  · exact ⟨_, _, hK, run_it (eqGuard_at_int ..) (binOp_lss ..) rfl, rel_bool.2 rfl⟩
  · exact ⟨_, _, hK, run_it (eqGuard_at_int ..) (binOp_leq ..) rfl, rel_bool.2 rfl⟩
  · exact ⟨_, _, hK, run_it (eqGuard_at_int ..) (binOp_gtr ..) rfl, rel_bool.2 rfl⟩
  · exact ⟨_, _, hK, run_it (eqGuard_at_int ..) (binOp_geq ..) rfl, rel_bool.2 rfl⟩
  · unfold SideVC at hK
    rename_i s t
    refine ⟨_, .string (⟨s.toArray⟩ ++ ⟨t.toArray⟩), hK.2, run_it (eqGuard_at_string ..) rfl ?_, rel_str.2 ?_⟩
    · have h1 := hK.1
      show Sem.run E.P (Op.stringOp .add (⟨s.toArray⟩ : ByteArray) ⟨t.toArray⟩) w = _
      unfold Op.stringOp
      dsimp only
      rw [if_neg]
      · rfl
      · rw [IntKind.max_i64]; simp only [ByteArray.size, List.size_toArray]; omega
    · congr 1
  · rename_i b he
    refine ⟨_, _, hK, ?_, rel_bool.2 rfl⟩
    rw [Sem.run_bind, eqGuard_run ok he hx hy]
    exact (eql_run ok he hx hy).1
  · rename_i b he
    refine ⟨_, _, hK, ?_, rel_bool.2 rfl⟩
    rw [Sem.run_bind, eqGuard_run ok he hx hy]
    exact (eql_run ok he hx hy).2
end
end Go.Sx
