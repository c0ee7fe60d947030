/-
  EACH OPERATION OF THE EXECUTOR IS SOUND: slices and builtins. Generic: no program in sight. An own text.
-/
import Derived.Test.YtcgehmlhafjfkaaGreatDoorSx14
set_option linter.unusedSectionVars false
namespace Go.Sx
open Go.RowKit (Below)

/-- A name for a slice without elements. -/
theorem Mem.newNil {c : Cx} {h : Heap} {n : Nat} {F : Nat → Prop} {β : Beta} {Y : Nat → Prop} {w : World} (m : Mem c h F β Y w) (hF : F n) {sz : Nat} (hs : 1 ≤ sz) :
    Mem c ((n, .row true sz []) :: h) (rmF F n) (setβ β n ⟨0, 0, 0⟩) Y w ∧ Ext w (XX c.Z Y β h) w (XX c.Z Y (setβ β n ⟨0, 0, 0⟩) ((n, .row true sz []) :: h)) := by
  have hn : β n = none := m.fresh n hF
  have hβ : ∀ b l', β b = some l' → setβ β n ⟨0, 0, 0⟩ b = some l' := fun b l' hb => by
    rw [setβ_ne]; · exact hb
    · rintro rfl; rw [hn] at hb; cases hb
  have hlk : ∀ b k', lkB h b = some k' → b ≠ n := fun b k' hb => by
    rintro rfl
    obtain ⟨l', h1, _⟩ := m.blk _ _ hb
    rw [hn] at h1; cases h1
  have hown : ∀ r, Own (setβ β n ⟨0, 0, 0⟩) ((n, .row true sz []) :: h) r → Own β h r := by
    rintro r ⟨b, k', l', h1, h2, h3, h4⟩
    by_cases e : b = n
    · subst e
      rw [setβ_same] at h2; cases h2
      rw [lkB_cons, if_pos rfl] at h1; cases h1
      simp [live] at h3
    · rw [setβ_ne e] at h2
      rw [lkB_cons, if_neg (Ne.symm e)] at h1
      exact ⟨b, k', l', h1, h2, h3, h4⟩
  have hless : ∀ r, ¬ XX c.Z Y β h r → ¬ XX c.Z Y (setβ β n ⟨0, 0, 0⟩) ((n, .row true sz []) :: h) r := by
    rintro r hx (g | g | g)
    · exact hx (.inl g)
    · exact hx (.inr (.inl g))
    · exact hx (.inr (.inr (hown r g)))
  have e : Ext w (XX c.Z Y β h) w (XX c.Z Y (setβ β n ⟨0, 0, 0⟩) ((n, .row true sz []) :: h)) := ⟨Nat.le_refl _, fun _ _ _ => rfl, fun r _ hx => hless r hx⟩
  refine ⟨⟨fun b hb => ?_, fun b k' hk' => ?_, ?_, fun r hr => m.own r (hown r hr), m.yy, m.zz, m.size, m.frame, m.os, m.tape, m.output, fun g t hg ht => relP_ext e _ _ (nms_true (fun _ _ k => k) _) (m.gl g t hg ht)⟩, e⟩
  · rw [setβ_ne hb.2]; exact m.fresh b hb.1
  · rw [lkB_cons] at hk'
    by_cases eb : n = b
    · subst eb
      rw [if_pos rfl] at hk'; cases hk'
      exact ⟨_, setβ_same .., rfl, Nat.le_refl _, hs, .inl rfl⟩
    · rw [if_neg eb] at hk'
      obtain ⟨l', h1, h2⟩ := m.blk b k' hk'
      exact ⟨l', hβ _ _ h1, h2.ext e rfl hβ (fun _ hx => hless _ hx)⟩
  · intro b1 b2 k1 k2 l1 l2 h1 h2 h3 h4 h5 h6 h7
    rw [lkB_cons] at h1 h2
    by_cases e1 : n = b1
    · rw [if_pos e1] at h1; cases h1
      subst e1
      rw [setβ_same] at h3; cases h3
      simp [live] at h5
    · by_cases e2 : n = b2
      · rw [if_pos e2] at h2; cases h2
        subst e2
        rw [setβ_same] at h4; cases h4
        simp [live] at h6
      · rw [if_neg e1] at h1; rw [if_neg e2] at h2
        rw [setβ_ne (Ne.symm e1)] at h3; rw [setβ_ne (Ne.symm e2)] at h4
        exact m.inj _ _ _ _ _ _ h1 h2 h3 h4 h5 h6 h7

theorem run_bound {P : Program} {w : World} {k : IntKind} {i : Int} {y : Nat} {code : BoundsCode} (h0 : 0 ≤ i) (h1 : i ≤ y) : (Instr.sliceBound (.int k i) y code).run P w = .ok i.toNat w := by
  simp [Instr.sliceBound, asIntOf, h0, h1]

theorem bnds_ok {E : Env} {sl : Slots} {w : World} {X : Nat → Prop} {β : Beta} {a : Act} {lo hi : Option Operand} {n : Nat} {K : Int → Int → Prop} (hK : bnds E sl lo hi n K)
    (hlo : ∀ x, lo = some x → rel w X (ev E sl x) β (a.eval x)) (hhi : ∀ x, hi = some x → rel w X (ev E sl x) β (a.eval x)) :
    ∃ l h, K l h ∧ 0 ≤ l ∧ l ≤ h ∧ h ≤ n ∧ ∀ (cap : Nat) (s : Bool), n ≤ cap → (Instr.sliceBounds s n cap (lo.map a.eval) (hi.map a.eval) none).run E.P w = .ok (l.toNat, h.toNat, cap) w := by
  unfold bnds at hK
  split at hK
  · split at hK
    · exact ⟨_, _, hK, by omega, by omega, by omega, fun cap s hc => by simp [Instr.sliceBounds]⟩
    · split at hK
      case h_2 => exact hK.elim
      rename_i x k i hx
      unfold SideVC at hK
      obtain ⟨⟨h1, h2⟩, hK⟩ := hK
      have := hhi _ rfl
      rw [hx, relP_int] at this
      exact ⟨_, _, hK, by omega, h1, h2, fun cap s hc => by
        simp only [Instr.sliceBounds, Option.map_some, Option.map_none, this, Sem.run_bind, Sem.run_pure, Result.andThen_ok]
        rw [run_bound h1 (by omega)]
        rfl⟩
  · rename_i lx
    split at hK
    case h_2 => exact hK.elim
    rename_i k i hx
    have hl := hlo _ rfl
    rw [hx, relP_int] at hl
    split at hK
    · unfold SideVC at hK
      obtain ⟨⟨h1, h2⟩, hK⟩ := hK
      exact ⟨_, _, hK, h1, h2, by omega, fun cap s hc => by
        simp only [Instr.sliceBounds, Option.map_some, Option.map_none, hl, Sem.run_bind, Sem.run_pure, Result.andThen_ok]
        rw [run_bound h1 h2]
        simp⟩
    · split at hK
      case h_2 => exact hK.elim
      rename_i y k' j hy
      have hh := hhi _ rfl
      rw [hy, relP_int] at hh
      unfold SideVC at hK
      obtain ⟨⟨h1, h2, h3⟩, hK⟩ := hK
      exact ⟨_, _, hK, h1, h2, h3, fun cap s hc => by
        simp only [Instr.sliceBounds, Option.map_some, hl, hh, Sem.run_bind, Sem.run_pure, Result.andThen_ok]
        rw [run_bound (by omega) (by omega)]
        simp only [Result.andThen_ok]
        rw [run_bound h1 (by omega)]
        rfl⟩

/-- a part of a slice -/
theorem slice_part {w : World} {X : Nat → Prop} {β : Beta} {sz : Nat} {xs : List SV} {ad : Option Addr} {cap : Nat} {l h : Int} (hle : xs.length ≤ cap)
    (hm : xs = [] ∨ ∃ b off ds, ad = some ⟨b, off, none⟩ ∧ ¬ X b ∧ b < w.heap.size ∧ cellsAt w b off ds ∧ relR w X sz xs nob ds) (h0 : 0 ≤ l) (h1 : l ≤ h) (h2 : h ≤ xs.length) :
    rel w X (.sl sz ((xs.take h.toNat).drop l.toNat)) β (.slice (if cap = l.toNat then ad else ad.map (·.add (l.toNat * sz))) (h.toNat - l.toNat) (cap - l.toNat)) := by
  have hlen : ((xs.take h.toNat).drop l.toNat).length = h.toNat - l.toNat := by simp; omega
  rw [rel_sl]
  refine ⟨_, _, by rw [hlen], by rw [hlen]; omega, ?_⟩
  by_cases he : h.toNat - l.toNat = 0
  · left; exact List.length_eq_zero_iff.1 (by rw [hlen]; exact he)
  · right
    rcases hm with rfl | ⟨b, off, ds, rfl, hX, hb, hc, hr⟩
    · simp at h2; omega
    · have hcl : ¬ cap = l.toNat := by omega
      rw [if_neg hcl]
      have hr2 := relR_drop (relR_take hr h.toNat) l.toNat
      refine ⟨b, off + l.toNat * sz, _, by simp [add_plain], hX, hb, ?_, hr2⟩
      have hd : ds = (ds.take (h.toNat * sz)).take (l.toNat * sz) ++ (ds.take (h.toNat * sz)).drop (l.toNat * sz) ++ ds.drop (h.toNat * sz) := by simp
      have hlds := relR_len _ _ _ hr
      have hmul : h.toNat * sz ≤ xs.length * sz := Nat.mul_le_mul_right _ (by omega)
      have hmul2 : l.toNat * sz ≤ h.toNat * sz := Nat.mul_le_mul_right _ (by omega)
      have := cellsAt_mid hc hd
      rwa [show ((ds.take (h.toNat * sz)).take (l.toNat * sz)).length = l.toNat * sz from by simp; omega] at this

section
variable {c : Cx} (ok : EnvOK c.E) {o : Oper} {a : Act} {sl : Slots} {h : Heap} {n : Nat} {F : Nat → Prop} {β : Beta} {Y : Nat → Prop} {w : World} (m : Mem c h F β Y w) (hF : F n)
  (hev : ∀ x ∈ o.op.operands.toList, rel w (XX c.Z Y β h) (ev c.E sl x) β (a.eval x)) {K : KE} (hK : opE c.E sl h n o.op K)
include ok m hF hev hK

theorem ok_slice {T : TypeId} {x : Operand} {lo hi mx : Option Operand} (ho : o.op = .slice T x lo hi mx) : ∃ v ns ea, K v ns ea ∧ OpOK c o a h n F β Y w v ns ea := by
  rw [ho] at hK hev
  simp only [opE] at hK
  have hx := hev x (by simp [Op.operands])
  split at hK
  · exact hK.elim
  have hlo : ∀ y, lo = some y → rel w (XX c.Z Y β h) (ev c.E sl y) β (a.eval y) := fun y hy => hev y (by simp [Op.operands, hy])
  have hhi : ∀ y, hi = some y → rel w (XX c.Z Y β h) (ev c.E sl y) β (a.eval y) := fun y hy => hev y (by simp [Op.operands, hy])
  split at hK
  · rename_i s he
    rw [he, rel_str] at hx
    split at hK
    case h_2 => exact hK.elim
    rename_i hd
    have desc := (ok.tt T (by rw [hd]; simp)).desc
    simp only [hd] at desc
    obtain ⟨l, h', k1, h0, h1, h2, k2⟩ := bnds_ok hK hlo hhi
    refine ⟨_, _, _, k1, .pure m (u := .string ((⟨s.toArray⟩ : ByteArray).extract l.toNat h'.toNat)) ?_ (rel_str.2 ?_)⟩
    · simp only [execOp, ho, hx]
      refine run_val ?_
      have hsz : (⟨s.toArray⟩ : ByteArray).size = s.length := by simp [ByteArray.size]
      have := k2 s.length false (Nat.le_refl _)
      simp only [Instr.sliceAt, Sem.run_bind, run_underlying desc, Result.andThen_ok, Instr.slice, hsz, Option.map_none, Option.isSome_none, Bool.false_eq_true, if_false, this, Sem.run_pure]
    · congr 1
      apply ByteArray.ext
      rw [ByteArray.data_extract]
      apply Array.toList_inj.1
      simp [List.extract, List.drop_take]
  · rename_i sz xs he
    rw [he] at hx
    split at hK
    case h_2 => exact hK.elim
    rename_i e hd
    have desc := (ok.tt T (by rw [hd]; simp)).desc
    simp only [hd] at desc
    split at hK
    case h_2 => exact hK.elim
    rename_i hsz
    simp only [Bool.and_eq_true] at hsz
    have h1' : 1 ≤ sz := by simpa using hsz.2
    have hsz := beq_of hsz.1
    have toke := ok.ts e (by omega)
    obtain ⟨ad, cap, hu, hle, hm⟩ := rel_sl.1 hx
    obtain ⟨l, h', k1, h0, h1, h2, k2⟩ := bnds_ok hK hlo hhi
    refine ⟨_, _, _, k1, .pure m ?_ (slice_part hle hm h0 h1 h2)⟩
    simp only [execOp, ho, hu]
    refine run_val ?_
    have := k2 cap true hle
    simp only [Instr.sliceAt, Sem.run_bind, run_underlying desc, Result.andThen_ok, Instr.slice, Option.map_none, this, toke.sz, Sem.run_pure, hsz]
  · rename_i b sz he
    rw [he] at hx
    split at hK
    case h_2 => exact hK.elim
    rename_i own sz' xs hb
    split at hK
    case h_2 => exact hK.elim
    rename_i e hd
    have desc := (ok.tt T (by rw [hd]; simp)).desc
    simp only [hd] at desc
    split at hK
    case h_2 => exact hK.elim
    rename_i hsz
    simp only [Bool.and_eq_true] at hsz
    have h1' : 1 ≤ sz := by simpa using hsz.1.2
    have hss := beq_of hsz.2
    subst hss
    have hsz := beq_of hsz.1.1
    have toke := ok.ts e (by omega)
    obtain ⟨l, h', k1, h0, h1, h2, k2⟩ := bnds_ok hK hlo hhi
    have hp := relP_of_rel rfl (by simp) (by simp) hx
    have hf := frz_row m hb (m.cold [b]) (by simp) hp
    obtain ⟨ad, cap, hu, hle, hm⟩ := rel_sl.1 (rel_of_relP rfl hf)
    refine ⟨_, _, _, k1, .value ?_ (Res.iced m (ns := [b]) (slice_part hle hm h0 h1 h2))⟩
    simp only [execOp, ho, hu]
    refine run_val ?_
    have := k2 cap true hle
    simp only [Instr.sliceAt, Sem.run_bind, run_underlying desc, Result.andThen_ok, Instr.slice, Option.map_none, this, toke.sz, Sem.run_pure, hsz]
  · split at hK
    case h_2 => exact hK.elim
    rename_i mm e hd
    have desc := (ok.tt T (by rw [hd]; simp)).desc
    simp only [hd] at desc
    obtain ⟨u', ns, k0, _, k⟩ := frz_ok m 60 _ [] _ hK
    split at k0
    case h_2 => exact k0.elim
    rename_i m' sz xs
    split at k0
    case h_2 => exact k0.elim
    rename_i hsq
    simp only [Bool.and_eq_true] at hsq
    have h1' : 1 ≤ sz := by simpa using hsq.2
    have hmm := beq_of hsq.1.1
    have hsz := beq_of hsq.1.2
    clear hsq
    subst hmm
    have toke := ok.ts e (by omega)
    obtain ⟨l, h', k1, h0, h1, h2, k2⟩ := bnds_ok k0 hlo hhi
    have hp := (k _ (m.cold ns)).2.2 _ hx
    obtain ⟨b, off, ds, hu, hX, hb, hc, hr⟩ := rel_iptr.1 hp
    simp only [relP] at hr
    obtain ⟨hlen, hr⟩ := hr
    refine ⟨_, _, _, k1, .value ?_ (Res.iced m (ns := ns) (slice_part (cap := mm) (ad := some ⟨b, off, none⟩) (Nat.le_of_eq hlen) (.inr ⟨b, off, ds, rfl, hX, hb, hc, hr⟩) h0 h1 (by rw [hlen]; exact h2)))⟩
    simp only [execOp, ho, hu]
    refine run_val ?_
    have := k2 mm false (Nat.le_refl _)
    simp only [Instr.sliceAt, Sem.run_bind, run_underlying desc.1, Result.andThen_ok, Instr.sureAddr, Option.map_none, this, toke.sz, Sem.run_pure, hsz]
    congr 2
    split <;> simp

omit ok m hF hev hK in
theorem builtin_run {P : Program} {o : Oper} {cl : Call} {b : Builtin} {w w' : World} {val : Value} (ho : o.op = .call cl) (hb : cl.callee = .builtin b) (hr : (builtin b cl.argTypes o.type (cl.args.map fun | .const _ => true | _ => false) (cl.args.map a.eval)).run P w = .ok (.value val) w') :
    (execOp a.eval o).run P w = .ok (.value val) w' := by
  simp only [execOp, ho, resolve, hb, Sem.run_bind, Sem.run_pure, Result.andThen_ok, invoke]
  exact hr

theorem ok_len {cl : Call} (ho : o.op = .call cl) (hb : cl.callee = .builtin .len) : ∃ v ns ea, K v ns ea ∧ OpOK c o a h n F β Y w v ns ea := by
  rw [ho] at hK hev
  simp only [opE, hb] at hK
  split at hK
  case h_2 => exact hK.elim
  rename_i x T hargs htys
  have ha : cl.args = #[x] := by apply Array.toList_inj.1; simpa using hargs
  have ht : cl.argTypes = #[T] := by apply Array.toList_inj.1; simpa using htys
  have hx := hev x (by simp [Op.operands, Call.operands, ha])
  have run1 : ∀ {k : Nat}, (Builtin.len_ #[T] o.type #[a.eval x]).run c.E.P w = .ok (goInt k) w → (execOp a.eval o).run c.E.P w = .ok (.value (goInt k)) w := by
    intro k hr
    refine builtin_run (a := a) ho hb ?_
    rw [ha, ht]
    simp only [builtin]
    exact run_val (by simpa using hr)
  split at hK
  · rename_i e sz xs hd he
    have desc := (ok.tt T (by rw [hd]; simp)).desc
    simp only [hd] at desc
    rw [he] at hx
    obtain ⟨ad, cap, hu, _, _⟩ := rel_sl.1 hx
    refine ⟨_, _, _, hK, .pure m (u := goInt xs.length) (run1 ?_) (relP_int.2 rfl)⟩
    rw [hu]
    exact run_len_slice (P := c.E.P) w T o.type ad xs.length cap (by simp only [Program.elem, desc])
  · rename_i s hd he
    have desc := (ok.tt T (by rw [hd]; simp)).desc
    simp only [hd] at desc
    rw [he, rel_str] at hx
    refine ⟨_, _, _, hK, .pure m (u := goInt s.length) (run1 ?_) (relP_int.2 rfl)⟩
    rw [hx]
    have h2 := run_len_string (P := c.E.P) w T o.type (⟨s.toArray⟩ : ByteArray) desc
    have h3 : (⟨s.toArray⟩ : ByteArray).size = s.length := by simp [ByteArray.size]
    rw [h3] at h2
    exact h2
  · rename_i e hd he
    have desc := (ok.tt T (by rw [hd]; simp)).desc
    simp only [hd] at desc
    rw [he, rel_nils] at hx
    refine ⟨_, _, _, hK, .pure m (u := goInt (0 : Nat)) (run1 ?_) (relP_int.2 rfl)⟩
    unfold Builtin.len_
    simp [hx, run_underlying desc]
  · rename_i e hd he
    have desc := (ok.tt T (by rw [hd]; simp)).desc
    simp only [hd] at desc
    rw [he, rel_mt] at hx
    obtain ⟨ad, hx⟩ := hx
    refine ⟨_, _, _, hK, .pure m (u := goInt (0 : Nat)) (run1 ?_) (relP_int.2 rfl)⟩
    unfold Builtin.len_
    simp [hx, run_underlying desc]
  · rename_i e b sz hd he
    have desc := (ok.tt T (by rw [hd]; simp)).desc
    simp only [hd] at desc
    rw [he] at hx
    split at hK
    case h_2 => exact hK.elim
    rename_i own sz' xs hb'
    obtain ⟨l, ad, hl, hu, _⟩ := rel_osl.1 hx
    obtain ⟨l', hl', hok⟩ := m.blk b _ hb'
    rw [hl] at hl'; cases hl'
    refine ⟨_, _, _, hK, .pure m (u := goInt xs.length) (run1 ?_) (relP_int.2 rfl)⟩
    unfold Builtin.len_
    simp [hu, run_underlying desc, hok.1]
  · exact hK.elim

omit ok in
theorem ok_minmax {cl : Call} (ho : o.op = .call cl) (hb : cl.callee = .builtin .min ∨ cl.callee = .builtin .max) : ∃ v ns ea, K v ns ea ∧ OpOK c o a h n F β Y w v ns ea := by
  rw [ho] at hK hev
  rcases hb with hb | hb
  all_goals
    simp only [opE, hb] at hK
    split at hK
    case h_2 => exact hK.elim
    rename_i x y hargs
    have ha : cl.args = #[x, y] := by apply Array.toList_inj.1; simpa using hargs
    have hx := hev x (by simp [Op.operands, Call.operands, ha])
    have hy := hev y (by simp [Op.operands, Call.operands, ha])
    split at hK
    case h_2 => exact hK.elim
    rename_i k p k' q hp hq
    split at hK
    case h_2 => exact hK.elim
    rename_i hk
    have := kq_eq hk; subst this
    rw [hp, relP_int] at hx
    rw [hq, relP_int] at hy
  · refine ⟨_, _, _, hK, .pure m (u := .int k (min p q)) ?_ (relP_int.2 rfl)⟩
    refine builtin_run (a := a) ho hb ?_
    rw [ha]
    simp only [builtin]
    refine run_val ?_
    have : (if q < p then q else p) = min p q := by omega
    simp [Builtin.min_, hx, hy, Builtin.min2, this]
  · refine ⟨_, _, _, hK, .pure m (u := .int k (max p q)) ?_ (relP_int.2 rfl)⟩
    refine builtin_run (a := a) ho hb ?_
    rw [ha]
    simp only [builtin]
    refine run_val ?_
    have : (if p < q then q else p) = max p q := by omega
    simp [Builtin.max_, hx, hy, Builtin.max2, this]
end
end Go.Sx
