/-
  EACH OPERATION OF THE EXECUTOR IS SOUND: calls; all of them together. Generic: no program in sight. An own text.
-/
import Derived.Test.YtcgehmlhafjfkaaGreatDoorSx16
import Derived.Laws.OwnMore
set_option linter.unusedSectionVars false
namespace Go.Sx
open Go.RowKit (Below)

theorem relR_rep {w : World} {X : Nat → Prop} {z : SV} {u : Value} (h : relP w X z nob [u]) : ∀ n, relR w X 1 (List.replicate n z) nob (List.replicate n u)
  | 0 => by simp [relR_nil]
  | n + 1 => by
    simp only [List.replicate_succ]
    rw [relR_cons]
    exact ⟨[u], _, rfl, rfl, h, relR_rep h n⟩

mutual
theorem scalar_rel {w : World} {X X' : Nat → Prop} {β β' : Beta} : ∀ (v : SV), v.scalar = true → ∀ u, rel w X v β u → rel w X' v β' u
  | .int .., _, u, h => h
  | .bool _, _, u, h => h
  | .tru, _, u, h => h
  | .fls, _, u, h => h
  | .str _, _, u, h => h
  | .tup vs, hs, u, h => by
    obtain ⟨us, h1, h2⟩ := h
    exact ⟨us, h1, scalarL_rel vs hs _ h2⟩
  | .any, hs, _, _ | .agg _, hs, _, _ | .arr .., hs, _, _ | .sl .., hs, _, _ | .mt, hs, _, _ | .nils, hs, _, _ | .iptr _, hs, _, _ | .ptr .., hs, _, _ | .osl .., hs, _, _ | .fn .., hs, _, _ | .nilf, hs, _, _ | .nilp, hs, _, _ | .nili, hs, _, _ => by cases hs
theorem scalarL_rel {w : World} {X X' : Nat → Prop} {β β' : Beta} : ∀ (l : List SV), scalarL l = true → ∀ us, relL w X l β us → relL w X' l β' us
  | [], _, us, h => by rw [relL_nil] at h ⊢; exact h
  | v :: r, hs, us, h => by
    simp only [scalarL] at hs
    cases hv : v.scalar <;> simp only [hv] at hs
    · cases hs
    · rw [relL_cons] at h ⊢
      obtain ⟨u, us', h1, h2, h3⟩ := h
      refine ⟨u, us', h1, ?_, scalarL_rel r hs us' h3⟩
      by_cases ht : ∃ vs, v = .tup vs
      · obtain ⟨vs, rfl⟩ := ht
        simp only [relV, SV.isAgg, relP] at h2
      · have e := fun vs e => ht ⟨vs, e⟩
        rw [← rel_eq e] at h2 ⊢
        exact scalar_rel v hv u h2
end

theorem rel_of_nob {w : World} {X : Nat → Prop} {β : Beta} {v : SV} {u : Value} (h : rel w X v nob u) : rel w X v β u :=
  rel_ext (Ext.refl w X) (nms_true (fun b l hb => by cases hb) v) h

theorem relL_append {w : World} {X : Nat → Prop} {β : Beta} : ∀ {l l' : List SV} {us us' : List Value}, relL w X l β us → relL w X l' β us' → relL w X (l ++ l') β (us ++ us')
  | [], l', us, us', h, k => by rw [relL_nil] at h; subst h; simpa using k
  | v :: r, l', us, us', h, k => by
    rw [relL_cons] at h
    obtain ⟨u, us1, rfl, h2, h3⟩ := h
    rw [List.cons_append, relL_cons]
    exact ⟨u, us1 ++ us', by simp, h2, relL_append h3 k⟩

section
variable {c : Cx} (ok : EnvOK c.E) {o : Oper} {a : Act} {sl : Slots} {h : Heap} {n : Nat} {F : Nat → Prop} {β : Beta} {Y : Nat → Prop} {w : World} (m : Mem c h F β Y w) (hF : F n)
  (hev : ∀ x ∈ o.op.operands.toList, rel w (XX c.Z Y β h) (ev c.E sl x) β (a.eval x)) {K : KE} (hK : opE c.E sl h n o.op K)
include m hF hev hK

include ok in
theorem ok_call {cl : Call} {f : Operand} (ho : o.op = .call cl) (hb : cl.callee = .value f) : ∃ v ns ea, K v ns ea ∧ OpOK c o a h n F β Y w v ns ea := by
  rw [ho] at hK hev
  simp only [opE, hb] at hK
  have hf := hev f (by simp [Op.operands, Call.operands, hb])
  split at hK
  case h_2 => exact hK.elim
  rename_i g caps he
  rw [he] at hf
  obtain ⟨us, hfu, hcaps⟩ := rel_fn.1 hf
  split at hK
  · rename_i hid
    obtain ⟨⟨fn, hfn, hbody, hname⟩, hcl⟩ := ok.idf g hid
    split at hK
    case h_2 => exact hK.elim
    rename_i x hargs
    obtain ⟨hne, htup, hK⟩ := solid_iff hK
    have ha : cl.args = #[x] := by apply Array.toList_inj.1; simpa using hargs
    have hx := hev x (by simp [Op.operands, Call.operands, hb, ha])
    rw [relL_nil] at hcaps
    have husn : us = #[] := by apply Array.toList_inj.1; simpa using hcaps
    have hrun : (execOp a.eval o).run c.E.P w = .ok (.enter g #[a.eval x]) w := by
      simp only [execOp, ho, resolve, hb, hfu, Deferred.ofValue, Sem.run_bind, Sem.run_pure, Result.andThen_ok, invoke, callFunc, run_program, hfn, ha, husn]
      rw [if_neg (by rw [hname]; simp), if_neg (by simp [Option.isNone_iff_eq_none, Option.isSome_iff_ne_none.1 hbody])]
      simp
    refine ⟨_, _, _, hK, ?_⟩
    intro next Q hn
    rw [hrun, Oper.upon_enter]
    refine (hcl w (a.eval x)).mono ?_
    rintro e w' ⟨rfl, bl⟩
    obtain ⟨m', e'⟩ := m.step bl
    exact hn _ w' β ⟨m', rel_ext e' (nms_true (fun _ _ k => k) _) hx, fun v0 u0 h0 => rel_ext e' (nms_true (fun _ _ k => k) _) h0⟩
  simp only [frcL_eq] at hK
  split at hK
  case h_2 => exact hK.elim
  rename_i hnt
  have hargs := evL_ok (w := w) (X := XX c.Z Y β h) (β := β) (a := a) (E := c.E) (sl := sl) cl.args.toList (fun x hx => hev x (by simp [Op.operands, Call.operands, hb]; exact .inr (by simpa using hx))) hnt
  obtain ⟨as, ns1, k1, _, k2⟩ := frzL_ok m 60 _ [] _ hK
  obtain ⟨cs, ns, q1, q2, q3⟩ := frzL_ok m 60 caps ns1 _ k1
  unfold CallVC at q1
  obtain ⟨r, ⟨⟨fn, hfn, hbody, hname⟩, hret⟩, hk⟩ := q1
  simp only [frc_eq] at hk
  have hcold := m.cold ns
  have ra := (k2 _ (hcold.mono q2)).2.1 _ hargs
  have rc := (q3 _ hcold).2.1 _ hcaps
  have hall := relL_append ra rc
  obtain ⟨mi, ei, _⟩ := m.ice ns
  have hrun : (execOp a.eval o).run c.E.P w = .ok (.enter g (cl.args.map a.eval ++ us)) w := by
    simp only [execOp, ho, resolve, hb, hfu, Deferred.ofValue, Sem.run_bind, Sem.run_pure, Result.andThen_ok, invoke, callFunc, run_program, hfn]
    rw [if_neg (by rw [hname]; simp), if_neg (by simp [Option.isNone_iff_eq_none, Option.isSome_iff_ne_none.1 hbody])]
    simp
  have hcalls := hret w (XX c.Z Y β (iceB ns h)) (cl.args.map a.eval ++ us) mi.good (by simpa using hall)
  have key : ∀ (v : SV) (ns' : List Nat), K v ns' .nil → (∀ u w', Below w.heap.size w w' → rel w' (XX c.Z Y β (iceB ns h)) r nob u → Res c h n F β Y w v ns' .nil u w' β) → ∃ v ns ea, K v ns ea ∧ OpOK c o a h n F β Y w v ns ea := by
    intro v ns' hkv hres
    refine ⟨v, ns', .nil, hkv, ?_⟩
    intro next Q hn
    rw [hrun, Oper.upon_enter]
    refine hcalls.mono ?_
    rintro e w' ⟨u, rfl, bl, hr⟩
    exact hn u w' β (hres u w' bl hr)
  cases ns with
  | nil =>
    refine key r [] hk fun u w' bl hr => ?_
    obtain ⟨m', e'⟩ := m.step bl
    exact ⟨m', rel_of_nob hr, fun v0 u0 h0 => rel_ext e' (nms_true (fun _ _ k => k) _) h0⟩
  | cons b ns =>
    simp only at hk
    split at hk
    · rename_i hs
      refine key r [] hk fun u w' bl hr => ?_
      obtain ⟨m', e'⟩ := m.step bl
      exact ⟨m', scalar_rel r hs u hr, fun v0 u0 h0 => rel_ext e' (nms_true (fun _ _ k => k) _) h0⟩
    · refine key r (b :: ns) hk fun u w' bl hr => ?_
      obtain ⟨m', e'⟩ := mi.step bl
      exact ⟨m', rel_of_nob hr, fun v0 u0 h0 => rel_ext (ei.trans e') (nms_true (fun _ _ k => k) _) h0⟩

include ok m hF hev hK in
theorem ok_makeSlice {T : TypeId} {x y : Operand} (ho : o.op = .makeSlice T x y) : ∃ v ns ea, K v ns ea ∧ OpOK c o a h n F β Y w v ns ea := by
  rw [ho] at hK hev
  simp only [opE] at hK
  have hx := hev x (by simp [Op.operands])
  have hy := hev y (by simp [Op.operands])
  split at hK
  case h_2 => exact hK.elim
  rename_i e k1 i k2 j hd hi hj
  rw [hi, relP_int] at hx
  rw [hj, relP_int] at hy
  have desc := (ok.tt T (by rw [hd]; simp)).desc
  simp only [hd] at desc
  obtain ⟨hne, htup, hK2⟩ := solid_iff hK
  clear hK
  split at hK2
  case h_2 => exact hK2.elim
  rename_i hz1 hs1
  have hz1 := beq_of hz1
  have hs1 := beq_of hs1
  unfold SideVC at hK2
  obtain ⟨⟨h0, rfl, hb1, hby⟩, hK2⟩ := hK2
  obtain ⟨ti, g1, g2, g3, g4⟩ := (ok.tz e hne).info
  obtain ⟨z, gz, hzr⟩ := g4 hne
  have hzc := rel_cells (w := w) (X := XX c.Z Y β h) (β := nob) (u := z) hne htup (by rw [rel_eq htup]; exact hzr w (XX c.Z Y β h))
  have hzl := relP_len _ _ hzc
  have hcz : ∃ u, z.cells = #[u] := by
    have : z.cells.size = 1 := by rw [← Array.length_toList, hzl, hz1]
    exact Array.size_eq_one_iff.1 this
  obtain ⟨uz, hcz⟩ := hcz
  rw [hcz] at hzc
  have hb0 : 0 ≤ (ti.bytes : Int) := by omega
  have hrun := run_make (P := c.E.P) w T e ti z desc g1 gz k1 k2 i i h0 (Int.le_refl _) (by rw [g3, Int.mul_comm]; omega) (by omega)
  refine ⟨_, _, _, hK2, .value (u := .slice (some ⟨w.heap.size, 0, none⟩) i.toNat i.toNat) ?_ (Res.newRow m hF (cs := madeCells z.cells (i.toNat * ti.size)) (ty := e) (rest := []) (Nat.le_refl _) (by simp) (Nat.le_refl _) ?_ ?_ (relR_rep hzc _))⟩
  · simp only [execOp, ho, hx, hy]
    exact run_val hrun
  · rw [size_madeCells, g2, hs1]; omega
  · rw [hcz, g2, hs1, Nat.mul_one, toList_madeCells_one]; simp

include ok in
theorem opE_sound : ∃ v ns ea, K v ns ea ∧ OpOK c o a h n F β Y w v ns ea := by
  cases ho : o.op with
  | move x => exact ok_move m hF hev hK (.inl ho)
  | assign x => exact ok_move m hF hev hK (.inr ho)
  | pick x y z => exact ok_pick m hF hev hK ho
  | alloc T => exact ok_alloc ok m hF hK ho
  | box T x => exact ok_box m hF hev hK ho
  | build T ps => exact ok_build ok m hF hev hK ho
  | buildSlice T l ps => exact ok_buildSlice ok m hF hev hK ho
  | nilCheck x => exact ok_nilCheck m hF hev hK ho
  | fieldAddr T x f => exact ok_fieldAddr ok m hF hev hK ho
  | field T x f => exact ok_field ok m hF hev hK ho
  | load T x => exact ok_load ok m hF hev hK ho
  | store T x y => exact ok_store ok m hF hev hK ho
  | indexAddr T x y => exact ok_indexAddr ok m hF hev hK ho
  | index T x y => exact ok_index ok m hF hev hK ho
  | binOp op T x y T' => exact ok_binOp ok m hF hev hK ho
  | unOp op T x => exact ok_unOp m hF hev hK ho
  | convert S T x => exact ok_convert ok m hF hev hK ho
  | extract x i => exact ok_extract m hF hev hK ho
  | makeFunc f fst caps => exact ok_makeFunc m hF hev hK ho
  | slice T x lo hi mx => exact ok_slice ok m hF hev hK ho
  | makeSlice T x y => exact ok_makeSlice ok m hF hev hK ho
  | call cl =>
    cases hb : cl.callee with
    | value f => exact ok_call ok m hF hev hK ho hb
    | invoke r s => rw [ho] at hK; simp only [opE, hb] at hK
    | builtin b =>
      cases b
      case len => exact ok_len ok m hF hev hK ho hb
      case append => exact ok_append ok m hF hev hK ho hb
      case min => exact ok_minmax m hF hev hK ho (.inl hb)
      case max => exact ok_minmax m hF hev hK ho (.inr hb)
      all_goals (rw [ho] at hK; simp only [opE, hb] at hK)
  | _ => rw [ho] at hK; simp only [opE] at hK
end
end Go.Sx
