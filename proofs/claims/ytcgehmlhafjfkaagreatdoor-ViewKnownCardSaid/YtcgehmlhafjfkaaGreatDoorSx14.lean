/-
  EACH OPERATION OF THE EXECUTOR IS SOUND: composites, slices, builtins, calls. Generic: no program in sight. An own text.
-/
import Derived.Test.YtcgehmlhafjfkaaGreatDoorSx13
set_option linter.unusedSectionVars false
namespace Go.Sx
open Go.RowKit (Below)

section
variable {c : Cx} {h : Heap} {n : Nat} {F : Nat → Prop} {β : Beta} {Y : Nat → Prop} {w : World} (m : Mem c h F β Y w) (hF : F n)
include m hF
omit hF in
/-- nothing but finished blocks -/
theorem Res.iced {v : SV} {ns : List Nat} {u : Value} (hv : rel w (XX c.Z Y β (iceB ns h)) v β u) : Res c h n F β Y w v ns .nil u w β :=
  ⟨(m.ice ns).1, hv, fun _ _ h0 => rel_ext (m.ice ns).2.1 (nms_true (fun _ _ k => k) _) h0⟩

theorem Res.newRow {xs : List SV} {sz len cap : Nat} {cs : Array Value} {ty : TypeId} {ds rest : List Value} (hs : 1 ≤ sz) (hlen : len = xs.length) (hle : len ≤ cap) (hcs : cap * sz ≤ cs.size) (hd : cs.toList = ds ++ rest)
    (hp : relR w (XX c.Z Y β h) sz xs nob ds) :
    Res c h n F β Y w (.osl n sz) [] (.new (.row true sz xs)) (.slice (some ⟨w.heap.size, 0, none⟩) len cap) (w.alloc (.cells cs ty)) (setβ β n ⟨w.heap.size, len, cap⟩) := by
  have hn : β n = none := m.fresh n hF
  have hβ : ∀ b l', β b = some l' → setβ β n ⟨w.heap.size, len, cap⟩ b = some l' := fun b l' hb => by
    rw [setβ_ne]; · exact hb
    · rintro rfl; rw [hn] at hb; cases hb
  obtain ⟨m', e⟩ := m.new (k := .row true sz xs) (l := ⟨w.heap.size, len, cap⟩) (o := .cells cs ty) hF rfl (fun w' X' β' e hβ' hh =>
    ⟨hlen, hle, hs, .inr ⟨cs, ty, 0, 0, hh, .inr (Nat.le_refl _), hcs, ⟨ds, rest, hd, relR_ext e _ _ _ (nmsL_true (fun _ _ k => k) _) hp⟩, fun ho => by cases ho⟩⟩)
  exact ⟨m', rel_osl.2 ⟨_, _, setβ_same .., rfl, fun _ => rfl⟩, fun v0 u0 h0 => rel_ext e (nms_true hβ _) h0⟩
end

theorem relR_gap {w : World} {X : Nat → Prop} {z : SV} {β : Beta} {sz : Nat} {zc : Array Value} (hs : zc.size = sz) (h1 : 1 ≤ sz) (h : relP w X z β zc.toList) : ∀ n, relR w X sz (List.replicate n z) β ((Array.range (n * sz)).map (fun j => zc[j % zc.size]!)).toList
  | 0 => by simp [relR_nil]
  | n + 1 => by
    have ih := relR_gap hs h1 h n
    rw [List.replicate_succ, relR_cons]
    refine ⟨zc.toList, _, ?_, by simpa using hs, h, ih⟩
    have e1 : (n + 1) * sz = sz + n * sz := by rw [Nat.succ_mul, Nat.add_comm]
    rw [e1]
    simp only [Array.toList_map, Array.toList_range, List.range_add, List.map_append, List.map_map]
    congr 1
    · apply List.ext_getElem
      · simp [hs]
      · intro i g1 g2
        simp at g1 g2 ⊢
        rw [Nat.mod_eq_of_lt g2, getElem!_pos zc i g2]
    · apply List.map_congr_left
      intro j _
      simp only [Function.comp_apply]
      rw [← hs, Nat.add_mod_left]

theorem run_places {E : Env} (ok : EnvOK E) {w : World} : ∀ (l : List Field) (off : Nat) (zs : List SV), fits E (l.map fun f => (f.type, f.offset)) off zs = true →
    ∃ ps : List (Nat × Nat), (l.mapM fun f => do pure (f.offset, ← sizeOf f.type) : Sem (List (Nat × Nat))).run E.P w = .ok ps w ∧ ∀ i z, zs[i]? = some z → ps[i]? = some (off + szs (zs.take i), z.sz)
  | [], off, zs, hf => ⟨[], by simp, fun i z hz => by cases zs <;> simp [fits] at hf hz⟩
  | f :: l, off, [], hf => by simp [fits] at hf
  | f :: l, off, v :: vs, hf => by
    simp only [List.map_cons, fits] at hf
    split at hf
    case h_2 => cases hf
    rename_i h1 h2 h3
    obtain ⟨ps, g1, g2⟩ := run_places ok (w := w) l _ vs hf
    have h2 := beq_of h2
    have h3 : 1 ≤ v.sz := by simpa using h3
    refine ⟨(f.offset, v.sz) :: ps, ?_, fun i z hz => ?_⟩
    · simp only [List.mapM_cons, Sem.run_bind, (ok.ts f.type (by omega)).sz, Result.andThen_ok, Sem.run_pure, g1, h2]
    · cases i with
      | zero => simp at hz; subst hz; simp [szs, beq_of h1]
      | succ i =>
        have := g2 i z (by simpa using hz)
        simp only [List.getElem?_cons_succ, this, List.take_succ_cons, szs]
        rw [Nat.add_assoc]

section
variable {c : Cx} (ok : EnvOK c.E) {o : Oper} {a : Act} {sl : Slots} {h : Heap} {n : Nat} {F : Nat → Prop} {β : Beta} {Y : Nat → Prop} {w : World} (m : Mem c h F β Y w) (hF : F n)
  (hev : ∀ x ∈ o.op.operands.toList, rel w (XX c.Z Y β h) (ev c.E sl x) β (a.eval x)) {K : KE} (hK : opE c.E sl h n o.op K)
include ok m hF hev hK

theorem ok_build {T : TypeId} {ps : Array (Nat × Operand)} (ho : o.op = .build T ps) : ∃ v ns ea, K v ns ea ∧ OpOK c o a h n F β Y w v ns ea := by
  rw [ho] at hK hev
  simp only [opE] at hK
  have hev' : ∀ p ∈ ps.toList, rel w (XX c.Z Y β h) (ev c.E sl p.2) β (a.eval p.2) := fun p hp => hev p.2 (by simp [Op.operands]; exact ⟨p.1, by simpa using hp⟩)
  have hargs : (ps.map fun (x : Nat × Operand) => (x.1, a.eval x.2)).toList = ps.toList.map fun p => (p.1, a.eval p.2) := by simp
  split at hK
  · rename_i fs zs hd hz
    have tok := ok.tt T (by rw [hd]; simp)
    split at hK
    case h_2 => exact hK.elim
    rename_i hfits
    have desc := tok.desc
    simp only [hd] at desc
    obtain ⟨F, hF, hfs, _⟩ := desc
    obtain ⟨i, hi, _, _, hzz⟩ := tok.info
    obtain ⟨z, hz1, hz2⟩ := hzz (by rw [hz]; simp)
    have hzr := hz2 w (XX c.Z Y β h)
    rw [hz] at hzr
    obtain ⟨cs, rfl, hcs⟩ := hzr
    simp only [relP] at hcs
    have hcs' := relC_ext (Ext.refl w (XX c.Z Y β h)) (β' := β) _ _ (nmsL_true (fun _ _ k => by cases k) _) hcs
    have hpl : ∃ places : Array (Nat × Nat), (F.mapM fun f => do pure (f.offset, ← sizeOf f.type) : Sem (Array (Nat × Nat))).run c.E.P w = .ok places w ∧ ∀ i z, zs[i]? = some z → places[i]? = some (szs (zs.take i), z.sz) := by
      rw [← hfs] at hfits
      obtain ⟨ps, g1, g2⟩ := run_places ok (w := w) F.toList 0 zs hfits
      refine ⟨ps.toArray, ?_, fun i z hz => by simpa using g2 i z hz⟩
      rw [Array.mapM_eq_mapM_toList, Sem.run_map, g1]
      rfl
    obtain ⟨places, hp1, hp2⟩ := hpl
    obtain ⟨vs', A', k1, k2, k3⟩ := fillF_ok (place := (places[·]?)) ps.toList zs _ cs hK hev' hcs' hp2
    refine ⟨_, _, _, k1, .pure m (u := .agg A') ?_ ((rel_agg rfl).2 ⟨A', rfl, by simpa only [relP] using k3⟩)⟩
    simp only [execOp, ho]
    refine run_val ?_
    simp only [Instr.build, zeroValue, typeInfo, Sem.run_bind, run_program, Result.andThen_ok, hi, Sem.run_pure, hz1, run_underlying hF, Value.cells, hp1, hargs, k2]
  · rename_i m0 e m' sz zs hd hz
    have tok := ok.tt T (by rw [hd]; simp)
    split at hK
    case h_2 => exact hK.elim
    rename_i hsz h1
    have hsz := beq_of hsz
    have h1 : 1 ≤ sz := by simpa using h1
    have toke := ok.ts e (by omega)
    have desc := tok.desc
    simp only [hd] at desc
    obtain ⟨i, hi, _, _, hzz⟩ := tok.info
    obtain ⟨z, hz1, hz2⟩ := hzz (by rw [hz]; simp)
    have hzr := hz2 w (XX c.Z Y β h)
    rw [hz] at hzr
    obtain ⟨cs, rfl, hcs⟩ := hzr
    simp only [relP] at hcs
    obtain ⟨hlen, hcs⟩ := hcs
    have hcs' := relR_ext (Ext.refl w (XX c.Z Y β h)) (β' := β) _ _ _ (nmsL_true (fun _ _ k => by cases k) _) hcs
    obtain ⟨vs', A', k1, k2, k3, k4⟩ := fillR_ok (sz := sz) ps.toList zs _ cs hK hev' hcs'
    obtain ⟨vs2, ns, g1, _, g2⟩ := frzL_ok m 60 vs' [] _ k1
    have g3 := (g2 _ (m.cold ns)).2.2 sz _ k4
    have hl2 : vs2.length = m' := by
      have e1 := relR_len _ _ _ k4
      have e2 := relR_len _ _ _ g3
      rw [e1] at e2
      have := Nat.eq_of_mul_eq_mul_right (by omega) e2
      omega
    refine ⟨_, _, _, g1, .value (w' := w) (β' := β) (u := .agg A') ?_ (Res.iced m ((rel_agg rfl).2 ⟨A', rfl, by simp only [relP]; exact ⟨hl2, g3⟩⟩))⟩
    simp only [execOp, ho]
    refine run_val ?_
    rw [hsz] at k3
    simp only [Instr.build, zeroValue, typeInfo, Sem.run_bind, run_program, Result.andThen_ok, hi, Sem.run_pure, hz1, run_underlying desc.1, Value.cells, toke.sz, hargs, k3]
  · exact hK.elim

theorem ok_buildSlice {T : TypeId} {len : Nat} {ps : Array (Nat × Operand)} (ho : o.op = .buildSlice T len ps) : ∃ v ns ea, K v ns ea ∧ OpOK c o a h n F β Y w v ns ea := by
  rw [ho] at hK hev
  simp only [opE] at hK
  have hev' : ∀ p ∈ ps.toList, rel w (XX c.Z Y β h) (ev c.E sl p.2) β (a.eval p.2) := fun p hp => hev p.2 (by simp [Op.operands]; exact ⟨p.1, by simpa using hp⟩)
  have hargs : (ps.map fun (x : Nat × Operand) => (x.1, a.eval x.2)).toList = ps.toList.map fun p => (p.1, a.eval p.2) := by simp
  split at hK
  case h_2 => exact hK.elim
  rename_i e hd
  have tok := ok.tt T (by rw [hd]; simp)
  have desc := tok.desc
  simp only [hd] at desc
  split at hK
  case h_1 => exact hK.elim
  case h_4 => exact hK.elim
  case h_3 =>
    rename_i hl h1 hmx hz0
    obtain ⟨hz, htup, hK⟩ := solid_iff hK
    split at hK
    case h_2 => exact hK.elim
    rename_i hzs
    have hzs := beq_of hzs
    have h1 : 1 ≤ (lkT c.E.tt e).size := by simpa using h1
    have hmx : len * (lkT c.E.tt e).size ≤ 16777216 := by simpa using hmx
    have toke := ok.ts e (by omega)
    obtain ⟨i, hi, hsi, _, hzz⟩ := toke.info
    obtain ⟨z, hz1, hz2⟩ := hzz hz
    have hzr : rel w (XX c.Z Y β h) (lkT c.E.tt e).zero β z := rel_ext (Ext.refl _ _) (nms_true (fun b l k => by cases k) _) (by rw [rel_eq htup]; exact hz2 w (XX c.Z Y β h))
    have hzc := rel_cells hz htup hzr
    have hzl : z.cells.size = (lkT c.E.tt e).size := by
      rw [← Array.length_toList, relP_len _ _ hzc]
      exact hzs
    generalize hA : (if len * (lkT c.E.tt e).size = 0 then (#[] : Array Value) else z.cells) = zc
    have hrep : relR w (XX c.Z Y β h) (lkT c.E.tt e).size (List.replicate len (lkT c.E.tt e).zero) β ((Array.range (len * (lkT c.E.tt e).size)).map (fun j => zc[j % zc.size]!)).toList := by
      by_cases h0 : len * (lkT c.E.tt e).size = 0
      · have : len = 0 := by
          rcases Nat.mul_eq_zero.1 h0 with g | g <;> omega
        subst this
        simp [relR_nil]
      · rw [if_neg h0] at hA
        subst hA
        exact relR_gap hzl h1 hzc len
    obtain ⟨vs, A', k1, k2, k3, k4⟩ := fillR_ok (w := w) (X := XX c.Z Y β h) (β := β) (a := a) (sz := (lkT c.E.tt e).size) ps.toList _ _ _ hK hev' hrep
    obtain ⟨vs2, ns, g1, _, g2⟩ := frzL_ok m 60 vs [] _ k1
    have g3 := (g2 _ (m.cold ns)).2.2 _ _ k4
    have hl2 : vs2.length = len := by
      have e1 := relR_len _ _ _ k4
      have e2 := relR_len _ _ _ g3
      rw [e1] at e2
      have := Nat.eq_of_mul_eq_mul_right (by omega) e2
      rw [← this, k2]; simp
    have hsz : A'.size = len * (lkT c.E.tt e).size := by
      have := relR_len _ _ _ k4
      rw [← Array.length_toList, this, k2]
      simp
    refine ⟨_, _, _, g1, .value ?_ (Res.ice m (Res.newRow (m.ice ns).1 hF (len := len) (cap := len) (cs := A') (ty := e) (ds := A'.toList) (rest := []) h1 hl2.symm (Nat.le_refl _) (by omega) (by simp) g3))⟩
    simp only [execOp, ho]
    refine run_val ?_
    have hmx' : ¬ (len * (lkT c.E.tt e).size > 2 ^ 24) := by omega
    simp only [Instr.buildSlice, Sem.run_bind, run_underlying desc, Result.andThen_ok, toke.sz, hmx', if_false]
    by_cases h0 : len * (lkT c.E.tt e).size = 0
    · rw [if_pos h0] at hA
      rw [if_pos h0, hA]
      simp only [Sem.run_bind, Sem.run_pure, Result.andThen_ok, hargs, k3, newRow, run_newObj]
      rfl
    · rw [if_neg h0] at hA
      rw [if_neg h0]
      simp only [Sem.run_bind, Sem.run_pure, Result.andThen_ok, zeroValue, typeInfo, run_program, hi, hz1, hA, hargs, k3, newRow, run_newObj]
      rfl
  rename_i hl h1 hmx hz
  simp only [Bool.and_eq_true] at hl
  have hlen := beq_of hl.1
  have h1 : 1 ≤ (lkT c.E.tt e).size := by simpa using h1
  have hmx : len * (lkT c.E.tt e).size ≤ 16777216 := by simpa using hmx
  have toke := ok.ts e (by omega)
  obtain ⟨i, hi, hsi, _, hzz⟩ := toke.info
  obtain ⟨z, hz1, hz2⟩ := hzz hz
  obtain ⟨vs, k1, k2, k3⟩ := solids_ok (w := w) (X := XX c.Z Y β h) (β := β) (a := a) ps.toList _ 0 hK hl.2 hev'
  obtain ⟨vs2, ns, g1, _, g2⟩ := frzL_ok m 60 vs [] _ k1
  generalize hA : (if len * (lkT c.E.tt e).size = 0 then (#[] : Array Value) else z.cells) = zc
  obtain ⟨A', ds, f1, f2, f3⟩ := k3 ((Array.range (len * (lkT c.E.tt e).size)).map (fun j => zc[j % zc.size]!)) [] ((Array.range (len * (lkT c.E.tt e).size)).map (fun j => zc[j % zc.size]!)).toList (by simp) (by simp) (by simp [hlen])
  have g3 := (g2 _ (m.cold ns)).2.2 _ _ f3
  have hl2 : vs2.length = len := by
    have e1 := relR_len _ _ _ f3
    have e2 := relR_len _ _ _ g3
    rw [e1] at e2
    have := Nat.eq_of_mul_eq_mul_right (by omega) e2
    rw [hlen, ← k2]; exact this.symm
  have hsz : A'.size = len * (lkT c.E.tt e).size := by
    have := relR_len _ _ _ f3
    rw [← Array.length_toList, f2]
    simp only [List.nil_append, this, k2, hlen]
  refine ⟨_, _, _, g1, .value ?_ (Res.ice m (Res.newRow (m.ice ns).1 hF (len := len) (cap := len) (cs := A') (ty := e) (ds := ds) (rest := []) h1 hl2.symm (Nat.le_refl _) (by omega) (by simpa using f2) g3))⟩
  simp only [execOp, ho]
  refine run_val ?_
  have hmx' : ¬ (len * (lkT c.E.tt e).size > 2 ^ 24) := by omega
  simp only [Instr.buildSlice, Sem.run_bind, run_underlying desc, Result.andThen_ok, toke.sz, hmx', if_false]
  by_cases h0 : len * (lkT c.E.tt e).size = 0
  · rw [if_pos h0] at hA
    rw [if_pos h0, hA]
    simp only [Sem.run_bind, Sem.run_pure, Result.andThen_ok, hargs, f1, newRow, run_newObj]
    rfl
  · rw [if_neg h0] at hA
    rw [if_neg h0]
    simp only [Sem.run_bind, Sem.run_pure, Result.andThen_ok, zeroValue, typeInfo, run_program, hi, hz1, hA, hargs, f1, newRow, run_newObj]
    rfl
end
end Go.Sx
