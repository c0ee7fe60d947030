/-
  EACH OPERATION OF THE EXECUTOR IS SOUND: new blocks, composites, slices, builtins. Generic: no program in sight. An own text.
-/
import Derived.Test.YtcgehmlhafjfkaaGreatDoorSx12
set_option linter.unusedSectionVars false
namespace Go.Sx
open Go.RowKit (Below)

section
variable {c : Cx} (ok : EnvOK c.E) {o : Oper} {a : Act} {sl : Slots} {h : Heap} {n : Nat} {F : Nat → Prop} {β : Beta} {Y : Nat → Prop} {w : World} (m : Mem c h F β Y w) (hF : F n)
  (hev : ∀ x ∈ o.op.operands.toList, rel w (XX c.Z Y β h) (ev c.E sl x) β (a.eval x)) {K : KE} (hK : opE c.E sl h n o.op K)
include m hF hev hK

theorem ok_box {T : TypeId} {x : Operand} (ho : o.op = .box T x) : ∃ v ns ea, K v ns ea ∧ OpOK c o a h n F β Y w v ns ea := by
  rw [ho] at hK hev
  simp only [opE] at hK
  have hx := hev x (by simp [Op.operands])
  obtain ⟨h1, h2, hK⟩ := solid_iff hK
  refine ⟨_, _, _, hK, .value (w' := w.alloc (.cells (a.eval x).cells T)) (u := .pointer (some ⟨w.heap.size, 0, none⟩)) (by simp only [execOp, ho, Instr.box, newVar, newRow]; rfl) (Res.newVar m hF (rel_cells h1 h2 hx))⟩

include ok in
omit hev in
theorem ok_alloc {T : TypeId} (ho : o.op = .alloc T) : ∃ v ns ea, K v ns ea ∧ OpOK c o a h n F β Y w v ns ea := by
  rw [ho] at hK
  simp only [opE] at hK
  obtain ⟨h1, h2, hK⟩ := solid_iff hK
  have tok := ok.tz T h1
  obtain ⟨i, hi, _, _, hz⟩ := tok.info
  obtain ⟨z, hz1, hz2⟩ := hz h1
  have hzr : rel w (XX c.Z Y β h) (lkT c.E.tt T).zero β z := by
    rw [rel_eq h2]
    exact relV_ext (Ext.refl _ _) (nms_true (fun _ _ k => by cases k) _) (hz2 w _)
  refine ⟨_, _, _, hK, .value (w' := w.alloc (.cells z.cells T)) (u := .pointer (some ⟨w.heap.size, 0, none⟩)) ?_ (Res.newVar m hF (rel_cells h1 h2 hzr))⟩
  simp only [execOp, ho]
  refine run_val ?_
  simp only [Instr.alloc, zeroValue, typeInfo, Sem.run_bind, run_program, Result.andThen_ok, hi, Sem.run_pure, hz1, newVar, newRow, run_newObj]
  rfl

include ok in
theorem ok_field {T : TypeId} {x : Operand} {f : Nat} (ho : o.op = .field T x f) : ∃ v ns ea, K v ns ea ∧ OpOK c o a h n F β Y w v ns ea := by
  rw [ho] at hK hev
  simp only [opE] at hK
  have hx := hev x (by simp [Op.operands])
  split at hK
  case h_2 => exact hK.elim
  rename_i fs hd
  split at hK
  case h_2 => exact hK.elim
  rename_i T' off hf
  have tok := ok.tt T (by rw [hd]; simp)
  generalize ev c.E sl x = v at hK hx
  cases v <;> simp only [nav] at hK
  rename_i vs
  split at hK
  case h_2 => exact hK.elim
  rename_i hoff
  split at hK
  case h_2 => exact hK.elim
  rename_i s hs
  simp only [frc_eq] at hK
  split at hK
  case h_2 => exact hK.elim
  rename_i hsz
  obtain ⟨hd', hag, hK⟩ := load_kind hK
  have tok' := ok.tt T' hd'
  obtain ⟨cs, hu, hp⟩ := (rel_agg rfl).1 hx
  simp only [relP] at hp
  obtain ⟨c1, c2, c3, hc, g1, g2, _⟩ := relC_get hp hs
  have hlen := relP_len _ _ g2
  have hone : aggT (lkT c.E.tt T').d = false → (lkT c.E.tt T').size = 1 := by
    intro hh
    rw [← beq_of hsz]
    rw [hag] at hh
    cases s <;> first | rfl | cases hh
  have r1 := run_part tok' hd' (cs := cs) (pre := c1) (mid := c2) (post := c3) hc (by rw [hlen, beq_of hsz]) hone w
  refine ⟨_, _, _, hK, .pure m (u := cellsVal (aggT (lkT c.E.tt T').d) c2) ?_ (by rw [hag]; exact rel_cellsVal g2 fun hh => by rw [hlen, beq_of hsz]; exact hone (hag ▸ hh))⟩
  have desc := tok.desc
  simp only [hd] at desc
  obtain ⟨F, hF, hfs, _⟩ := desc
  rw [← hfs, List.getElem?_map] at hf
  cases hF' : F.toList[f]? with
  | none => rw [hF'] at hf; cases hf
  | some fl =>
    rw [hF'] at hf
    simp only [Option.map_some, Option.some.injEq, Prod.mk.injEq] at hf
    obtain ⟨rfl, rfl⟩ := hf
    rw [Array.getElem?_toList] at hF'
    simp only [execOp, ho, hu]
    refine run_val ?_
    rw [g1, ← beq_of hoff] at r1
    simp [Instr.field, run_underlying hF, hF', asAgg, r1]
end

/-- the loop by which a part is laid -/
theorem fold_set {off : Nat} : ∀ (vs : List Value) (A : Array Value) (pre mid post : List Value) (k : Nat), A.toList = pre ++ mid ++ post → pre.length = off + k → mid.length = vs.length →
    ((vs.zipIdx k).foldl (fun cs (x : Value × Nat) => cs.setIfInBounds (off + x.2) x.1) A).toList = pre ++ vs ++ post
  | [], A, pre, mid, post, k, hA, _, hm => by
    have : mid = [] := List.length_eq_zero_iff.1 hm
    subst this
    simpa using hA
  | v :: r, A, pre, mid, post, k, hA, hp, hm => by
    match mid, hm with
    | x :: mid, hm =>
      simp only [List.zipIdx_cons, List.foldl_cons]
      have := fold_set (off := off) r (A.setIfInBounds (off + k) v) (pre ++ [v]) mid post (k + 1) (by
        rw [Array.toList_setIfInBounds, hA, show off + k = pre.length from hp.symm]
        simp) (by simp; omega) (by simpa using hm)
      rw [this]
      simp

theorem fill_step {place : Nat → Option (Nat × Nat)} {i off size : Nat} {v : Value} {A : Array Value} {rest : List (Nat × Value)} {pre mid post : List Value} (hp : place i = some (off, size)) (hv : v.cells.size = size)
    (hA : A.toList = pre ++ mid ++ post) (hpre : pre.length = off) (hmid : mid.length = size) :
    Instr.fill place A ((i, v) :: rest) = Instr.fill place (pre ++ v.cells.toList ++ post).toArray rest := by
  have hsz : off + size ≤ A.size := by
    have := congrArg List.length hA
    simp at this
    omega
  simp only [Instr.fill, hp]
  rw [if_neg (by simp [hv]; omega)]
  congr 1
  apply Array.toList_inj.1
  have h2 := fold_set (off := off) v.cells.toList A pre mid post 0 hA (by simpa using hpre) (by rw [hmid, ← hv]; simp)
  have h3 : v.cells.zipIdx = (v.cells.toList.zipIdx).toArray := by
    apply Array.toList_inj.1
    simp
  rw [h3]
  simpa using h2

theorem szs_set {z v : SV} (hz : z.sz = v.sz) : ∀ {vs : List SV} {i j : Nat}, vs[i]? = some z → szs ((vs.set i v).take j) = szs (vs.take j)
  | [], _, _, h => by simp at h
  | x :: r, 0, j, h => by
    simp at h; subst h
    cases j with
    | zero => simp
    | succ j => simp [szs, hz]
  | x :: r, i + 1, j, h => by
    cases j with
    | zero => simp
    | succ j => simp [szs, szs_set hz (vs := r) (i := i) (j := j) (by simpa using h)]

section
variable {c : Cx} {a : Act} {sl : Slots} {β : Beta} {w : World} {X : Nat → Prop}

/-- a struct's parts -/
theorem fillF_ok {E : Env} {place : Nat → Option (Nat × Nat)} : ∀ (ps : List (Nat × Operand)) (vs : List SV) (K : List SV → Prop) (A : Array Value), fillF E sl ps vs K → (∀ p ∈ ps, rel w X (ev E sl p.2) β (a.eval p.2)) →
    relC w X vs β A.toList → (∀ i z, vs[i]? = some z → place i = some (szs (vs.take i), z.sz)) →
    ∃ vs' A', K vs' ∧ Instr.fill place A (ps.map fun p => (p.1, a.eval p.2)) = some A' ∧ relC w X vs' β A'.toList
  | [], vs, K, A, hf, _, hr, _ => by
    simp only [fillF, frcL_eq] at hf
    exact ⟨vs, A, hf, rfl, hr⟩
  | (i, x) :: r, vs, K, A, hf, hev, hr, hpl => by
    simp only [fillF] at hf
    split at hf
    case h_2 => exact hf.elim
    rename_i z hz
    obtain ⟨h1, h2, hf⟩ := solid_iff hf
    split at hf
    case h_2 => exact hf.elim
    rename_i hsz
    have hsz := beq_of hsz
    have hx := hev (i, x) (by simp)
    have hcells := rel_cells h1 h2 hx
    obtain ⟨c1, c2, c3, hA, g1, g2, g3⟩ := relC_get hr hz
    have hst := fill_step (rest := r.map fun p => (p.1, a.eval p.2)) (v := a.eval x) (hpl i z hz) (by rw [← Array.length_toList, relP_len _ _ hcells, hsz]) hA g1 (relP_len _ _ g2)
    simp only [List.map_cons, hst]
    refine fillF_ok r _ K _ hf (fun p hp => hev p (by simp [hp])) (by simpa using g3 _ _ hcells) ?_
    intro j y hy
    rw [szs_set hsz hz]
    by_cases e : i = j
    · subst e
      have hlt : i < vs.length := by
        rcases Nat.lt_or_ge i vs.length with g | g
        · exact g
        · rw [List.getElem?_eq_none g] at hz; cases hz
      rw [List.getElem?_set_self hlt] at hy
      cases hy
      rw [hpl i z hz, hsz]
    · rw [List.getElem?_set_ne e] at hy
      exact hpl j y hy

/-- an array's parts -/
theorem fillR_ok {E : Env} {sz : Nat} : ∀ (ps : List (Nat × Operand)) (vs : List SV) (K : List SV → Prop) (A : Array Value), fillF E sl ps vs K → (∀ p ∈ ps, rel w X (ev E sl p.2) β (a.eval p.2)) →
    relR w X sz vs β A.toList → ∃ vs' A', K vs' ∧ vs'.length = vs.length ∧ Instr.fill (fun i => some (i * sz, sz)) A (ps.map fun p => (p.1, a.eval p.2)) = some A' ∧ relR w X sz vs' β A'.toList
  | [], vs, K, A, hf, _, hr => by
    simp only [fillF, frcL_eq] at hf
    exact ⟨vs, A, hf, rfl, rfl, hr⟩
  | (i, x) :: r, vs, K, A, hf, hev, hr => by
    simp only [fillF] at hf
    split at hf
    case h_2 => exact hf.elim
    rename_i z hz
    obtain ⟨h1, h2, hf⟩ := solid_iff hf
    split at hf
    case h_2 => exact hf.elim
    rename_i hsz
    have hsz := beq_of hsz
    have hx := hev (i, x) (by simp)
    have hcells := rel_cells h1 h2 hx
    obtain ⟨c1, c2, c3, hA, g1, g0, g2, g3⟩ := relR_get hr hz
    have hl : (a.eval x).cells.toList.length = sz := by rw [relP_len _ _ hcells, ← hsz, ← relP_len _ _ g2, g0]
    have hst := fill_step (place := fun i => some (i * sz, sz)) (rest := r.map fun p => (p.1, a.eval p.2)) (v := a.eval x) (i := i) rfl (by rw [← hl]; simp) hA g1 g0
    simp only [List.map_cons, hst]
    obtain ⟨vs', A', k1, k2, k3, k4⟩ := fillR_ok r _ K (c1 ++ (a.eval x).cells.toList ++ c3).toArray hf (fun p hp => hev p (by simp [hp])) (by simpa using g3 _ _ hl hcells)
    exact ⟨vs', A', k1, by rw [k2]; simp, k3, k4⟩

/-- a slice literal's elements -/
theorem solids_ok {E : Env} {sz : Nat} : ∀ (ps : List (Nat × Operand)) (K : List SV → Prop) (k : Nat), solids E sl sz ps K → inOrder k ps = true → (∀ p ∈ ps, rel w X (ev E sl p.2) β (a.eval p.2)) →
    ∃ vs, K vs ∧ vs.length = ps.length ∧ ∀ (A : Array Value) (pre rest : List Value), A.toList = pre ++ rest → pre.length = k * sz → rest.length = ps.length * sz →
      ∃ A' ds, Instr.fill (fun i => some (i * sz, sz)) A (ps.map fun p => (p.1, a.eval p.2)) = some A' ∧ A'.toList = pre ++ ds ∧ relR w X sz vs β ds
  | [], K, k, hf, _, _ => ⟨[], hf, rfl, fun A pre rest hA _ hl => ⟨A, [], rfl, by
      have : rest = [] := List.length_eq_zero_iff.1 (by simpa using hl)
      rw [hA, this], by simp [relR_nil]⟩⟩
  | (i, x) :: r, K, k, hf, ho, hev => by
    simp only [solids] at hf
    obtain ⟨h1, h2, hf⟩ := solid_iff hf
    split at hf
    case h_2 => exact hf.elim
    rename_i hsz
    have hsz := beq_of hsz
    simp only [inOrder] at ho
    split at ho
    case h_2 => cases ho
    rename_i hki
    have hki := beq_of hki
    subst hki
    have hx := hev (k, x) (by simp)
    have hcells := rel_cells h1 h2 hx
    have hl : (a.eval x).cells.toList.length = sz := by rw [relP_len _ _ hcells, hsz]
    obtain ⟨vs, k1, k2, k3⟩ := solids_ok r _ (k + 1) hf ho (fun p hp => hev p (by simp [hp]))
    refine ⟨_, k1, by simp [k2], fun A pre rest hA hp hr => ?_⟩
    have hrl : rest.length = sz + r.length * sz := by rw [hr]; simp [Nat.add_mul, Nat.add_comm]
    have hst := fill_step (place := fun i => some (i * sz, sz)) (rest := r.map fun p => (p.1, a.eval p.2)) (v := a.eval x) (i := k) (pre := pre) (mid := rest.take sz) (post := rest.drop sz) rfl (by rw [← hl]; simp)
      (by rw [hA]; simp) hp (by simp; omega)
    simp only [List.map_cons, hst]
    obtain ⟨A', ds, f1, f2, f3⟩ := k3 (pre ++ (a.eval x).cells.toList ++ rest.drop sz).toArray (pre ++ (a.eval x).cells.toList) (rest.drop sz) (by simp) (by simp [hp, Nat.add_mul]; simpa using hl) (by simp; omega)
    refine ⟨A', (a.eval x).cells.toList ++ ds, f1, by rw [f2]; simp, ?_⟩
    rw [relR_cons]
    exact ⟨_, _, rfl, hl, hcells, f3⟩
end
end Go.Sx
