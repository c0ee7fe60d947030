/-
  EACH OPERATION OF THE EXECUTOR IS SOUND: addresses, loads, stores, new blocks. Generic: no program in sight. An own text.
-/
import Derived.Test.YtcgehmlhafjfkaaGreatDoorSx8
namespace Go.Sx
open Go.RowKit (Below)

section
variable {c : Cx} {o : Oper} {a : Act} {h : Heap} {n : Nat} {F : Nat → Prop} {β : Beta} {Y : Nat → Prop} {w : World}

/-- the cells of an own variable's part -/
theorem var_part (m : Mem c h F β Y w) {b : Nat} {own : Bool} {v : SV} (hb : lkB h b = some (.var own v)) {p : List Step} {K : SV → Prop} (hn : nav v p K) {l : Loc} (hl : β b = some l) :
    ∃ u mid, K u ∧ relP w (XX c.Z Y β h) u β mid ∧ cellsAt w l.r (pOff p) mid := by
  obtain ⟨l', hl', hok⟩ := m.blk b _ hb
  rw [hl] at hl'; cases hl'
  obtain ⟨cs, ty, lo, hi, g1, g2, g3, g4⟩ := hok
  obtain ⟨u, pre, mid, post, k1, k2, k3, k4⟩ := nav_ok p v K _ hn g3
  refine ⟨u, mid, k1, k4, fun j y hj => ?_⟩
  have hjl : j < mid.length := by
    rcases Nat.lt_or_ge j mid.length with g | g
    · exact g
    · rw [List.getElem?_eq_none g] at hj; cases hj
  have : cs[pOff p + j]? = some y := by
    rw [← Array.getElem?_toList, k2, ← k3, List.append_assoc, List.getElem?_append_right (by omega), List.getElem?_append_left (by omega)]
    rw [show pre.length + j - pre.length = j from by omega]; exact hj
  simp [World.cell?, g1, this]

theorem row_part (m : Mem c h F β Y w) {b : Nat} {own : Bool} {sz : Nat} {xs : List SV} (hb : lkB h b = some (.row own sz xs)) {p : List Step} {K : SV → Prop} (hn : nav (.arr 0 sz xs) p K) (hp : p ≠ []) {l : Loc} (hl : β b = some l) :
    ∃ u mid, K u ∧ relP w (XX c.Z Y β h) u β mid ∧ cellsAt w l.r (pOff p) mid := by
  obtain ⟨l', hl', hok⟩ := m.blk b _ hb
  rw [hl] at hl'; cases hl'
  obtain ⟨g1, g2, g3, g4⟩ := hok
  have hne : xs ≠ [] := by
    rintro rfl
    match p, hp with
    | .fld .. :: _, _ => simp only [nav] at hn
    | .idx i s :: p, _ =>
      simp only [nav] at hn
      split at hn
      · unfold IdxVC at hn; obtain ⟨_, _, h, _⟩ := hn; simp at h
      · exact hn
  have hcap : l.cap ≠ 0 := by
    have : xs.length ≠ 0 := fun e => hne (List.length_eq_zero_iff.1 e)
    omega
  rcases g4 with g4 | ⟨cs, ty, lo, hi, f1, f2, f3, ⟨c1, c2, f4, f5⟩, f6⟩
  · exact absurd g4 hcap
  · have hr : relP w (XX c.Z Y β h) (.arr xs.length sz xs) β c1 := by simp only [relP]; exact ⟨trivial, f5⟩
    have hn' : nav (.arr xs.length sz xs) p K := by
      match p, hp with
      | .fld .. :: _, _ => simp only [nav] at hn
      | .idx i s :: p, _ => simpa only [nav] using hn
    obtain ⟨u, pre, mid, post, k1, k2, k3, k4⟩ := nav_ok p _ K _ hn' hr
    refine ⟨u, mid, k1, k4, fun j y hj => ?_⟩
    have hjl : j < mid.length := by
      rcases Nat.lt_or_ge j mid.length with g | g
      · exact g
      · rw [List.getElem?_eq_none g] at hj; cases hj
    have : cs[pOff p + j]? = some y := by
      rw [← Array.getElem?_toList, f4, k2, ← k3]
      rw [List.append_assoc, List.append_assoc, List.getElem?_append_right (by omega)]
      rw [show pre.length + j - pre.length = j from by omega, List.getElem?_append_left (by omega)]; exact hj
    simp [World.cell?, f1, this]

/-- a load at a type -/
theorem run_load_at {P : Program} {T : TypeId} {ti : TI} (tok : TIok P T ti) {X : Nat → Prop} {u : SV} {mid : List Value} {r off : Nat} (hsz : u.sz = ti.size) (hd : ti.d ≠ .other) (hag : aggT ti.d = u.isAgg)
    (hp : relP w X u β mid) (hc : cellsAt w r off mid) : ∃ val, (Instr.loadAt T (.pointer (some ⟨r, off, none⟩))).run P w = .ok val w ∧ rel w X u β val := by
  have hl := relP_len _ _ hp
  refine ⟨cellsVal u.isAgg mid, ?_, rel_cellsVal hp fun ha => ?_⟩
  · simp only [Instr.loadAt, Instr.sureAddr, loadVar, Sem.run_bind, Sem.run_pure, Result.andThen_ok, isAgg_run tok hd]
    rw [hag]
    cases ha : u.isAgg with
    | true =>
      simp only [if_true, Sem.run_bind, tok.sz, Result.andThen_ok]
      have := run_loadCells (P := P) (w := w) (b := r) (off := off) mid #[] 0 (fun j v hj => by simpa using hc j v hj)
      rw [← hsz, ← hl]
      unfold loadCells
      rw [this]
      simp [cellsVal]
    | false =>
      have hl1 : mid.length = 1 := by rw [hl]; cases u <;> first | rfl | cases ha
      match mid, hl1 with
      | [x], _ =>
        have := hc 0 x rfl
        simp only [Nat.add_zero] at this
        simp [this, cellsVal]
  · rw [hl]; cases u <;> first | rfl | cases ha

theorem fieldAt_run {P : Program} {T : TypeId} {ti tf : TI} {fs : List (TypeId × Nat)} {f : Nat} {T' : TypeId} {off : Nat} (tok : TIok P T ti) (hd : ti.d = .strct fs) (hf : fs[f]? = some (T', off)) (tok' : TIok P T' tf) (h1 : 1 ≤ tf.size)
    (r o : Nat) : (Instr.fieldAt T (.pointer (some ⟨r, o, none⟩)) f).run P w = .ok (.pointer (some ⟨r, o + off, none⟩)) w := by
  have desc := tok.desc
  simp only [hd] at desc
  obtain ⟨F, hF, hfs, _⟩ := desc
  rw [← hfs, List.getElem?_map] at hf
  cases hF' : F.toList[f]? with
  | none => rw [hF'] at hf; cases hf
  | some fl =>
    rw [hF'] at hf
    simp only [Option.map_some, Option.some.injEq, Prod.mk.injEq] at hf
    obtain ⟨rfl, rfl⟩ := hf
    rw [Array.getElem?_toList] at hF'
    have hne : ¬ tf.size = 0 := by omega
    simp [Instr.fieldAt, run_underlying hF, hF', Instr.sureAddr, fieldPlace, tok'.sz, hne, add_plain]

theorem indexAt_slice_run {P : Program} {T e : TypeId} {ti te : TI} (tok : TIok P T ti) (hd : ti.d = .sl e) (toke : TIok P e te) {k : IntKind} {i : Int} {r off len cap : Nat} (h0 : 0 ≤ i) (h1 : i < len) :
    (Instr.indexAt T (.slice (some ⟨r, off, none⟩) len cap) (.int k i)).run P w = .ok (.pointer (some ⟨r, off + i.toNat * te.size, none⟩)) w := by
  have desc := tok.desc
  simp only [hd] at desc
  simp only [Instr.indexAt, asIntOf, Sem.run_bind, Sem.run_pure, Result.andThen_ok, run_underlying desc]
  rw [if_pos ⟨h0, h1⟩]
  simp [toke.sz, add_plain]

theorem indexAt_array_run {P : Program} {T e : TypeId} {m : Nat} {ti te : TI} (tok : TIok P T ti) (hd : ti.d = .arr m e) (toke : TIok P e te) {k : IntKind} {i : Int} {r off : Nat} (h0 : 0 ≤ i) (h1 : i < m) :
    (Instr.indexAt T (.pointer (some ⟨r, off, none⟩)) (.int k i)).run P w = .ok (.pointer (some ⟨r, off + i.toNat * te.size, none⟩)) w := by
  have desc := tok.desc
  simp only [hd] at desc
  simp only [Instr.indexAt, asIntOf, Sem.run_bind, Sem.run_pure, Result.andThen_ok, run_underlying desc.1, Instr.sureAddr]
  rw [if_pos ⟨h0, h1⟩]
  simp [toke.sz, add_plain]

theorem pOff_append (p q : List Step) : pOff (p ++ q) = pOff p + pOff q := by
  induction p with
  | nil => simp [pOff]
  | cons s p ih => cases s <;> simp [pOff, ih] <;> omega

theorem cellsAt_mid {r off : Nat} {ds pre mid post : List Value} (hc : cellsAt w r off ds) (hd : ds = pre ++ mid ++ post) : cellsAt w r (off + pre.length) mid := by
  intro j v hj
  have hjl : j < mid.length := by
    rcases Nat.lt_or_ge j mid.length with g | g
    · exact g
    · rw [List.getElem?_eq_none g] at hj; cases hj
  have := hc (pre.length + j) v (by
    rw [hd, List.append_assoc, List.getElem?_append_right (by omega), List.getElem?_append_left (by omega)]
    rw [show pre.length + j - pre.length = j from by omega]; exact hj)
  rw [show off + pre.length + j = off + (pre.length + j) from by omega]; exact this

/-- a new variable -/
theorem Res.newVar (m : Mem c h F β Y w) (hF : F n) {v : SV} {cs : Array Value} {ty : TypeId} (hp : relP w (XX c.Z Y β h) v β cs.toList) :
    Res c h n F β Y w (.ptr n []) [] (.new (.var true v)) (.pointer (some ⟨w.heap.size, 0, none⟩)) (w.alloc (.cells cs ty)) (setβ β n ⟨w.heap.size, 0, 0⟩) := by
  have hn : β n = none := m.fresh n hF
  have hβ : ∀ b l', β b = some l' → setβ β n ⟨w.heap.size, 0, 0⟩ b = some l' := fun b l' hb => by
    rw [setβ_ne]; · exact hb
    · rintro rfl; rw [hn] at hb; cases hb
  obtain ⟨m', e⟩ := m.new (k := .var true v) (l := ⟨w.heap.size, 0, 0⟩) (o := .cells cs ty) hF rfl (fun w' X' β' e hβ' hh => ⟨cs, ty, 0, 0, hh, .inr (Nat.le_refl _), relP_ext e _ _ (nms_true hβ' _) hp, fun ho => by cases ho⟩)
  exact ⟨m', rel_ptr.2 ⟨_, setβ_same .., rfl⟩, fun v0 u0 h0 => rel_ext e (nms_true hβ _) h0⟩

/-- a store -/
theorem Res.setVar (m : Mem c h F β Y w) {b : Nat} {v v' : SV} {l : Loc} {cs : Array Value} {ty : TypeId} {lo hi : Nat} {cs' : List Value} (hb : lkB h b = some (.var true v)) (hl : β b = some l)
    (hw : w.heap[l.r]? = some (.cells cs ty (lo, hi))) (hf : cs.size ≤ lo ∨ hi ≤ lo) (hs : cs'.length = cs.size) (hp : relP w (XX c.Z Y β h) v' β cs') :
    Res c h n F β Y w .any [] (.set b (.var true v')) undef (World.put w l.r (.cells cs'.toArray ty (lo, hi))) β := by
  obtain ⟨m', e⟩ := m.set (k := .var true v') (o' := .cells cs'.toArray ty (lo, hi)) hb hl rfl rfl hw (fun e hh =>
    ⟨cs'.toArray, ty, lo, hi, hh, by simpa [hs] using hf, by simpa using relP_ext e _ _ (nms_true (fun _ _ k => k) _) hp, fun ho => by cases ho⟩)
  exact ⟨m', trivial, fun v0 u0 h0 => rel_ext e (nms_true (fun _ _ k => k) _) h0⟩
end
end Go.Sx
