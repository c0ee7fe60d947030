/-
  EACH OPERATION OF THE EXECUTOR IS SOUND: append and calls. Generic: no program in sight. An own text.
-/
import Derived.Test.YtcgehmlhafjfkaaGreatDoorSx15
import Derived.Laws.AppendOwn
set_option linter.unusedSectionVars false
namespace Go.Sx
open Go.RowKit (Below)

section
variable {c : Cx} {h : Heap} {n : Nat} {F : Nat → Prop} {β : Beta} {Y : Nat → Prop} {w : World} (m : Mem c h F β Y w) (hF : F n)
include m

/-- what a slice holds -/
theorem rows_ok {v : SV} {u : Value} {K : Option (Nat × List SV) → Prop} (hK : rows h v K) (hv : rel w (XX c.Z Y β h) v β u) :
    (∃ ad, u = .slice ad 0 0 ∧ K none) ∨ ∃ sz xs ad cap ds, K (some (sz, xs)) ∧ u = .slice ad xs.length cap ∧ relR w (XX c.Z Y β h) sz xs nob ds ∧ (xs = [] ∨ ∃ b off, ad = some ⟨b, off, none⟩ ∧ cellsAt w b off ds) := by
  unfold rows at hK
  split at hK
  · rename_i sz xs
    obtain ⟨ad, cap, hu, hle, hm⟩ := rel_sl.1 hv
    rcases hm with rfl | ⟨b, off, ds, h1, _, _, h2, h3⟩
    · exact .inr ⟨sz, [], ad, cap, [], hK, hu, by simp [relR_nil], .inl rfl⟩
    · exact .inr ⟨sz, xs, ad, cap, ds, hK, hu, h3, .inr ⟨b, off, h1, h2⟩⟩
  · rename_i b s
    split at hK
    case h_2 => exact hK.elim
    rename_i own sz xs hb
    obtain ⟨l, ad, hl, hu, had⟩ := rel_osl.1 hv
    obtain ⟨l', hl', hok⟩ := m.blk b _ hb
    rw [hl] at hl'; cases hl'
    obtain ⟨g1, g2, g3, g4⟩ := hok
    by_cases hc : l.cap = 0
    · have : xs = [] := List.length_eq_zero_iff.1 (by omega)
      subst this
      exact .inr ⟨sz, [], ad, l.cap, [], hK, by rw [hu, g1], by simp [relR_nil], .inl rfl⟩
    · rcases g4 with g4 | ⟨cs, ty, lo, hi, f1, f2, f3, ⟨c1, c2, f4, f5⟩, f6⟩
      · exact absurd g4 hc
      · refine .inr ⟨sz, xs, ad, l.cap, c1, hK, by rw [hu, g1], f5, .inr ⟨l.r, 0, had hc, fun j v hj => ?_⟩⟩
        have hjl : j < c1.length := by
          rcases Nat.lt_or_ge j c1.length with g | g
          · exact g
          · rw [List.getElem?_eq_none g] at hj; cases hj
        have : cs[j]? = some v := by rw [← Array.getElem?_toList, f4, List.getElem?_append_left hjl]; exact hj
        simp [World.cell?, f1, this]
  · rw [rel_nils] at hv; exact .inl ⟨none, hv, hK⟩
  · rw [rel_mt] at hv; obtain ⟨ad, hv⟩ := hv; exact .inl ⟨ad, hv, hK⟩
  · exact hK.elim
end

section
variable {P : Program} {w : World} {T e : TypeId} {ti te : TI} (tok : TIok P T ti) (hd : ti.d = .sl e) (toke : TIok P e te)
include tok hd toke

/-- nothing is appended -/
theorem run_append_none {ty : TypeId} {ad ad' : Option Addr} {len cap cap' : Nat} (hle : len ≤ cap) :
    (Builtin.append_ #[T, T] ty #[.slice ad len cap, .slice ad' 0 cap']).run P w = .ok (.slice ad len cap) w := by
  have desc := tok.desc
  simp only [hd] at desc
  have hf : (Builtin.firstCells te.size 0 (.slice ad' 0 cap')).run P w = .ok #[] w := by
    cases ad' <;> simp [Builtin.firstCells, loadCells, loadCellsFrom]
  unfold Builtin.append_
  cases ad <;> simp [run_underlying desc, toke.sz, Builtin.lenOf, hle, hf, storeCells]

/-- there is room -/
theorem run_append_in {ty : TypeId} {r len cap cap' b off m : Nat} {cs : Array Value} {et : TypeId} {lo hi : Nat} {pre mid post news : List Value} (hw : w.heap[r]? = some (.cells cs et (lo, hi))) (hf : cs.size ≤ lo ∨ hi ≤ lo)
    (hc : cs.toList = pre ++ mid ++ post) (hp : pre.length = len * te.size) (hm : mid.length = news.length) (hn : news.length = m * te.size) (hcells : cellsAt w b off news) (h1 : ∀ u ∈ news, u.oneCell' = true) (hroom : len + m ≤ cap) :
    (Builtin.append_ #[T, T] ty #[.slice (some ⟨r, 0, none⟩) len cap, .slice (some ⟨b, off, none⟩) m cap']).run P w = .ok (.slice (some ⟨r, 0, none⟩) (len + m) cap) (World.put w r (.cells (pre ++ news ++ post).toArray et (lo, hi))) := by
  have desc := tok.desc
  simp only [hd] at desc
  have hfc : (Builtin.firstCells te.size m (.slice (some ⟨b, off, none⟩) m cap')).run P w = .ok news.toArray w :=
    run_firstCells_some (P := P) w te.size m ⟨b, off, none⟩ m cap' news hn (fun j v hj => by rw [add_plain]; exact hcells j v hj)
  have hst := run_storeCells (P := P) (off := len * te.size) news w cs 0 pre mid post hw hf hc (by simpa using hp) hm h1
  unfold Builtin.append_
  simp [run_underlying desc, toke.sz, Builtin.lenOf, hroom, hfc, add_plain, hst]
end

section
variable {c : Cx} (ok : EnvOK c.E) {o : Oper} {a : Act} {sl : Slots} {h : Heap} {n : Nat} {F : Nat → Prop} {β : Beta} {Y : Nat → Prop} {w : World} (m : Mem c h F β Y w) (hF : F n)
include m

omit m in
theorem kill_nms_ne {b : Nat} {β' : Beta} (hβ : ∀ b' l, b' ≠ b → β b' = some l → β' b' = some l) {w' : World} {X' : Nat → Prop} (e : Ext w (XX c.Z Y β h) w' X') {v : SV} {u : Value} (hv : rel w (XX c.Z Y β h) v β u) : rel w' X' (v.kill b) β' u :=
  rel_ext e (killP hβ v) (rel_kill b hv)

/-- a row that grew -/
theorem Res.app {b sz : Nat} {xs ys : List SV} {l l' : Loc} {w' : World} {ad : Option Addr} (hk0 : lkB h b = some (.row true sz xs)) (hl : β b = some l)
    (hsize : w.heap.size ≤ w'.heap.size) (hos : w'.os = w.os) (htape : w'.tape = w.tape) (hout : w'.output = w.output)
    (hsame : ∀ r, r < w.heap.size → ¬ (l.cap ≠ 0 ∧ r = l.r) → w'.heap[r]? = w.heap[r]?)
    (hl' : l'.cap ≠ 0 → (l'.r = l.r ∧ l.cap ≠ 0) ∨ (w.heap.size ≤ l'.r ∧ l'.r < w'.heap.size)) (had : l'.cap ≠ 0 → ad = some ⟨l'.r, 0, none⟩)
    (hk : ∀ X', Ext w (XX c.Z Y β h) w' X' → BlkOK w' X' (setβ β b l') (.row true sz ys) l') :
    Res c h n F β Y w (.osl b sz) [] (.app b (.row true sz ys)) (.slice ad l'.len l'.cap) w' (setβ β b l') := by
  obtain ⟨m', e⟩ := m.app hk0 hl hsize hos htape hout hsame hl' hk
  exact ⟨m', rel_osl.2 ⟨l', ad, setβ_same .., rfl, had⟩, fun v0 u0 h0 => kill_nms_ne (fun b' l hb hl => by rw [setβ_ne hb]; exact hl) e h0⟩

omit m in
theorem blk_grown {sz : Nat} {zs : List SV} {w' : World} {X' : Nat → Prop} {β' : Beta} {ds : List Value} {rest : Array Value} {et : TypeId} {r cap : Nat} (hs : 1 ≤ sz) (hle : zs.length ≤ cap) (hh : w'.heap[r]? = some (.cells (ds.toArray ++ rest) et (0, 0)))
    (hc : cap * sz ≤ ds.length + rest.size) (hr : relR w' X' sz zs nob ds) : BlkOK w' X' β' (.row true sz zs) ⟨r, zs.length, cap⟩ :=
  ⟨rfl, hle, hs, .inr ⟨_, et, 0, 0, hh, .inr (Nat.le_refl _), by simpa using hc, ⟨ds, rest.toList, by simp, hr⟩, fun ho => by cases ho⟩⟩

theorem Res.from_step {w1 : World} (bl : Below w.heap.size w w1) {v : SV} {ns : List Nat} {ea : EA} {u : Value} {w' : World} {β' : Beta} (r : Res c h n F β Y w1 v ns ea u w' β') : Res c h n F β Y w v ns ea u w' β' :=
  ⟨r.mem, r.val, fun v0 u0 h0 => r.keep v0 u0 (rel_ext (m.step bl).2 (nms_true (fun _ _ k => k) _) h0)⟩

omit m in
theorem zero_size (ok : EnvOK c.E) {e : TypeId} (hz : zeroFits c.E e = true) : ∃ i z, c.E.P.info? e = some i ∧ i.zero = some z ∧ i.size = (lkT c.E.tt e).size ∧ i.bytes = (lkT c.E.tt e).bytes ∧ z.cells.size = (lkT c.E.tt e).size := by
  have hne : (lkT c.E.tt e).zero ≠ .any := by
    intro h0; unfold zeroFits at hz; rw [h0] at hz; cases hz
  have hsz : (lkT c.E.tt e).zero.sz = (lkT c.E.tt e).size := by
    unfold zeroFits at hz
    split at hz
    · cases hz
    · exact beq_of hz
  obtain ⟨i, hi, h1, h2, h3⟩ := (ok.tz e hne).info
  obtain ⟨z, hz1, hz2⟩ := h3 hne
  refine ⟨i, z, hi, hz1, h1, h2, ?_⟩
  have hrv := hz2 default (fun _ => False)
  by_cases ht : ∃ vs, (lkT c.E.tt e).zero = .tup vs
  · obtain ⟨vs, ht⟩ := ht
    rw [ht] at hrv
    simp only [relV, SV.isAgg, relP] at hrv
  · have hr : rel default (fun _ => False) (lkT c.E.tt e).zero nob z := by rw [rel_eq fun vs e => ht ⟨vs, e⟩]; exact hrv
    have hp := rel_cells hne (fun vs e => ht ⟨vs, e⟩) hr
    have := relP_len _ _ hp
    rw [hsz] at this
    simpa using this

include ok in
omit m in
/-- elements behind others, in a new row -/
theorem grow_run {T e : TypeId} {ty : TypeId} (hd : (lkT c.E.tt T).d = .sl e) (hz : zeroFits c.E e = true) (hb1 : 1 ≤ (lkT c.E.tt e).bytes) {ad : Option Addr} {cap k cap' b off : Nat} {xs ys : List SV} {olds news : List Value}
    (hox : relR w (XX c.Z Y β h) (lkT c.E.tt e).size xs nob olds) (hold : xs = [] ∧ cap = 0 ∨ ∃ b0 off0, ad = some ⟨b0, off0, none⟩ ∧ cellsAt w b0 off0 olds) (hny : relR w (XX c.Z Y β h) (lkT c.E.tt e).size ys nob news)
    (hcells : cellsAt w b off news) (hk : ys.length = k) (hk0 : k ≠ 0) (hg : cap < xs.length + k) (hbound : (xs.length + k) * (lkT c.E.tt e).bytes ≤ 70368744177664) :
    ∃ ncap rest, xs.length + k ≤ ncap ∧ ncap * (lkT c.E.tt e).size ≤ (olds ++ news).length + rest.size ∧
      (Builtin.append_ #[T, T] ty #[.slice ad xs.length cap, .slice (some ⟨b, off, none⟩) k cap']).run c.E.P w = .ok (.slice (some ⟨w.heap.size, 0, none⟩) (xs.length + k) ncap) (w.drew.alloc (.cells ((olds ++ news).toArray ++ rest) e)) := by
  obtain ⟨i, z, hi, hz1, hs, hb, hzs⟩ := zero_size ok hz
  have desc := (ok.tt T (by rw [hd]; simp)).desc
  simp only [hd] at desc
  have hlo := relR_len _ _ _ hox
  have hln := relR_len _ _ _ hny
  have hmul : xs.length + k ≤ (xs.length + k) * (lkT c.E.tt e).bytes := Nat.le_mul_of_pos_right _ hb1
  have h63 : ((xs.length + k : Nat) : Int) ≤ 9223372036854775807 := by omega
  have hfit : Builtin.nextslicecap (xs.length + k) cap * i.bytes ≤ 281474976710656 := growslice_fits hg (by rw [hb]; omega)
  have hge := grownCap_ge w (xs.length + k) cap e
  refine ⟨grownCap w (xs.length + k) cap e, Builtin.zeroCells z.cells (grownCap w (xs.length + k) cap e - (xs.length + k)), hge, ?_, ?_⟩
  · rw [size_zeroCells, hzs, List.length_append, hlo, hln, hk, ← Nat.add_mul, ← Nat.add_mul]
    exact Nat.mul_le_mul_right _ (by omega)
  · have hnews : ∀ j v, news[j]? = some v → w.cell? ((⟨b, off, none⟩ : Addr).add j) = some v := fun j v hj => by rw [add_plain]; exact hcells j v hj
    by_cases hn : ad = none
    · subst hn
      rcases hold with ⟨rfl, rfl⟩ | ⟨_, _, h, _⟩
      · have : olds = [] := by simpa [relR_nil] using hox
        subst this
        have hr := run_append_nil (P := c.E.P) w T ty e i z desc hi hz1 ⟨b, off, none⟩ k cap' news (by rw [hln, hk, hs]) hnews (by omega) (by simpa using h63) (by
          have := growslice_fits (need := k) (old := 0) (bytes := i.bytes) (by omega) (by rw [hb]; simp at hbound; omega)
          rw [hb]; simp at hbound; omega)
        simpa using hr
      · cases h
    · obtain ⟨ad0, rfl⟩ := Option.ne_none_iff_exists'.1 hn
      have holds : ∀ j v, olds[j]? = some v → w.cell? (ad0.add j) = some v := by
        rcases hold with ⟨rfl, _⟩ | ⟨b0, off0, h, hc⟩
        · have : olds = [] := by simpa [relR_nil] using hox
          subst this
          intro j v hj; simp at hj
        · cases h
          intro j v hj; rw [add_plain]; exact hc j v hj
      have hr := run_append_grow (P := c.E.P) w T ty e i z desc hi hz1 ad0 xs.length cap olds (by rw [hlo, hs]) holds ⟨b, off, none⟩ k cap' news (by rw [hln, hk, hs]) hnews hg h63 hfit
      rw [hr]
      simp
end

section
variable {c : Cx} (ok : EnvOK c.E) {o : Oper} {a : Act} {sl : Slots} {h : Heap} {n : Nat} {F : Nat → Prop} {β : Beta} {Y : Nat → Prop} {w : World} (m : Mem c h F β Y w) (hF : F n)
  (hev : ∀ x ∈ o.op.operands.toList, rel w (XX c.Z Y β h) (ev c.E sl x) β (a.eval x)) {K : KE} (hK : opE c.E sl h n o.op K)
include ok m hF hev hK

theorem ok_append {cl : Call} (ho : o.op = .call cl) (hb : cl.callee = .builtin .append) : ∃ v ns ea, K v ns ea ∧ OpOK c o a h n F β Y w v ns ea := by
  rw [ho] at hK hev
  simp only [opE, hb] at hK
  split at hK
  case h_2 => exact hK.elim
  rename_i x y T T' hargs htys
  have ha : cl.args = #[x, y] := by apply Array.toList_inj.1; simpa using hargs
  have ht : cl.argTypes = #[T, T'] := by apply Array.toList_inj.1; simpa using htys
  have hx := hev x (by simp [Op.operands, Call.operands, ha])
  have hy := hev y (by simp [Op.operands, Call.operands, ha])
  split at hK
  case h_2 => exact hK.elim
  rename_i e hd
  have tok := ok.tt T (by rw [hd]; simp)
  have run1 : ∀ {val : Value} {w' : World}, T = T' → (Builtin.append_ #[T, T] o.type #[a.eval x, a.eval y]).run c.E.P w = .ok val w' → (execOp a.eval o).run c.E.P w = .ok (.value val) w' := by
    intro val w' e hr
    refine builtin_run (a := a) ho hb ?_
    rw [ha, ht, ← e]
    simp only [builtin]
    exact run_val (by simpa using hr)
  rcases rows_ok m hK hy with ⟨ady, hyu, hK⟩ | ⟨sz, ys, ady, capy, dsy, hK, hyu, hyr, hyc⟩
  · simp only at hK
    have fin : ∀ {ad : Option Addr} {len cap : Nat}, T = T' → 1 ≤ (lkT c.E.tt e).size → a.eval x = .slice ad len cap → len ≤ cap → (execOp a.eval o).run c.E.P w = .ok (.value (a.eval x)) w := by
      intro ad len cap e1 h1 hxu hle
      refine run1 e1 ?_
      rw [hxu, hyu]
      exact run_append_none tok hd (ok.ts e (by omega)) hle
    split at hK
    · rename_i b s hc he
      simp only [Bool.and_eq_true] at hc
      rw [he] at hx
      obtain ⟨l, ad, hl, hxu, had⟩ := rel_osl.1 hx
      split at hK
      case h_2 => exact hK.elim
      rename_i hb0
      obtain ⟨l', hl', hok⟩ := m.blk b _ hb0
      rw [hl] at hl'; cases hl'
      exact ⟨_, _, _, hK, .pure m (fin (beq_of hc.1) (by simpa using hc.2) hxu hok.2.1) hx⟩
    · rename_i s xs hc he
      simp only [Bool.and_eq_true] at hc
      rw [he] at hx
      obtain ⟨ad, cap, hxu, hle, hmm⟩ := rel_sl.1 hx
      exact ⟨_, _, _, hK, .pure m (fin (beq_of hc.1) (by simpa using hc.2) hxu hle) hx⟩
    · rename_i hc he
      simp only [Bool.and_eq_true] at hc
      rw [he] at hx
      exact ⟨_, _, _, hK, .pure m (fin (beq_of hc.1) (by simpa using hc.2) (rel_nils.1 hx) (Nat.le_refl _)) hx⟩
    · rename_i hc he
      simp only [Bool.and_eq_true] at hc
      rw [he] at hx
      obtain ⟨ad, hxu⟩ := rel_mt.1 hx
      exact ⟨_, _, _, hK, .pure m (fin (beq_of hc.1) (by simpa using hc.2) hxu (Nat.le_refl _)) hx⟩
    · exact hK.elim
  · simp only at hK
    split at hK
    case h_2 => exact hK.elim
    rename_i hs1 hs2 hs3 hs4
    have hsz := beq_of hs1
    subst hsz
    have h1 : 1 ≤ (lkT c.E.tt e).size := by simpa using hs2
    have hb1 : 1 ≤ (lkT c.E.tt e).bytes := by simpa using hs4
    simp only [Bool.and_eq_true] at hs3
    have e1 := beq_of hs3.1
    have hz := hs3.2
    have toke := ok.ts e (by omega)
    split at hK
    · -- an own row
      rename_i b s he
      rw [he] at hx
      split at hK
      case h_2 => exact hK.elim
      rename_i sz' xs hb0
      split at hK
      case h_2 => exact hK.elim
      rename_i hss
      have hss := beq_of hss
      subst hss
      unfold SideVC at hK
      obtain ⟨hbound, hK⟩ := hK
      obtain ⟨l, ad, hl, hxu, had⟩ := rel_osl.1 hx
      obtain ⟨l', hl', hok⟩ := m.blk b _ hb0
      rw [hl] at hl'; cases hl'
      obtain ⟨g1, g2, g3, g4⟩ := hok
      refine ⟨_, _, _, hK, ?_⟩
      by_cases hys : ys = []
      · subst hys
        have hr := run1 e1 (by rw [hxu, hyu]; exact run_append_none (len := l.len) (cap := l.cap) tok hd toke g2)
        refine .value hr (Res.app m hb0 hl (l' := l) (Nat.le_refl _) rfl rfl rfl (fun _ _ _ => rfl) ?_ had ?_)
        · intro hc
          exact .inl ⟨rfl, hc⟩
        · intro X' e'
          rw [List.append_nil]
          refine ⟨g1, g2, g3, g4.imp id ?_⟩
          rintro ⟨cs, ty, lo, hi, f1, f2, f3, ⟨c1, c2, f4, f5⟩, f6⟩
          exact ⟨cs, ty, lo, hi, f1, f2, f3, ⟨c1, c2, f4, relR_ext e' _ _ _ (nmsL_true (fun _ _ k => k) _) f5⟩, fun ho => by cases ho⟩
      · rcases hyc with hyc | ⟨b2, off2, rfl, hcells⟩
        · exact absurd hyc hys
        have hk0 : ys.length ≠ 0 := fun e => hys (List.length_eq_zero_iff.1 e)
        have hln := relR_len _ _ _ hyr
        by_cases hroom : l.len + ys.length ≤ l.cap
        · have hcap : l.cap ≠ 0 := by omega
          rcases g4 with g4 | ⟨cs, ty, lo, hi, f1, f2, f3, ⟨c1, c2, f4, f5⟩, f6⟩
          · exact absurd g4 hcap
          have hl1 := relR_len _ _ _ f5
          have hmulroom : (l.len + ys.length) * (lkT c.E.tt e).size ≤ l.cap * (lkT c.E.tt e).size := Nat.mul_le_mul_right _ hroom
          have hc2 : dsy.length ≤ c2.length := by
            have := congrArg List.length f4
            rw [Nat.add_mul, g1] at hmulroom
            simp at this
            omega
          have hr := run1 e1 (by
            rw [hxu, hyu, had hcap]
            exact run_append_in (len := l.len) (cap := l.cap) (m := ys.length) (pre := c1) (mid := c2.take dsy.length) (post := c2.drop dsy.length) (news := dsy) tok hd toke f1 f2 (by rw [f4]; simp) (by rw [hl1, g1]) (by simp; omega) hln hcells (relR_one _ _ _ hyr) hroom)
          refine .value hr (Res.app m hb0 hl (l' := ⟨l.r, l.len + ys.length, l.cap⟩) (by rw [put_size]; exact Nat.le_refl _) rfl rfl rfl (fun r hr hne => put_ne fun e => hne ⟨hcap, e⟩) (fun _ => .inl ⟨rfl, hcap⟩) (fun _ => rfl) fun X' e' => ?_)
          refine ⟨by simp [g1], hroom, g3, .inr ⟨_, ty, lo, hi, put_same (heap_lt f1), ?_, ?_, ⟨c1 ++ dsy, c2.drop dsy.length, by simp, ?_⟩, fun ho => by cases ho⟩⟩
          · have := congrArg List.length f4
            simp at this
            rcases f2 with f2 | f2
            · left; simp; omega
            · exact .inr f2
          · have := congrArg List.length f4
            simp at this ⊢
            omega
          · exact relR_append (relR_ext e' _ _ _ (nmsL_true (fun _ _ k => k) _) f5) (relR_ext e' _ _ _ (nmsL_true (fun _ _ k => k) _) hyr)
        · have hold : xs = [] ∧ l.cap = 0 ∧ (∃ olds, relR w (XX c.Z Y β h) (lkT c.E.tt e).size xs nob olds ∧ olds = []) ∨ ∃ olds, relR w (XX c.Z Y β h) (lkT c.E.tt e).size xs nob olds ∧ ∃ b0 off0, ad = some ⟨b0, off0, none⟩ ∧ cellsAt w b0 off0 olds := by
            by_cases hcap : l.cap = 0
            · have : xs = [] := List.length_eq_zero_iff.1 (by omega)
              subst this
              exact .inl ⟨rfl, hcap, [], by simp [relR_nil], rfl⟩
            · rcases g4 with g4 | ⟨cs, ty, lo, hi, f1, f2, f3, ⟨c1, c2, f4, f5⟩, f6⟩
              · exact absurd g4 hcap
              refine .inr ⟨c1, f5, l.r, 0, had hcap, fun j v hj => ?_⟩
              have hjl : j < c1.length := by
                rcases Nat.lt_or_ge j c1.length with g | g
                · exact g
                · rw [List.getElem?_eq_none g] at hj; cases hj
              have : cs[j]? = some v := by rw [← Array.getElem?_toList, f4, List.getElem?_append_left hjl]; exact hj
              simp [World.cell?, f1, this]
          have hold' : ∃ olds, relR w (XX c.Z Y β h) (lkT c.E.tt e).size xs nob olds ∧ (xs = [] ∧ l.cap = 0 ∨ ∃ b0 off0, ad = some ⟨b0, off0, none⟩ ∧ cellsAt w b0 off0 olds) := by
            rcases hold with ⟨h1, h2, olds, h3, _⟩ | ⟨olds, h1, h2⟩
            · exact ⟨olds, h3, .inl ⟨h1, h2⟩⟩
            · exact ⟨olds, h1, .inr h2⟩
          obtain ⟨olds, hox, hold''⟩ := hold'
          obtain ⟨ncap, rest, q1, q2, q3⟩ := grow_run (ty := o.type) (cap' := capy) ok hd hz hb1 hox hold'' hyr hcells rfl hk0 (by omega) hbound
          have hr := run1 e1 (by rw [hxu, hyu, g1]; exact q3)
          have bl : Below w.heap.size w (w.drew.alloc (.cells ((olds ++ dsy).toArray ++ rest) e)) := ((Below.refl _ _).drew).alloc (by simp) _
          refine .value hr (Res.app m hb0 hl (l' := ⟨w.heap.size, xs.length + ys.length, ncap⟩) bl.size rfl rfl rfl (fun r hr _ => bl.block r hr) (fun _ => .inr ⟨Nat.le_refl _, by simp⟩) (fun _ => rfl) fun X' e' => ?_)
          have hlen : xs.length + ys.length = (xs ++ ys).length := by simp
          rw [hlen]
          exact blk_grown (zs := xs ++ ys) (ds := olds ++ dsy) (rest := rest) (et := e) h1 (by rw [← hlen]; exact q1) (heap_alloc_new w.drew _) q2
            (relR_append (relR_ext e' _ _ _ (nmsL_true (fun _ _ k => k) _) hox) (relR_ext e' _ _ _ (nmsL_true (fun _ _ k => k) _) hyr))
    all_goals first | (exact hK.elim; done) | skip
    all_goals
      rename_i he
      rw [he] at hx
      have hxu : ∃ ad, a.eval x = .slice ad 0 0 := by
        first
          | exact ⟨none, rel_nils.1 hx⟩
          | exact rel_mt.1 hx
      obtain ⟨ad, hxu⟩ := hxu
      unfold SideVC at hK
      obtain ⟨hbound, hK⟩ := hK
      refine ⟨_, _, _, hK, ?_⟩
      by_cases hys : ys = []
      · subst hys
        have hr := run1 e1 (by rw [hxu, hyu]; exact run_append_none (len := 0) (cap := 0) tok hd toke (Nat.le_refl _))
        obtain ⟨m', e'⟩ := m.newNil hF (sz := (lkT c.E.tt e).size) h1
        have hn : β n = none := m.fresh n hF
        have hβ : ∀ b l', β b = some l' → setβ β n ⟨0, 0, 0⟩ b = some l' := fun b l' hb => by
          rw [setβ_ne]; · exact hb
          · rintro rfl; rw [hn] at hb; cases hb
        exact .value hr ⟨m', rel_osl.2 ⟨_, ad, setβ_same .., rfl, fun hc => absurd rfl hc⟩, fun v0 u0 h0 => rel_ext e' (nms_true hβ _) h0⟩
      · rcases hyc with hyc | ⟨b2, off2, rfl, hcells⟩
        · exact absurd hyc hys
        have hk0 : ys.length ≠ 0 := fun e => hys (List.length_eq_zero_iff.1 e)
        obtain ⟨ncap, rest, q1, q2, q3⟩ := grow_run (ty := o.type) (cap' := capy) (ad := ad) (xs := []) (olds := []) (cap := 0) ok hd hz hb1 (by simp [relR_nil]) (.inl ⟨rfl, rfl⟩) hyr hcells rfl hk0 (by simp; omega) (by simpa using hbound)
        simp only [List.length_nil, Nat.zero_add, List.nil_append] at q1 q2 q3
        have hr := run1 e1 (by rw [hxu, hyu]; exact q3)
        have bl : Below w.heap.size w w.drew := (Below.refl _ _).drew
        have mm := (m.step bl).1
        refine .value hr (Res.from_step m bl (Res.newRow mm hF h1 rfl q1 (by simpa using q2) (ds := dsy) (rest := rest.toList) (by simp) (relR_ext (m.step bl).2 _ _ _ (nmsL_true (fun _ _ k => k) _) hyr)))
end
end Go.Sx
