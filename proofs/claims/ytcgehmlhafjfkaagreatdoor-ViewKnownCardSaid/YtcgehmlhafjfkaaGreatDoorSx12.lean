/-
  EACH OPERATION OF THE EXECUTOR IS SOUND: stores, indices, new blocks. Generic: no program in sight. An own text.
-/
import Derived.Test.YtcgehmlhafjfkaaGreatDoorSx11
set_option linter.unusedSectionVars false
namespace Go.Sx
open Go.RowKit (Below)

theorem memb_false {b : Nat} : ∀ {ns : List Nat}, memb b ns = false → ∀ x ∈ ns, x ≠ b
  | [], _, _, hx => by cases hx
  | y :: r, h, x, hx => by
    simp only [memb] at h
    cases hb : Nat.beq b y with
    | true => simp only [hb] at h; cases h
    | false =>
      simp only [hb] at h
      rcases List.mem_cons.1 hx with rfl | hx
      · exact (beq_ne hb).symm
      · exact memb_false h x hx

theorem lkB_ice_ne {b : Nat} : ∀ {ns : List Nat} {h : Heap}, (∀ x ∈ ns, x ≠ b) → lkB (iceB ns h) b = lkB h b
  | [], _, _ => rfl
  | y :: r, h, hn => by
    simp only [iceB]
    cases hy : lkB h y with
    | none => exact lkB_ice_ne fun x hx => hn x (by simp [hx])
    | some k =>
      simp only
      rw [lkB_ice_ne fun x hx => hn x (by simp [hx]), lkB_stB hy, if_neg (hn y (by simp)).symm]

section
variable {c : Cx} {h : Heap} {n : Nat} {F : Nat → Prop} {β : Beta} {Y : Nat → Prop} {w : World} (m : Mem c h F β Y w) (hF : F n)
include m

theorem Res.ice {v : SV} {ns : List Nat} {ea : EA} {u : Value} {w' : World} {β' : Beta} (r : Res c (iceB ns h) n F β Y w v [] ea u w' β') : Res c h n F β Y w v ns ea u w' β' := by
  obtain ⟨_, e, _⟩ := m.ice ns
  have he : hE [] ea (iceB ns h) n = hE ns ea h n := by cases ea <;> rfl
  obtain ⟨r1, r2, r3⟩ := r
  rw [he] at r1 r2 r3
  exact ⟨r1, r2, fun v0 u0 h0 => r3 v0 u0 (rel_ext e (nms_true (fun _ _ k => k) _) h0)⟩

theorem Res.setRow {b sz : Nat} {xs xs' : List SV} {l : Loc} {cs : Array Value} {ty : TypeId} {lo hi : Nat} {c1 c2 : List Value} (hb : lkB h b = some (.row true sz xs)) (hl : β b = some l) (hcap : l.cap ≠ 0)
    (hlen : xs'.length = xs.length) (hw : w.heap[l.r]? = some (.cells cs ty (lo, hi))) (hf : cs.size ≤ lo ∨ hi ≤ lo) (hs : (c1 ++ c2).length = cs.size) (hp : relR w (XX c.Z Y β h) sz xs' nob c1) :
    Res c h n F β Y w .any [] (.set b (.row true sz xs')) undef (World.put w l.r (.cells (c1 ++ c2).toArray ty (lo, hi))) β := by
  obtain ⟨l', hl', hok⟩ := m.blk b _ hb
  rw [hl] at hl'; cases hl'
  obtain ⟨g1, g2, g3, g4⟩ := hok
  rcases g4 with g4 | ⟨cs0, ty0, lo0, hi0, f1, f2, f3, f4, f5⟩
  · exact absurd g4 hcap
  rw [f1] at hw; cases hw
  obtain ⟨m', e⟩ := m.set (k := .row true sz xs') (o' := .cells (c1 ++ c2).toArray ty (lo, hi)) hb hl (by simp [live, hcap]) (by simp [live, hcap]) f1 (fun e hh =>
    ⟨by rw [g1, hlen], g2, g3, .inr ⟨_, ty, lo, hi, hh, by simpa [← hs] using hf, by simpa [← hs] using f3, ⟨c1, c2, by simp, relR_ext e _ _ _ (nmsL_true (fun _ _ k => k) _) hp⟩, fun ho => by cases ho⟩⟩)
  exact ⟨m', trivial, fun v0 u0 h0 => rel_ext e (nms_true (fun _ _ k => k) _) h0⟩
end

theorem run_storeAt {P : Program} {T : TypeId} {ti : TI} (tok : TIok P T ti) {w : World} {r off : Nat} {u : Value} {cs : Array Value} {ty : TypeId} {lo hi : Nat} {pre mid post : List Value}
    (hw : w.heap[r]? = some (.cells cs ty (lo, hi))) (hf : cs.size ≤ lo ∨ hi ≤ lo) (hc : cs.toList = pre ++ mid ++ post) (hp : pre.length = off) (hm : mid.length = u.cells.toList.length) (hs : u.cells.toList.length = ti.size) (h1 : ∀ x ∈ u.cells.toList, x.oneCell' = true) :
    (Instr.storeAt T (.pointer (some ⟨r, off, none⟩)) u).run P w = .ok () (World.put w r (.cells (pre ++ u.cells.toList ++ post).toArray ty (lo, hi))) := by
  have hsz : u.cells.size = ti.size := by simpa using hs
  have := run_storeCells (P := P) (off := off) u.cells.toList w cs 0 pre mid post hw hf hc (by simpa using hp) hm h1
  simp only [Instr.storeAt, Instr.sureAddr, storeVar, Sem.run_bind, Sem.run_pure, Result.andThen_ok, tok.sz]
  rw [if_neg (by simp [hsz])]
  simpa using this

section
variable {c : Cx} (ok : EnvOK c.E) {o : Oper} {a : Act} {sl : Slots} {h : Heap} {n : Nat} {F : Nat → Prop} {β : Beta} {Y : Nat → Prop} {w : World} (m : Mem c h F β Y w) (hF : F n)
  (hev : ∀ x ∈ o.op.operands.toList, rel w (XX c.Z Y β h) (ev c.E sl x) β (a.eval x)) {K : KE} (hK : opE c.E sl h n o.op K)
include ok m hF hev hK

omit ok hev hK in
theorem storeV_ok {T : TypeId} {b : Nat} {v u : SV} {p : List Step} {l : Loc} {val : Value} {K : KE} (tok : TIok c.E.P T (lkT c.E.tt T)) (hk : storeV h b v p u K) (hb : lkB h b = some (.var true v)) (hl : β b = some l)
    (hcells : relP w (XX c.Z Y β h) u β val.cells.toList) (hlen : val.cells.toList.length = (lkT c.E.tt T).size) :
    ∃ v ns ea w', K v ns ea ∧ (Instr.storeAt T (.pointer (some ⟨l.r, pOff p, none⟩)) val).run c.E.P w = .ok () w' ∧ Res c h n F β Y w v ns ea undef w' β := by
  obtain ⟨l', hl', hok⟩ := m.blk b _ hb
  rw [hl] at hl'; cases hl'
  obtain ⟨cs, ty, lo, hi, g1, g2, g3, g4⟩ := hok
  have hv1 : val.cells.size = val.cells.toList.length := by simp
  unfold storeV at hk
  split at hk
  · rename_i hcr
    obtain ⟨v', pre, mid, post, k1, k2, k3, k4, k5⟩ := upd_flat u _ hcells p v _ _ hcr hk g3
    refine ⟨_, _, _, _, k1, run_storeAt tok g1 g2 k2 k3 k4 hlen (relP_one _ _ hcells), ?_⟩
    exact Res.setVar m hb hl g1 g2 (by have := congrArg List.length k2; simp at this k4 ⊢; omega) k5
  · obtain ⟨u', ns', k0, _, k⟩ := frz_ok m 60 u [] _ hk
    split at k0
    case h_2 => exact k0.elim
    rename_i hmb
    have hcold := m.cold ns'
    have hc' := (k _ hcold).1 _ hcells
    obtain ⟨v', pre, mid, post, k1, k2, k3, k4, k5⟩ := upd_nob u' _ hc' p v _ _ β k0 (relP_ext hcold.ext _ _ (nms_true (fun _ _ k => k) _) g3)
    refine ⟨_, _, _, _, k1, run_storeAt tok g1 g2 k2 k3 k4 hlen (relP_one _ _ hcells), ?_⟩
    refine Res.ice m ?_
    exact Res.setVar (m.ice ns').1 (by rw [lkB_ice_ne (memb_false hmb)]; exact hb) hl g1 g2 (by have := congrArg List.length k2; simp at this k4 ⊢; omega) k5

omit ok hev hK in
theorem storeR_ok {T : TypeId} {b sz : Nat} {xs : List SV} {u : SV} {p : List Step} {l : Loc} {val : Value} {K : KE} (tok : TIok c.E.P T (lkT c.E.tt T)) (hk : storeR h b sz xs p u K) (hb : lkB h b = some (.row true sz xs)) (hl : β b = some l)
    (hcells : relP w (XX c.Z Y β h) u β val.cells.toList) (hlen : val.cells.toList.length = (lkT c.E.tt T).size) :
    ∃ v ns ea w', K v ns ea ∧ (Instr.storeAt T (.pointer (some ⟨l.r, pOff p, none⟩)) val).run c.E.P w = .ok () w' ∧ Res c h n F β Y w v ns ea undef w' β := by
  obtain ⟨l', hl', hok⟩ := m.blk b _ hb
  rw [hl] at hl'; cases hl'
  obtain ⟨g1, g2, g3, g4⟩ := hok
  unfold storeR at hk
  obtain ⟨u', ns', k0, _, k⟩ := frz_ok m 60 u [] _ hk
  split at k0
  case h_2 => exact k0.elim
  rename_i i s p hmb
  split at k0
  case h_2 => exact k0.elim
  rename_i hss
  have hss := beq_of hss
  have hcold := m.cold ns'
  have hc' := (k _ hcold).1 _ hcells
  unfold IdxVC at k0
  obtain ⟨s0, _, hs0, k0⟩ := k0
  simp only [Int.toNat_natCast] at hs0
  have hcap : l.cap ≠ 0 := by
    have : i < xs.length := by
      rcases Nat.lt_or_ge i xs.length with g | g
      · exact g
      · rw [List.getElem?_eq_none g] at hs0; cases hs0
    omega
  rcases g4 with g4 | ⟨cs, ty, lo, hi, f1, f2, f3, ⟨c1, c2, f4, f5⟩, f6⟩
  · exact absurd g4 hcap
  have f5' := relR_ext hcold.ext _ _ _ (nmsL_true (fun _ _ k => k) _) f5
  obtain ⟨d1, d2, d3, rfl, e1, e2, e3, e4⟩ := relR_get f5' hs0
  obtain ⟨v', pre, mid, post, k1, rfl, k3, k4, k5⟩ := upd_nob u' _ hc' p s0 _ _ nob k0 e3
  have k4' : mid.length = val.cells.size := by simpa using k4
  have e5 := e4 v' (pre ++ val.cells.toList ++ post) (by rw [← e2]; simp [k4']) k5
  have hrun := run_storeAt (pre := d1 ++ pre) (mid := mid) (post := post ++ d3 ++ c2) (r := l.r) (off := pOff (.idx i s :: p)) tok f1 f2 (by rw [f4]; simp) (by simp [e1, k3, pOff, hss]) k4 hlen (relP_one _ _ hcells)
  refine ⟨_, _, _, _, k1, hrun, ?_⟩
  refine Res.ice m ?_
  have hsetRow := Res.setRow (n := n) (m.ice ns').1 (xs' := xs.set i v') (c1 := d1 ++ (pre ++ val.cells.toList ++ post) ++ d3) (c2 := c2) (by rw [lkB_ice_ne (memb_false hmb)]; exact hb) hl hcap (by simp) f1 f2
    (by have := congrArg List.length f4; simp at this ⊢; omega) e5
  simpa using hsetRow

theorem ok_store {T : TypeId} {x y : Operand} (ho : o.op = .store T x y) : ∃ v ns ea, K v ns ea ∧ OpOK c o a h n F β Y w v ns ea := by
  rw [ho] at hK hev
  simp only [opE] at hK
  have hx := hev x (by simp [Op.operands])
  have hy := hev y (by simp [Op.operands])
  have skip : ∀ {w' : World}, (Instr.storeAt T (a.eval x) (a.eval y)).run c.E.P w = .ok () w' → (execOp a.eval o).run c.E.P w = .ok .skip w' := by
    intro w' hr
    simp only [execOp, ho, Sem.run_bind, hr, Result.andThen_ok, Sem.run_pure]
  split at hK
  case h_2 => exact hK.elim
  rename_i b p hone he
  have tok := ok.ts T (by have : 1 ≤ (lkT c.E.tt T).size := (by simpa using hone); omega)
  rw [he] at hx
  obtain ⟨l, hl, hu⟩ := rel_ptr.1 hx
  rw [hu] at skip
  split at hK
  · rename_i v hb
    obtain ⟨hn1, hn2, hK⟩ := solid_iff hK
    split at hK
    case h_2 => exact hK.elim
    rename_i hsz
    have hcells := rel_cells hn1 hn2 hy
    have hlen : (a.eval y).cells.toList.length = (lkT c.E.tt T).size := by rw [relP_len _ _ hcells, beq_of hsz]
    obtain ⟨v1, ns, ea, w', k1, k2, k3⟩ := storeV_ok m hF tok hK hb hl hcells hlen
    exact ⟨_, _, _, k1, .skip (β' := β) (skip k2) k3⟩
  · rename_i sz xs hb
    obtain ⟨hn1, hn2, hK⟩ := solid_iff hK
    split at hK
    case h_2 => exact hK.elim
    rename_i hsz
    have hcells := rel_cells hn1 hn2 hy
    have hlen : (a.eval y).cells.toList.length = (lkT c.E.tt T).size := by rw [relP_len _ _ hcells, beq_of hsz]
    obtain ⟨v1, ns, ea, w', k1, k2, k3⟩ := storeR_ok m hF tok hK hb hl hcells hlen
    exact ⟨_, _, _, k1, .skip (β' := β) (skip k2) k3⟩
  · exact hK.elim

theorem ok_indexAddr {T : TypeId} {x y : Operand} (ho : o.op = .indexAddr T x y) : ∃ v ns ea, K v ns ea ∧ OpOK c o a h n F β Y w v ns ea := by
  rw [ho] at hK hev
  simp only [opE] at hK
  have hx := hev x (by simp [Op.operands])
  have hy := hev y (by simp [Op.operands])
  split at hK
  case h_2 => exact hK.elim
  rename_i k i hi
  rw [hi, relP_int] at hy
  have vrun : ∀ {val : Value}, (Instr.indexAt T (a.eval x) (.int k i)).run c.E.P w = .ok val w → (execOp a.eval o).run c.E.P w = .ok (.value val) w := by
    intro val hr
    simp only [execOp, ho, hy]
    exact run_val hr
  split at hK
  · rename_i e hd
    have tok := ok.tt T (by rw [hd]; simp)
    split at hK
    · rename_i sz xs he
      rw [he] at hx
      split at hK
      case h_2 => exact hK.elim
      rename_i hsz h1
      have hsz := beq_of hsz
      have h1 : 1 ≤ sz := by simpa using h1
      have toke := ok.ts e (by omega)
      unfold IdxVC at hK
      obtain ⟨s, h0, hs, hK⟩ := hK
      obtain ⟨ad, cap, hu, hle, hmem⟩ := rel_sl.1 hx
      have hlt : i.toNat < xs.length := by
        rcases Nat.lt_or_ge i.toNat xs.length with g | g
        · exact g
        · rw [List.getElem?_eq_none g] at hs; cases hs
      rcases hmem with rfl | ⟨b, off, ds, rfl, hX, hb, hc, hr⟩
      · simp at hs
      · obtain ⟨c1, c2, c3, rfl, g1, g2, g3, _⟩ := relR_get hr hs
        refine ⟨_, _, _, hK, .pure m (u := .pointer (some ⟨b, off + i.toNat * (lkT c.E.tt e).size, none⟩)) (vrun ?_) (rel_iptr.2 ⟨b, _, c2, rfl, hX, hb, ?_, g3⟩)⟩
        · rw [hu]; exact indexAt_slice_run tok hd toke h0 (by omega)
        · rw [← hsz, ← g1]; exact cellsAt_mid hc rfl
    · rename_i b sz he
      rw [he] at hx
      split at hK
      case h_2 => exact hK.elim
      rename_i own sz' xs hb hc
      simp only [Bool.and_eq_true] at hc
      have hsz := beq_of hc.1
      have h1 : 1 ≤ sz := by simpa using hc.2
      have toke := ok.ts e (by omega)
      unfold SideVC at hK
      obtain ⟨⟨h0, hlt⟩, hK⟩ := hK
      obtain ⟨l, ad, hl, hu, had⟩ := rel_osl.1 hx
      obtain ⟨l', hl', hok⟩ := m.blk b _ hb
      rw [hl] at hl'; cases hl'
      obtain ⟨g1, g2, g3, g4⟩ := hok
      have hcap : l.cap ≠ 0 := by omega
      refine ⟨_, _, _, hK, .pure m (u := .pointer (some ⟨l.r, 0 + i.toNat * (lkT c.E.tt e).size, none⟩)) (vrun ?_) (rel_ptr.2 ⟨l, hl, ?_⟩)⟩
      · rw [hu, had hcap]; exact indexAt_slice_run tok hd toke h0 (by omega)
      · simp [pOff, hsz]
    · exact hK.elim
  · rename_i q e hd
    have tok := ok.tt T (by rw [hd]; simp)
    split at hK
    · rename_i b p h1 he
      have h1 : 1 ≤ (lkT c.E.tt e).size := by simpa using h1
      have toke := ok.ts e (by omega)
      rw [he] at hx
      unfold SideVC at hK
      obtain ⟨⟨h0, hlt⟩, hK⟩ := hK
      obtain ⟨l, hl, hu⟩ := rel_ptr.1 hx
      refine ⟨_, _, _, hK, .pure m (u := .pointer (some ⟨l.r, pOff p + i.toNat * (lkT c.E.tt e).size, none⟩)) (vrun ?_) (rel_ptr.2 ⟨l, hl, ?_⟩)⟩
      · rw [hu]; exact indexAt_array_run tok hd toke h0 hlt
      · simp [pOff_append, pOff]
    · rename_i t h1 he
      have h1 : 1 ≤ (lkT c.E.tt e).size := by simpa using h1
      have toke := ok.ts e (by omega)
      rw [he] at hx
      unfold SideVC at hK
      obtain ⟨⟨h0, hlt⟩, hK⟩ := hK
      obtain ⟨b, o1, ds, hu, hX, hb, hc, hp⟩ := rel_iptr.1 hx
      obtain ⟨u, pre, mid, post, k1, k2, k3, k4⟩ := nav_ok _ _ _ _ hK hp
      have hoff : pre.length = i.toNat * (lkT c.E.tt e).size := by rw [k3]; simp [pOff]
      refine ⟨_, _, _, k1, .pure m (u := .pointer (some ⟨b, o1 + i.toNat * (lkT c.E.tt e).size, none⟩)) (vrun ?_) (rel_iptr.2 ⟨b, _, mid, rfl, hX, hb, ?_, k4⟩)⟩
      · rw [hu]; exact indexAt_array_run tok hd toke h0 hlt
      · rw [← hoff]; exact cellsAt_mid hc k2
    · exact hK.elim
  · exact hK.elim

include ok in
theorem ok_index {T : TypeId} {x y : Operand} (ho : o.op = .index T x y) : ∃ v ns ea, K v ns ea ∧ OpOK c o a h n F β Y w v ns ea := by
  rw [ho] at hK hev
  simp only [opE] at hK
  have hx := hev x (by simp [Op.operands])
  have hy := hev y (by simp [Op.operands])
  split at hK
  · rename_i k i s hd hi he
    have desc := (ok.tt T (by rw [hd]; simp)).desc
    simp only [hd] at desc
    rw [hi, relP_int] at hy
    rw [he, rel_str] at hx
    unfold ByteVC at hK
    obtain ⟨b, h0, hb, hK⟩ := hK
    refine ⟨_, _, _, hK, .pure m (u := .int .u8 b.toNat) ?_ (relP_int.2 rfl)⟩
    simp only [execOp, ho, hx, hy]
    refine run_val ?_
    have hlt : i.toNat < s.length := by
      rcases Nat.lt_or_ge i.toNat s.length with g | g
      · exact g
      · rw [List.getElem?_eq_none g] at hb; cases hb
    have hsz : (⟨s.toArray⟩ : ByteArray).size = s.length := by simp [ByteArray.size]
    rw [run_index_string (P := c.E.P) w T _ k i desc, dif_pos ⟨h0, by rw [hsz]; omega⟩]
    congr 3
    have : s[i.toNat]'hlt = b := by rw [List.getElem?_eq_getElem hlt] at hb; exact Option.some.inj hb
    rw [← this]
    rfl
  · rename_i mm e kk i m0 sz xs hd hi he
    rw [hi, relP_int] at hy
    rw [he] at hx
    split at hK
    case h_2 => exact hK.elim
    rename_i hsz0
    rw [Bool.and_eq_true] at hsz0
    obtain ⟨hmm, hsz0⟩ := hsz0
    have := beq_of hmm; subst this
    unfold IdxVC at hK
    obtain ⟨s, h0, hs, hK⟩ := hK
    split at hK
    case h_2 => exact hK.elim
    rename_i hsz
    obtain ⟨hd', hag, hK⟩ := load_kind hK
    have tok := ok.tt T (by rw [hd]; simp)
    have tok' := ok.tt e hd'
    obtain ⟨cs, hu, hp⟩ := (rel_agg rfl).1 hx
    simp only [relP] at hp
    obtain ⟨c1, c2, c3, hc, g1, g0, g2, _⟩ := relR_get hp.2 hs
    have g2 := relP_of_nob (β := β) g2
    have hone : aggT (lkT c.E.tt e).d = false → (lkT c.E.tt e).size = 1 := by
      intro hh
      rw [← beq_of hsz]
      rw [hag] at hh
      cases s <;> first | rfl | cases hh
    have hlen := relP_len _ _ g2
    have r1 := run_part tok' hd' (cs := cs) (pre := c1) (mid := c2) (post := c3) hc (by rw [hlen, beq_of hsz]) hone w
    refine ⟨_, _, _, hK, .pure m (u := cellsVal (aggT (lkT c.E.tt e).d) c2) ?_ (by rw [hag]; exact rel_cellsVal g2 fun hh => by rw [hlen, beq_of hsz]; exact hone (hag ▸ hh))⟩
    have desc := tok.desc
    simp only [hd] at desc
    simp only [execOp, ho, hu, hy]
    refine run_val ?_
    have hlt : i.toNat < xs.length := by
      rcases Nat.lt_or_ge i.toNat xs.length with g | g
      · exact g
      · rw [List.getElem?_eq_none g] at hs; cases hs
    rw [g1, beq_of hsz0] at r1
    simp only [Instr.index, asIntOf, Sem.run_bind, Sem.run_pure, Result.andThen_ok, run_underlying desc.1]
    rw [if_pos ⟨h0, by have := hp.1; omega⟩]
    simp only [Sem.run_bind, tok'.sz, Result.andThen_ok]
    exact r1
  · exact hK.elim
end
end Go.Sx
