/-
  A STORE TO A VARIABLE THAT THE REGION ITSELF MADE CHANGES PLACES WITH WHAT CANNOT SEE IT. Generic: no program in sight. An own text.
-/
import Derived.Test.YtcgehmlhafjfkaaGreatDoorSx28b
namespace Go.Sx

section
variable {E : Env} {all : List Oper}

theorem frS_ok {y : Oper} {i : Nat} (h : frS all y = some i) : ∃ T0 t v, y.op = .store T0 (.tmp t) v ∧ (∃ o, all[i]? = some o ∧ o.dst = some t ∧ o.guard = none ∧ ((∃ T, o.op = .alloc T) ∨ ∃ T x, o.op = .box T x)) ∧ ∀ j o, all[j]? = some o → o.dst = some t → j = i := by
  unfold frS at h
  split at h
  · rename_i T0 t v e
    exact ⟨T0, t, v, e, mkAt_some (pre := []) rfl h (fun j o hj => by simp at hj) (fun j hj => by cases hj)⟩
  · cases h

theorem store_same {sl : Slots} {h h' : Heap} {m T0 t f : Nat} {x : Operand} {v : SV} {ns : List Nat} {ea : EA} (ht : lk sl t = .ptr f []) (hf : lkB h' f = lkB h f) (r : OpR E sl h m (.store T0 (.tmp t) x) v ns ea) : OpR E sl h' m (.store T0 (.tmp t) x) v ns ea := by
  intro K k
  have := r K k
  have he : ev E sl (.tmp t) = .ptr f [] ∨ ev E sl (.tmp t) = .any := by
    simp only [ev]
    split
    · exact .inl ht
    · exact .inr rfl
  simp only [opE] at this ⊢
  rcases he with he | he
  · rw [he] at this ⊢
    split at this
    case h_2 => exact this.elim
    rename_i e1 e2
    cases e2
    try simp only [e1]
    rw [hf]
    split at this
    · rename_i e3
      try simp only [e3]
      obtain ⟨k1, g⟩ := solid_pf this
      refine g _ ?_
      split at k1
      case h_2 => exact k1.elim
      rename_i e4
      try simp only [e4]
      simpa only [storeV, crosses] using k1
    · obtain ⟨k1, g⟩ := solid_pf this
      split at k1
      case h_2 => exact k1.elim
      unfold storeR at k1
      obtain ⟨v', ns', k2, _⟩ := frz_pf k1
      split at k2
      · rename_i hh; cases hh
      · exact k2.elim
    · exact this.elim
  · rw [he] at this
    split at this
    · rename_i hh; cases hh
    · exact this.elim

theorem store_out {sl : Slots} {h : Heap} {m T0 t f : Nat} {x : Operand} {v : SV} {ns : List Nat} {ea : EA} (ht : lk sl t = .ptr f []) (r : OpR E sl h m (.store T0 (.tmp t) x) v ns ea) : ns = [] ∧ ∃ k k0, ea = .set f k ∧ lkB h f = some k0 := by
  have he : ev E sl (.tmp t) = .ptr f [] ∨ ev E sl (.tmp t) = .any := by
    simp only [ev]
    split
    · exact .inl ht
    · exact .inr rfl
  have := r (fun a b c => a = v ∧ b = ns ∧ c = ea) ⟨rfl, rfl, rfl⟩
  simp only [opE] at this
  rcases he with he | he
  · rw [he] at this
    split at this
    case h_2 => exact this.elim
    rename_i e1 e2
    cases e2
    split at this
    · rename_i e3
      obtain ⟨k1, g⟩ := solid_pf this
      split at k1
      case h_2 => exact k1.elim
      simp only [storeV, crosses] at k1
      obtain ⟨s, ⟨_, k2, k3⟩, _⟩ := upd_pf k1
      exact ⟨k2.symm, _, _, k3.symm, e3⟩
    · obtain ⟨k1, g⟩ := solid_pf this
      split at k1
      case h_2 => exact k1.elim
      unfold storeR at k1
      obtain ⟨v', ns', k2, _⟩ := frz_pf k1
      split at k2
      · rename_i hh; cases hh
      · exact k2.elim
    · exact this.elim
  · rw [he] at this
    split at this
    · rename_i hh; cases hh
    · exact this.elim

/-- what an operation does to the heap, its operands' names known -/
theorem GO.facts2 {S : Nat → Prop} {o : Oper} {sl : Slots} {h : Heap} {m : Nat} {x : Out} (g : GO E all o sl h m x) (hk : kind o.op ≤ 2) (e : HS S h h) (hz : ∀ T, (lkT E.tt T).zero.nmd S) (hn : ∀ x ∈ opnds o.op, (ev E sl x).nmd S) (hn2 : ∀ d (t : Option Bool), ∀ x ∈ opnds o.op, (ev E ((d, B t) :: sl) x).nmd S) :
    (∀ b ∈ x.ns, S b) ∧ (x.ea = .nil ∨ ∃ k, x.ea = .new k) := by
  have fin : ∀ (sl' : Slots) (v : SV) (ns : List Nat) (ea : EA), OpR E sl' h m o.op v ns ea → (∀ x ∈ opnds o.op, (ev E sl' x).nmd S) → (∀ b ∈ ns, S b) ∧ (ea = .nil ∨ ∃ k, ea = .new k) := by
    intro sl' v ns ea r hn
    have := opE_facts e hz hn (r (fun v' ns' ea' => ns' = ns ∧ ea' = ea) ⟨rfl, rfl⟩)
    obtain ⟨v', ns', ea', ⟨k1, rfl, rfl⟩, _⟩ := opE_pf this
    refine ⟨k1.1, ?_⟩
    have k2 := k1.2
    unfold KindOK at k2
    have : kind o.op = 0 ∨ kind o.op = 1 ∨ kind o.op = 2 := by omega
    rcases this with h | h | h <;> rw [h] at k2
    · exact .inl k2.2
    · exact k2.2
    · exact k2
  cases g with
  | plain hg r => exact fin _ _ _ _ r hn
  | yes hg hgs hb r => exact fin _ _ _ _ r (hn2 _ _)
  | no hg hgs hne hb => exact ⟨by simp, .inl rfl⟩

theorem GO.heap2 {S : Nat → Prop} {o : Oper} {sl : Slots} {h h' : Heap} {m : Nat} {x : Out} (g : GO E all o sl h m x) (hw : wr o.op = false) (e : HS S h h') (hz : ∀ T, (lkT E.tt T).zero.nmd S) (hn : ∀ x ∈ opnds o.op, (ev E sl x).nmd S) (hn2 : ∀ d (t : Option Bool), ∀ x ∈ opnds o.op, (ev E ((d, B t) :: sl) x).nmd S) : GO E all o sl h' m x := by
  cases g with
  | plain hg r => exact .plain hg fun K' k' => opE_heap e (fun h => by rw [hw] at h; cases h) hz hn (r K' k')
  | yes hg hgs hb r => exact .yes hg hgs hb fun K' k' => opE_heap e (fun h => by rw [hw] at h; cases h) hz (hn2 _ _) (r K' k')
  | no hg hgs hne hb => exact .no hg hgs hne hb

theorem lkB_st {b : Nat} {k : Blk} {h : Heap} {c : Nat} : lkB (stB h c k) b = if b = c ∧ (lkB h c).isSome then some k else lkB h b := by
  cases hc : lkB h c with
  | none =>
    have stn : ∀ (g : Heap), lkB g c = none → stB g c k = g := by
      intro g
      induction g with
      | nil => intro _; rfl
      | cons p r ih =>
        obtain ⟨i, v⟩ := p
        intro hn
        simp only [lkB] at hn
        cases hb : Nat.beq i c with
        | true => rw [hb] at hn; cases hn
        | false => rw [hb] at hn; simp only [stB, hb]; rw [ih hn]
    rw [stn h hc]; simp
  | some k0 => rw [lkB_stB hc]; simp

theorem swap2 {T : List Nat} {n : Nat} {L : Nat → Prop} {x y : Oper} {p my i : Nat} {sl : Slots} {h : Heap} {K : Slots → Heap → Prop} (inv : Inv K) (c : Cl E all n T L sl h) (hz : ∀ T, (lkT E.tt T).zero.nmd (· < n)) (hmy : n ≤ my) (hpm : n + p ≠ my) (hLp : ¬ L p) (hfr : frS all y = some i) (hLi : L i) (hi : indep2 all T x y = true)
    (k : gopX E all x sl h (n + p) fun sl h => gopX E all y sl h my K) : gopX E all y sl h my fun sl h => gopX E all x sl h (n + p) K := by
  unfold indep2 at hi
  split at hi
  case h_2 => cases hi
  rename_i _ q1 q2 q3 q4
  split at hi
  case h_2 => cases hi
  rename_i r1 r2 r3 r4 r5
  rw [Nat.ble_eq] at q2
  obtain ⟨T0, t, v, hy, ⟨oa, hoa, hdst, hgd, hmk⟩, huniq⟩ := frS_ok hfr
  have ht : lk sl t = .ptr (n + i) [] := c.made i oa t hLi hoa hdst hgd huniq hmk
  have hT := apL_ok q3
  have hpi : n + i ≠ n + p := fun e => hLp (by have : i = p := by omega
                                               exact this ▸ hLi)
  have ky : kind y.op = 3 := by rw [hy]; rfl
  have fX : ∀ X, GO E all x sl h (n + p) X → (∀ b ∈ X.ns, b < n) ∧ (X.ea = .nil ∨ ∃ k, X.ea = .new k) := fun X gx => gx.facts2 q2 c.hs hz (c.ev hT) fun d b => c.ev_ref hT
  have fY : ∀ Y, GO E all y sl h my Y → Y.ns = [] ∧ ∃ k, Y.ea = .set (n + i) k := by
    intro Y gy
    cases gy with
    | plain hg r => rw [hy] at r; obtain ⟨h1, k, _, h2, _⟩ := store_out ht r; exact ⟨h1, k, h2⟩
    | yes hg _ _ _ => rw [q4] at hg; cases hg
    | no hg _ _ _ => rw [q4] at hg; cases hg
  have hXf : ∀ X, GO E all x sl h (n + p) X → ∀ b, b = n + i → lkB (X.hp h (n + p)) b = lkB h b := by
    rintro X gx b rfl
    obtain ⟨h1, h2⟩ := fX X gx
    have hni : n + i ∉ X.ns := fun hh => by have := h1 _ hh; omega
    unfold Out.hp
    rcases h2 with e | ⟨k', e⟩ <;> rw [e] <;> simp only [hE]
    · rw [lkB_ice_eq, if_neg hni]
    · rw [lkB_new, if_neg hpi, lkB_ice_eq, if_neg hni]
  refine swapG inv (by omega) (by omega) (fun d hd => apartD_spec r1 hd) (fun d hd => apartD_spec r2 hd) (fun d hd => (apartD_spec r3 hd).1) (fun d hd => (apartD_spec r4 hd).1) (fun d hd => (apartD_spec r5 hd).2) (fun X Y gx gyS => ?_) (fun X Y gx gy => ?_) (fun X Y gx gy b => ?_) k
  · cases gyS with
    | plain hg r =>
      rw [hy] at r
      refine .plain hg ?_
      rw [hy]
      exact store_same ht (hXf X gx _ rfl).symm r
    | yes hg _ _ _ => rw [q4] at hg; cases hg
    | no hg _ _ _ => rw [q4] at hg; cases hg
  · obtain ⟨h1, k', h2⟩ := fY Y gy
    refine gx.heap2 (kind_wr q2) ⟨fun b hb => ?_, c.var⟩ hz (c.ev hT) fun d b => c.ev_ref hT
    unfold Out.hp
    rw [h1, h2]
    simp only [hE, iceB]
    rw [lkB_st, if_neg (by rintro ⟨rfl, _⟩; omega)]
  · obtain ⟨h1, k', h2⟩ := fY Y gy
    obtain ⟨h3, h4⟩ := fX X gx
    have hni : n + i ∉ X.ns := fun hh => by have := h3 _ hh; omega
    have hice : ∀ (g : Heap) (b : Nat), lkB (stB (iceB X.ns g) (n + i) k') b = lkB (iceB X.ns (stB g (n + i) k')) b := by
      intro g b
      rw [lkB_st, lkB_ice_eq, lkB_ice_eq, if_neg hni, lkB_ice_eq, lkB_st]
      by_cases e : b = n + i
      · subst e; simp [hni]
      · simp [e]
    unfold Out.hp
    rw [h1, h2]
    rcases h4 with e | ⟨k2, e⟩ <;> rw [e] <;> simp only [hE, iceB]
    · exact hice h b
    · rw [lkB_new, lkB_st, lkB_new, if_neg hpi]
      have := hice h b
      rw [lkB_st] at this
      by_cases e : b = n + p
      · subst e
        rw [if_pos rfl, if_neg (fun hh => hpi hh.1.symm), lkB_new, if_pos rfl]
      · rw [if_neg e, lkB_new, if_neg e]; exact this

theorem kind3 {o : Op} (h1 : kind o ≤ 3) (h2 : ¬ kind o ≤ 2) : ∃ T a v, o = .store T a v := by
  cases o <;> simp only [kind] at h1 h2 <;> first
    | exact ⟨_, _, _, rfl⟩
    | omega
    | (split at h1 <;> first | omega | simp_all)

/-- the knowledge goes on -/
theorem Cl.step {T : List Nat} {n : Nat} {L : Nat → Prop} {o : Oper} {p : Nat} {sl : Slots} {h : Heap} (c : Cl E all n T L sl h) (hz : ∀ T, (lkT E.tt T).zero.nmd (· < n)) (ho : all[p]? = some o) (hk : kind o.op ≤ 3) (hLp : ¬ L p) (tk : tntOK T all = true)
    (hst : ∀ T a v, o.op = .store T a v → ∃ i, frS all o = some i ∧ L i) {X : Out} (g : GO E all o sl h (n + p) X) : Cl E all n T (fun j => L j ∨ j = p) (X.sl o sl) (X.hp h (n + p)) := by
  -- what becomes of the heap
  have hpb : ∀ b, b < n → ∀ k, lkB (X.hp h (n + p)) b = some k → ∃ k0, lkB h b = some k0 ∧ (k = k0 ∨ k = k0.cold) := by
    intro b hb k hk'
    have ice : ∀ (ns : List Nat) k, lkB (iceB ns h) b = some k → ∃ k0, lkB h b = some k0 ∧ (k = k0 ∨ k = k0.cold) := by
      intro ns k hk
      rw [lkB_ice_eq] at hk
      split at hk
      · cases hh : lkB h b with
        | none => rw [hh] at hk; cases hk
        | some k0 => rw [hh] at hk; simp at hk; exact ⟨k0, rfl, .inr hk.symm⟩
      · exact ⟨k, hk, .inl rfl⟩
    by_cases h3 : kind o.op ≤ 2
    · obtain ⟨_, h2⟩ := g.facts2 (S := fun _ => True) h3 ⟨fun _ _ => rfl, fun _ _ _ _ _ => nmd_all⟩ (fun _ => nmd_all) (fun _ _ => nmd_all) fun _ _ _ _ => nmd_all
      unfold Out.hp at hk'
      rcases h2 with e | ⟨k', e⟩ <;> rw [e] at hk' <;> simp only [hE] at hk'
      · exact ice _ _ hk'
      · rw [lkB_new, if_neg (by omega)] at hk'; exact ice _ _ hk'
    · obtain ⟨T0, a0, v0, hop⟩ := kind3 hk h3
      obtain ⟨i, hfr, hLi⟩ := hst _ _ _ hop
      obtain ⟨T1, t, v, hy, ⟨oa, hoa, hdst, hgd, hmk⟩, huniq⟩ := frS_ok hfr
      have ht : lk sl t = .ptr (n + i) [] := c.made i oa t hLi hoa hdst hgd huniq hmk
      have fin : ∀ sl' v' ns ea, lk sl' t = .ptr (n + i) [] → OpR E sl' h (n + p) o.op v' ns ea → ns = [] ∧ ∃ k, ea = .set (n + i) k := by
        intro sl' v' ns ea ht' r
        rw [hy] at r
        obtain ⟨h1, k, _, h2, _⟩ := store_out ht' r
        exact ⟨h1, k, h2⟩
      have hX : (X.ns = [] ∧ ∃ k, X.ea = .set (n + i) k) ∨ (X.ns = [] ∧ X.ea = .nil) := by
        cases g with
        | plain hg r => exact .inl (fin _ _ _ _ ht r)
        | @yes v1 ns1 ea1 j1 t1 d hg hgs hb r =>
          refine .inl (fin _ _ _ _ ?_ r)
          rw [lk]
          cases hdt : Nat.beq d t with
          | false => exact ht
          | true =>
            have := beq_of hdt; subst this
            rw [ht] at hb
            rcases hb with hb | ⟨_, _, hb⟩
            · cases t1 <;> cases hb
            · cases hb
        | no hg hgs hne hb => exact .inr ⟨rfl, rfl⟩
      unfold Out.hp at hk'
      rcases hX with ⟨h1, k', h2⟩ | ⟨h1, h2⟩ <;> rw [h1, h2] at hk' <;> simp only [hE, iceB] at hk'
      · rw [lkB_st, if_neg (by rintro ⟨rfl, _⟩; omega)] at hk'
        exact ⟨k, hk', .inl rfl⟩
      · exact ⟨k, hk', .inl rfl⟩
  refine ⟨fun t ht => ?_, fun gl => c.glb gl, fun b hb ow v hv => ?_, fun b hb ow s xs hv => ?_, fun i oi t hL hoi hdst hgd hun hmk => ?_⟩
  · rw [lk_sl]
    split
    · rename_i hd
      obtain ⟨hc, hT⟩ := tntOK_ok tk o (List.mem_of_getElem? ho) t hd ht
      have fin : ∀ sl' v' ns ea, (∀ x ∈ opnds o.op, (Sx.ev E sl' x).nmd (· < n)) → OpR E sl' h (n + p) o.op v' ns ea → v'.nmd (· < n) := by
        intro sl' v' ns ea hn r
        have := opE_cln hc c.hs c.row hn (r (fun a b d => a = v') rfl)
        obtain ⟨a, b, d, ⟨k1, rfl⟩, _⟩ := opE_pf this
        exact k1.1
      cases g with
      | plain hg r => exact fin _ _ _ _ (c.ev hT) r
      | yes hg hgs hb r => exact fin _ _ _ _ (c.ev_ref hT) r
      | no hg hgs hne hb => exact trivial
    · cases hg : X.g with
      | none => exact c.slot t ht
      | some q =>
        obtain ⟨d, b⟩ := q
        simp only [refS, lk]
        split
        · cases b with
          | none => trivial
          | some b => cases b <;> trivial
        · exact c.slot t ht
  · obtain ⟨k0, h1, h2⟩ := hpb b hb _ hv
    rcases h2 with e | e
    · subst e; exact c.var b hb _ _ h1
    · cases k0 <;> simp [Blk.cold, Blk.dead] at e
      obtain ⟨_, rfl⟩ := e
      exact c.var b hb _ _ h1
  · obtain ⟨k0, h1, h2⟩ := hpb b hb _ hv
    rcases h2 with e | e
    · subst e; exact c.row b hb _ _ _ h1
    · cases k0 <;> simp [Blk.cold, Blk.dead] at e
      obtain ⟨_, rfl, rfl⟩ := e
      exact c.row b hb _ _ _ h1
  · rw [lk_sl]
    rcases hL with hL | rfl
    · have hne : o.dst ≠ some t := fun hd => hLp (by rw [hun p o ho hd]; exact hL)
      rw [if_neg hne]
      have ht := c.made i oi t hL hoi hdst hgd hun hmk
      cases hg : X.g with
      | none => exact ht
      | some q =>
        obtain ⟨d, b⟩ := q
        have hb := g.gs.2 d b hg
        simp only [refS, lk]
        cases hdt : Nat.beq d t with
        | false => exact ht
        | true =>
          have := beq_of hdt; subst this
          rw [ht] at hb
          rcases hb with hb | ⟨_, _, hb⟩
          · cases b with
            | none => cases hb
            | some b => cases b <;> cases hb
          · cases hb
    · rw [ho] at hoi; cases hoi
      rw [if_pos hdst]
      cases g with
      | plain hg r =>
        have k1 := r (fun a b d => a = _) rfl
        rcases hmk with ⟨T1, e⟩ | ⟨T1, x1, e⟩ <;> rw [e] at k1 <;> simp only [opE] at k1 <;> exact (solid_pf k1).1.symm
      | yes hg _ _ _ => rw [hgd] at hg; cases hg
      | no hg _ _ _ => rw [hgd] at hg; cases hg
end

theorem grd_pf {all : List Oper} {g : Option (Nat × Bool)} {sl : Slots} {Ky Kn : Slots → Prop} (k : grd all g sl Ky Kn) : ∃ (s : Slots) (y : Bool), (match y with | true => Ky s | false => Kn s) ∧ ∀ Ky' Kn' : Slots → Prop, (match y with | true => Ky' s | false => Kn' s) → grd all g sl Ky' Kn' := by
  unfold grd at k
  split at k
  · exact ⟨sl, true, k, fun Ky' Kn' k' => k'⟩
  · split at k
    case h_2 => exact k.elim
    rename_i o' hj
    split at k
    case h_2 => exact k.elim
    rename_i d hd
    split at k
    · rename_i hl
      split at k
      · exact ⟨sl, true, k, fun Ky' Kn' k' => by simp only [grd, hj, hd, hl]; exact k'⟩
      · exact ⟨sl, false, k, fun Ky' Kn' k' => by simp only [grd, hj, hd, hl]; exact k'⟩
    · rename_i hl
      split at k
      · exact ⟨sl, false, k, fun Ky' Kn' k' => by simp only [grd, hj, hd, hl]; exact k'⟩
      · exact ⟨sl, true, k, fun Ky' Kn' k' => by simp only [grd, hj, hd, hl]; exact k'⟩
    · rename_i b hl
      split at k
      · cases b with
        | true => exact ⟨_, true, k.1 rfl, fun Ky' Kn' k' => by simp only [grd, hj, hd, hl]; exact ⟨fun _ => k', fun e => by cases e⟩⟩
        | false => exact ⟨_, false, k.2 rfl, fun Ky' Kn' k' => by simp only [grd, hj, hd, hl]; exact ⟨fun e => (by cases e), fun _ => k'⟩⟩
      · cases b with
        | true => exact ⟨_, false, k.2 rfl, fun Ky' Kn' k' => by simp only [grd, hj, hd, hl]; exact ⟨fun e => (by cases e), fun _ => k'⟩⟩
        | false => exact ⟨_, true, k.1 rfl, fun Ky' Kn' k' => by simp only [grd, hj, hd, hl]; exact ⟨fun _ => k', fun e => by cases e⟩⟩
    · rename_i hl
      exact ⟨sl, false, k, fun Ky' Kn' k' => by simp only [grd, hj, hd, hl]; exact k'⟩
    · exact k.elim

theorem gopX_pf {E : Env} {all : List Oper} {o : Oper} {sl : Slots} {h : Heap} {m : Nat} {K : Slots → Heap → Prop} (k : gopX E all o sl h m K) : ∃ s g, K s g ∧ ∀ K' : Slots → Heap → Prop, K' s g → gopX E all o sl h m K' := by
  unfold gopX at k
  obtain ⟨s, y, k1, k2⟩ := grd_pf k
  cases y with
  | true =>
    simp only [opX] at k1
    obtain ⟨v, ns, ea, k3, k4⟩ := opE_pf k1
    exact ⟨_, _, app_iff.1 k3, fun K' k' => by unfold gopX; exact k2 _ _ (by simp only [opX]; exact k4 _ (app_iff.2 k'))⟩
  | false =>
    cases hd : o.dst with
    | none => rw [hd] at k1; exact ⟨_, _, k1, fun K' k' => by unfold gopX; exact k2 _ _ (by simp only [hd]; exact k')⟩
    | some d => rw [hd] at k1; exact ⟨_, _, k1, fun K' k' => by unfold gopX; exact k2 _ _ (by simp only [hd]; exact k')⟩

theorem gopX_mono {E : Env} {all : List Oper} {o : Oper} {sl : Slots} {h : Heap} {m : Nat} {K K' : Slots → Heap → Prop} (e : ∀ s g, K s g → K' s g) (k : gopX E all o sl h m K) : gopX E all o sl h m K' := by
  obtain ⟨s, g, k1, k2⟩ := gopX_pf k
  exact k2 K' (e s g k1)

section
variable {E : Env} {all : List Oper}
theorem Cl.less {T : List Nat} {n : Nat} {L L' : Nat → Prop} {sl : Slots} {h : Heap} (c : Cl E all n T L sl h) (hL : ∀ j, L' j → L j) : Cl E all n T L' sl h :=
  ⟨c.slot, c.glb, c.var, c.row, fun i o t hi => c.made i o t (hL i hi)⟩
theorem Cl.lkeq {T : List Nat} {n : Nat} {L : Nat → Prop} {sl sl' : Slots} {h h' : Heap} (c : Cl E all n T L sl h) (e1 : ∀ t, lk sl t = lk sl' t) (e2 : ∀ b, lkB h b = lkB h' b) : Cl E all n T L sl' h' :=
  ⟨fun t ht => by rw [← e1]; exact c.slot t ht, fun g => c.glb g, fun b hb o v hv => c.var b hb o v (by rw [e2]; exact hv), fun b hb o s xs hv => c.row b hb o s xs (by rw [e2]; exact hv), fun i o t hi ho hd hg hu hm => by rw [← e1]; exact c.made i o t hi ho hd hg hu hm⟩

/-- an operation is done, and the knowledge goes on -/
theorem gopX_cl {fl : Bool} {T : List Nat} {n : Nat} {L : Nat → Prop} {o : Oper} {p : Nat} {sl : Slots} {h : Heap} {K : Slots → Heap → Prop} (inv : Inv K) (hz : ∀ T, (lkT E.tt T).zero.nmd (· < n)) (ho : all[p]? = some o) (hc : fl = true → Cl E all n T L sl h ∧ kind o.op ≤ 3 ∧ ¬ L p ∧ tntOK T all = true ∧ ∀ T a v, o.op = .store T a v → ∃ i, frS all o = some i ∧ L i)
    (k : gopX E all o sl h (n + p) K) : gopX E all o sl h (n + p) fun s g => K s g ∧ (fl = true → Cl E all n T (fun j => L j ∨ j = p) s g) := by
  have inv2 : Inv fun s g => K s g ∧ (fl = true → Cl E all n T (fun j => L j ∨ j = p) s g) := fun s g s' g' e1 e2 ⟨k1, k2⟩ => ⟨inv _ _ _ _ e1 e2 k1, fun hf => (k2 hf).lkeq e1 e2⟩
  cases hf : fl with
  | false =>
    exact gopX_mono (fun s g k => ⟨k, fun h => by cases h⟩) k
  | true =>
    obtain ⟨c, hk, hLp, tk, hst⟩ := hc hf
    obtain ⟨X, gx, k1⟩ := gopX_out hk inv k
    rw [hf] at inv2
    exact gopX_in hk inv2 gx ⟨k1, fun _ => c.step hz ho hk hLp tk hst gx⟩
end
end Go.Sx
