/-
  A REGION THAT DRAWS ITS ORDER ENDS AS THE ORDER OF THE TEXT DOES. Generic: no program in sight. An own text.
-/
import Derived.Test.YtcgehmlhafjfkaaGreatDoorSx27
namespace Go.Sx
open Go.RowKit (Below)

section
variable {E : Env} {all : List Oper}

theorem indep_spec {x y : Oper} (h : indep all x y = true) : ((kind x.op ≤ 1 ∧ kind y.op ≤ 3) ∨ (kind y.op ≤ 1 ∧ kind x.op ≤ 3) ∨ (kind x.op ≤ 2 ∧ kind y.op ≤ 2)) ∧
    (∀ d, x.dst = some d → d ∉ opSlots y ∧ gslot all y ≠ some d) ∧ (∀ d, y.dst = some d → d ∉ opSlots x ∧ gslot all x ≠ some d) ∧
    (∀ d, gslot all x = some d → d ∉ opSlots y) ∧ (∀ d, gslot all y = some d → d ∉ opSlots x) ∧ (∀ d, x.dst = some d → y.dst ≠ some d) := by
  unfold indep at h
  split at h
  case h_2 => cases h
  rename_i h1 h2 h3
  split at h
  case h_2 => cases h
  rename_i h4 h5 h6
  exact ⟨kindsOK_spec h1, fun d hd => apartD_spec h2 hd, fun d hd => apartD_spec h3 hd, fun d hd => (apartD_spec h4 hd).1, fun d hd => (apartD_spec h5 hd).1, fun d hd => (apartD_spec h6 hd).2⟩

theorem GO.gs {o : Oper} {sl : Slots} {h : Heap} {m : Nat} {x : Out} (g : GO E all o sl h m x) : x.g.map Prod.fst = gslot all o ∧ ∀ d t, x.g = some (d, t) → isB (lk sl d) t := by
  cases g with
  | plain hg r => exact ⟨by unfold gslot; rw [hg]; rfl, fun d t e => by cases e⟩
  | yes hg hgs hb r => exact ⟨hgs.symm, fun d t e => by cases e; exact hb⟩
  | no hg hgs ht hb => exact ⟨hgs.symm, fun d t e => by cases e; exact hb⟩

theorem lk_refS {g : Option (Nat × Option Bool)} {sl : Slots} {u : Nat} (h : ∀ d t, g = some (d, t) → d ≠ u) : lk (refS g sl) u = lk sl u := by
  cases g with
  | none => rfl
  | some p =>
    obtain ⟨d, t⟩ := p
    simp only [refS, lk]
    rw [beq_false (h d t rfl)]
theorem lk_refS_eq {d : Nat} {t : Option Bool} {sl : Slots} : lk (refS (some (d, t)) sl) d = B t := by simp [refS, lk]

theorem lk_sl {x : Out} {o : Oper} {sl : Slots} {u : Nat} : lk (x.sl o sl) u = if o.dst = some u then x.v else lk (refS x.g sl) u := by
  simp only [Out.sl, lk_put]

/-- what an operation leaves in the slots that another one reads -/
theorem sl_far {x : Out} {o : Oper} {sl : Slots} {h : Heap} {m : Nat} (g : GO E all o sl h m x) {u : Nat} (h1 : o.dst ≠ some u) (h2 : gslot all o ≠ some u) : lk (x.sl o sl) u = lk sl u := by
  rw [lk_sl, if_neg h1]
  refine lk_refS fun d t e => ?_
  rintro rfl
  have := g.gs.1
  rw [e] at this
  exact h2 this.symm

theorem gopX_inv {o : Oper} {m : Nat} {K : Slots → Heap → Prop} (inv : Inv K) : Inv fun sl h => gopX E all o sl h m K := by
  intro sl h sl' h' es eh k
  have hop : ∀ s s' : Slots, (∀ t, lk s t = lk s' t) → opX E o s h m K → opX E o s' h' m K := by
    intro s s' es k
    unfold opX at k ⊢
    obtain ⟨v, ns, ea, k1, k2⟩ := opE_pf k
    have hs : HS (fun _ => True) h h' := ⟨fun b _ => by rw [eh], fun _ _ _ _ _ => nmd_all⟩
    refine opE_heap hs (fun _ b _ => eh b) (fun _ => nmd_all) (fun _ _ => nmd_all) (opE_slots (fun x _ => ev_lk es x) (k2 _ ?_))
    refine app_iff.2 (inv _ _ _ _ (fun t => ?_) (fun b => ?_) (app_iff.1 k1))
    · rw [lk_put, lk_put, lk_killE, lk_killE, es]
    · have hice : ∀ b, lkB (iceB ns h) b = lkB (iceB ns h') b := fun b => by rw [lkB_ice_eq, lkB_ice_eq, eh]
      have hst : ∀ (g g' : Heap) (c : Nat) (k : Blk), (∀ b, lkB g b = lkB g' b) → ∀ b, lkB (stB g c k) b = lkB (stB g' c k) b := by
        intro g g' c k hg b
        cases hc : lkB g c with
        | none =>
          have stn : ∀ (g : Heap), lkB g c = none → stB g c k = g := by
            intro g
            induction g with
            | nil => intro _; rfl
            | cons p r ih =>
              obtain ⟨i, v⟩ := p
              intro hn
              simp only [lkB] at hn
              cases hb : Nat.beq i c with
              | true => rw [hb] at hn; cases hn
              | false => rw [hb] at hn; simp only [stB, hb]; rw [ih hn]
          rw [stn g hc, stn g' (by rw [← hg, hc])]; exact hg b
        | some k0 => rw [lkB_stB hc, lkB_stB (h := g') (by rw [← hg, hc]), hg]
      cases ea with
      | nil => exact hice b
      | new k => simp only [hE]; rw [lkB_new, lkB_new, hice]
      | set c k => exact hst _ _ _ _ hice b
      | app c k => exact hst _ _ _ _ (fun b => by rw [lkB_killH, lkB_killH, hice]) b
  have hskip : ∀ s s' : Slots, (∀ t, lk s t = lk s' t) → (match o.dst with | some d => K ((d, und) :: s) h | none => K s h) → (match o.dst with | some d => K ((d, und) :: s') h' | none => K s' h') := by
    intro s s' es k
    cases hd : o.dst <;> rw [hd] at k
    · exact inv _ _ _ _ es eh k
    · refine inv _ _ _ _ (fun t => ?_) eh k
      simp only [lk]; split
      · rfl
      · exact es t
  have hcons : ∀ (d : Nat) (v : SV) (t : Nat), lk ((d, v) :: sl) t = lk ((d, v) :: sl') t := fun d v t => by simp only [lk]; rw [es]
  simp only [gopX, grd] at k ⊢
  split at k
  · exact hop _ _ es k
  · split at k
    case h_2 => exact k.elim
    split at k
    case h_2 => exact k.elim
    rw [← es]
    split at k
    · split at k
      · exact hop _ _ es k
      · exact hskip _ _ es k
    · split at k
      · exact hskip _ _ es k
      · exact hop _ _ es k
    · split at k
      · exact ⟨fun e => hop _ _ (hcons _ _) (k.1 e), fun e => hskip _ _ (hcons _ _) (k.2 e)⟩
      · exact ⟨fun e => hop _ _ (hcons _ _) (k.1 e), fun e => hskip _ _ (hcons _ _) (k.2 e)⟩
    · exact hskip _ _ es k
    · exact k.elim

theorem kind_wr {o : Op} (h : kind o ≤ 2) : wr o = false := by
  unfold kind at h
  unfold wr
  split at h <;> first | rfl | omega | skip
  split at h <;> simp_all

/-- TWO OPERATIONS CHANGE PLACES, where neither sees what the other does to the heap. -/
theorem swapG {x y : Oper} {mx my : Nat} {sl : Slots} {h : Heap} {K : Slots → Heap → Prop} (inv : Inv K) (kx : kind x.op ≤ 3) (ky : kind y.op ≤ 3)
    (i1 : ∀ d, x.dst = some d → d ∉ opSlots y ∧ gslot all y ≠ some d) (i2 : ∀ d, y.dst = some d → d ∉ opSlots x ∧ gslot all x ≠ some d)
    (i3 : ∀ d, gslot all x = some d → d ∉ opSlots y) (i4 : ∀ d, gslot all y = some d → d ∉ opSlots x) (i5 : ∀ d, x.dst = some d → y.dst ≠ some d)
    (ha : ∀ X Y, GO E all x sl h mx X → GO E all y sl (X.hp h mx) my Y → GO E all y sl h my Y)
    (hb : ∀ X Y, GO E all x sl h mx X → GO E all y sl h my Y → GO E all x sl (Y.hp h my) mx X)
    (hc : ∀ X Y, GO E all x sl h mx X → GO E all y sl h my Y → ∀ b, lkB (Y.hp (X.hp h mx) my) b = lkB (X.hp (Y.hp h my) mx) b)
    (k : gopX E all x sl h mx fun sl h => gopX E all y sl h my K) : gopX E all y sl h my fun sl h => gopX E all x sl h mx K := by
  obtain ⟨X, gx, k1⟩ := gopX_out kx (gopX_inv inv) k
  obtain ⟨Y, gy1, k2⟩ := gopX_out ky inv k1
  -- y, from where x began
  have gyS : GO E all y sl (X.hp h mx) my Y := by
    refine gy1.slots (fun t ht => sl_far gx (fun e => (i1 t e).1 ht) (fun e => i3 t e ht)) fun d hd t hb => ?_
    have h1 : x.dst ≠ some d := fun e => (i1 d e).2 hd
    rw [lk_sl, if_neg h1] at hb
    cases hg : X.g with
    | none => rw [hg] at hb; exact hb
    | some p =>
      obtain ⟨d', t'⟩ := p
      rw [hg] at hb
      by_cases e : d' = d
      · subst e
        rw [lk_refS_eq] at hb
        have := isB_uniq (t := t') (.inl rfl) hb
        subst this
        exact gx.gs.2 _ _ hg
      · rw [lk_refS fun d2 t2 e2 => by cases e2; exact e] at hb; exact hb
  have gy : GO E all y sl h my Y := ha X Y gx gyS
  have gxH : GO E all x sl (Y.hp h my) mx X := hb X Y gx gy
  have gx2 : GO E all x (Y.sl y sl) (Y.hp h my) mx X := by
    refine gxH.slots (fun t ht => (sl_far gy (fun e => (i2 t e).1 ht) (fun e => i4 t e ht)).symm) fun d hd t hb => ?_
    have h1 : y.dst ≠ some d := fun e => (i2 d e).2 hd
    rw [lk_sl, if_neg h1]
    cases hg : Y.g with
    | none => exact hb
    | some p =>
      obtain ⟨d', t'⟩ := p
      by_cases e : d' = d
      · subst e
        rw [lk_refS_eq]
        have := isB_uniq (gy.gs.2 _ _ hg) hb
        subst this
        exact .inl rfl
      · rw [lk_refS fun d2 t2 e2 => by cases e2; exact e]; exact hb
  refine gopX_in ky (gopX_inv inv) gy (gopX_in kx inv gx2 (inv _ _ _ _ (fun u => ?_) (fun b => ?_) k2))
  · -- the slots
    rw [lk_sl, lk_sl]
    by_cases hy : y.dst = some u
    · have hx : x.dst ≠ some u := fun e => i5 u e hy
      rw [if_pos hy, if_neg hx]
      have : ∀ d t, X.g = some (d, t) → d ≠ u := by
        rintro d t e rfl
        have := gx.gs.1
        rw [e] at this
        exact (i2 d hy).2 this.symm
      rw [lk_refS this, lk_sl, if_pos hy]
    · rw [if_neg hy]
      by_cases hx : x.dst = some u
      · rw [if_pos hx]
        have : ∀ d t, Y.g = some (d, t) → d ≠ u := by
          rintro d t e rfl
          have := gy.gs.1
          rw [e] at this
          exact (i1 d hx).2 this.symm
        rw [lk_refS this, lk_sl, if_pos hx]
      · rw [if_neg hx]
        have hxs : ∀ s, lk (X.sl x s) u = lk (refS X.g s) u := fun s => by rw [lk_sl, if_neg hx]
        have hys : ∀ s, lk (Y.sl y s) u = lk (refS Y.g s) u := fun s => by rw [lk_sl, if_neg hy]
        by_cases ex : ∃ t, X.g = some (u, t)
        · obtain ⟨t, ex⟩ := ex
          rw [ex, lk_refS_eq]
          by_cases ey : ∃ t, Y.g = some (u, t)
          · obtain ⟨t', ey⟩ := ey
            rw [ey, lk_refS_eq, isB_uniq (gy.gs.2 _ _ ey) (gx.gs.2 _ _ ex)]
          · rw [lk_refS (g := Y.g) (fun d t e h => ey ⟨t, by rw [e, h]⟩), hxs, ex, lk_refS_eq]
        · rw [lk_refS (g := X.g) (fun d t e h => ex ⟨t, by rw [e, h]⟩), hys]
          by_cases ey : ∃ t, Y.g = some (u, t)
          · obtain ⟨t, ey⟩ := ey
            rw [ey, lk_refS_eq, lk_refS_eq]
          · rw [lk_refS (g := Y.g) (fun d t e h => ey ⟨t, by rw [e, h]⟩), lk_refS (g := Y.g) (fun d t e h => ey ⟨t, by rw [e, h]⟩), hxs, lk_refS (g := X.g) (fun d t e h => ex ⟨t, by rw [e, h]⟩)]
  · exact hc X Y gx gy b

/-- TWO OPERATIONS THAT DO NOT MEET CHANGE PLACES. -/
theorem swap {x y : Oper} {mx my : Nat} {F : Nat → Prop} {sl : Slots} {h : Heap} {K : Slots → Heap → Prop} (inv : Inv K) (wf : Wf E F sl h) (Fx : F mx) (Fy : F my) (hxy : mx ≠ my) (hi : indep all x y = true)
    (k : gopX E all x sl h mx fun sl h => gopX E all y sl h my K) : gopX E all y sl h my fun sl h => gopX E all x sl h mx K := by
  obtain ⟨hk, i1, i2, i3, i4, i5⟩ := indep_spec hi
  have kx : kind x.op ≤ 3 := by omega
  have ky : kind y.op ≤ 3 := by omega
  refine swapG inv kx ky i1 i2 i3 i4 i5 (fun X Y gx gyS => ?_) (fun X Y gx gy => ?_) (fun X Y gx gy b => ?_) k
  · obtain ⟨nx, fx⟩ := gx.facts kx wf
    rcases hk with ⟨h1, h2⟩ | ⟨h1, h2⟩ | ⟨h1, h2⟩
    · -- x reads nothing
      have hea : X.ns = [] ∧ (X.ea = .nil ∨ ∃ k, X.ea = .new k) := by
        unfold KindOK at fx
        have : kind x.op = 0 ∨ kind x.op = 1 := by omega
        rcases this with e | e <;> rw [e] at fx
        · exact ⟨fx.1, .inl fx.2⟩
        · exact fx
      have hh : ∀ b, ¬ F b → lkB (X.hp h mx) b = lkB h b := fun b hb => by unfold Out.hp; rw [hea.1]; exact hE_hot hea.2 Fx hb
      exact gyS.heap (HS.of_cold (fun b hb => by rw [hh b hb]) wf.hs).2 (fun _ b hb => hh b hb) wf.z wf.ev
    · exact gyS.still (by omega)
    · have hea : X.ea = .nil ∨ ∃ k, X.ea = .new k := by
        unfold KindOK at fx
        have : kind x.op = 0 ∨ kind x.op = 1 ∨ kind x.op = 2 := by omega
        rcases this with e | e | e <;> rw [e] at fx
        · exact .inl fx.2
        · exact fx.2
        · exact fx
      exact gyS.heap (HS.of_cold (fun b hb => hE_cold hea Fx hb) wf.hs).2 (fun e => by rw [kind_wr h2] at e; cases e) wf.z wf.ev
  · obtain ⟨ny, fy⟩ := gy.facts ky wf
    rcases hk with ⟨h1, h2⟩ | ⟨h1, h2⟩ | ⟨h1, h2⟩
    · exact gx.still (by omega)
    · have hea : Y.ns = [] ∧ (Y.ea = .nil ∨ ∃ k, Y.ea = .new k) := by
        unfold KindOK at fy
        have : kind y.op = 0 ∨ kind y.op = 1 := by omega
        rcases this with e | e <;> rw [e] at fy
        · exact ⟨fy.1, .inl fy.2⟩
        · exact fy
      have hh : ∀ b, ¬ F b → lkB (Y.hp h my) b = lkB h b := fun b hb => by unfold Out.hp; rw [hea.1]; exact hE_hot hea.2 Fy hb
      exact gx.heap (HS.of_cold (fun b hb => by rw [hh b hb]) wf.hs).1 (fun _ b hb => (hh b hb).symm) wf.z wf.ev
    · have hea : Y.ea = .nil ∨ ∃ k, Y.ea = .new k := by
        unfold KindOK at fy
        have : kind y.op = 0 ∨ kind y.op = 1 ∨ kind y.op = 2 := by omega
        rcases this with e | e | e <;> rw [e] at fy
        · exact .inl fy.2
        · exact fy.2
        · exact fy
      exact gx.heap (HS.of_cold (fun b hb => hE_cold hea Fy hb) wf.hs).1 (fun e => by rw [kind_wr h1] at e; cases e) wf.z wf.ev
  · obtain ⟨nx, fx⟩ := gx.facts kx wf
    obtain ⟨ny, fy⟩ := gy.facts ky wf
    have hxn : mx ∉ Y.ns := fun e => ny _ e Fx
    have hyn : my ∉ X.ns := fun e => nx _ e Fy
    have cold2 : ∀ (ns ns' : List Nat) (b : Nat), lkB (iceB ns (iceB ns' h)) b = lkB (iceB ns' (iceB ns h)) b := by
      intro ns ns' b
      rw [lkB_ice_eq, lkB_ice_eq, lkB_ice_eq, lkB_ice_eq]
      split <;> split <;> rfl
    have iceNew : ∀ (ns : List Nat) (g : Heap) (m : Nat) (k : Blk) (b : Nat), m ∉ ns → lkB (iceB ns ((m, k) :: g)) b = if b = m then some k else lkB (iceB ns g) b := by
      intro ns g m k b hm
      rw [lkB_ice_eq, lkB_new, lkB_ice_eq]
      by_cases e : b = m
      · subst e; simp [hm]
      · simp [e]
    have set0 : ∀ (c : Nat) (k : Blk) (g : Heap) (m : Nat) (k' : Blk) (b : Nat), c ≠ m → lkB (stB ((m, k') :: g) c k) b = if b = m then some k' else lkB (stB g c k) b := by
      intro c k g m k' b hc
      simp only [stB]
      rw [beq_false (Ne.symm hc)]
      simp only
      rw [lkB_new]
    have core : ∀ (X Y : Out) (mx my : Nat) (kx ky : Nat), F mx → F my → mx ≠ my → mx ∉ Y.ns → my ∉ X.ns → (X.ns = [] ∧ (X.ea = .nil ∨ ∃ k, X.ea = .new k)) → ((∃ b k, Y.ea = .set b k ∧ ¬ F b)) → ∀ b, lkB (Y.hp (X.hp h mx) my) b = lkB (X.hp (Y.hp h my) mx) b := by
      intro X Y mx my kx ky Fx Fy hxy hxn hyn hX hY b
      obtain ⟨c, kc, hc, hS⟩ := hY
      unfold Out.hp
      rw [hc, hX.1]
      rcases hX.2 with e | ⟨k, e⟩
      · rw [e]; rfl
      · rw [e]
        simp only [hE, iceB]
        have : ∀ g g' : Heap, (∀ b, lkB g b = lkB g' b) → ∀ b, lkB (stB g c kc) b = lkB (stB g' c kc) b := by
          intro g g' hg b
          have stn : ∀ (g : Heap), lkB g c = none → stB g c kc = g := by
            intro g
            induction g with
            | nil => intro _; rfl
            | cons p r ih =>
              obtain ⟨i, v⟩ := p
              intro hn
              simp only [lkB] at hn
              cases hb : Nat.beq i c with
              | true => rw [hb] at hn; cases hn
              | false => rw [hb] at hn; simp only [stB, hb]; rw [ih hn]
          cases h1 : lkB g c with
          | none => rw [stn g h1, stn g' (by rw [← hg, h1])]; exact hg b
          | some k0 => rw [lkB_stB h1, lkB_stB (h := g') (by rw [← hg, h1]), hg]
        rw [this _ ((mx, k) :: iceB Y.ns h) (fun b => by rw [iceNew _ _ _ _ _ hxn, lkB_new]), set0 _ _ _ _ _ _ (by rintro rfl; exact hS Fx), lkB_new]
    have norm : ∀ (o : Oper) (Z : Out), kind o.op ≤ 3 → KindOK (fun b => ¬ F b) o.op Z.ns Z.ea → (Z.ea = .nil ∨ ∃ k, Z.ea = .new k) ∨ ∃ b k, Z.ea = .set b k ∧ ¬ F b := by
      intro o Z ho f
      unfold KindOK at f
      have : kind o.op = 0 ∨ kind o.op = 1 ∨ kind o.op = 2 ∨ kind o.op = 3 := by omega
      rcases this with e | e | e | e <;> rw [e] at f
      · exact .inl (.inl f.2)
      · exact .inl f.2
      · exact .inl f
      · rcases f with f | f
        · exact .inl (.inl f.2)
        · exact .inr f
    have low : ∀ (o : Oper) (Z : Out), kind o.op ≤ 1 → KindOK (fun b => ¬ F b) o.op Z.ns Z.ea → Z.ns = [] ∧ (Z.ea = .nil ∨ ∃ k, Z.ea = .new k) := by
      intro o Z ho f
      unfold KindOK at f
      have : kind o.op = 0 ∨ kind o.op = 1 := by omega
      rcases this with e | e <;> rw [e] at f
      · exact ⟨f.1, .inl f.2⟩
      · exact f
    have low2 : ∀ (o : Oper) (Z : Out), kind o.op ≤ 2 → KindOK (fun b => ¬ F b) o.op Z.ns Z.ea → (Z.ea = .nil ∨ ∃ k, Z.ea = .new k) := by
      intro o Z ho f
      rcases norm o Z (by omega) f with f' | ⟨b, k, f', _⟩
      · exact f'
      · exfalso
        unfold KindOK at f
        have : kind o.op = 0 ∨ kind o.op = 1 ∨ kind o.op = 2 := by omega
        rcases this with e | e | e <;> rw [e, f'] at f <;> simp at f
    rcases norm x X kx fx with hX | hX
    · rcases norm y Y ky fy with hY | hY
      · unfold Out.hp
        rcases hX with eX | ⟨kX, eX⟩ <;> rcases hY with eY | ⟨kY, eY⟩ <;> rw [eX, eY] <;> simp only [hE]
        · exact cold2 _ _ b
        · rw [lkB_new, iceNew _ _ _ _ _ hyn, cold2]
        · rw [lkB_new, iceNew _ _ _ _ _ hxn, cold2]
        · rw [lkB_new, lkB_new, iceNew _ _ _ _ _ hyn, iceNew _ _ _ _ _ hxn, cold2]
          by_cases e1 : b = my
          · subst e1; simp [Ne.symm hxy]
          · simp [e1]
      · have : ¬ kind y.op ≤ 2 := fun e => by
          rcases low2 y Y e fy with f | ⟨k, f⟩ <;> obtain ⟨b, k, g, _⟩ := hY <;> rw [f] at g <;> cases g
        exact core X Y mx my 0 0 Fx Fy hxy hxn hyn (low x X (by omega) fx) hY b
    · have : ¬ kind x.op ≤ 2 := fun e => by
        rcases low2 x X e fx with f | ⟨k, f⟩ <;> obtain ⟨b, k, g, _⟩ := hX <;> rw [f] at g <;> cases g
      exact (core Y X my mx 0 0 Fy Fx (Ne.symm hxy) hyn hxn (low y Y (by omega) fy) hX b).symm
end
end Go.Sx
