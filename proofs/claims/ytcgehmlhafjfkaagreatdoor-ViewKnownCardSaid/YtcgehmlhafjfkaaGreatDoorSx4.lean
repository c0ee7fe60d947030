/-
  STORES, FINISHED BLOCKS, APPENDS, WEAKENED STATES: what they do to a running function's memory. Generic: no program in sight. An own text.
-/
import Derived.Test.YtcgehmlhafjfkaaGreatDoorSx3
namespace Go.Sx
open Go.RowKit (Below)

/-- A block's cells, set. -/
def World.put (w : World) (r : Nat) (o : Obj) : World := { w with heap := w.heap.setIfInBounds r o }
theorem put_same {w : World} {r : Nat} {o : Obj} (h : r < w.heap.size) : (World.put w r o).heap[r]? = some o := by
  simp [World.put, h]
theorem put_ne {w : World} {r r' : Nat} {o : Obj} (h : r' ≠ r) : (World.put w r o).heap[r']? = w.heap[r']? := by
  simp only [World.put]
  rw [Array.getElem?_setIfInBounds_ne (Ne.symm h)]
theorem put_size {w : World} {r : Nat} {o : Obj} : (World.put w r o).heap.size = w.heap.size := by simp [World.put]

theorem heap_lt {w : World} {r : Nat} {o : Obj} (h : w.heap[r]? = some o) : r < w.heap.size := by
  rcases Nat.lt_or_ge r w.heap.size with g | g
  · exact g
  · rw [Array.getElem?_eq_none g] at h; cases h

theorem add_plain (b off i : Nat) : Addr.add ⟨b, off, none⟩ i = ⟨b, off + i, none⟩ := by
  unfold Addr.add
  split
  · rename_i h; subst h; rfl
  · rfl

theorem run_storeCells {P : Program} {ty : TypeId} {lo hi b off : Nat} : ∀ (vs : List Value) (w : World) (cs : Array Value) (i : Nat) (pre old post : List Value),
    w.heap[b]? = some (.cells cs ty (lo, hi)) → (cs.size ≤ lo ∨ hi ≤ lo) → cs.toList = pre ++ old ++ post → pre.length = off + i → old.length = vs.length → (∀ u ∈ vs, u.oneCell' = true) →
    (storeCells ⟨b, off, none⟩ vs i).run P w = .ok () (World.put w b (.cells (pre ++ vs ++ post).toArray ty (lo, hi)))
  | [], w, cs, i, pre, old, post, hb, hf, hc, hp, ho, _ => by
    simp only [storeCells, Sem.run_pure]
    have : old = [] := List.length_eq_zero_iff.1 ho
    subst this
    have hcs : (pre ++ [] ++ post).toArray = cs := by rw [← hc]
    rw [hcs]
    have hlt := heap_lt hb
    have : w.heap.setIfInBounds b (.cells cs ty (lo, hi)) = w.heap := by
      apply Array.ext_getElem?
      intro j
      by_cases e : b = j
      · subst e; rw [hb]; try simp [hlt]
      · rw [Array.getElem?_setIfInBounds_ne e]
    simp only [World.put, this]
  | v :: r, w, cs, i, pre, old, post, hb, hf, hc, hp, ho, h1 => by
    match old, ho with
    | o :: old', ho =>
      have hoff : off + i < cs.size := by
        have := congrArg List.length hc
        simp at this
        omega
      have hcell : w.cell? ⟨b, off + i, none⟩ = some cs[off + i] := by
        simp [World.cell?, hb, hoff]
      have hfz : w.frozen? ⟨b, off + i, none⟩ = false := by
        simp only [World.frozen?, hb]
        rcases hf with hf | hf
        · simp; omega
        · simp; omega
      have hv : v.oneCell' = true := h1 v (by simp)
      simp only [storeCells, Sem.run_bind, add_plain]
      rw [run_store P w _ v _ hv]
      simp only [hcell, hfz, Bool.false_eq_true, if_false, Result.andThen_ok]
      have hset : w.setCell ⟨b, off + i, none⟩ v = World.put w b (.cells (cs.setIfInBounds (off + i) v) ty (lo, hi)) := by
        unfold World.setCell World.put
        congr 1
        apply Array.ext_getElem?
        intro j
        rw [Array.getElem?_modify]
        by_cases e : b = j
        · subst e
          rw [if_pos rfl, hb]
          simp [heap_lt hb]
        · simp only [e, if_false]
          rw [Array.getElem?_setIfInBounds_ne e]
      rw [hset]
      have hb' : (World.put w b (.cells (cs.setIfInBounds (off + i) v) ty (lo, hi))).heap[b]? = some (.cells (cs.setIfInBounds (off + i) v) ty (lo, hi)) := put_same (heap_lt hb)
      have hl : (cs.setIfInBounds (off + i) v).toList = (pre ++ [v]) ++ old' ++ post := by
        rw [Array.toList_setIfInBounds, hc]
        rw [show off + i = pre.length from hp.symm]
        simp
      have := run_storeCells (P := P) (off := off) r _ _ (i + 1) (pre ++ [v]) old' post hb' (by simpa using hf) hl (by simp; omega) (by simpa using ho) (fun u hu => h1 u (by simp [hu]))
      rw [this]
      congr 1
      unfold World.put
      simp

theorem run_loadCells {P : Program} {w : World} {b off : Nat} : ∀ (cs : List Value) (acc : Array Value) (i : Nat), (∀ j v, cs[j]? = some v → w.cell? ⟨b, off + i + j, none⟩ = some v) →
    (loadCellsFrom ⟨b, off, none⟩ i cs.length acc).run P w = .ok (acc ++ cs.toArray) w
  | [], acc, i, _ => by simp [loadCellsFrom]
  | v :: r, acc, i, h => by
    simp only [List.length_cons, loadCellsFrom, Sem.run_bind, add_plain, run_load]
    have h0 := h 0 v rfl
    simp only [Nat.add_zero] at h0
    simp only [h0, Result.andThen_ok]
    rw [run_loadCells r (acc.push v) (i + 1) (fun j u hj => by
      have := h (j + 1) u (by simpa using hj)
      rw [show off + (i + 1) + j = off + i + (j + 1) from by omega]; exact this)]
    simp

theorem lkB_stB {k0 k : Blk} {b : Nat} : ∀ {h : Heap}, lkB h b = some k0 → ∀ b', lkB (stB h b k) b' = if b' = b then some k else lkB h b'
  | [], hk, _ => by simp [lkB] at hk
  | (i, v) :: r, hk, b' => by
    simp only [stB, lkB] at hk ⊢
    cases hi : Nat.beq i b with
    | true =>
      have := beq_of hi; subst this
      simp only [lkB]
      by_cases e : b' = i
      · subst e; simp
      · rw [if_neg e, beq_false (Ne.symm e)]
    | false =>
      simp only [hi] at hk
      simp only [lkB]
      have ih := lkB_stB (k := k) hk b'
      by_cases e : b' = b
      · subst e
        rw [hi, if_pos rfl]
        rw [if_pos rfl] at ih
        exact ih
      · rw [if_neg e] at ih ⊢
        cases Nat.beq i b' <;> simp [ih]

/-- A block of one's own is written. -/
theorem Mem.set {c : Cx} {h : Heap} {F : Nat → Prop} {β : Beta} {Y : Nat → Prop} {w : World} (m : Mem c h F β Y w) {b : Nat} {k0 k : Blk} {l : Loc} {o o' : Obj}
    (hk0 : lkB h b = some k0) (hl : β b = some l) (hlive : live k0 l = true) (hlive' : live k l = true) (_ho : w.heap[l.r]? = some o)
    (hk : Ext w (XX c.Z Y β h) (World.put w l.r o') (XX c.Z Y β h) → (World.put w l.r o').heap[l.r]? = some o' → BlkOK (World.put w l.r o') (XX c.Z Y β h) β k l) :
    Mem c (stB h b k) F β Y (World.put w l.r o') ∧ Ext w (XX c.Z Y β h) (World.put w l.r o') (XX c.Z Y β (stB h b k)) := by
  have hlkB : ∀ b', lkB (stB h b k) b' = if b' = b then some k else lkB h b' := lkB_stB hk0
  have hOwn : ∀ r, Own β (stB h b k) r ↔ Own β h r := by
    intro r
    constructor
    · rintro ⟨b', k', l', h1, h2, h3, h4⟩
      rw [hlkB] at h1
      by_cases e : b' = b
      · subst e
        rw [hl] at h2; cases h2
        exact ⟨b', k0, l, hk0, hl, hlive, h4⟩
      · rw [if_neg e] at h1; exact ⟨b', k', l', h1, h2, h3, h4⟩
    · rintro ⟨b', k', l', h1, h2, h3, h4⟩
      by_cases e : b' = b
      · subst e
        rw [hl] at h2; cases h2
        exact ⟨b', k, l, by rw [hlkB, if_pos rfl], hl, hlive', h4⟩
      · exact ⟨b', k', l', by rw [hlkB, if_neg e]; exact h1, h2, h3, h4⟩
  have hX : XX c.Z Y β (stB h b k) = XX c.Z Y β h := by
    funext r; simp only [XX]; rw [show Own β (stB h b k) r = Own β h r from propext (hOwn r)]
  have hlr : Own β h l.r := ⟨b, k0, l, hk0, hl, hlive, rfl⟩
  have hxl : XX c.Z Y β h l.r := .inr (.inr hlr)
  have hlt := (m.own _ hlr).1
  have hsame : ∀ r, r ≠ l.r → (World.put w l.r o').heap[r]? = w.heap[r]? := fun r hr => put_ne hr
  have e : Ext w (XX c.Z Y β h) (World.put w l.r o') (XX c.Z Y β h) :=
    ⟨by rw [put_size]; exact Nat.le_refl _, fun r _ hx => hsame r fun er => hx (er ▸ hxl), fun _ _ hx => hx⟩
  rw [hX]
  refine ⟨⟨m.fresh, fun b' k' hk' => ?_, ?_, fun r hr => ?_, fun r hr => ?_, m.zz, ?_, fun r hr hf => ?_, m.os, m.tape, m.output, fun g t hg ht => ?_⟩, e⟩
  · rw [hX]
    rw [hlkB] at hk'
    by_cases eb : b' = b
    · subst eb
      rw [if_pos rfl] at hk'; cases hk'
      exact ⟨l, hl, hk e (put_same hlt)⟩
    · rw [if_neg eb] at hk'
      obtain ⟨l', h1, h2⟩ := m.blk b' k' hk'
      refine ⟨l', h1, ?_⟩
      by_cases el : l'.r = l.r
      · -- another name of the same block: then it is not live, and its block is finished, or it has none
        have hnl : live k' l' = false := by
          cases hlv : live k' l' with
          | false => rfl
          | true => exact absurd (m.inj _ _ _ _ _ _ hk' hk0 h1 hl hlv hlive el) eb
        cases k' with
        | var own v =>
          obtain ⟨cs, ty, lo, hi, g1, g2, g3, g4⟩ := h2
          simp only [live] at hnl
          exact absurd (el ▸ hxl) (g4 hnl)
        | row own sz xs =>
          obtain ⟨g1, g2, g3, g4⟩ := h2
          by_cases hc : l'.cap = 0
          · exact ⟨g1, g2, g3, .inl hc⟩
          · rcases g4 with g4 | ⟨cs, ty, lo, hi, f1, f2, f3, f4, f5⟩
            · exact absurd g4 hc
            · simp [live, hc] at hnl
              exact absurd (el ▸ hxl) (f5 hnl)
        | gho q s =>
          simp only [live, Bool.not_eq_eq_eq_not, Bool.not_false] at hnl
          exact .inl hnl
      · exact h2.ext e (hsame _ el) (fun _ _ k => k) (fun _ hx => hx)
  · intro b1 b2 k1 k2 l1 l2 h1 h2 h3 h4 h5 h6 h7
    rw [hlkB] at h1 h2
    have conv : ∀ b' k' l', (if b' = b then some k else lkB h b') = some k' → β b' = some l' → live k' l' = true → ∃ k'', lkB h b' = some k'' ∧ live k'' l' = true := by
      intro b' k' l' g1 g2 g3
      by_cases eb : b' = b
      · subst eb; rw [hl] at g2; cases g2; exact ⟨k0, hk0, hlive⟩
      · rw [if_neg eb] at g1; exact ⟨k', g1, g3⟩
    obtain ⟨k1', g1, g2⟩ := conv _ _ _ h1 h3 h5
    obtain ⟨k2', g3, g4⟩ := conv _ _ _ h2 h4 h6
    exact m.inj _ _ _ _ _ _ g1 g3 h3 h4 g2 g4 h7
  · obtain ⟨g1, g2, g3, g4⟩ := m.own r ((hOwn r).1 hr)
    exact ⟨by rw [put_size]; exact g1, g2, g3, g4⟩
  · obtain ⟨g1, g2, g3⟩ := m.yy r hr
    exact ⟨(hsame r fun er => (m.own _ hlr).2.2.1 (er ▸ hr)).trans g1, g2, g3⟩
  · rw [put_size]; exact m.size
  · rw [hsame r]
    · exact m.frame r hr hf
    · rintro rfl
      rcases (m.own _ hlr).2.2.2 with g | g
      · omega
      · exact hf g
  · rw [hX]; exact relP_ext e _ _ (nms_true (fun _ _ k => k) _) (m.gl g t hg ht)

theorem cold_not_live (k : Blk) (l : Loc) : live k.cold l = false := by cases k <;> simp [Blk.cold, live, Blk.dead]

/-- A block is finished: it is no longer written. -/
theorem Mem.ice1 {c : Cx} {h : Heap} {F : Nat → Prop} {β : Beta} {Y : Nat → Prop} {w : World} (m : Mem c h F β Y w) {b : Nat} {k0 : Blk} (hk0 : lkB h b = some k0) :
    Mem c (stB h b k0.cold) F β Y w ∧ Ext w (XX c.Z Y β h) w (XX c.Z Y β (stB h b k0.cold)) ∧
      (∀ l, β b = some l → live k0 l = true → ¬ XX c.Z Y β (stB h b k0.cold) l.r) := by
  obtain ⟨l, hl, hok⟩ := m.blk b k0 hk0
  have hlkB := lkB_stB (k := k0.cold) hk0
  have hOwn : ∀ r, Own β (stB h b k0.cold) r → Own β h r ∧ (live k0 l = true → r ≠ l.r) := by
    rintro r ⟨b', k', l', h1, h2, h3, h4⟩
    rw [hlkB] at h1
    by_cases e : b' = b
    · subst e
      rw [if_pos rfl] at h1; cases h1
      rw [cold_not_live] at h3; cases h3
    · rw [if_neg e] at h1
      refine ⟨⟨b', k', l', h1, h2, h3, h4⟩, fun hlv er => e ?_⟩
      exact m.inj _ _ _ _ _ _ h1 hk0 h2 hl h3 hlv (h4.trans er)
  have hless : ∀ r, ¬ XX c.Z Y β h r → ¬ XX c.Z Y β (stB h b k0.cold) r := by
    rintro r hx (g | g | g)
    · exact hx (.inl g)
    · exact hx (.inr (.inl g))
    · exact hx (.inr (.inr (hOwn r g).1))
  have hcold : live k0 l = true → ¬ XX c.Z Y β (stB h b k0.cold) l.r := by
    intro hlv
    obtain ⟨g1, g2, g3, g4⟩ := m.own l.r ⟨b, k0, l, hk0, hl, hlv, rfl⟩
    rintro (g | g | g)
    · exact g2 g
    · exact g3 g
    · exact (hOwn _ g).2 hlv rfl
  have e : Ext w (XX c.Z Y β h) w (XX c.Z Y β (stB h b k0.cold)) := ⟨Nat.le_refl _, fun _ _ _ => rfl, fun r _ hx => hless r hx⟩
  refine ⟨⟨m.fresh, fun b' k' hk' => ?_, ?_, fun r hr => m.own r (hOwn r hr).1, m.yy, m.zz, m.size, m.frame, m.os, m.tape, m.output, fun g t hg ht => ?_⟩, e, ?_⟩
  · rw [hlkB] at hk'
    by_cases eb : b' = b
    · subst eb
      rw [if_pos rfl] at hk'; cases hk'
      refine ⟨l, hl, ?_⟩
      cases k0 with
      | var own v =>
        obtain ⟨cs, ty, lo, hi, g1, g2, g3, g4⟩ := hok
        refine ⟨cs, ty, lo, hi, g1, g2, relP_ext e _ _ (nms_true (fun _ _ k => k) _) g3, fun _ => ?_⟩
        cases own with
        | false => exact hless _ (g4 rfl)
        | true => exact hcold rfl
      | row own sz xs =>
        obtain ⟨g1, g2, g3, g4⟩ := hok
        refine ⟨g1, g2, g3, ?_⟩
        by_cases hc : l.cap = 0
        · exact .inl hc
        · rcases g4 with g4 | ⟨cs, ty, lo, hi, f1, f2, f3, ⟨c1, c2, f4, f5⟩, f6⟩
          · exact absurd g4 hc
          · refine .inr ⟨cs, ty, lo, hi, f1, f2, f3, ⟨c1, c2, f4, relR_ext e _ _ _ (nmsL_true (fun _ _ k => k) _) f5⟩, fun _ => ?_⟩
            cases own with
            | false => exact hless _ (f6 rfl)
            | true => exact hcold (by simp [live, hc])
      | gho q s => exact .inl rfl
    · rw [if_neg eb] at hk'
      obtain ⟨l', h1, h2⟩ := m.blk b' k' hk'
      exact ⟨l', h1, h2.ext e rfl (fun _ _ k => k) (fun _ hx => hless _ hx)⟩
  · intro b1 b2 k1 k2 l1 l2 h1 h2 h3 h4 h5 h6 h7
    rw [hlkB] at h1 h2
    by_cases e1 : b1 = b
    · rw [if_pos e1] at h1; cases h1; rw [cold_not_live] at h5; cases h5
    · by_cases e2 : b2 = b
      · rw [if_pos e2] at h2; cases h2; rw [cold_not_live] at h6; cases h6
      · rw [if_neg e1] at h1; rw [if_neg e2] at h2
        exact m.inj _ _ _ _ _ _ h1 h2 h3 h4 h5 h6 h7
  · exact relP_ext e _ _ (nms_true (fun _ _ k => k) _) (m.gl g t hg ht)
  · intro l' hl' hlv
    rw [hl] at hl'; cases hl'
    exact hcold hlv

theorem lkB_ice (ns : List Nat) : ∀ (h : Heap) (b : Nat), (lkB (iceB ns h) b).isSome = (lkB h b).isSome ∧ ∀ k, lkB (iceB ns h) b = some k → ∃ k', lkB h b = some k' ∧ (k = k' ∨ k = k'.cold) := by
  induction ns with
  | nil => exact fun h b => ⟨rfl, fun k hk => ⟨k, hk, .inl rfl⟩⟩
  | cons b0 ns ih =>
    intro h b
    simp only [iceB]
    cases hb : lkB h b0 with
    | none => exact ih h b
    | some k0 =>
      obtain ⟨g1, g2⟩ := ih (stB h b0 k0.cold) b
      have hs := lkB_stB (k := k0.cold) hb b
      simp only
      refine ⟨?_, fun k hk => ?_⟩
      · rw [g1, hs]
        by_cases e : b = b0
        · subst e; simp [hb]
        · simp [e]
      · obtain ⟨k', h1, h2⟩ := g2 k hk
        rw [hs] at h1
        by_cases e : b = b0
        · subst e
          rw [if_pos rfl] at h1; cases h1
          refine ⟨k0, hb, .inr ?_⟩
          rcases h2 with h2 | h2
          · exact h2
          · rw [h2]; cases k0 <;> rfl
        · rw [if_neg e] at h1; exact ⟨k', h1, h2⟩

/-- Several blocks are finished. -/
theorem Mem.ice {c : Cx} {F : Nat → Prop} {β : Beta} {Y : Nat → Prop} {w : World} (ns : List Nat) : ∀ {h : Heap}, Mem c h F β Y w →
    Mem c (iceB ns h) F β Y w ∧ Ext w (XX c.Z Y β h) w (XX c.Z Y β (iceB ns h)) ∧
      (∀ b ∈ ns, ∀ k l, lkB h b = some k → β b = some l → live k l = true → ¬ XX c.Z Y β (iceB ns h) l.r) := by
  induction ns with
  | nil => exact fun m => ⟨m, Ext.refl _ _, fun b hb => by cases hb⟩
  | cons b ns ih =>
    intro h m
    simp only [iceB]
    cases hk : lkB h b with
    | none =>
      obtain ⟨g1, g2, g3⟩ := ih m
      refine ⟨g1, g2, fun b' hb' k l h1 h2 h3 => ?_⟩
      rcases List.mem_cons.1 hb' with e | e
      · subst e; rw [hk] at h1; cases h1
      · exact g3 b' e k l h1 h2 h3
    | some k0 =>
      obtain ⟨m1, e1, f1⟩ := m.ice1 hk
      obtain ⟨g1, g2, g3⟩ := ih m1
      refine ⟨g1, e1.trans g2, fun b' hb' k l h1 h2 h3 => ?_⟩
      have hlt : l.r < w.heap.size := (m.own l.r ⟨b', k, l, h1, h2, h3, rfl⟩).1
      by_cases e : b' = b
      · subst e
        rw [hk] at h1; cases h1
        exact g2.less _ hlt (f1 l h2 h3)
      · rcases List.mem_cons.1 hb' with e' | e'
        · exact absurd e' e
        · exact g3 b' e' k l (by rw [lkB_stB hk, if_neg e]; exact h1) h2 h3

section
variable {c : Cx} {h : Heap} {F : Nat → Prop} {β : Beta} {Y : Nat → Prop} {w : World} (m : Mem c h F β Y w)

/-- What is finished when these names are: less is written. -/
def Cold (h : Heap) (β : Beta) (w : World) (X X' : Nat → Prop) (ns : List Nat) : Prop :=
  (∀ r, r < w.heap.size → ¬ X r → ¬ X' r) ∧ ∀ b ∈ ns, ∀ k l, lkB h b = some k → β b = some l → live k l = true → ¬ X' l.r

theorem Cold.mono {X X' : Nat → Prop} {ns ns' : List Nat} (hc : Cold h β w X X' ns') (hs : ∀ b ∈ ns, b ∈ ns') : Cold h β w X X' ns :=
  ⟨hc.1, fun b hb => hc.2 b (hs b hb)⟩

theorem Cold.ext {X X' : Nat → Prop} {ns : List Nat} (hc : Cold h β w X X' ns) : Ext w X w X' := ⟨Nat.le_refl _, fun _ _ _ => rfl, hc.1⟩

def FrzOK (h : Heap) (β : Beta) (w : World) (X : Nat → Prop) (v v' : SV) (ns' : List Nat) : Prop :=
  ∀ X', Cold h β w X X' ns' → (∀ cs, relP w X v β cs → relP w X' v' nob cs) ∧ (∀ u, relV w X v β u → relV w X' v' nob u) ∧ (∀ u, rel w X v β u → rel w X' v' nob u)
def FrzLOK (h : Heap) (β : Beta) (w : World) (X : Nat → Prop) (l l' : List SV) (ns' : List Nat) : Prop :=
  ∀ X', Cold h β w X X' ns' → (∀ cs, relC w X l β cs → relC w X' l' nob cs) ∧ (∀ us, relL w X l β us → relL w X' l' nob us) ∧ (∀ sz cs, relR w X sz l β cs → relR w X' sz l' nob cs)

theorem frz_leaf {X : Nat → Prop} {v v' : SV} {ns' : List Nat} (ha : v.isAgg = false) (hn : v ≠ .any) (ht : ∀ vs, v ≠ .tup vs) (ha' : v'.isAgg = false) (hn' : v' ≠ .any) (ht' : ∀ vs, v' ≠ .tup vs)
    (hp : ∀ X', Cold h β w X X' ns' → ∀ cs, relP w X v β cs → relP w X' v' nob cs) : FrzOK h β w X v v' ns' := by
  intro X' hc
  refine ⟨hp X' hc, fun u hu => ?_, fun u hu => ?_⟩
  · rw [relV_leaf ha hn] at hu; rw [relV_leaf ha' hn']; exact hp X' hc _ hu
  · rw [rel_eq ht, relV_leaf ha hn] at hu; rw [rel_eq ht', relV_leaf ha' hn']; exact hp X' hc _ hu

theorem frz_self {X : Nat → Prop} {v : SV} {ns' : List Nat} (hn : v.nms fun _ => False) : FrzOK h β w X v v ns' := by
  intro X' hc
  have e := hc.ext
  refine ⟨fun cs hcs => relP_ext e _ _ (nms_mono (fun _ hb => hb.elim) _ hn) hcs, fun u hu => relV_ext e (nms_mono (fun _ hb => hb.elim) _ hn) hu, fun u hu => rel_ext e (nms_mono (fun _ hb => hb.elim) _ hn) hu⟩

theorem frz_row {xs : List SV} {b sz : Nat} {own : Bool} (m : Mem c h F β Y w) (hb : lkB h b = some (.row own sz xs)) {X' : Nat → Prop} {ns : List Nat} (hc : Cold h β w (XX c.Z Y β h) X' ns) (hbn : b ∈ ns) {cs : List Value}
    (hv : relP w (XX c.Z Y β h) (.osl b sz) β cs) : relP w X' (.sl sz xs) nob cs := by
  simp only [relP] at hv ⊢
  obtain ⟨l, a, hl, rfl, ha⟩ := hv
  obtain ⟨l', hl', hok⟩ := m.blk b _ hb
  rw [hl] at hl'; cases hl'
  obtain ⟨g1, g2, g3, g4⟩ := hok
  refine ⟨a, l.cap, by rw [g1], by omega, ?_⟩
  by_cases hcap : l.cap = 0
  · left
    exact List.length_eq_zero_iff.1 (by omega)
  · right
    rcases g4 with g4 | ⟨cs, ty, lo, hi, f1, f2, f3, ⟨c1, c2, f4, f5⟩, f6⟩
    · exact absurd g4 hcap
    · refine ⟨l.r, 0, c1, ha hcap, ?_, heap_lt f1, ?_, relR_ext hc.ext _ _ _ (nmsL_true (fun _ _ k => k) _) f5⟩
      · cases own with
        | false => exact hc.1 _ (heap_lt f1) (f6 rfl)
        | true => exact hc.2 b hbn _ l hb hl (by simp [live, hcap])
      · intro j v hj
        have hjl : j < c1.length := by
          rcases Nat.lt_or_ge j c1.length with g | g
          · exact g
          · rw [List.getElem?_eq_none g] at hj; cases hj
        have : cs[j]? = some v := by
          rw [← Array.getElem?_toList, f4, List.getElem?_append_left hjl]; exact hj
        simp [World.cell?, f1, this]

theorem frz_var {u u' : SV} {b : Nat} {p : List Step} {own : Bool} {v : SV} (m : Mem c h F β Y w) (hb : lkB h b = some (.var own v)) {K : SV → Prop} {X' : Nat → Prop} {ns : List Nat}
    (hn : nav v p fun x => x = u ∧ K x) (hc : Cold h β w (XX c.Z Y β h) X' ns) (hbn : b ∈ ns) (hu : ∀ cs, relP w (XX c.Z Y β h) u β cs → relP w X' u' nob cs) {cs : List Value}
    (hv : relP w (XX c.Z Y β h) (.ptr b p) β cs) : relP w X' (.iptr u') nob cs := by
  simp only [relP] at hv ⊢
  obtain ⟨l, hl, rfl⟩ := hv
  obtain ⟨l', hl', hok⟩ := m.blk b _ hb
  rw [hl] at hl'; cases hl'
  obtain ⟨cs, ty, lo, hi, g1, g2, g3, g4⟩ := hok
  obtain ⟨x, pre, mid, post, ⟨hx, _⟩, h2, h3, h4⟩ := nav_ok p v _ _ hn g3
  subst hx
  refine ⟨l.r, pOff p, mid, rfl, ?_, heap_lt g1, ?_, hu _ h4⟩
  · cases own with
    | false => exact hc.1 _ (heap_lt g1) (g4 rfl)
    | true => exact hc.2 b hbn _ l hb hl rfl
  · intro j y hj
    have hjl : j < mid.length := by
      rcases Nat.lt_or_ge j mid.length with g | g
      · exact g
      · rw [List.getElem?_eq_none g] at hj; cases hj
    have : cs[pOff p + j]? = some y := by
      rw [← Array.getElem?_toList, h2, ← h3, List.append_assoc, List.getElem?_append_right (by omega), List.getElem?_append_left (by omega)]
      rw [show pre.length + j - pre.length = j from by omega]; exact hj
    simp [World.cell?, g1, this]

theorem nav_strong : ∀ (p : List Step) (v : SV) (K : SV → Prop), nav v p K → ∃ u, K u ∧ nav v p fun x => x = u ∧ K x
  | [], v, K, h => by
    simp only [nav, frc_eq] at h ⊢
    exact ⟨v, h, rfl, h⟩
  | .fld i off :: p, v, K, h => by
    simp only [nav] at h ⊢
    cases v <;> simp only at h ⊢
    rename_i fs
    cases hb : Nat.beq off (szs (fs.take i)) <;> simp only [hb] at h ⊢
    cases hs : fs[i]? with
    | none => simp only [hs] at h
    | some s => simp only [hs] at h ⊢; exact nav_strong p s K h
  | .idx i sz :: p, v, K, h => by
    simp only [nav] at h ⊢
    cases v <;> simp only at h ⊢
    rename_i n' sz' xs
    cases hb : Nat.beq sz sz' <;> simp only [hb] at h ⊢
    unfold IdxVC at h ⊢
    obtain ⟨s, h0, hs, h⟩ := h
    obtain ⟨u, h1, h2⟩ := nav_strong p s K h
    exact ⟨u, h1, s, h0, hs, h2⟩

mutual
theorem frz_ok (m : Mem c h F β Y w) : ∀ (d : Nat) (v : SV) (ns : List Nat) (K : SV → List Nat → Prop), frz h d v ns K →
    ∃ v' ns', K v' ns' ∧ (∀ b ∈ ns, b ∈ ns') ∧ FrzOK h β w (XX c.Z Y β h) v v' ns'
  | 0, v, ns, K, hf => by simp only [frz] at hf
  | d + 1, v, ns, K, hf => by
    cases v with
    | ptr b p =>
      simp only [frz] at hf
      cases hb : lkB h b with
      | none => simp only [hb] at hf
      | some k =>
        simp only [hb] at hf
        cases k <;> simp only at hf
        rename_i own v0
        obtain ⟨u, hu1, hu2⟩ := nav_strong p v0 _ hf
        obtain ⟨v', ns', h1, h2, h3⟩ := frz_ok m d u (b :: ns) _ hu1
        refine ⟨.iptr v', ns', h1, fun b' hb' => h2 b' (by simp [hb']), ?_⟩
        exact frz_leaf rfl (by simp) (by simp) rfl (by simp) (by simp) fun X' hc cs hv => frz_var m hb hu2 hc (h2 b (by simp)) (h3 X' hc).1 hv
    | osl b sz =>
      simp only [frz] at hf
      cases hb : lkB h b with
      | none => simp only [hb] at hf
      | some k =>
        simp only [hb] at hf
        cases k <;> simp only at hf
        rename_i own sz' xs
        cases hs : Nat.beq sz sz' <;> simp only [hs] at hf
        have := beq_of hs; subst this
        refine ⟨.sl sz xs, b :: ns, hf, fun b' hb' => by simp [hb'], ?_⟩
        exact frz_leaf rfl (by simp) (by simp) rfl (by simp) (by simp) fun X' hc cs hv => frz_row m hb hc (by simp) hv
    | agg fs =>
      simp only [frz] at hf
      obtain ⟨l', ns', h1, h2, h3⟩ := frzL_ok m d fs ns _ hf
      refine ⟨.agg l', ns', h1, h2, fun X' hc => ?_⟩
      have hp : ∀ cs, relP w (XX c.Z Y β h) (.agg fs) β cs → relP w X' (.agg l') nob cs := fun cs hcs => by
        simp only [relP] at hcs ⊢; exact (h3 X' hc).1 cs hcs
      have hv : ∀ u, relV w (XX c.Z Y β h) (.agg fs) β u → relV w X' (.agg l') nob u := by
        rintro u ⟨cs, g1, g2⟩; exact ⟨cs, g1, hp _ g2⟩
      exact ⟨hp, hv, hv⟩
    | tup fs =>
      simp only [frz] at hf
      obtain ⟨l', ns', h1, h2, h3⟩ := frzL_ok m d fs ns _ hf
      refine ⟨.tup l', ns', h1, h2, fun X' hc => ⟨fun cs hcs => ?_, fun u hu => ?_, ?_⟩⟩
      · simp only [relP] at hcs
      · simp only [relV, SV.isAgg, relP] at hu
      · rintro u ⟨us, g1, g2⟩; exact ⟨us, g1, (h3 X' hc).2.1 _ g2⟩
    | fn f cs =>
      simp only [frz] at hf
      obtain ⟨l', ns', h1, h2, h3⟩ := frzL_ok m d cs ns _ hf
      refine ⟨.fn f l', ns', h1, h2, ?_⟩
      refine frz_leaf rfl (by simp) (by simp) rfl (by simp) (by simp) fun X' hc cs hv => ?_
      simp only [relP] at hv ⊢
      obtain ⟨us, g1, g2⟩ := hv
      exact ⟨us, g1, (h3 X' hc).2.1 _ g2⟩
    | yld b => simp only [frz] at hf
    | any | int _ _ | bool _ | tru | fls | str _ | arr _ _ _ | sl _ _ | mt | nils | iptr _ | nilf | nilp | nili =>
      simp only [frz, frc_eq] at hf
      exact ⟨_, ns, hf, fun _ hb => hb, frz_self trivial⟩
theorem frzL_ok (m : Mem c h F β Y w) : ∀ (d : Nat) (l : List SV) (ns : List Nat) (K : List SV → List Nat → Prop), frzL h d l ns K →
    ∃ l' ns', K l' ns' ∧ (∀ b ∈ ns, b ∈ ns') ∧ FrzLOK h β w (XX c.Z Y β h) l l' ns'
  | 0, l, ns, K, hf => by simp only [frzL] at hf
  | d + 1, [], ns, K, hf => by
    simp only [frzL] at hf
    refine ⟨[], ns, hf, fun _ hb => hb, fun X' hc => ⟨fun cs h => ?_, fun us h => ?_, fun sz cs h => ?_⟩⟩
    · rw [relC_nil] at h ⊢; exact h
    · rw [relL_nil] at h ⊢; exact h
    · rw [relR_nil] at h ⊢; exact h
  | d + 1, v :: r, ns, K, hf => by
    simp only [frzL] at hf
    obtain ⟨v', ns1, h1, h2, h3⟩ := frz_ok m d v ns _ hf
    obtain ⟨r', ns2, k1, k2, k3⟩ := frzL_ok m d r ns1 _ h1
    refine ⟨v' :: r', ns2, k1, fun b hb => k2 b (h2 b hb), fun X' hc => ?_⟩
    have hv := h3 X' (hc.mono k2)
    have hr := k3 X' hc
    refine ⟨fun cs h => ?_, fun us h => ?_, fun sz cs h => ?_⟩
    · rw [relC_cons] at h ⊢
      obtain ⟨c1, c2, g1, g2, g3⟩ := h
      exact ⟨c1, c2, g1, hv.1 _ g2, hr.1 _ g3⟩
    · rw [relL_cons] at h ⊢
      obtain ⟨u, us', g1, g2, g3⟩ := h
      exact ⟨u, us', g1, hv.2.1 _ g2, hr.2.1 _ g3⟩
    · rw [relR_cons] at h ⊢
      obtain ⟨c1, c2, g1, g0, g2, g3⟩ := h
      exact ⟨c1, c2, g1, g0, hv.1 _ g2, hr.2.2 _ _ g3⟩
end
end

/-- The names iced: that is enough for 'Cold'. -/
theorem Mem.cold {c : Cx} {h : Heap} {F : Nat → Prop} {β : Beta} {Y : Nat → Prop} {w : World} (m : Mem c h F β Y w) (ns : List Nat) : Cold h β w (XX c.Z Y β h) (XX c.Z Y β (iceB ns h)) ns :=
  ⟨(m.ice ns).2.1.less, (m.ice ns).2.2⟩

theorem lk_killS {b : Nat} : ∀ (sl : Slots) (t : Nat), lk (killS b sl) t = (lk sl t).kill b
  | [], _ => rfl
  | (i, v) :: r, t => by
    simp only [killS, lk]
    cases Nat.beq i t with
    | true => rfl
    | false => exact lk_killS r t

theorem lkB_killH {b : Nat} : ∀ (h : Heap) (b' : Nat), lkB (killH b h) b' = (lkB h b').map fun | .var o v => .var o (v.kill b) | .row o s x => .row o s x | .gho q s => .gho q (killS b s)
  | [], _ => rfl
  | (i, .var o v) :: r, b' => by simp only [killH, lkB]; cases Nat.beq i b' <;> simp [lkB_killH r b']
  | (i, .row o s x) :: r, b' => by simp only [killH, lkB]; cases Nat.beq i b' <;> simp [lkB_killH r b']
  | (i, .gho q s) :: r, b' => by simp only [killH, lkB]; cases Nat.beq i b' <;> simp [lkB_killH r b']

theorem live_gho {q : Lp} {s : Slots} {l : Loc} (h : ¬ q.dead = true) : live (.gho q s) l = true := by simpa [live] using h

/-- A row that grows: in its place, or elsewhere; older names for it are forgotten. -/
theorem Mem.app {c : Cx} {h : Heap} {F : Nat → Prop} {β : Beta} {Y : Nat → Prop} {w w' : World} (m : Mem c h F β Y w) {b sz : Nat} {xs ys : List SV} {l l' : Loc}
    (hk0 : lkB h b = some (.row true sz xs)) (hl : β b = some l)
    (hsize : w.heap.size ≤ w'.heap.size) (hos : w'.os = w.os) (htape : w'.tape = w.tape) (hout : w'.output = w.output)
    (hsame : ∀ r, r < w.heap.size → ¬ (l.cap ≠ 0 ∧ r = l.r) → w'.heap[r]? = w.heap[r]?)
    (hl' : l'.cap ≠ 0 → (l'.r = l.r ∧ l.cap ≠ 0) ∨ (w.heap.size ≤ l'.r ∧ l'.r < w'.heap.size))
    (hk : ∀ X', Ext w (XX c.Z Y β h) w' X' → BlkOK w' X' (setβ β b l') (.row true sz ys) l') :
    Mem c (stB (killH b h) b (.row true sz ys)) F (setβ β b l') Y w' ∧ Ext w (XX c.Z Y β h) w' (XX c.Z Y (setβ β b l') (stB (killH b h) b (.row true sz ys))) := by
  have hk1 : lkB (killH b h) b = some (.row true sz xs) := by rw [lkB_killH, hk0]; rfl
  have hlkB := lkB_stB (k := .row true sz ys) hk1
  have hconv : ∀ b' k', b' ≠ b → lkB (stB (killH b h) b (.row true sz ys)) b' = some k' → ∃ k'', lkB h b' = some k'' ∧ (∀ l, live k' l = live k'' l) ∧
      (k' = match k'' with | .var o v => .var o (v.kill b) | .row o s x => .row o s x | .gho q s => .gho q (killS b s)) := by
    intro b' k' e hk'
    rw [hlkB, if_neg e, lkB_killH] at hk'
    cases hh : lkB h b' with
    | none => rw [hh] at hk'; cases hk'
    | some k'' =>
      rw [hh] at hk'
      refine ⟨k'', rfl, ?_, ?_⟩
      · cases k'' <;> cases hk' <;> intro l <;> rfl
      · cases k'' <;> cases hk' <;> rfl
  have hnb : ¬ F b := fun g => by rw [m.fresh b g] at hl; cases hl
  have hlt : l.cap ≠ 0 → Own β h l.r := fun hc => ⟨b, _, l, hk0, hl, by simp [live, hc], rfl⟩
  have hOwn : ∀ r, Own (setβ β b l') (stB (killH b h) b (.row true sz ys)) r → Own β h r ∨ (w.heap.size ≤ r ∧ r < w'.heap.size) := by
    rintro r ⟨b', k', l'', h1, h2, h3, h4⟩
    by_cases e : b' = b
    · subst e
      rw [setβ_same] at h2; cases h2
      rw [hlkB, if_pos rfl] at h1; cases h1
      have hc : l'.cap ≠ 0 := by simpa [live] using h3
      rcases hl' hc with ⟨g1, g2⟩ | g
      · exact .inl (by rw [← h4, g1]; exact hlt g2)
      · exact .inr (by rw [← h4]; exact g)
    · obtain ⟨k'', g1, g2, _⟩ := hconv b' k' e h1
      rw [setβ_ne e] at h2
      exact .inl ⟨b', k'', l'', g1, h2, (g2 l'').symm.trans h3, h4⟩
  have hnx : ∀ r, ¬ XX c.Z Y β h r → ¬ (l.cap ≠ 0 ∧ r = l.r) := fun r hx ⟨hc, hr⟩ => hx (.inr (.inr (hr ▸ hlt hc)))
  have e : Ext w (XX c.Z Y β h) w' (XX c.Z Y (setβ β b l') (stB (killH b h) b (.row true sz ys))) := by
    refine ⟨hsize, fun r hr hx => hsame r hr (hnx r hx), fun r hr hx => ?_⟩
    rintro (g | g | g)
    · exact hx (.inl g)
    · exact hx (.inr (.inl g))
    · rcases hOwn r g with g | g
      · exact hx (.inr (.inr g))
      · omega
  have hβk : ∀ v : SV, (v.kill b).nms fun b' => ∀ l, β b' = some l → setβ β b l' b' = some l := killP fun b' l hb' hl => by rw [setβ_ne hb']; exact hl
  have hnotmine : ∀ b' k' l'', b' ≠ b → lkB h b' = some k' → β b' = some l'' → live k' l'' = true → ¬ (l.cap ≠ 0 ∧ l''.r = l.r) := by
    rintro b' k' l'' e h1 h2 h3 ⟨hc, hr⟩
    exact e (m.inj _ _ _ _ _ _ h1 hk0 h2 hl h3 (by simp [live, hc]) hr)
  refine ⟨⟨fun b' hb' => ?_, fun b' k' hk' => ?_, ?_, fun r hr => ?_, fun r hr => ?_, m.zz, Nat.le_trans m.size hsize, fun r hr hf => ?_, hos.trans m.os, htape.trans m.tape, hout.trans m.output, fun g t hg ht => ?_⟩, e⟩
  · rw [setβ_ne (fun e : b' = b => hnb (e ▸ hb'))]; exact m.fresh b' hb'
  · by_cases eb : b' = b
    · subst eb
      rw [hlkB, if_pos rfl] at hk'; cases hk'
      exact ⟨l', setβ_same .., hk _ e⟩
    · obtain ⟨k'', g1, g2, g3⟩ := hconv b' k' eb hk'
      obtain ⟨l'', h1, h2⟩ := m.blk b' k'' g1
      refine ⟨l'', by rw [setβ_ne eb]; exact h1, ?_⟩
      subst g3
      have hst : l''.r < w.heap.size → live k'' l'' = true ∨ ¬ XX c.Z Y β h l''.r → w'.heap[l''.r]? = w.heap[l''.r]? := by
        intro hr hh
        rcases hh with hh | hh
        · exact hsame _ hr (hnotmine b' k'' l'' eb g1 h1 hh)
        · exact hsame _ hr (hnx _ hh)
      cases k'' with
      | var own v =>
        obtain ⟨cs, ty, lo, hi, f1, f2, f3, f4⟩ := h2
        refine ⟨cs, ty, lo, hi, ?_, f2, relP_ext e _ _ (hβk v) (relP_kill b _ _ f3), fun ho => e.less _ (heap_lt f1) (f4 ho)⟩
        rw [hst (heap_lt f1)]
        · exact f1
        · cases own with
          | true => exact .inl rfl
          | false => exact .inr (f4 rfl)
      | row own sz' xs' =>
        obtain ⟨f1, f2, f3, f4⟩ := h2
        refine ⟨f1, f2, f3, ?_⟩
        by_cases hc : l''.cap = 0
        · exact .inl hc
        · rcases f4 with f4 | ⟨cs, ty, lo, hi, d1, d2, d3, ⟨c1, c2, d4, d5⟩, d6⟩
          · exact absurd f4 hc
          · refine .inr ⟨cs, ty, lo, hi, ?_, d2, d3, ⟨c1, c2, d4, relR_ext e _ _ _ (nmsL_true (fun _ _ k => k) _) d5⟩, fun ho => e.less _ (heap_lt d1) (d6 ho)⟩
            rw [hst (heap_lt d1)]
            · exact d1
            · cases own with
              | true => exact .inl (by simp [live, hc])
              | false => exact .inr (d6 rfl)
      | gho q s =>
        rcases h2 with h2 | ⟨fn, tmps, D, d1, d2, d3⟩
        · exact .inl h2
        by_cases hx : q.dead = true
        · exact .inl hx
        refine .inr ⟨fn, tmps, D, ?_, d2, fun t ht => ?_⟩
        · rw [hst (heap_lt d1) (.inl (live_gho hx))]; exact d1
        · rw [lk_killS]; exact rel_ext e (hβk _) (rel_kill b (d3 t ht))
  · intro b1 b2 k1 k2 l1 l2 h1 h2 h3 h4 h5 h6 h7
    by_cases e1 : b1 = b
    · by_cases e2 : b2 = b
      · exact e1.trans e2.symm
      · subst e1
        rw [setβ_same] at h3; cases h3
        rw [hlkB, if_pos rfl] at h1; cases h1
        have hc : l'.cap ≠ 0 := by simpa [live] using h5
        obtain ⟨k'', g1, g2, _⟩ := hconv b2 k2 e2 h2
        rw [setβ_ne e2] at h4
        have hlv : live k'' l2 = true := (g2 l2).symm.trans h6
        rcases hl' hc with ⟨f1, f2⟩ | ⟨f1, f2⟩
        · exact absurd ⟨f2, h7.symm.trans f1⟩ (hnotmine b2 k'' l2 e2 g1 h4 hlv)
        · have := (m.own l2.r ⟨b2, k'', l2, g1, h4, hlv, rfl⟩).1
          omega
    · obtain ⟨k1', g1, g2, _⟩ := hconv b1 k1 e1 h1
      rw [setβ_ne e1] at h3
      have hlv1 : live k1' l1 = true := (g2 l1).symm.trans h5
      by_cases e2 : b2 = b
      · subst e2
        rw [setβ_same] at h4; cases h4
        rw [hlkB, if_pos rfl] at h2; cases h2
        have hc : l'.cap ≠ 0 := by simpa [live] using h6
        rcases hl' hc with ⟨f1, f2⟩ | ⟨f1, f2⟩
        · exact absurd ⟨f2, h7.trans f1⟩ (hnotmine b1 k1' l1 e1 g1 h3 hlv1)
        · have := (m.own l1.r ⟨b1, k1', l1, g1, h3, hlv1, rfl⟩).1
          omega
      · obtain ⟨k2', g3, g4, _⟩ := hconv b2 k2 e2 h2
        rw [setβ_ne e2] at h4
        exact m.inj _ _ _ _ _ _ g1 g3 h3 h4 hlv1 ((g4 l2).symm.trans h6) h7
  · rcases hOwn r hr with g | g
    · obtain ⟨g1, g2, g3, g4⟩ := m.own r g
      exact ⟨Nat.lt_of_lt_of_le g1 hsize, g2, g3, g4⟩
    · refine ⟨g.2, fun hz => ?_, fun hy => ?_, .inl (Nat.le_trans m.size g.1)⟩
      · have := (m.zz _ hz).1; have := m.size; omega
      · have := heap_lt (m.yy _ hy).1; omega
  · obtain ⟨g1, g2, g3⟩ := m.yy r hr
    exact ⟨(hsame r (heap_lt g1) fun ⟨hc, er⟩ => (m.own _ (hlt hc)).2.2.1 (er ▸ hr)).trans g1, g2, g3⟩
  · rw [hsame r (Nat.lt_of_lt_of_le hr m.size)]
    · exact m.frame r hr hf
    · rintro ⟨hc, rfl⟩
      rcases (m.own _ (hlt hc)).2.2.2 with g | g
      · omega
      · exact hf g
  · exact relP_ext e _ _ (nms_true (fun _ _ k => k) _) (m.gl g t hg ht)

mutual
theorem undr_nms {n : Nat} : ∀ v : SV, v.undr n = true → v.nms (· < n)
  | .ptr b _, h => by simp only [SV.undr, Nat.blt_eq] at h; exact h
  | .osl b _, h => by simp only [SV.undr, Nat.blt_eq] at h; exact h
  | .yld b, h => by simp only [SV.undr, Nat.blt_eq] at h; exact h
  | .agg fs, h => undrL_nms fs h
  | .tup fs, h => undrL_nms fs h
  | .fn _ fs, h => undrL_nms fs h
  | .any, _ | .int .., _ | .bool _, _ | .tru, _ | .fls, _ | .str _, _ | .arr .., _ | .sl .., _ | .mt, _ | .nils, _ | .iptr _, _ | .nilf, _ | .nilp, _ | .nili, _ => trivial
theorem undrL_nms {n : Nat} : ∀ l : List SV, undrL n l = true → nmsL (· < n) l
  | [], _ => trivial
  | v :: r, h => by
    simp only [undrL] at h
    cases hv : v.undr n <;> simp only [hv] at h
    · cases h
    · exact ⟨undr_nms v hv, undrL_nms r h⟩
end

theorem belowS_lk {n : Nat} : ∀ {sl : Slots}, belowS n sl = true → ∀ t, (lk sl t).undr n = true
  | [], _, _ => rfl
  | (i, v) :: r, h, t => by
    simp only [belowS] at h
    cases hv : v.undr n <;> simp only [hv] at h
    · cases h
    · simp only [lk]
      cases Nat.beq i t with
      | true => exact hv
      | false => exact belowS_lk h t

theorem belowH_lk {n : Nat} : ∀ {h : Heap}, belowH n h = true → ∀ b k, lkB h b = some k → b < n ∧ (∀ o v, k = .var o v → v.undr n = true) ∧ ∀ q s, k = .gho q s → belowS n s = true
  | [], _, _, _, hk => by simp [lkB] at hk
  | (i, .var o v) :: r, h, b, k, hk => by
    simp only [belowH] at h
    cases hb : Nat.blt i n <;> cases hv : v.undr n <;> simp only [hb, hv] at h <;> first | (exact absurd h (by decide)) | skip
    simp only [lkB] at hk
    cases hi : Nat.beq i b with
    | true =>
      simp only [hi] at hk; cases hk
      have := beq_of hi; subst this
      exact ⟨by simpa using hb, fun o' v' e => by cases e; exact hv, fun _ _ e => by cases e⟩
    | false => simp only [hi] at hk; exact belowH_lk h b k hk
  | (i, .row o s x) :: r, h, b, k, hk => by
    simp only [belowH] at h
    cases hb : Nat.blt i n <;> simp only [hb] at h <;> first | (exact absurd h (by decide)) | skip
    simp only [lkB] at hk
    cases hi : Nat.beq i b with
    | true =>
      simp only [hi] at hk; cases hk
      have := beq_of hi; subst this
      exact ⟨by simpa using hb, fun o' v' e => (by cases e), fun _ _ e => by cases e⟩
    | false => simp only [hi] at hk; exact belowH_lk h b k hk
  | (i, .gho q s) :: r, h, b, k, hk => by
    simp only [belowH] at h
    cases hb : Nat.blt i n <;> cases hv : belowS n s <;> simp only [hb, hv] at h <;> first | (exact absurd h (by decide)) | skip
    simp only [lkB] at hk
    cases hi : Nat.beq i b with
    | true =>
      simp only [hi] at hk; cases hk
      have := beq_of hi; subst this
      exact ⟨by simpa using hb, fun o' v' e => (by cases e), fun _ _ e => by cases e; exact hv⟩
    | false => simp only [hi] at hk; exact belowH_lk h b k hk

theorem subH_lk {h' : Heap} : ∀ {h : Heap}, subH h' h → ∀ b k, lkB h b = some k → lkB h' b = some k
  | [], _, _, _, hk => by simp [lkB] at hk
  | (i, v) :: r, hs, b, k, hk => by
    simp only [lkB] at hk
    cases hi : Nat.beq i b with
    | true =>
      simp only [hi] at hk; cases hk
      have := beq_of hi; subst this
      exact hs.1
    | false => simp only [hi] at hk; exact subH_lk hs.2 b k hk

theorem subS_lk {sl' : Slots} : ∀ {sl : Slots}, subS sl' sl → ∀ t, lk sl t = .any ∨ lk sl t = lk sl' t
  | [], _, _ => .inl rfl
  | (i, v) :: r, hs, t => by
    simp only [lk]
    cases hi : Nat.beq i t with
    | true =>
      have := beq_of hi; subst this
      exact .inr hs.1.symm
    | false => exact subS_lk hs.2 t

def cutβ (β : Beta) (n : Nat) : Beta := fun b => if b < n then β b else none

/-- A weaker state. -/
theorem Mem.weaken {c : Cx} {h h' : Heap} {n : Nat} {F : Nat → Prop} {β : Beta} {Y : Nat → Prop} {w : World} (m : Mem c h' F β Y w) (hs : subH h' h) (hb : belowH n h = true) :
    Mem c h (fun b => n ≤ b) (cutβ β n) Y w ∧ Ext w (XX c.Z Y β h') w (XX c.Z Y (cutβ β n) h) := by
  have hβ : ∀ b l, cutβ β n b = some l → b < n ∧ β b = some l := by
    intro b l hl
    simp only [cutβ] at hl
    by_cases e : b < n
    · rw [if_pos e] at hl; exact ⟨e, hl⟩
    · rw [if_neg e] at hl; cases hl
  have hβ' : ∀ b l, b < n → β b = some l → cutβ β n b = some l := fun b l e hl => by simp only [cutβ]; rw [if_pos e]; exact hl
  have hlk := subH_lk hs
  have hOwn : ∀ r, Own (cutβ β n) h r → Own β h' r := by
    rintro r ⟨b, k, l, h1, h2, h3, h4⟩
    exact ⟨b, k, l, hlk _ _ h1, (hβ _ _ h2).2, h3, h4⟩
  have hless : ∀ r, ¬ XX c.Z Y β h' r → ¬ XX c.Z Y (cutβ β n) h r := by
    rintro r hx (g | g | g)
    · exact hx (.inl g)
    · exact hx (.inr (.inl g))
    · exact hx (.inr (.inr (hOwn r g)))
  have e : Ext w (XX c.Z Y β h') w (XX c.Z Y (cutβ β n) h) := ⟨Nat.le_refl _, fun _ _ _ => rfl, fun r _ hx => hless r hx⟩
  refine ⟨⟨fun b hb' => ?_, fun b k hk => ?_, ?_, fun r hr => m.own r (hOwn r hr), m.yy, m.zz, m.size, m.frame, m.os, m.tape, m.output, fun g t hg ht => relP_ext e _ _ (nms_true (fun _ _ k => k) _) (m.gl g t hg ht)⟩, e⟩
  · simp only [cutβ]; rw [if_neg (by omega)]
  · obtain ⟨l, h1, h2⟩ := m.blk b k (hlk _ _ hk)
    obtain ⟨g1, g2, g3⟩ := belowH_lk hb b k hk
    refine ⟨l, hβ' _ _ g1 h1, ?_⟩
    cases k with
    | var own v =>
      obtain ⟨cs, ty, lo, hi, f1, f2, f3, f4⟩ := h2
      exact ⟨cs, ty, lo, hi, f1, f2, relP_ext e _ _ (nms_mono (fun b hb l hl => hβ' b l hb hl) _ (undr_nms v (g2 _ _ rfl))) f3, fun ho => hless _ (f4 ho)⟩
    | row own sz xs =>
      obtain ⟨f1, f2, f3, f4⟩ := h2
      refine ⟨f1, f2, f3, f4.imp id ?_⟩
      rintro ⟨cs, ty, lo, hi, d1, d2, d3, ⟨c1, c2, d4, d5⟩, d6⟩
      exact ⟨cs, ty, lo, hi, d1, d2, d3, ⟨c1, c2, d4, relR_ext e _ _ _ (nmsL_true (fun _ _ k => k) _) d5⟩, fun ho => hless _ (d6 ho)⟩
    | gho q s =>
      rcases h2 with h2 | ⟨fn, tmps, D, d1, d2, d3⟩
      · exact .inl h2
      exact .inr ⟨fn, tmps, D, d1, d2, fun t ht => rel_ext e (nms_mono (fun b hb l hl => hβ' b l hb hl) _ (undr_nms _ (belowS_lk (g3 _ _ rfl) t))) (d3 t ht)⟩
  · intro b1 b2 k1 k2 l1 l2 h1 h2 h3 h4 h5 h6 h7
    exact m.inj _ _ _ _ _ _ (hlk _ _ h1) (hlk _ _ h2) (hβ _ _ h3).2 (hβ _ _ h4).2 h5 h6 h7

/-- What the slots hold. -/
def slotv (c : Cx) (a : Act) (t : Nat) : Value := if t ≤ 999999 then a.tmps.getD t undef else c.sh (t - 1000000)
def SlotsOK (c : Cx) (sl : Slots) (h : Heap) (β : Beta) (Y : Nat → Prop) (w : World) (a : Act) : Prop :=
  a.tmps.size ≤ 1000000 ∧ ∀ t, rel w (XX c.Z Y β h) (lk sl t) β (slotv c a t)

theorem rel_any {w : World} {X : Nat → Prop} {β : Beta} {u : Value} : rel w X .any β u := trivial

theorem SlotsOK.weaken {c : Cx} {h h' : Heap} {n : Nat} {F : Nat → Prop} {β : Beta} {Y : Nat → Prop} {w : World} {a : Act} {sl sl' : Slots} (m : Mem c h' F β Y w) (hs : subH h' h) (hb : belowH n h = true)
    (hsl : subS sl' sl) (hbs : belowS n sl = true) (k : SlotsOK c sl' h' β Y w a) : SlotsOK c sl h (cutβ β n) Y w a := by
  refine ⟨k.1, ?_⟩
  replace k := k.2
  intro t
  rcases subS_lk hsl t with g | g
  · rw [g]; exact rel_any
  · have hn := undr_nms _ (belowS_lk hbs t)
    rw [g] at hn ⊢
    exact rel_ext (m.weaken hs hb).2 (nms_mono (fun b hb' l hl => by simp only [cutβ]; rw [if_pos hb']; exact hl) _ hn) (k t)
end Go.Sx
