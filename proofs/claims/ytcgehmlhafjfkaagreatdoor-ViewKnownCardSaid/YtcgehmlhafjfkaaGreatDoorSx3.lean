/-
  THE MEMORY OF A RUNNING FUNCTION, and what each kind of step does to it. Generic: no program in sight. An own text.
-/
import Derived.Test.YtcgehmlhafjfkaaGreatDoorSx2
namespace Go.Sx
open Go.RowKit (Below)

/-- What stays the same while a function runs. Z: blocks of others that may still be written; F0: old blocks that this call may write; ro: the round of a range over a function, if the frame is one. -/
structure Cx where
  E : Env
  w0 : World
  Z : Nat → Prop
  F0 : Nat → Prop
  /-- what the slots beyond a million hold: those of the callers that wait -/
  sh : Nat → Value := fun _ => undef
  ro : Option Nat := none
  /-- blocks that waiting frames keep -/
  Y0 : Nat → Prop := fun _ => False

def live : Blk → Loc → Bool
  | .var own _, _ => own
  | .row own _ _, l => own && (l.cap != 0)
  | .gho q _, _ => !q.dead

def Own (β : Beta) (h : Heap) (r : Nat) : Prop := ∃ b k l, lkB h b = some k ∧ β b = some l ∧ live k l = true ∧ l.r = r

def XX (Z Y : Nat → Prop) (β : Beta) (h : Heap) (r : Nat) : Prop := Z r ∨ Y r ∨ Own β h r

def BlkOK (w : World) (X : Nat → Prop) (β : Beta) : Blk → Loc → Prop
  | .var own v, l => ∃ cs ty lo hi, w.heap[l.r]? = some (.cells cs ty (lo, hi)) ∧ (cs.size ≤ lo ∨ hi ≤ lo) ∧ relP w X v β cs.toList ∧ (own = false → ¬ X l.r)
  | .row own sz xs, l => l.len = xs.length ∧ l.len ≤ l.cap ∧ 1 ≤ sz ∧ (l.cap = 0 ∨ ∃ cs ty lo hi, w.heap[l.r]? = some (.cells cs ty (lo, hi)) ∧ (cs.size ≤ lo ∨ hi ≤ lo) ∧ l.cap * sz ≤ cs.size ∧
      (∃ c1 c2, cs.toList = c1 ++ c2 ∧ relR w X sz xs nob c1) ∧ (own = false → ¬ X l.r))
  | .gho q sl, l => q.dead = true ∨ ∃ fn tmps D, w.heap[l.r]? = some (.loop { state := q.st, pending := q.pend, fn, tmps, params := q.ps, assign := q.asg, body := q.body, defers := D }) ∧ tmps.size = q.N ∧ ∀ t, t ≤ 999999 → rel w X (lk sl t) β (tmps.getD t undef)

structure Mem (c : Cx) (h : Heap) (F : Nat → Prop) (β : Beta) (Y : Nat → Prop) (w : World) : Prop where
  fresh : ∀ b, F b → β b = none
  blk : ∀ b k, lkB h b = some k → ∃ l, β b = some l ∧ BlkOK w (XX c.Z Y β h) β k l
  inj : ∀ b b' k k' l l', lkB h b = some k → lkB h b' = some k' → β b = some l → β b' = some l' → live k l = true → live k' l' = true → l.r = l'.r → b = b'
  own : ∀ r, Own β h r → r < w.heap.size ∧ ¬ c.Z r ∧ ¬ Y r ∧ (c.w0.heap.size ≤ r ∨ c.F0 r)
  yy : ∀ r, Y r → w.heap[r]? = some (.deferred (some [])) ∧ ¬ c.Z r ∧ (c.w0.heap.size ≤ r ∨ c.F0 r)
  zz : ∀ r, c.Z r → r < c.w0.heap.size ∧ ¬ c.F0 r
  size : c.w0.heap.size ≤ w.heap.size
  frame : ∀ r, r < c.w0.heap.size → ¬ c.F0 r → w.heap[r]? = c.w0.heap[r]?
  os : w.os = c.w0.os
  tape : w.tape = c.w0.tape
  output : w.output = c.w0.output
  gl : ∀ g t, lk c.E.gl g = t → (t = .any → False) → relP w (XX c.Z Y β h) (.iptr t) nob [.pointer (some ⟨g, 0, none⟩)]

section
variable {c : Cx} {h : Heap} {n : Nat} {F : Nat → Prop} {β : Beta} {Y : Nat → Prop} {w : World}

theorem hlt_of {r : Nat} {o : Obj} (h : w.heap[r]? = some o) : r < w.heap.size := by
  rcases Nat.lt_or_ge r w.heap.size with g | g
  · exact g
  · rw [Array.getElem?_eq_none g] at h; cases h
theorem Mem.xlt (m : Mem c h F β Y w) {r : Nat} (hr : XX c.Z Y β h r) : r < w.heap.size := by
  rcases hr with hr | hr | hr
  · exact Nat.lt_of_lt_of_le (m.zz r hr).1 m.size
  · exact hlt_of (m.yy r hr).1
  · exact (m.own r hr).1

theorem Mem.good (m : Mem c h F β Y w) : Good c.E w (XX c.Z Y β h) := ⟨fun _ hb => m.xlt hb, fun g t hg ht => m.gl g t hg fun e => ht e⟩

theorem BlkOK.ext {w w' : World} {X X' : Nat → Prop} {β β' : Beta} {k : Blk} {l : Loc} (e : Ext w X w' X') (hs : w'.heap[l.r]? = w.heap[l.r]?) (hβ : ∀ b l, β b = some l → β' b = some l)
    (hx : l.r < w.heap.size → ¬ X l.r → ¬ X' l.r) (h : BlkOK w X β k l) : BlkOK w' X' β' k l := by
  cases k with
  | var own v =>
    obtain ⟨cs, ty, lo, hi, h1, h2, h3, h4⟩ := h
    have hlt : l.r < w.heap.size := by
      rcases Nat.lt_or_ge l.r w.heap.size with g | g
      · exact g
      · rw [Array.getElem?_eq_none g] at h1; cases h1
    exact ⟨cs, ty, lo, hi, hs.trans h1, h2, relP_ext e _ _ (nms_true hβ _) h3, fun ho => hx hlt (h4 ho)⟩
  | row own sz xs =>
    obtain ⟨g1, g2, g3, g4⟩ := h
    refine ⟨g1, g2, g3, g4.imp id ?_⟩
    rintro ⟨cs, ty, lo, hi, h1, h2, h3, ⟨c1, c2, h5, h6⟩, h4⟩
    have hlt : l.r < w.heap.size := by
      rcases Nat.lt_or_ge l.r w.heap.size with g | g
      · exact g
      · rw [Array.getElem?_eq_none g] at h1; cases h1
    exact ⟨cs, ty, lo, hi, hs.trans h1, h2, h3, ⟨c1, c2, h5, relR_ext e _ _ _ (nmsL_true (fun _ _ k => k) _) h6⟩, fun ho => hx hlt (h4 ho)⟩
  | gho q sl =>
    rcases h with h | ⟨fn, tmps, D, h1, h2, h3⟩
    · exact .inl h
    · exact .inr ⟨fn, tmps, D, hs.trans h1, h2, fun t ht => rel_ext e (nms_true hβ _) (h3 t ht)⟩

/-- A later world in which what was there is as it was. -/
theorem Mem.step (m : Mem c h F β Y w) {w' : World} (b : Below w.heap.size w w') : Mem c h F β Y w' ∧ Ext w (XX c.Z Y β h) w' (XX c.Z Y β h) := by
  have e : Ext w (XX c.Z Y β h) w' (XX c.Z Y β h) := ⟨b.size, fun r hr _ => b.block r hr, fun _ _ hx => hx⟩
  refine ⟨⟨m.fresh, fun b' k hk => ?_, m.inj, fun r hr => ?_, fun r hr => ?_, m.zz, Nat.le_trans m.size b.size, fun r hr hf => ?_, b.os.trans m.os, b.tape.trans m.tape, b.output.trans m.output, fun g t hg ht => ?_⟩, e⟩
  · obtain ⟨l, h1, h2⟩ := m.blk b' k hk
    refine ⟨l, h1, ?_⟩
    by_cases hl : l.r < w.heap.size
    · exact h2.ext e (b.block _ hl) (fun _ _ k => k) (fun _ hx => hx)
    · cases k with
      | var own v =>
        obtain ⟨cs, ty, lo, hi, g1, _⟩ := h2
        rw [Array.getElem?_eq_none (by omega)] at g1; cases g1
      | row own sz xs =>
        obtain ⟨g1, g2, g3, g4⟩ := h2
        refine ⟨g1, g2, g3, g4.imp id ?_⟩
        rintro ⟨cs, ty, lo, hi, f1, _⟩
        rw [Array.getElem?_eq_none (by omega)] at f1; cases f1
      | gho q sl =>
        rcases h2 with h2 | ⟨fn, tmps, D, g1, _⟩
        · exact .inl h2
        · exact absurd (hlt_of g1) hl
  · obtain ⟨g1, g2, g3, g4⟩ := m.own r hr
    exact ⟨Nat.lt_of_lt_of_le g1 b.size, g2, g3, g4⟩
  · obtain ⟨g1, g2, g3⟩ := m.yy r hr
    exact ⟨(b.block r (hlt_of g1)).trans g1, g2, g3⟩
  · rw [b.block r (Nat.lt_of_lt_of_le hr m.size)]; exact m.frame r hr hf
  · exact relP_ext e _ _ (nms_true (fun _ _ k => k) _) (m.gl g t hg ht)

def setβ (β : Beta) (n : Nat) (l : Loc) : Beta := fun b => if b = n then some l else β b
theorem setβ_same (β : Beta) (n : Nat) (l : Loc) : setβ β n l n = some l := by simp [setβ]
theorem setβ_ne {β : Beta} {n b : Nat} {l : Loc} (h : b ≠ n) : setβ β n l b = β b := by simp [setβ, h]

theorem lkB_cons {k : Blk} {b n : Nat} : lkB ((n, k) :: h) b = if n = b then some k else lkB h b := by
  simp only [lkB]
  by_cases e : n = b
  · subst e; simp
  · rw [if_neg e]
    have : Nat.beq n b = false := by
      cases hb : Nat.beq n b with
      | false => rfl
      | true => exact absurd (Nat.eq_of_beq_eq_true hb) e
    rw [this]

def rmF (F : Nat → Prop) (n : Nat) : Nat → Prop := fun b => F b ∧ b ≠ n

/-- A new block. -/
theorem Mem.new (m : Mem c h F β Y w) (hF : F n) {o : Obj} {k : Blk} {l : Loc} (hr : l.r = w.heap.size)
    (hk : ∀ w' X' β', Ext w (XX c.Z Y β h) w' X' → (∀ b l, β b = some l → β' b = some l) → w'.heap[l.r]? = some o → BlkOK w' X' β' k l)
    :
    Mem c ((n, k) :: h) (rmF F n) (setβ β n l) Y (w.alloc o) ∧ Ext w (XX c.Z Y β h) (w.alloc o) (XX c.Z Y (setβ β n l) ((n, k) :: h)) := by
  have hn : β n = none := m.fresh n hF
  have hβ : ∀ b l', β b = some l' → setβ β n l b = some l' := fun b l' hb => by
    rw [setβ_ne]; · exact hb
    · rintro rfl; rw [hn] at hb; cases hb
  have hlk : ∀ b k', lkB h b = some k' → b ≠ n := fun b k' hb => by
    rintro rfl
    obtain ⟨l', h1, _⟩ := m.blk _ _ hb
    rw [hn] at h1; cases h1
  have hown : ∀ r, Own (setβ β n l) ((n, k) :: h) r → Own β h r ∨ r = w.heap.size := by
    rintro r ⟨b, k', l', h1, h2, h3, h4⟩
    by_cases e : b = n
    · subst e
      rw [setβ_same] at h2; cases h2
      exact .inr (h4.symm.trans hr)
    · rw [setβ_ne e] at h2
      rw [lkB_cons, if_neg (Ne.symm e)] at h1
      exact .inl ⟨b, k', l', h1, h2, h3, h4⟩
  have hown' : ∀ r, Own β h r → Own (setβ β n l) ((n, k) :: h) r := by
    rintro r ⟨b, k', l', h1, h2, h3, h4⟩
    have e : b ≠ n := hlk b k' h1
    exact ⟨b, k', l', by rw [lkB_cons, if_neg (Ne.symm e)]; exact h1, by rw [setβ_ne e]; exact h2, h3, h4⟩
  have hpush : ∀ r, r < w.heap.size → (w.alloc o).heap[r]? = w.heap[r]? := fun r hr => Below.heap_alloc w _ r hr
  have hnew : (w.alloc o).heap[w.heap.size]? = some o := by
    show (w.heap.push _)[w.heap.size]? = _
    simp
  have e : Ext w (XX c.Z Y β h) (w.alloc o) (XX c.Z Y (setβ β n l) ((n, k) :: h)) := by
    refine ⟨by simp, fun r hr _ => hpush r hr, fun r hr hx => ?_⟩
    rintro (g | g | g)
    · exact hx (.inl g)
    · exact hx (.inr (.inl g))
    · rcases hown r g with g | g
      · exact hx (.inr (.inr g))
      · omega
  refine ⟨⟨fun b hb => ?_, fun b k' hk' => ?_, ?_, fun r hr' => ?_, fun r hr' => ?_, m.zz, ?_, fun r hr' hf => ?_, m.os, m.tape, m.output, fun g t hg ht => ?_⟩, e⟩
  · rw [setβ_ne hb.2]; exact m.fresh b hb.1
  · rw [lkB_cons] at hk'
    by_cases eb : n = b
    · subst eb
      rw [if_pos rfl] at hk'; cases hk'
      exact ⟨l, setβ_same .., hk _ _ _ e hβ (by rw [hr]; exact hnew)⟩
    · rw [if_neg eb] at hk'
      obtain ⟨l', h1, h2⟩ := m.blk b k' hk'
      refine ⟨l', hβ _ _ h1, ?_⟩
      by_cases hl : l'.r < w.heap.size
      · exact h2.ext e (hpush _ hl) hβ (fun h1 h2 => e.less _ h1 h2)
      · cases k' with
        | var own v =>
          obtain ⟨cs, ty, lo, hi, g1, _⟩ := h2
          rw [Array.getElem?_eq_none (by omega)] at g1; cases g1
        | row own sz xs =>
          obtain ⟨g1, g2, g3, g4⟩ := h2
          refine ⟨g1, g2, g3, g4.imp id ?_⟩
          rintro ⟨cs, ty, lo, hi, f1, _⟩
          rw [Array.getElem?_eq_none (by omega)] at f1; cases f1
        | gho q sl =>
          rcases h2 with h2 | ⟨fn, tmps, D, g1, _⟩
          · exact .inl h2
          · exact absurd (hlt_of g1) hl
  · intro b b' k1 k2 l1 l2 h1 h2 h3 h4 h5 h6 h7
    rw [lkB_cons] at h1 h2
    have hsz : ∀ b k l, lkB h b = some k → β b = some l → live k l = true → l.r < w.heap.size := fun b k l g1 g2 g3 => (m.own l.r ⟨b, k, l, g1, g2, g3, rfl⟩).1
    by_cases e1 : n = b
    · by_cases e2 : n = b'
      · exact e1.symm.trans e2
      · subst e1
        rw [setβ_same] at h3; cases h3
        rw [if_neg e2] at h2
        rw [setβ_ne (Ne.symm e2)] at h4
        have := hsz _ _ _ h2 h4 h6
        omega
    · by_cases e2 : n = b'
      · subst e2
        rw [setβ_same] at h4; cases h4
        rw [if_neg e1] at h1
        rw [setβ_ne (Ne.symm e1)] at h3
        have := hsz _ _ _ h1 h3 h5
        omega
      · rw [if_neg e1] at h1; rw [if_neg e2] at h2
        rw [setβ_ne (Ne.symm e1)] at h3; rw [setβ_ne (Ne.symm e2)] at h4
        exact m.inj _ _ _ _ _ _ h1 h2 h3 h4 h5 h6 h7
  · rcases hown r hr' with g | g
    · obtain ⟨g1, g2, g3, g4⟩ := m.own r g
      exact ⟨by simp; omega, g2, g3, g4⟩
    · subst g
      refine ⟨by simp, fun hz => ?_, fun hy => ?_, .inl m.size⟩
      · have := (m.zz _ hz).1; have := m.size; omega
      · have := hlt_of (m.yy _ hy).1; omega
  · obtain ⟨g1, g2, g3⟩ := m.yy r hr'
    exact ⟨(hpush r (hlt_of g1)).trans g1, g2, g3⟩
  · have := m.size; simp; omega
  · rw [hpush r (Nat.lt_of_lt_of_le hr' m.size)]; exact m.frame r hr' hf
  · exact relP_ext e _ _ (nms_true (fun _ _ k => k) _) (m.gl g t hg ht)
end

theorem beq_of {a b : Nat} (h : Nat.beq a b = true) : a = b := Nat.eq_of_beq_eq_true h
theorem beq_ne {a b : Nat} (h : Nat.beq a b = false) : a ≠ b := fun e => by subst e; simp at h
theorem beq_refl' (a : Nat) : Nat.beq a a = true := by simp
theorem beq_false {a b : Nat} (h : a ≠ b) : Nat.beq a b = false := by
  cases hb : Nat.beq a b with
  | false => rfl
  | true => exact absurd (beq_of hb) h

theorem relP_of_nob {w : World} {X : Nat → Prop} {β : Beta} {v : SV} {cs : List Value} (h : relP w X v nob cs) : relP w X v β cs :=
  relP_ext (Ext.refl w X) v cs (nms_true (fun b l hb => by cases hb) v) h

theorem nav_ok {w : World} {X : Nat → Prop} {β : Beta} : ∀ (p : List Step) (v : SV) (K : SV → Prop) (cs : List Value), nav v p K → relP w X v β cs →
    ∃ u pre mid post, K u ∧ cs = pre ++ mid ++ post ∧ pre.length = pOff p ∧ relP w X u β mid
  | [], v, K, cs, hn, hv => by
    simp only [nav, frc_eq] at hn
    exact ⟨v, [], cs, [], hn, by simp, rfl, hv⟩
  | .fld i off :: p, v, K, cs, hn, hv => by
    simp only [nav] at hn
    cases v <;> simp only at hn
    rename_i fs
    cases hb : Nat.beq off (szs (fs.take i)) <;> simp only [hb] at hn
    cases hs : fs[i]? with
    | none => simp only [hs] at hn
    | some s =>
      simp only [hs] at hn
      simp only [relP] at hv
      obtain ⟨c1, c2, c3, rfl, g1, g2, _⟩ := relC_get hv hs
      obtain ⟨u, pre, mid, post, k1, rfl, k3, k4⟩ := nav_ok p s K c2 hn g2
      refine ⟨u, c1 ++ pre, mid, post ++ c3, k1, by simp, ?_, k4⟩
      simp [g1, k3, pOff, beq_of hb]
  | .idx i sz :: p, v, K, cs, hn, hv => by
    simp only [nav] at hn
    cases v <;> simp only at hn
    rename_i m sz' xs
    cases hb : Nat.beq sz sz' <;> simp only [hb] at hn
    unfold IdxVC at hn
    obtain ⟨s, _, hs, hn⟩ := hn
    simp only [Int.toNat_natCast] at hs
    simp only [relP] at hv
    obtain ⟨c1, c2, c3, rfl, g1, _, g2, _⟩ := relR_get hv.2 hs
    obtain ⟨u, pre, mid, post, k1, rfl, k3, k4⟩ := nav_ok p s K c2 hn (relP_of_nob g2)
    refine ⟨u, c1 ++ pre, mid, post ++ c3, k1, by simp, ?_, k4⟩
    simp [g1, k3, pOff, beq_of hb]

theorem upd_nob {w : World} {X : Nat → Prop} (x : SV) (xs : List Value) (hx : relP w X x nob xs) : ∀ (p : List Step) (v : SV) (K : SV → Prop) (cs : List Value) (β : Beta), upd v x p K → relP w X v β cs →
    ∃ v' pre mid post, K v' ∧ cs = pre ++ mid ++ post ∧ pre.length = pOff p ∧ mid.length = xs.length ∧ relP w X v' β (pre ++ xs ++ post)
  | [], v, K, cs, β, hn, hv => by
    simp only [upd] at hn
    cases hb : Nat.beq v.sz x.sz <;> simp only [hb, frc_eq] at hn
    exact ⟨x, [], cs, [], hn, by simp, rfl, by rw [relP_len _ _ hv, relP_len _ _ hx, beq_of hb], by simpa using relP_of_nob hx⟩
  | .fld i off :: p, v, K, cs, β, hn, hv => by
    simp only [upd] at hn
    cases v <;> simp only at hn
    rename_i fs
    cases hb : Nat.beq off (szs (fs.take i)) <;> simp only [hb] at hn
    cases hs : fs[i]? with
    | none => simp only [hs] at hn
    | some s =>
      simp only [hs, frcL_eq] at hn
      simp only [relP] at hv
      obtain ⟨c1, c2, c3, rfl, g1, g2, g3⟩ := relC_get hv hs
      obtain ⟨v', pre, mid, post, k1, rfl, k3, k4, k5⟩ := upd_nob x xs hx p s _ c2 β hn g2
      refine ⟨_, c1 ++ pre, mid, post ++ c3, k1, by simp, ?_, k4, ?_⟩
      · simp [g1, k3, pOff, beq_of hb]
      · simp only [relP]
        have := g3 _ _ k5
        simpa using this
  | .idx i sz :: p, v, K, cs, β, hn, hv => by
    simp only [upd] at hn
    cases v <;> simp only at hn
    rename_i m sz' ys
    cases hb : Nat.beq sz sz' <;> simp only [hb] at hn
    unfold IdxVC at hn
    obtain ⟨s, _, hs, hn⟩ := hn
    simp only [Int.toNat_natCast] at hs hn
    simp only [relP] at hv
    obtain ⟨c1, c2, c3, rfl, g1, g0, g2, g3⟩ := relR_get hv.2 hs
    obtain ⟨v', pre, mid, post, k1, rfl, k3, k4, k5⟩ := upd_nob x xs hx p s _ c2 nob hn g2
    refine ⟨_, c1 ++ pre, mid, post ++ c3, k1, by simp, ?_, k4, ?_⟩
    · simp [g1, k3, pOff, beq_of hb]
    · simp only [relP]
      have := g3 v' (pre ++ xs ++ post) (by rw [← g0]; simp [k4]) k5
      exact ⟨by simp [hv.1], by simpa using this⟩

theorem upd_flat {w : World} {X : Nat → Prop} {β : Beta} (x : SV) (xs : List Value) (hx : relP w X x β xs) : ∀ (p : List Step) (v : SV) (K : SV → Prop) (cs : List Value), crosses p = false → upd v x p K → relP w X v β cs →
    ∃ v' pre mid post, K v' ∧ cs = pre ++ mid ++ post ∧ pre.length = pOff p ∧ mid.length = xs.length ∧ relP w X v' β (pre ++ xs ++ post)
  | [], v, K, cs, _, hn, hv => by
    simp only [upd] at hn
    cases hb : Nat.beq v.sz x.sz <;> simp only [hb, frc_eq] at hn
    exact ⟨x, [], cs, [], hn, by simp, rfl, by rw [relP_len _ _ hv, relP_len _ _ hx, beq_of hb], by simpa using hx⟩
  | .fld i off :: p, v, K, cs, hc, hn, hv => by
    simp only [upd] at hn
    cases v <;> simp only at hn
    rename_i fs
    cases hb : Nat.beq off (szs (fs.take i)) <;> simp only [hb] at hn
    cases hs : fs[i]? with
    | none => simp only [hs] at hn
    | some s =>
      simp only [hs, frcL_eq] at hn
      simp only [relP] at hv
      obtain ⟨c1, c2, c3, rfl, g1, g2, g3⟩ := relC_get hv hs
      obtain ⟨v', pre, mid, post, k1, rfl, k3, k4, k5⟩ := upd_flat x xs hx p s _ c2 hc hn g2
      refine ⟨_, c1 ++ pre, mid, post ++ c3, k1, by simp, ?_, k4, ?_⟩
      · simp [g1, k3, pOff, beq_of hb]
      · simp only [relP]
        have := g3 _ _ k5
        simpa using this
  | .idx i sz :: p, v, K, cs, hc, hn, hv => by cases hc

/-- Without a name, a value says less. -/
theorem killP {β β' : Beta} {b : Nat} (hβ : ∀ b' l, b' ≠ b → β b' = some l → β' b' = some l) : ∀ v : SV, (v.kill b).nms fun b' => ∀ l, β b' = some l → β' b' = some l := by
  have key : ∀ v : SV, (v.kill b).nms (· ≠ b) := by
    intro v
    exact SV.rec (motive_1 := fun v => (v.kill b).nms (· ≠ b)) (motive_2 := fun l => nmsL (· ≠ b) (killL b l))
      trivial (fun _ _ => trivial) (fun _ => trivial) trivial trivial (fun _ => trivial) (fun fs ih => by simpa [SV.kill, SV.nms] using ih) (fun _ _ _ _ => trivial)
      (fun fs ih => by simpa [SV.kill, SV.nms] using ih) (fun _ _ _ => trivial) trivial trivial (fun _ _ => trivial)
      (fun c p => by simp only [SV.kill]; cases hb : Nat.beq c b <;> simp only [SV.nms]; exact beq_ne hb)
      (fun c p => by simp only [SV.kill]; cases hb : Nat.beq c b <;> simp only [SV.nms]; exact beq_ne hb)
      (fun f fs ih => by simpa [SV.kill, SV.nms] using ih) trivial trivial trivial
      (fun c => by simp only [SV.kill]; cases hb : Nat.beq c b <;> simp only [SV.nms]; exact beq_ne hb) trivial (fun v r h1 h2 => ⟨h1, h2⟩) v
  intro v
  exact nms_mono (fun b' hb l hl => hβ b' l hb hl) _ (key v)

section
variable {w : World} {X : Nat → Prop} {β : Beta} (b : Nat)
mutual
theorem relP_kill : ∀ (v : SV) (cs : List Value), relP w X v β cs → relP w X (v.kill b) β cs
  | .any, _, h => h
  | .int .., _, h => h
  | .bool _, _, h => h
  | .tru, _, h => h
  | .fls, _, h => h
  | .str _, _, h => h
  | .agg fs, cs, h => by simp only [relP, SV.kill] at h ⊢; exact relC_kill fs cs h
  | .arr n sz xs, cs, h => h
  | .tup _, _, h => h.elim
  | .sl .., _, h => h
  | .mt, _, h => h
  | .nils, _, h => h
  | .iptr _, _, h => h
  | .ptr c p, cs, h => by
    simp only [SV.kill]
    cases hb : Nat.beq c b with
    | false => exact h
    | true => simp only [relP] at h ⊢; obtain ⟨l, _, rfl⟩ := h; exact ⟨_, rfl, rfl⟩
  | .osl c s, cs, h => by
    simp only [SV.kill]
    cases hb : Nat.beq c b with
    | false => exact h
    | true => simp only [relP] at h ⊢; obtain ⟨l, a, _, rfl, _⟩ := h; exact ⟨_, rfl, rfl⟩
  | .fn f caps, cs, h => by
    simp only [relP, SV.kill] at h ⊢
    obtain ⟨us, rfl, h⟩ := h
    exact ⟨us, rfl, relL_kill caps us.toList h⟩
  | .nilf, _, h => h
  | .nilp, _, h => h
  | .nili, _, h => h
  | .yld c, cs, h => by
    simp only [SV.kill]
    cases hb : Nat.beq c b with
    | false => exact h
    | true => simp only [relP] at h ⊢; obtain ⟨l, _, rfl⟩ := h; exact ⟨_, rfl, rfl⟩
theorem relC_kill : ∀ (l : List SV) (cs : List Value), relC w X l β cs → relC w X (killL b l) β cs
  | [], _, h => h
  | v :: r, cs, h => by
    simp only [relC, killL] at h ⊢
    obtain ⟨c1, c2, h1, h2, h3⟩ := h
    exact ⟨c1, c2, h1, relP_kill v c1 h2, relC_kill r c2 h3⟩
theorem relL_kill : ∀ (l : List SV) (us : List Value), relL w X l β us → relL w X (killL b l) β us
  | [], _, h => h
  | v :: r, us, h => by
    simp only [killL]
    rw [relL_cons] at h ⊢
    obtain ⟨u, us', h1, h2, h3⟩ := h
    refine ⟨u, us', h1, ?_, relL_kill r us' h3⟩
    have ih := fun cs => relP_kill v cs
    revert h2
    unfold relV
    cases v <;> simp only [SV.isAgg, SV.kill] <;> intro h2
    all_goals first
      | exact h2
      | (obtain ⟨cs, g1, g2⟩ := h2; exact ⟨cs, g1, ih _ g2⟩)
      | (have := ih _ h2; simp only [SV.kill] at this; split at this <;> first | trivial | exact this)
      | (have := ih _ h2; simpa only [SV.kill] using this)
end
theorem relV_kill {v : SV} {u : Value} (h : relV w X v β u) : relV w X (v.kill b) β u := by
  have := relL_kill (w := w) (X := X) (β := β) b [v] [u] (relL_cons.2 ⟨u, [], rfl, h, relL_nil.2 rfl⟩)
  simp only [killL] at this
  rw [relL_cons] at this
  obtain ⟨u', us', h1, h2, _⟩ := this
  cases h1
  exact h2
theorem rel_kill {v : SV} {u : Value} (h : rel w X v β u) : rel w X (v.kill b) β u := by
  by_cases hv : ∃ vs, v = .tup vs
  · obtain ⟨vs, rfl⟩ := hv
    obtain ⟨us, h1, h2⟩ := h
    exact ⟨us, h1, relL_kill b _ _ h2⟩
  · rw [rel_eq (fun vs e => hv ⟨vs, e⟩)] at h
    rw [rel_eq]
    · exact relV_kill b h
    · intro vs e
      cases v <;> simp only [SV.kill] at e <;> first | exact absurd ⟨_, rfl⟩ hv | cases e | (split at e <;> cases e)
end
end Go.Sx
