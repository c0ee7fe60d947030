/-
  A FUNCTION THAT WRITES THROUGH A POINTER: its contract. Generic: no program in sight. An own text.
-/
import Derived.Test.YtcgehmlhafjfkaaGreatDoorSx30
namespace Go.Sx
open Go.RowKit (Below)

def BlkAt (w : World) (X : Nat → Prop) (b : Nat) (v : SV) : Prop := ∃ cs ty lo hi, w.heap[b]? = some (.cells cs ty (lo, hi)) ∧ (cs.size ≤ lo ∨ hi ≤ lo) ∧ relP w X v nob cs.toList

/-- The contract of a function that is handed a pointer to a variable, reads v there, leaves v' there, and returns r. -/
def RetP (E : Env) (f : FuncId) (v : SV) (args : List SV) (r v' : SV) : Prop :=
  Callable E.P f ∧ ∀ (w : World) (X : Nat → Prop) (b : Nat) (us : List Value), Good E w (fun k => X k ∨ k = b) → ¬ X b → BlkAt w (fun k => X k ∨ k = b) b v → relL w (fun k => X k ∨ k = b) args nob us →
    Calls E.P f (Value.pointer (some ⟨b, 0, none⟩) :: us).toArray w fun e w' => ∃ u, e = .returned u ∧ w'.os = w.os ∧ w'.tape = w.tape ∧ w'.output = w.output ∧ w.heap.size ≤ w'.heap.size ∧
      (∀ k, k < w.heap.size → k ≠ b → w'.heap[k]? = w.heap[k]?) ∧ BlkAt w' (fun k => X k ∨ k = b) b v' ∧ rel w' (fun k => X k ∨ k = b) r nob u

theorem nms_none {β β' : Beta} {v : SV} (h : v.undr 0 = true) : v.nms fun b => ∀ l, β b = some l → β' b = some l := nms_mono (fun b hb => absurd hb (by omega)) _ (undr_nms v h)
theorem nms_nob {β' : Beta} {v : SV} : v.nms fun b => ∀ l, nob b = some l → β' b = some l := nms_true (fun b l h => by cases h) v
theorem nmsL_none {β β' : Beta} : ∀ {l : List SV}, undrL 0 l = true → nmsL (fun b => ∀ l, β b = some l → β' b = some l) l
  | [], _ => trivial
  | v :: r, h => by
    simp only [undrL] at h
    split at h
    · rename_i e; exact ⟨nms_none e, nmsL_none h⟩
    · cases h

/-- THE RULE OF A CALL BY SUCH A CONTRACT. -/
theorem lend {E : Env} {f : FuncId} {v : SV} {args : List SV} {r v' : SV} {sl : Slots} {h : Heap} {n b : Nat} {K : SV → Slots → Heap → Nat → Prop} (hR : RetP E f v args r v') (hb : lkB h b = some (.var true v)) (hv : v.undr 0 = true) (ha : undrL 0 args = true)
    (k : K r sl (stB h b (.var true v')) n) : SemCall E f (.ptr b [] :: args) sl h n K := by
  unfold SemCall
  refine ⟨hR.1, ?_⟩
  intro c a w β Y us hE m hs hus
  subst hE
  rw [relL_cons] at hus
  obtain ⟨u0, us', hus0, h1, h2⟩ := hus
  rw [relV_leaf rfl (by simp)] at h1
  simp only [relP] at h1
  obtain ⟨l, hl, hu0⟩ := h1
  simp only [List.cons.injEq, and_true] at hu0
  subst hu0
  obtain ⟨l', hl', hblk⟩ := m.blk b _ hb
  rw [hl] at hl'; cases hl'
  obtain ⟨cs, ty, lo, hi, g1, g2, g3, _⟩ := hblk
  have hown : XX c.Z Y β h l.r := .inr (.inr ⟨b, _, l, hb, hl, rfl, rfl⟩)
  have hlt : l.r < w.heap.size := m.xlt hown
  have hX : (fun k => (XX c.Z Y β h k ∧ k ≠ l.r) ∨ k = l.r) = XX c.Z Y β h := by
    funext k
    refine propext ⟨fun e => e.elim (·.1) (fun e => e ▸ hown), fun e => ?_⟩
    by_cases ek : k = l.r
    · exact .inr ek
    · exact .inl ⟨e, ek⟩
  have hc := hR.2 w (fun k => XX c.Z Y β h k ∧ k ≠ l.r) l.r us' (by rw [hX]; exact m.good) (fun e => e.2 rfl)
    (by rw [hX]; exact ⟨cs, ty, lo, hi, g1, g2, relP_ext (Ext.refl _ _) _ _ (nms_none hv) g3⟩) (by rw [hX]; exact relL_ext (Ext.refl _ _) _ _ (nmsL_none ha) h2)
  have hus1 : us = (Value.pointer (some ⟨l.r, 0, none⟩) :: us').toArray := by apply Array.toList_inj.1; rw [hus0]; rfl
  rw [hus1]
  refine hc.mono ?_
  rintro e w' ⟨u, rfl, ho, ht, hou, hsz, hsame, hat, hrel⟩
  rw [hX] at hat hrel
  obtain ⟨cs', ty', lo', hi', f1, f2, f3⟩ := hat
  refine ⟨u, rfl, r, sl, stB h b (.var true v'), n, β, Y, fun _ h => h, k, ?_⟩
  let w1 : World := World.put w' l.r (.cells cs ty (lo, hi))
  have hlt' : l.r < w'.heap.size := Nat.lt_of_lt_of_le hlt hsz
  have bel : Below w.heap.size w w1 := ⟨ho, ht, hou, by show _ ≤ (World.put w' l.r _).heap.size; rw [put_size]; exact hsz, fun k hk => by
    by_cases ek : k = l.r
    · subst ek; show (World.put w' l.r _).heap[l.r]? = _; rw [put_same hlt', g1]
    · show (World.put w' l.r _).heap[k]? = _; rw [put_ne ek]; exact hsame k hk ek⟩
  obtain ⟨m1, e1⟩ := m.step bel
  have hw' : World.put w1 l.r (.cells cs' ty' (lo', hi')) = w' := by
    show World.put (World.put w' l.r _) l.r _ = w'
    unfold World.put
    have : (w'.heap.setIfInBounds l.r (.cells cs ty (lo, hi))).setIfInBounds l.r (.cells cs' ty' (lo', hi')) = w'.heap := by
      apply Array.ext
      · simp
      · intro i h1 h2
        by_cases ei : l.r = i
        · subst ei
          rw [Array.getElem_setIfInBounds_self]
          rw [Array.getElem?_eq_getElem h2] at f1
          exact (Option.some.inj f1).symm
        · rw [Array.getElem_setIfInBounds_ne _ ei, Array.getElem_setIfInBounds_ne _ ei]
          all_goals (simp at h1 ⊢; omega)
    simp only [this]
  have hw1 : w1.heap[l.r]? = some (.cells cs ty (lo, hi)) := put_same hlt'
  obtain ⟨m2, e2⟩ := Mem.set m1 (k := .var true v') hb hl rfl rfl hw1 (o' := .cells cs' ty' (lo', hi')) (by
    intro _ _
    rw [hw']
    exact ⟨cs', ty', lo', hi', f1, f2, relP_ext (Ext.refl _ _) _ _ nms_nob f3, fun e => by cases e⟩)
  rw [hw'] at m2 e2
  have e3 : Ext w (XX c.Z Y β h) w' (XX c.Z Y β (stB h b (.var true v'))) := e1.trans e2
  refine ⟨m2, ⟨hs.1, fun t => rel_ext e3 (nms_true (fun _ _ k => k) _) (hs.2 t)⟩, ?_⟩
  have hOwn : ∀ r, Own β (stB h b (.var true v')) r → Own β h r := by
    rintro r ⟨b', k', l', q1, q2, q3, q4⟩
    rw [lkB_stB hb] at q1
    by_cases eb : b' = b
    · subst eb; rw [hl] at q2; cases q2; exact ⟨b', _, l, hb, hl, rfl, q4⟩
    · rw [if_neg eb] at q1; exact ⟨b', k', l', q1, q2, q3, q4⟩
  refine rel_ext (w := w') (X := XX c.Z Y β h) ⟨Nat.le_refl _, fun _ _ _ => rfl, fun r _ hx hx' => ?_⟩ nms_nob hrel
  rcases hx' with hx' | hx' | hx'
  · exact hx (.inl hx')
  · exact hx (.inr (.inl hx'))
  · exact hx (.inr (.inr (hOwn r hx')))

/-- how such a body ends: what it leaves, what it returns -/
def resP (E : Env) (fn : Func) (sl : Slots) (h : Heap) (r v' : SV) : Prop :=
  match lk sl 1000000, lkB h 0 with
  | .ptr 0 [], some (.var true u) => resI E fn sl h fun r0 => (match r0.undr 0, u.undr 0 with
    | true, true => u = v' ∧ Wk (bl r0) r
    | _, _ => False)
  | _, _ => False

def cxP (E : Env) (w : World) (X : Nat → Prop) (b : Nat) : Cx := { E := E, w0 := w, Z := X, F0 := fun k => k = b, sh := fun t => if t = 0 then .pointer (some ⟨b, 0, none⟩) else undef }
def betP (b : Nat) : Beta := fun k => if k = 0 then some ⟨b, 0, 0⟩ else none

theorem XXP {E : Env} {w : World} {X : Nat → Prop} {b : Nat} {v : SV} : XX X (fun _ => False) (betP b) [(0, .var true v)] = fun k => X k ∨ k = b := by
  funext k
  simp only [XX]
  refine propext ⟨?_, ?_⟩
  · rintro (e | e | ⟨b', k', l, h1, h2, h3, h4⟩)
    · exact .inl e
    · exact e.elim
    · simp only [betP] at h2
      split at h2
      · cases h2; exact .inr h4.symm
      · cases h2
  · rintro (e | rfl)
    · exact .inl e
    · exact .inr (.inr ⟨0, .var true v, ⟨k, 0, 0⟩, rfl, rfl, rfl, rfl⟩)

theorem memP {E : Env} {w : World} {X : Nat → Prop} {b : Nat} {v : SV} (g : Good E w (fun k => X k ∨ k = b)) (hX : ¬ X b) (hat : BlkAt w (fun k => X k ∨ k = b) b v) :
    Mem (cxP E w X b) [(0, .var true v)] (fun k => 1 ≤ k) (betP b) (fun _ => False) w := by
  have hXX : XX (cxP E w X b).Z (fun _ => False) (betP b) [(0, .var true v)] = fun k => X k ∨ k = b := XXP (E := E) (w := w)
  have lk0 : ∀ b' k', lkB [(0, Blk.var true v)] b' = some k' → b' = 0 ∧ k' = .var true v := by
    intro b' k' h
    rw [lkB_cons] at h
    by_cases e : 0 = b'
    · rw [if_pos e] at h; cases h; exact ⟨e.symm, rfl⟩
    · rw [if_neg e] at h; cases h
  refine ⟨fun k hk => ?_, fun b' k' hk => ?_, fun b1 b2 k1 k2 l1 l2 h1 h2 _ _ _ _ _ => ?_, ?_, fun r hr => hr.elim, fun r hr => ⟨g.1 r (.inl hr), fun e => hX (e ▸ hr)⟩, Nat.le_refl _, fun _ _ _ => rfl, rfl, rfl, rfl, fun g' t hg ht => ?_⟩
  · simp only [betP]; rw [if_neg (by omega)]
  · obtain ⟨rfl, rfl⟩ := lk0 _ _ hk
    obtain ⟨cs, ty, lo, hi, g1, g2, g3⟩ := hat
    refine ⟨⟨b, 0, 0⟩, rfl, cs, ty, lo, hi, g1, g2, ?_, fun e => by cases e⟩
    rw [hXX]
    exact relP_ext (Ext.refl _ _) _ _ nms_nob g3
  · rw [(lk0 _ _ h1).1, (lk0 _ _ h2).1]
  · rintro r ⟨b', k', l, h1, h2, h3, h4⟩
    obtain ⟨rfl, rfl⟩ := lk0 _ _ h1
    simp only [betP, if_true, Option.some.injEq] at h2
    subst h2
    subst h4
    exact ⟨g.1 b (.inr rfl), hX, id, .inr rfl⟩
  · rw [hXX]
    exact g.2 g' t hg fun e => ht e

/-- THE RULE OF SUCH A FUNCTION. -/
theorem retP_of_exec {E : Env} (ok : EnvOK E) {f : FuncId} {fn : Func} {code : Code} {cuts : List Nat} {v : SV} {args : List SV} {r v' : SV} (hf : E.P.funcs[f]? = some fn) (hb : fn.body = some code) (hname : (fn.name == "runtime.NumGoroutine") = false)
    (hargs : args.length + 1 ≤ fn.ntmps) (hN : fn.ntmps ≤ 1000000) (hc : codeOK E fn.ntmps code)
    (hx : ini (.ptr 0 [] :: args) 0 [(1000000, .ptr 0 [])] fun sl => exec E fn.ntmps cuts code sl [(0, .var true v)] 1 fun e sl h _ => match e with
      | .normal | .ret => resP E fn sl h r v'
      | _ => False) : RetP E f v args r v' := by
  refine ⟨⟨fn, hf, by rw [hb]; rfl, hname⟩, fun w X b us g hXb hat hus => ?_⟩
  have m := memP g hXb hat
  have hXX : XX (cxP E w X b).Z (fun _ => False) (betP b) [(0, .var true v)] = fun k => X k ∨ k = b := XXP (E := E) (w := w)
  have hus' : relL w (XX (cxP E w X b).Z (fun _ => False) (betP b) [(0, .var true v)]) (.ptr 0 [] :: args) (betP b) (Value.pointer (some ⟨b, 0, none⟩) :: us) := by
    rw [relL_cons]
    refine ⟨_, us, rfl, ?_, ?_⟩
    · rw [relV_leaf rfl (by simp)]
      exact ⟨⟨b, 0, 0⟩, rfl, rfl⟩
    · rw [hXX]
      exact relL_ext (Ext.refl _ _) _ _ (nmsL_true (fun b l h => by cases h) _) hus
  obtain ⟨hlen, hget⟩ := relL_get hus'
  obtain ⟨sl2, hx, h1, h2⟩ := ini_ok _ 0 _ hx
  have hlen2 : us.length = args.length := by simpa using hlen.symm
  have D : Den (cxP E w X b) fn.ntmps sl2 [(0, .var true v)] 1 { tmps := (Value.pointer (some ⟨b, 0, none⟩) :: us).toArray ++ Array.replicate (fn.ntmps - (Value.pointer (some ⟨b, 0, none⟩) :: us).toArray.size) undef, defers := [] } w := by
    refine ⟨betP b, fun _ => False, m, ⟨by simp; omega, fun t => ?_⟩, by simp; omega, .nil fun _ h => h⟩
    by_cases hle : t ≤ 999999
    · unfold slotv
      rw [if_pos hle]
      by_cases ht : t < args.length + 1
      · rw [h1 t (by omega) (by simpa using ht)]
        have := hget t (by simpa using ht)
        have hu : ((Value.pointer (some ⟨b, 0, none⟩) :: us).toArray ++ Array.replicate (fn.ntmps - (Value.pointer (some ⟨b, 0, none⟩) :: us).toArray.size) undef).getD t undef = (Value.pointer (some ⟨b, 0, none⟩) :: us).getD t undef := by
          rw [Array.getD_eq_getD_getElem?, Array.getElem?_append_left (by simp; omega)]
          simp
        show rel w _ _ (betP b) (((Value.pointer (some ⟨b, 0, none⟩) :: us).toArray ++ Array.replicate (fn.ntmps - (Value.pointer (some ⟨b, 0, none⟩) :: us).toArray.size) undef).getD t undef)
        rw [hu]
        simpa using relV_rel this
      · rw [h2 t (by simp; omega), lk_cons, if_neg (by omega)]
        exact trivial
    · rw [h2 t (by simp; omega), lk_cons]
      unfold slotv
      rw [if_neg hle]
      by_cases e : 1000000 = t
      · subst e
        rw [if_pos rfl]
        refine rel_of_relP rfl ⟨⟨b, 0, 0⟩, rfl, ?_⟩
        rfl
      · rw [if_neg e]; exact trivial
  refine callsIn_wide.1 (callsIn_of_wp_marks (n := 0) hf hb trivial (exec_sound (c := cxP E w X b) ok code sl2 _ 1 _ hx hc (.inl rfl) _ w D _ ?_))
  intro e sl' h' n' a' w' k D'
  have fin : resP E fn sl' h' r v' → LeavesInM Fence.wide 0 E.P fn a'.tmps (fun e w' => ∃ u', e = .returned u' ∧ w'.os = w.os ∧ w'.tape = w.tape ∧ w'.output = w.output ∧ w.heap.size ≤ w'.heap.size ∧
      (∀ k, k < w.heap.size → k ≠ b → w'.heap[k]? = w.heap[k]?) ∧ BlkAt w' (fun k => X k ∨ k = b) b v' ∧ rel w' (fun k => X k ∨ k = b) r nob u') a'.defers .returning w' := by
    intro hres
    refine body_end (c := cxP E w X b) D' fun β2 Y2 w' m2 hs2 _ => ?_
    unfold resP at hres
    split at hres
    case h_2 => exact hres.elim
    rename_i uv hl0 hb0
    obtain ⟨r0, u, k1, k2, k3⟩ := resI_ok ok m2 hs2 hres
    split at k1
    case h_2 => exact k1.elim
    rename_i hn1 hn2
    obtain ⟨rfl, hwk⟩ := k1
    have hp := hs2.2 1000000
    rw [hl0] at hp
    have hp2 := relP_of_rel rfl (by simp) (by simp) hp
    simp only [relP] at hp2
    obtain ⟨l, hl, hp3⟩ := hp2
    have hlr : l.r = b := by
      have : slotv (cxP E w X b) a' 1000000 = .pointer (some ⟨b, 0, none⟩) := rfl
      rw [this] at hp3
      simp only [List.cons.injEq, and_true, Value.pointer.injEq, Option.some.injEq, Addr.mk.injEq] at hp3
      exact hp3.1.symm
    obtain ⟨l', hl', hblk⟩ := m2.blk 0 _ hb0
    rw [hl] at hl'; cases hl'
    obtain ⟨cs, ty, lo, hi, g1, g2, g3, _⟩ := hblk
    have hown : XX (cxP E w X b).Z Y2 β2 h' b := .inr (.inr ⟨0, _, l, hb0, hl, rfl, hlr⟩)
    have ext : Ext w' (XX (cxP E w X b).Z Y2 β2 h') w' (fun k => X k ∨ k = b) := ⟨Nat.le_refl _, fun _ _ _ => rfl, fun r _ hx hx' => by
      rcases hx' with hx' | rfl
      · exact hx (.inl hx')
      · exact hx hown⟩
    refine ⟨u, k2, u, rfl, m2.os, m2.tape, m2.output, m2.size, fun k hk hkb => m2.frame k hk hkb, ⟨cs, ty, lo, hi, hlr ▸ g1, g2, relP_ext ext _ _ (nms_none hn2) g3⟩, ?_⟩
    exact hwk.app (bl_rel (rel_ext ext (nms_none hn1) k3))
  cases e with
  | normal => exact fin k
  | ret => exact fin k
  | _ => exact k.elim
end Go.Sx
