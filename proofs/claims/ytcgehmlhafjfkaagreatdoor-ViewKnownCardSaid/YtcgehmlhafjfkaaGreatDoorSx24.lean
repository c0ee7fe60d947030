/-
  AN OPERATION SEES ITS OPERANDS' SLOTS, AND OF THE HEAP WHAT ITS NAMES REACH. Generic: no program in sight. An own text.
-/
import Derived.Test.YtcgehmlhafjfkaaGreatDoorSx23
namespace Go.Sx
open Go.RowKit (Below)

mutual
/-- the names in a value, wherever they stand -/
def SV.nmd (p : Nat → Prop) : SV → Prop
  | .ptr b _ => p b
  | .osl b _ => p b
  | .yld b => p b
  | .agg fs => nmdL p fs
  | .arr _ _ fs => nmdL p fs
  | .sl _ fs => nmdL p fs
  | .iptr t => t.nmd p
  | .tup fs => nmdL p fs
  | .fn _ fs => nmdL p fs
  | _ => True
def nmdL (p : Nat → Prop) : List SV → Prop
  | [] => True
  | v :: r => v.nmd p ∧ nmdL p r
end

theorem nmdL_get {p : Nat → Prop} : ∀ {l : List SV} {i : Nat} {s : SV}, nmdL p l → l[i]? = some s → s.nmd p
  | v :: r, 0, s, h, e => by simp only [List.getElem?_cons_zero, Option.some.injEq] at e; subst e; exact h.1
  | v :: r, i + 1, s, h, e => nmdL_get h.2 (by simpa using e)
  | [], _, _, _, e => by simp at e
theorem nmdL_map {p : Nat → Prop} {α : Type} {f : α → SV} : ∀ {l : List α}, (∀ x ∈ l, (f x).nmd p) → nmdL p (l.map f)
  | [], _ => trivial
  | x :: r, h => ⟨h x (by simp), nmdL_map fun y hy => h y (by simp [hy])⟩

mutual
theorem nmd_mono {p q : Nat → Prop} (h : ∀ b, p b → q b) : ∀ v : SV, v.nmd p → v.nmd q
  | .ptr b _, k => h b k
  | .osl b _, k => h b k
  | .yld b, k => h b k
  | .agg fs, k => nmdL_mono h fs k
  | .arr _ _ fs, k => nmdL_mono h fs k
  | .sl _ fs, k => nmdL_mono h fs k
  | .iptr t, k => nmd_mono h t k
  | .tup fs, k => nmdL_mono h fs k
  | .fn _ fs, k => nmdL_mono h fs k
  | .any, _ | .int .., _ | .bool _, _ | .tru, _ | .fls, _ | .str _, _ | .mt, _ | .nils, _ | .nilf, _ | .nilp, _ | .nili, _ => trivial
theorem nmdL_mono {p q : Nat → Prop} (h : ∀ b, p b → q b) : ∀ l : List SV, nmdL p l → nmdL q l
  | [], _ => trivial
  | v :: r, k => ⟨nmd_mono h v k.1, nmdL_mono h r k.2⟩
end

section
variable {w : World} {X : Nat → Prop}
mutual
theorem relP_nmd : ∀ (v : SV) (β : Beta) (cs : List Value), relP w X v β cs → v.nmd fun b => β b ≠ none
  | .ptr b _, β, cs, h => by simp only [relP] at h; obtain ⟨l, h, _⟩ := h; show β b ≠ none; rw [h]; simp
  | .osl b _, β, cs, h => by simp only [relP] at h; obtain ⟨l, a, h, _⟩ := h; show β b ≠ none; rw [h]; simp
  | .yld b, β, cs, h => by simp only [relP] at h; obtain ⟨l, h, _⟩ := h; show β b ≠ none; rw [h]; simp
  | .agg fs, β, cs, h => by simp only [relP] at h; exact relC_nmd fs β cs h
  | .arr n sz xs, β, cs, h => by simp only [relP] at h; exact nmdL_mono (fun b hb => absurd rfl hb) _ (relR_nmd sz xs nob cs h.2)
  | .sl sz xs, β, cs, h => by
    simp only [relP] at h
    obtain ⟨a, cap, _, _, h⟩ := h
    rcases h with rfl | ⟨b, off, ds, _, _, _, _, h⟩
    · trivial
    · exact nmdL_mono (fun b hb => absurd rfl hb) _ (relR_nmd sz xs nob ds h)
  | .iptr t, β, cs, h => by
    simp only [relP] at h
    obtain ⟨b, off, ds, _, _, _, _, h⟩ := h
    exact nmd_mono (fun b hb => absurd rfl hb) _ (relP_nmd t nob ds h)
  | .tup _, _, _, h => by simp only [relP] at h
  | .fn _ fs, β, cs, h => by
    simp only [relP] at h
    obtain ⟨us, _, h⟩ := h
    exact relL_nmd fs β us.toList h
  | .any, _, _, _ | .int .., _, _, _ | .bool _, _, _, _ | .tru, _, _, _ | .fls, _, _, _ | .str _, _, _, _ | .mt, _, _, _ | .nils, _, _, _ | .nilf, _, _, _ | .nilp, _, _, _ | .nili, _, _, _ => trivial
theorem relC_nmd : ∀ (l : List SV) (β : Beta) (cs : List Value), relC w X l β cs → nmdL (fun b => β b ≠ none) l
  | [], _, _, _ => trivial
  | v :: r, β, cs, h => by
    simp only [relC] at h
    obtain ⟨c1, c2, _, h1, h2⟩ := h
    exact ⟨relP_nmd v β c1 h1, relC_nmd r β c2 h2⟩
theorem relR_nmd (sz : Nat) : ∀ (l : List SV) (β : Beta) (cs : List Value), relR w X sz l β cs → nmdL (fun b => β b ≠ none) l
  | [], _, _, _ => trivial
  | v :: r, β, cs, h => by
    simp only [relR] at h
    obtain ⟨c1, c2, _, _, h1, h2⟩ := h
    exact ⟨relP_nmd v β c1 h1, relR_nmd sz r β c2 h2⟩
theorem relL_nmd : ∀ (l : List SV) (β : Beta) (cs : List Value), relL w X l β cs → nmdL (fun b => β b ≠ none) l
  | [], _, _, _ => trivial
  | v :: r, β, cs, h => by
    rw [relL_cons] at h
    obtain ⟨u, us', _, h1, h2⟩ := h
    refine ⟨?_, relL_nmd r β us' h2⟩
    have ih := fun cs => relP_nmd v β cs
    unfold relV at h1
    cases hv : v.isAgg with
    | true => simp only [hv] at h1; obtain ⟨cs, _, h1⟩ := h1; exact ih _ h1
    | false => simp only [hv] at h1; cases v <;> first | trivial | exact ih _ h1
end
theorem rel_nmd {v : SV} {β : Beta} {u : Value} (h : rel w X v β u) : v.nmd fun b => β b ≠ none := by
  by_cases ht : ∃ vs, v = .tup vs
  · obtain ⟨vs, rfl⟩ := ht
    obtain ⟨us, _, h⟩ := h
    exact relL_nmd _ _ _ h
  · rw [rel_eq fun vs e => ht ⟨vs, e⟩] at h
    unfold relV at h
    cases hv : v.isAgg with
    | true => simp only [hv] at h; obtain ⟨cs, _, h1⟩ := h; exact relP_nmd _ _ _ h1
    | false => simp only [hv] at h; cases v <;> first | trivial | exact relP_nmd _ _ _ h
end

theorem nav_nmd {S : Nat → Prop} : ∀ {p : List Step} {v : SV} {K : SV → Prop}, v.nmd S → nav v p K → nav v p fun s => s.nmd S ∧ K s
  | [], v, K, hv, h => by
    simp only [nav, frc_eq] at h ⊢
    exact ⟨hv, h⟩
  | .fld i off :: p, v, K, hv, h => by
    simp only [nav] at h ⊢
    split at h
    case h_2 => exact h.elim
    rename_i fs
    split at h
    case h_2 => exact h.elim
    rename_i e1
    split at h
    case h_2 => exact h.elim
    rename_i s e2
    exact nav_nmd (nmdL_get hv e2) h
  | .idx i sz :: p, v, K, hv, h => by
    simp only [nav] at h ⊢
    split at h
    case h_2 => exact h.elim
    rename_i n sz' xs
    split at h
    case h_2 => exact h.elim
    rename_i e1
    unfold IdxVC at h ⊢
    obtain ⟨s, h0, h1, k1⟩ := h
    exact ⟨s, h0, h1, nav_nmd (nmdL_get hv h1) k1⟩

/-- Two heaps that read alike where S reaches. -/
structure HS (S : Nat → Prop) (h h' : Heap) : Prop where
  same : ∀ b, S b → (lkB h b).map Blk.cold = (lkB h' b).map Blk.cold
  var : ∀ b, S b → ∀ o v, lkB h b = some (.var o v) → v.nmd S

theorem HS.var_eq {S : Nat → Prop} {h h' : Heap} (e : HS S h h') {b : Nat} (hb : S b) {o : Bool} {v : SV} (k : lkB h b = some (.var o v)) : ∃ o', lkB h' b = some (.var o' v) := by
  have := e.same b hb
  rw [k] at this
  cases hh : lkB h' b with
  | none => rw [hh] at this; cases this
  | some k' => rw [hh] at this; cases k' <;> simp [Blk.cold, Blk.dead] at this; subst this; exact ⟨_, rfl⟩
theorem HS.row_eq {S : Nat → Prop} {h h' : Heap} (e : HS S h h') {b : Nat} (hb : S b) {o : Bool} {s : Nat} {v : List SV} (k : lkB h b = some (.row o s v)) : ∃ o', lkB h' b = some (.row o' s v) := by
  have := e.same b hb
  rw [k] at this
  cases hh : lkB h' b with
  | none => rw [hh] at this; cases this
  | some k' => rw [hh] at this; cases k' <;> simp [Blk.cold, Blk.dead] at this; obtain ⟨rfl, rfl⟩ := this; exact ⟨_, rfl⟩

mutual
theorem frz_heap {S : Nat → Prop} {h h' : Heap} (e : HS S h h') : ∀ {d : Nat} {v : SV} {ns : List Nat} {K : SV → List Nat → Prop}, v.nmd S → frz h d v ns K → frz h' d v ns K
  | 0, _, _, _, _, hk => by simp only [frz] at hk
  | d + 1, v, ns, K, hv, hk => by
    simp only [frz] at hk
    split at hk
    · rename_i b p
      split at hk
      case h_2 => exact hk.elim
      rename_i own u e1
      obtain ⟨o', e2⟩ := e.var_eq hv e1
      obtain ⟨s', ⟨q0, q1⟩, q2⟩ := nav_pf (nav_nmd (e.var b hv _ _ e1) hk)
      simp only [frz, e2]
      exact q2 _ (frz_heap e q0 q1)
    · rename_i b sz
      split at hk
      case h_2 => exact hk.elim
      rename_i own sz' xs e1
      obtain ⟨o', e2⟩ := e.row_eq hv e1
      simp only [frz, e2]
      exact hk
    · simp only [frz]; exact frzL_heap e hv hk
    · simp only [frz]; exact frzL_heap e hv hk
    · simp only [frz]; exact frzL_heap e hv hk
    · exact hk.elim
    · rename_i h1 h2 h3 h4 h5 h6
      rw [frc_eq] at hk
      cases v <;> first | (simp only [frz]; exact hk) | exact absurd rfl (h1 _ _) | exact absurd rfl (h2 _ _) | exact absurd rfl (h3 _) | exact absurd rfl (h4 _) | exact absurd rfl (h5 _ _) | exact absurd rfl (h6 _)
theorem frzL_heap {S : Nat → Prop} {h h' : Heap} (e : HS S h h') : ∀ {d : Nat} {l : List SV} {ns : List Nat} {K : List SV → List Nat → Prop}, nmdL S l → frzL h d l ns K → frzL h' d l ns K
  | 0, _, _, _, _, hk => by simp only [frzL] at hk
  | d + 1, [], ns, K, _, hk => by simp only [frzL] at hk ⊢; exact hk
  | d + 1, v :: r, ns, K, hv, hk => by
    simp only [frzL] at hk ⊢
    obtain ⟨v', ns', k1, g1⟩ := frz_pf hk
    have k2 := frzL_heap e hv.2 k1
    exact frz_heap e hv.1 (g1 _ k2)
end
end Go.Sx
