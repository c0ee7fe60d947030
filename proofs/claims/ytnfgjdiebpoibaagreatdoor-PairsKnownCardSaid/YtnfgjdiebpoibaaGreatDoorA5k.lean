/-
  WHAT A ROW LISTS, AS A SYMBOLIC VALUE: a slice of strings that is a package-level variable. Generic: no program in sight. An own text.
  WHAT A ROW ASKS BEHIND A CALL, where nothing that was there has turned. Generic: no program in sight. An own text.
  OPEN RUNS: a function's text and a plain function on data, side by side. Generic: no program in sight. An own text.
  PLAIN FUNCTIONS THAT MAY FAIL: that they do not, and what they return. Generic: no program in sight. An own text.
  WHAT IS READ OF AN ARGUMENT, AS A SYMBOLIC VALUE. Generic: no program in sight. An own text.
  A LAW's ARGUMENTS: what is read of them, that they read as they did. Generic: no program in sight. An own text.
  STATES THAT ARE THE SAME: one look at all. Generic: no program in sight. An own text.
  LOOPS THAT LOOK FOR THE FIRST: exact. Generic: no program in sight. An own text.
  OPEN RUNS: sets of keys in maps; a choice among known values. Generic: no program in sight. An own text.
  OPEN RUNS: stores to private variables, with data in the slots. Generic: no program in sight. An own text.
  SUBSTATES: blocks that are no longer written. An own text.
  CLOSED RUNS IN PARTS: what a function returned once is told again. An own text.
-/
import Derived.Test.YtnfgjdiebpoibaaGreatDoorA4k
import Derived.Lib.LaidU8
import Derived.ChangeSame
import Derived.Below
import Derived.ChangeArms
import Derived.Carry
namespace Go.Sx
theorem add_zero (a : Addr) : a.add 0 = a := by simp [Addr.add]
theorem add_at {a : Addr} (h : a.spot = none) (i : Nat) : a.add i = ⟨a.block, a.off + i, none⟩ := by
  obtain ⟨b, o, sp⟩ := a
  simp at h; subst h
  simp only [Addr.add]
  split
  · rename_i e; subst e; rfl
  · rfl
theorem cell_spot {w : World} {a : Addr} {v : Value} (h : w.cell? a = some v) : a.spot = none ∧ a.block < w.heap.size := by
  simp only [World.cell?] at h
  split at h
  · rename_i e1
    refine ⟨?_, heap_lt e1⟩
    cases hs : a.spot with
    | none => rfl
    | some s => rw [hs] at h; simp at h
  · cases h
theorem relR_strs {w : World} {X : Nat → Prop} : ∀ (ss : List (List UInt8)), relR w X 1 (ss.map .str) nob (ss.map fun s => Value.string ⟨s.toArray⟩)
  | [] => by simp [relR_nil]
  | s :: r => by
    simp only [List.map_cons]
    rw [relR_cons]
    exact ⟨[.string ⟨s.toArray⟩], _, rfl, rfl, by simp only [relP], relR_strs r⟩
theorem laid_strs {P : Program} {w : World} {n : String} {ss : List (List UInt8)} (h : Lib.VarReads P w n (.slice (ss.map fun s => .lit (.string s)) [])) {g : Nat} {t e : TypeId} (hg : P.globalNamed n = some g) (ht : (P.globals[g]?).map (·.type) = some t)
    (hu : P.underlying t = some (.slice e)) (hs : P.underlying e = some .string) (hc : P.cellsOf e = 1) :
    relP w (fun _ => False) (.iptr (.sl 1 (ss.map .str))) nob [.pointer (some ⟨g, 0, none⟩)] := by
  obtain ⟨g', t', cs, fuel, p, h1, h2, h3, h4⟩ := h
  rw [hg] at h1; cases h1
  rw [ht] at h2; cases h2
  simp only [World.var?, hg, Option.bind_some] at h3
  have hh : ∃ ty fz, w.heap[g]? = some (.cells cs ty fz) := by
    split at h3
    · rename_i e1; cases h3; exact ⟨_, _, e1⟩
    · cases h3
  obtain ⟨ty, fz, hh⟩ := hh
  rcases DataW.trod_slice hu h4 with ⟨_, hx⟩ | ⟨a, len, cap, elems, rest, m, rfl, hcs, hx, _, hle, _, hel, hat, _⟩
  · cases hx
  have hd : elems.map (·.1) = ss.map fun s => (DataW.lit (.string s) : DataW Unit) := by
    have := congrArg Prod.fst hx
    simp at this
    exact this.1.symm
  have hlen : len = ss.length := by
    have := congrArg List.length hd
    simp at this; omega
  have hcell : ∀ i s, ss[i]? = some s → w.cell? (a.add i) = some (.string ⟨s.toArray⟩) := by
    intro i s hi
    have hlt : i < len := by
      rw [hlen]
      rcases Nat.lt_or_ge i ss.length with g | g
      · exact g
      · rw [List.getElem?_eq_none g] at hi; cases hi
    have k := hat i hlt
    rw [hc, Nat.mul_one] at k
    have he : ∃ b, elems[i]? = some b := ⟨elems[i]'(by omega), List.getElem?_eq_getElem (by omega)⟩
    obtain ⟨b, he⟩ := he
    rw [he] at k
    obtain ⟨c1, k1, k2⟩ := Option.bind_eq_some_iff.1 k
    obtain ⟨s', rfl, rfl, _⟩ := DataW.trod_string hs k2
    have hb : (elems.map (·.1))[i]? = some (.lit (.string s'.data.toList)) := by simp [he]
    rw [hd] at hb
    simp only [List.getElem?_map, hi, Option.map_some, Option.some.injEq, DataW.lit.injEq, Lit.string.injEq] at hb
    subst hb
    simp only [World.cells?] at k1
    split at k1
    · have k3 : w.cell? ((a.add i).add 0) = some (.string s') := by
        cases hcc : w.cell? ((a.add i).add 0) with
        | none => simp [List.range, List.range.loop, hcc] at k1
        | some v => simpa [List.range, List.range.loop, hcc] using k1
      rw [add_zero] at k3
      exact k3
    · cases k1
  simp only [relP]
  refine ⟨g, 0, cs.toList, rfl, id, heap_lt hh, fun j v hj => ?_, a, cap, ?_, by simpa [← hlen] using hle, ?_⟩
  · have : cs[j]? = some v := by simpa using hj
    simp only [World.cell?, hh, Nat.zero_add]
    simpa using this
  · rw [hcs]; simp [hlen]
  · cases hss : ss with
    | nil => exact .inl rfl
    | cons s r =>
      right
      have h0 := hcell 0 s (by rw [hss]; rfl)
      rw [add_zero] at h0
      obtain ⟨hsp, hblk⟩ := cell_spot h0
      rw [← hss]
      refine ⟨a.block, a.off, ss.map fun s => Value.string ⟨s.toArray⟩, ?_, id, hblk, fun j v hj => ?_, relR_strs ss⟩
      · obtain ⟨b, o, sp⟩ := a; simp at hsp; subst hsp; rfl
      · simp only [List.getElem?_map, Option.map_eq_some_iff] at hj
        obtain ⟨s', h1, rfl⟩ := hj
        have := hcell j s' h1
        rw [add_at hsp] at this
        exact this
end Go.Sx
namespace Go.Sx
open Go.WideShapes Go.ChangeShapes Go.RowKit
theorem post_of_below {H : Type} {enc : TypeId × Value → H} {P : Program} {f : Func} {s : ChangeSpec} {apart fresh handsOn again : Bool} {W W' : World} {args : Array Value} {v : Value} {ds gs : List (DataW H)} {before pa pv : List MemPlace}
    (hW : DataW.Whole enc P f.params.toList s.vars apart W args.toList ds gs before)
    (hres : ∀ (b : Nat) (sp : Nat → Bool) (hd : Bool), DataW.TrodAll enc P W' b sp hd f.resultTypes.toList (v.resultList f.resultTypes.size) (s.fn H (ds ++ gs)).results [])
    (hargs : ∀ sp : Nat → Bool, (∀ p ∈ before, sp p.block = true) → DataW.TrodAll enc P W' 0 sp true f.params.toList args.toList (s.fn H (ds ++ gs)).args pa)
    (hvars : ∀ sp : Nat → Bool, (∀ p ∈ before, sp p.block = true) → DataW.TrodVars enc P W' sp s.vars (s.fn H (ds ++ gs)).vars pv)
    (hps : before = pa ++ pv) (hb : Below W.heap.size W W')
    (hok : ∀ (j : Nat) (t : TypeId) (r : Value), f.resultTypes[j]? = some t → (v.resultList f.resultTypes.size)[j]? = some r → Value.okWide P W' .any 0 t r) :
    s.post enc P f apart fresh handsOn again W args v W' := by
  have hlt : ∀ p ∈ before, p.block < W.heap.size := fun p hp => hW.lt p hp
  have hold : ∀ p ∈ before, (fun b => decide (b < W.heap.size)) p.block = true := fun p hp => by simpa using hlt p hp
  refine ⟨ds, gs, before, [], pa, pv, hW, hres _ _ _, hargs _ hold, hvars _ hold, hb.frame _, fun _ => ?_⟩
  obtain ⟨_, _, _, _, _, hz, hn⟩ := hW
  refine ⟨hok, _, _, ([] ++ pa) ++ pv, ⟨[] ++ pa, pv, trodAll_append (hargs _ (fun _ _ => rfl)) (hres _ _ _), hvars _ (fun _ _ => rfl), rfl, ?_, ?_⟩, ?_⟩
  · intro b off hp
    have hp' : MemPlace.cell b off ∈ before := by rw [hps]; simpa using hp
    rw [hb.frozen (hlt _ hp')]
    exact hz b off hp'
  · intro ha
    have := hn ha
    rw [hps] at this
    simpa using this
  · intro p hp _
    rw [hps]
    simpa using hp
end Go.Sx
namespace Go.Sx
open Go.RowKit (Below)
def lpN {σ τ : Type} (step : σ → Option (σ ⊕ τ)) : Nat → σ → Option τ
  | 0, _ => none
  | n + 1, s => (step s).bind (Sum.elim (lpN step n) some)
open Classical in
noncomputable def lpO {σ τ : Type} (step : σ → Option (σ ⊕ τ)) (s : σ) : Option τ :=
  if h : ∃ n, (lpN step n s).isSome = true then lpN step (Classical.choose h) s else none
section
variable {σ τ : Type} {step : σ → Option (σ ⊕ τ)}
theorem lpN_mono {t : τ} : ∀ {n m : Nat} {s : σ}, n ≤ m → lpN step n s = some t → lpN step m s = some t
  | 0, _, _, _, h => by simp [lpN] at h
  | n + 1, 0, _, h, _ => by omega
  | n + 1, m + 1, s, hm, h => by
    simp only [lpN] at h ⊢
    cases hs : step s with
    | none => rw [hs] at h; simp at h
    | some x =>
      rw [hs] at h
      cases x with
      | inl s' => exact lpN_mono (n := n) (m := m) (by omega) h
      | inr t' => exact h
theorem lpO_iff {s : σ} {t : τ} : lpO step s = some t ↔ ∃ n, lpN step n s = some t := by
  classical
  unfold lpO
  constructor
  · intro h
    split at h
    · exact ⟨_, h⟩
    · cases h
  · rintro ⟨n, h⟩
    have hx : ∃ n, (lpN step n s).isSome = true := ⟨n, by rw [h]; rfl⟩
    rw [dif_pos hx]
    have hc := Classical.choose_spec hx
    obtain ⟨t', ht⟩ := Option.isSome_iff_exists.1 hc
    rcases Nat.le_total n (Classical.choose hx) with g | g
    · exact lpN_mono g h
    · have := lpN_mono g ht
      rw [h] at this; cases this; exact ht
theorem lpO_eq {s : σ} : lpO step s = (step s).bind (Sum.elim (lpO step) some) := by
  have key : ∀ t, lpO step s = some t ↔ (step s).bind (Sum.elim (lpO step) some) = some t := by
    intro t
    rw [lpO_iff]
    constructor
    · rintro ⟨n, h⟩
      cases n with
      | zero => simp [lpN] at h
      | succ n =>
        simp only [lpN] at h
        cases hs : step s with
        | none => rw [hs] at h; simp at h
        | some x =>
          rw [hs] at h
          cases x with
          | inl s' => exact lpO_iff.2 ⟨n, h⟩
          | inr t' => exact h
    · intro h
      cases hs : step s with
      | none => rw [hs] at h; simp at h
      | some x =>
        rw [hs] at h
        cases x with
        | inl s' =>
          obtain ⟨n, hn⟩ := lpO_iff.1 (show lpO step s' = some t from h)
          exact ⟨n + 1, by simp only [lpN, hs]; exact hn⟩
        | inr t' => exact ⟨1, by simp only [lpN, hs]; exact h⟩
  cases h1 : lpO step s with
  | some t => exact ((key t).1 h1).symm
  | none =>
    cases h2 : (step s).bind (Sum.elim (lpO step) some) with
    | none => rfl
    | some t => rw [(key t).2 h2] at h1; cases h1
end
section
variable {ρ τ : Type} {k : τ → Option ρ} {b : ρ}
end
def WkP (v r : SV) : Prop := ∀ w X β cs, relP w X v β cs → relP w X r β cs
theorem WkP.refl {v : SV} : WkP v v := fun _ _ _ _ h => h
theorem WkP.of {v r : SV} (h : v = r) : WkP v r := h ▸ .refl
theorem WkP.tru : WkP .tru (.bool true) := fun _ _ _ _ h => h
theorem WkP.fls : WkP .fls (.bool false) := fun _ _ _ _ h => h
theorem WkP.nils {sz : Nat} : WkP .nils (.sl sz []) := fun _ _ _ _ h => by
  simp only [relP] at h ⊢; exact ⟨_, 0, by simpa using h, by simp, by simp⟩
theorem WkP.mt {sz : Nat} : WkP .mt (.sl sz []) := fun _ _ _ _ h => by
  simp only [relP] at h ⊢; obtain ⟨a, h⟩ := h; exact ⟨a, 0, by simpa using h, by simp, by simp⟩
def WkC : List SV → List SV → Prop
  | [], [] => True
  | v :: vs, r :: rs => WkP v r ∧ WkC vs rs
  | _, _ => False
theorem WkC.app {w : World} {X : Nat → Prop} {β : Beta} : ∀ {vs rs : List SV} {cs : List Value}, WkC vs rs → relC w X vs β cs → relC w X rs β cs
  | [], [], _, _, h => h
  | v :: vs, r :: rs, cs, k, h => by
    rw [relC_cons] at h ⊢
    obtain ⟨c1, c2, h1, h2, h3⟩ := h
    exact ⟨c1, c2, h1, k.1 _ _ _ _ h2, WkC.app k.2 h3⟩
  | [], _ :: _, _, k, _ => k.elim
  | _ :: _, [], _, k, _ => k.elim
theorem WkP.agg {vs rs : List SV} (h : WkC vs rs) : WkP (.agg vs) (.agg rs) := fun _ _ _ _ k => by
  simp only [relP] at k ⊢; exact h.app k
theorem WkC.appR {w : World} {X : Nat → Prop} {β : Beta} {sz : Nat} : ∀ {vs rs : List SV} {cs : List Value}, WkC vs rs → relR w X sz vs β cs → relR w X sz rs β cs
  | [], [], _, _, h => h
  | v :: vs, r :: rs, cs, k, h => by
    rw [relR_cons] at h ⊢
    obtain ⟨c1, c2, h1, h0, h2, h3⟩ := h
    exact ⟨c1, c2, h1, h0, k.1 _ _ _ _ h2, WkC.appR k.2 h3⟩
  | [], _ :: _, _, k, _ => k.elim
  | _ :: _, [], _, k, _ => k.elim
theorem WkC.len : ∀ {vs rs : List SV}, WkC vs rs → vs.length = rs.length
  | [], [], _ => rfl
  | _ :: _, _ :: _, h => by simp [WkC.len h.2]
  | [], _ :: _, k => k.elim
  | _ :: _, [], k => k.elim
theorem WkP.arr {n sz : Nat} {vs rs : List SV} (h : WkC vs rs) : WkP (.arr n sz vs) (.arr n sz rs) := fun _ _ _ _ k => by
  simp only [relP] at k ⊢; exact ⟨h.len ▸ k.1, h.appR k.2⟩
theorem WkC.refl : ∀ {l : List SV}, WkC l l
  | [] => trivial
  | _ :: _ => ⟨.refl, WkC.refl⟩
theorem WkC.of {l m : List SV} (h : l = m) : WkC l m := h ▸ .refl
theorem WkC.trans : ∀ {a b c : List SV}, WkC a b → WkC b c → WkC a c
  | [], [], [], _, _ => trivial
  | _ :: _, _ :: _, _ :: _, h, k => ⟨fun w X β cs q => k.1 w X β cs (h.1 w X β cs q), WkC.trans h.2 k.2⟩
  | [], _ :: _, _, h, _ => h.elim
  | _ :: _, [], _, h, _ => h.elim
  | [], [], _ :: _, _, h => h.elim
  | _ :: _, _ :: _, [], _, h => h.elim
theorem WkC.set {v r : SV} (e : WkP v r) : ∀ {l m : List SV} {i : Nat}, WkC l m → WkC (l.set i v) (m.set i r)
  | [], [], _, _ => trivial
  | _ :: _, _ :: _, 0, h => ⟨e, h.2⟩
  | _ :: _, _ :: _, _ + 1, h => ⟨h.1, WkC.set e h.2⟩
  | [], _ :: _, _, h => h.elim
  | _ :: _, [], _, h => h.elim
theorem WkC.append : ∀ {l m l' m' : List SV}, WkC l m → WkC l' m' → WkC (l ++ l') (m ++ m')
  | [], [], _, _, _, k => k
  | _ :: _, _ :: _, _, _, h, k => ⟨h.1, WkC.append h.2 k⟩
  | [], _ :: _, _, _, h, _ => h.elim
  | _ :: _, [], _, _, h, _ => h.elim
theorem WkC.nil : WkC [] [] := trivial
theorem WkC.cons {v r : SV} {l m : List SV} (h : WkP v r) (k : WkC l m) : WkC (v :: l) (r :: m) := ⟨h, k⟩
theorem WkP.sl {sz : Nat} {vs rs : List SV} (h : WkC vs rs) : WkP (.sl sz vs) (.sl sz rs) := fun w X β cs k => by
  simp only [relP] at k ⊢
  obtain ⟨a, cap, h1, h2, h3⟩ := k
  have hl := h.len
  refine ⟨a, cap, hl ▸ h1, hl ▸ h2, ?_⟩
  rcases h3 with h3 | ⟨b, off, ds, g1, g2, g3, g4, g5⟩
  · subst h3; exact .inl (List.length_eq_zero_iff.1 (by simpa using hl.symm))
  · exact .inr ⟨b, off, ds, g1, g2, g3, g4, h.appR g5⟩
theorem WkP.iptr {v r : SV} (h : WkP v r) : WkP (.iptr v) (.iptr r) := fun w X β cs k => by
  simp only [relP] at k ⊢
  obtain ⟨b, off, ds, h1, h2, h3, h4, h5⟩ := k
  exact ⟨b, off, ds, h1, h2, h3, h4, h _ _ _ _ h5⟩
def kn : SV → Bool
  | .any => false
  | .tup _ => false
  | _ => true
theorem relV_of {w : World} {X : Nat → Prop} {β : Beta} {v r : SV} {u : Value} (h : WkP v r) (ha : v.isAgg = r.isAgg) (hv : kn v = true) (hr : kn r = true) (k : relV w X v β u) : relV w X r β u := by
  unfold relV at k ⊢
  rw [← ha]
  cases e : v.isAgg with
  | true => simp only [e] at k ⊢; obtain ⟨cs, k1, k2⟩ := k; exact ⟨cs, k1, h _ _ _ _ k2⟩
  | false =>
    simp only [e] at k ⊢
    have k' : relP w X v β [u] := by cases v <;> first | exact k | cases hv
    have := h _ _ _ _ k'
    cases r <;> first | exact this | cases hr
theorem Wk.ofP {v r : SV} (h : WkP v r) (ha : v.isAgg = r.isAgg) (hv : kn v = true) (hr : kn r = true) : Wk v r := by
  unfold Wk
  intro w X β u k
  have e1 : ∀ vs, v ≠ .tup vs := fun vs e => by rw [e] at hv; cases hv
  have e2 : ∀ vs, r ≠ .tup vs := fun vs e => by rw [e] at hr; cases hr
  rw [rel_eq e1] at k
  rw [rel_eq e2]
  exact relV_of h ha hv hr k
theorem Wk.any {v : SV} : Wk v .any := by unfold Wk; exact fun _ _ _ _ _ => trivial
theorem Wk.tru : Wk .tru (.bool true) := .ofP .tru rfl rfl rfl
theorem Wk.fls : Wk .fls (.bool false) := .ofP .fls rfl rfl rfl
theorem Wk.nils {sz : Nat} : Wk .nils (.sl sz []) := .ofP .nils rfl rfl rfl
def WkT : List SV → List SV → Prop
  | [], [] => True
  | v :: vs, r :: rs => (v = r ∨ (WkP v r ∧ v.isAgg = r.isAgg ∧ kn v = true ∧ kn r = true)) ∧ WkT vs rs
  | _, _ => False
theorem WkT.app {w : World} {X : Nat → Prop} {β : Beta} : ∀ {vs rs : List SV} {us : List Value}, WkT vs rs → relL w X vs β us → relL w X rs β us
  | [], [], _, _, h => h
  | v :: vs, r :: rs, us, k, h => by
    rw [relL_cons] at h ⊢
    obtain ⟨u, us', h1, h2, h3⟩ := h
    refine ⟨u, us', h1, ?_, WkT.app k.2 h3⟩
    rcases k.1 with e | ⟨e1, e2, e3, e4⟩
    · exact e ▸ h2
    · exact relV_of e1 e2 e3 e4 h2
  | [], _ :: _, _, k, _ => k.elim
  | _ :: _, [], _, k, _ => k.elim
theorem Wk.tup {vs rs : List SV} (h : WkT vs rs) : Wk (.tup vs) (.tup rs) := by
  unfold Wk
  rintro w X β u ⟨us, k1, k2⟩
  exact ⟨us, k1, h.app k2⟩
theorem WkT.nil : WkT [] [] := trivial
theorem WkT.same {v : SV} {vs rs : List SV} (h : WkT vs rs) : WkT (v :: vs) (v :: rs) := ⟨.inl rfl, h⟩
def subW (sl' : Slots) : Slots → Prop
  | [] => True
  | (t, v) :: r => Wk (lk sl' t) v ∧ subW sl' r
def bwk (k' : Option Blk) (k : Blk) : Prop := ∃ k0, k' = some k0 ∧ (k0 = k ∨ (∃ o v v', k0 = .var o v' ∧ k = .var o v ∧ WkP v' v) ∨ (∃ o sz v v', k0 = .row o sz v' ∧ k = .row o sz v ∧ WkC v' v) ∨ ∃ q s s', k0 = .gho q s' ∧ k = .gho q s ∧ subW s' s)
theorem bwk.refl {k : Blk} : bwk (some k) k := ⟨k, rfl, .inl rfl⟩
theorem bwk.var {o : Bool} {v v' : SV} (h : WkP v' v) : bwk (some (.var o v')) (.var o v) := ⟨_, rfl, .inr (.inl ⟨o, v, v', rfl, rfl, h⟩)⟩
theorem bwk.row {o : Bool} {sz : Nat} {v v' : List SV} (h : WkC v' v) : bwk (some (.row o sz v')) (.row o sz v) := ⟨_, rfl, .inr (.inr (.inl ⟨o, sz, v, v', rfl, rfl, h⟩))⟩
theorem bwk.gho {q : Lp} {s s' : Slots} (h : subW s' s) : bwk (some (.gho q s')) (.gho q s) := ⟨_, rfl, .inr (.inr (.inr ⟨q, s, s', rfl, rfl, h⟩))⟩
theorem SubX.trans {sl sl' sl'' : Slots} {h h' h'' : Heap} {n n' n'' : Nat} (p : SubX sl h n sl' h' n') (q : SubX sl' h' n' sl'' h'' n'') : SubX sl h n sl'' h'' n'' := by
  unfold SubX at *
  exact fun c N a w D => q c N a w (p c N a w D)
def WkG (G sz : Nat) (v r : SV) : Prop := ∀ w X β cs, β G = some ⟨0, 0, 0⟩ → relP w X v β cs → relP w X r β cs
theorem WkG.nil {G sz : Nat} : WkG G sz .nils (.osl G sz) := fun w X β cs hG h => by
  simp only [relP] at h ⊢
  exact ⟨⟨0, 0, 0⟩, none, hG, h, fun e => absurd rfl e⟩
theorem WkG.refl {G sz : Nat} {v : SV} : WkG G sz v v := fun _ _ _ _ _ h => h
def WkGC (G sz : Nat) : List SV → List SV → Prop
  | [], [] => True
  | v :: vs, r :: rs => WkG G sz v r ∧ WkGC G sz vs rs
  | _, _ => False
theorem WkGC.nil {G sz : Nat} : WkGC G sz [] [] := trivial
theorem WkGC.cons {G sz : Nat} {v r : SV} {l m : List SV} (h : WkG G sz v r) (k : WkGC G sz l m) : WkGC G sz (v :: l) (r :: m) := ⟨h, k⟩
theorem WkGC.app {G sz : Nat} {w : World} {X : Nat → Prop} {β : Beta} (hG : β G = some ⟨0, 0, 0⟩) : ∀ {vs rs : List SV} {cs : List Value}, WkGC G sz vs rs → relC w X vs β cs → relC w X rs β cs
  | [], [], _, _, h => h
  | v :: vs, r :: rs, cs, k, h => by
    rw [relC_cons] at h ⊢
    obtain ⟨c1, c2, h1, h2, h3⟩ := h
    exact ⟨c1, c2, h1, k.1 _ _ _ _ hG h2, WkGC.app hG k.2 h3⟩
  | [], _ :: _, _, k, _ => k.elim
  | _ :: _, [], _, k, _ => k.elim
theorem WkG.agg {G sz : Nat} {vs rs : List SV} (h : WkGC G sz vs rs) : WkG G sz (.agg vs) (.agg rs) := fun _ _ _ _ hG k => by
  simp only [relP] at k ⊢; exact h.app hG k
def encSl {α : Type} (sz : Nat) (e : α → SV) (l : List α) : SV := .sl sz (l.map e)
def encA2 {α : Type} (sz : Nat) (e : α → SV) (p : α × α) : SV := .arr 2 sz [e p.1, e p.2]
def encA {α : Type} (n sz : Nat) (e : α → SV) (l : List α) : SV := .arr n sz (l.map e)
end Go.Sx
namespace Go.Sx
def Tot {α : Type} (x : Option α) (Q : α → Prop) : Prop := ∃ a, x = some a ∧ Q a
section
variable {α β σ τ : Type}
theorem Tot.mk {a : α} {Q : α → Prop} (h : Q a) : Tot (some a) Q := ⟨a, rfl, h⟩
theorem Tot.mono {x : Option α} {Q R : α → Prop} (h : Tot x Q) (k : ∀ a, Q a → R a) : Tot x R := by obtain ⟨a, e, q⟩ := h; exact ⟨a, e, k a q⟩
theorem Tot.of {x : Option α} {a : α} {Q : α → Prop} (h : x = some a) (k : Q a) : Tot x Q := ⟨a, h, k⟩
theorem Tot.loop {step : σ → Option (σ ⊕ τ)} {Q : τ → Prop} (m : σ → Nat) (P : σ → Prop) (h : ∀ s, P s → Tot (step s) (Sum.elim (fun s' => P s' ∧ m s' < m s) Q)) {s : σ} (hs : P s) : Tot (lpO step s) Q := by
  have go : ∀ n s, m s ≤ n → P s → Tot (lpO step s) Q := by
    intro n
    induction n with
    | zero =>
      intro s hm hs
      obtain ⟨x, e, q⟩ := h s hs
      rw [lpO_eq, e]
      cases x with
      | inl s' => exact absurd q.2 (by omega)
      | inr t => exact ⟨t, rfl, q⟩
    | succ n ih =>
      intro s hm hs
      obtain ⟨x, e, q⟩ := h s hs
      rw [lpO_eq, e]
      cases x with
      | inl s' =>
        have q1 := q.1
        have q2 := q.2
        exact ih s' (by omega) q1
      | inr t => exact ⟨t, rfl, q⟩
  exact go _ s (Nat.le_refl _) hs
end
end Go.Sx
namespace Go.Sx
open Go.RowKit (Below)
mutual
def HasT (tt : List (Nat × TI)) : Nat → TypeId → SV → Prop
  | 0, _, _ => False
  | d + 1, T, v => match (lkT tt T).d with
    | .int k => ∃ n, v = .int k n ∧ k.min ≤ n ∧ n ≤ k.max
    | .bool => ∃ b, v = .bool b
    | .str => ∃ s, v = .str s
    | .sl e => ∃ xs, v = .sl (lkT tt e).size xs ∧ (∀ x ∈ xs, HasT tt d e x) ∧ xs.length ≤ 9223372036854775807
    | .strct fs => ∃ vs, v = .agg vs ∧ HasF tt d fs vs
    | .arr n e => ∃ xs, v = .arr n (lkT tt e).size xs ∧ xs.length = n ∧ ∀ x ∈ xs, HasT tt d e x
    | _ => False
def HasF (tt : List (Nat × TI)) : Nat → List (TypeId × Nat) → List SV → Prop
  | 0, _, _ => False
  | d + 1, fs, vs => match fs with
    | [] => vs = []
    | (T, _) :: r => ∃ v vs', vs = v :: vs' ∧ HasT tt d T v ∧ HasF tt d r vs'
end
section
variable {H : Type} {enc : TypeId × Value → H} {E : Env} {w : World} {spare : Nat → Bool}
end
end Go.Sx
namespace Go.Sx
open Go.RowKit (Below)
section
variable {H : Type} {enc : TypeId × Value → H}
end
section
variable {tt : List (Nat × TI)} {d : Nat} {T : TypeId} {v : SV}
theorem HasT.int {k : IntKind} (h : HasT tt (d + 1) T v) (e : (lkT tt T).d = .int k) : ∃ n, v = .int k n ∧ k.min ≤ n ∧ n ≤ k.max := by unfold HasT at h; rw [e] at h; exact h
theorem HasT.bool (h : HasT tt (d + 1) T v) (e : (lkT tt T).d = .bool) : ∃ b, v = .bool b := by unfold HasT at h; rw [e] at h; exact h
theorem HasT.str (h : HasT tt (d + 1) T v) (e : (lkT tt T).d = .str) : ∃ s, v = .str s := by unfold HasT at h; rw [e] at h; exact h
theorem HasT.slB {t : TypeId} (h : HasT tt (d + 1) T v) (e : (lkT tt T).d = .sl t) : ∃ xs, v = .sl (lkT tt t).size xs ∧ (∀ x ∈ xs, HasT tt d t x) ∧ xs.length ≤ 9223372036854775807 := by unfold HasT at h; rw [e] at h; exact h
theorem HasT.sl {t : TypeId} (h : HasT tt (d + 1) T v) (e : (lkT tt T).d = .sl t) : ∃ xs, v = .sl (lkT tt t).size xs ∧ ∀ x ∈ xs, HasT tt d t x := by obtain ⟨xs, h1, h2, _⟩ := HasT.slB h e; exact ⟨xs, h1, h2⟩
theorem HasT.strct {fs : List (TypeId × Nat)} (h : HasT tt (d + 1) T v) (e : (lkT tt T).d = .strct fs) : ∃ vs, v = .agg vs ∧ HasF tt d fs vs := by unfold HasT at h; rw [e] at h; exact h
theorem HasT.arr {n : Nat} {t : TypeId} (h : HasT tt (d + 1) T v) (e : (lkT tt T).d = .arr n t) : ∃ xs, v = .arr n (lkT tt t).size xs ∧ xs.length = n ∧ ∀ x ∈ xs, HasT tt d t x := by unfold HasT at h; rw [e] at h; exact h
theorem HasF.nil {vs : List SV} (h : HasF tt (d + 1) [] vs) : vs = [] := by unfold HasF at h; exact h
theorem HasF.cons {o : Nat} {r : List (TypeId × Nat)} {vs : List SV} (h : HasF tt (d + 1) ((T, o) :: r) vs) : ∃ v vs', vs = v :: vs' ∧ HasT tt d T v ∧ HasF tt d r vs' := by unfold HasF at h; exact h
end
end Go.Sx
namespace Go.Sx
end Go.Sx
namespace Go.Sx
section
variable {α β σ τ : Type}
end
end Go.Sx
namespace Go.Sx
section
variable {ρ τ : Type} {k : τ → Option ρ} {b : ρ}
end
end Go.Sx
namespace Go.Sx
theorem nmd_rows {α : Type} {p : Nat → Prop} {f : α → SV} {l : List α} (h : ∀ x, (f x).nmd p) : nmdL p (l.map f) := nmdL_map fun x _ => h x
end Go.Sx
namespace Go.Sx
open Go
end Go.Sx
namespace Go.Sx
open Go
def look : List (List SV × SV) → List SV → Rt
  | [], _ => none
  | (a, v) :: r, aa => match eqL a aa with | true => some v | false => look r aa
def without (gs : List Nat) : List (Nat × Func) → List (Nat × Func)
  | [] => []
  | (f, fn) :: r => match memb f gs with | true => without gs r | false => (f, fn) :: without gs r
theorem ftOK_without {P : Program} {gs : List Nat} : ∀ {ft : List (Nat × Func)}, ftOK P ft → ftOK P (without gs ft)
  | [], _ => trivial
  | (f, fn) :: r, h => by
    unfold without
    split
    · exact ftOK_without h.2
    · exact ⟨h.1, ftOK_without h.2⟩
def toldL (E : Env) (g : Nat) : List (List SV × SV) → Prop
  | [] => True
  | (a, v) :: r => Ret E g a v ∧ toldL E g r
def told (E : Env) : List (Nat × List (List SV × SV)) → Prop
  | [] => True
  | (g, l) :: r => toldL E g l ∧ told E r
theorem toldL_look {E : Env} {g : Nat} : ∀ {l : List (List SV × SV)}, toldL E g l → ∀ aa r, look l aa = some r → Ret E g aa r
  | [], _, _, _, h => by cases h
  | (a, v) :: l, k, aa, r, h => by
    unfold look at h
    split at h
    · rename_i e
      cases h
      exact eqL_ok e ▸ k.1
    · exact toldL_look k.2 aa r h
end Go.Sx
