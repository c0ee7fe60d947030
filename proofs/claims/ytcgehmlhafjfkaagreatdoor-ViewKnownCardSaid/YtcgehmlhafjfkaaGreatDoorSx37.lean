/-
  WHAT A ROW LISTS, AS A SYMBOLIC VALUE: a slice of strings that is a package-level variable. Generic: no program in sight. An own text.
-/
import Derived.Test.YtcgehmlhafjfkaaGreatDoorSx36
import Derived.Lib.LaidU8
namespace Go.Sx

theorem add_zero (a : Addr) : a.add 0 = a := by simp [Addr.add]
theorem add_at {a : Addr} (h : a.spot = none) (i : Nat) : a.add i = ⟨a.block, a.off + i, none⟩ := by
  obtain ⟨b, o, sp⟩ := a
  simp at h; subst h
  simp only [Addr.add]
  split
  · rename_i e; subst e; rfl
  · rfl
theorem cell_spot {w : World} {a : Addr} {v : Value} (h : w.cell? a = some v) : a.spot = none ∧ a.block < w.heap.size := by
  simp only [World.cell?] at h
  split at h
  · rename_i e1
    refine ⟨?_, heap_lt e1⟩
    cases hs : a.spot with
    | none => rfl
    | some s => rw [hs] at h; simp at h
  · cases h

theorem relR_strs {w : World} {X : Nat → Prop} : ∀ (ss : List (List UInt8)), relR w X 1 (ss.map .str) nob (ss.map fun s => Value.string ⟨s.toArray⟩)
  | [] => by simp [relR_nil]
  | s :: r => by
    simp only [List.map_cons]
    rw [relR_cons]
    exact ⟨[.string ⟨s.toArray⟩], _, rfl, rfl, by simp only [relP], relR_strs r⟩

theorem laid_strs {P : Program} {w : World} {n : String} {ss : List (List UInt8)} (h : Lib.VarReads P w n (.slice (ss.map fun s => .lit (.string s)) [])) {g : Nat} {t e : TypeId} (hg : P.globalNamed n = some g) (ht : (P.globals[g]?).map (·.type) = some t)
    (hu : P.underlying t = some (.slice e)) (hs : P.underlying e = some .string) (hc : P.cellsOf e = 1) :
    relP w (fun _ => False) (.iptr (.sl 1 (ss.map .str))) nob [.pointer (some ⟨g, 0, none⟩)] := by
  obtain ⟨g', t', cs, fuel, p, h1, h2, h3, h4⟩ := h
  rw [hg] at h1; cases h1
  rw [ht] at h2; cases h2
  simp only [World.var?, hg, Option.bind_some] at h3
  have hh : ∃ ty fz, w.heap[g]? = some (.cells cs ty fz) := by
    split at h3
    · rename_i e1; cases h3; exact ⟨_, _, e1⟩
    · cases h3
  obtain ⟨ty, fz, hh⟩ := hh
  rcases DataW.trod_slice hu h4 with ⟨_, hx⟩ | ⟨a, len, cap, elems, rest, m, rfl, hcs, hx, _, hle, _, hel, hat, _⟩
  · cases hx
  have hd : elems.map (·.1) = ss.map fun s => (DataW.lit (.string s) : DataW Unit) := by
    have := congrArg Prod.fst hx
    simp at this
    exact this.1.symm
  have hlen : len = ss.length := by
    have := congrArg List.length hd
    simp at this; omega
  have hcell : ∀ i s, ss[i]? = some s → w.cell? (a.add i) = some (.string ⟨s.toArray⟩) := by
    intro i s hi
    have hlt : i < len := by
      rw [hlen]
      rcases Nat.lt_or_ge i ss.length with g | g
      · exact g
      · rw [List.getElem?_eq_none g] at hi; cases hi
    have k := hat i hlt
    rw [hc, Nat.mul_one] at k
    have he : ∃ b, elems[i]? = some b := ⟨elems[i]'(by omega), List.getElem?_eq_getElem (by omega)⟩
    obtain ⟨b, he⟩ := he
    rw [he] at k
    obtain ⟨c1, k1, k2⟩ := Option.bind_eq_some_iff.1 k
    obtain ⟨s', rfl, rfl, _⟩ := DataW.trod_string hs k2
    have hb : (elems.map (·.1))[i]? = some (.lit (.string s'.data.toList)) := by simp [he]
    rw [hd] at hb
    simp only [List.getElem?_map, hi, Option.map_some, Option.some.injEq, DataW.lit.injEq, Lit.string.injEq] at hb
    subst hb
    simp only [World.cells?] at k1
    split at k1
    · have k3 : w.cell? ((a.add i).add 0) = some (.string s') := by
        cases hcc : w.cell? ((a.add i).add 0) with
        | none => simp [List.range, List.range.loop, hcc] at k1
        | some v => simpa [List.range, List.range.loop, hcc] using k1
      rw [add_zero] at k3
      exact k3
    · cases k1
  simp only [relP]
  refine ⟨g, 0, cs.toList, rfl, id, heap_lt hh, fun j v hj => ?_, a, cap, ?_, by simpa [← hlen] using hle, ?_⟩
  · have : cs[j]? = some v := by simpa using hj
    simp only [World.cell?, hh, Nat.zero_add]
    simpa using this
  · rw [hcs]; simp [hlen]
  · cases hss : ss with
    | nil => exact .inl rfl
    | cons s r =>
      right
      have h0 := hcell 0 s (by rw [hss]; rfl)
      rw [add_zero] at h0
      obtain ⟨hsp, hblk⟩ := cell_spot h0
      rw [← hss]
      refine ⟨a.block, a.off, ss.map fun s => Value.string ⟨s.toArray⟩, ?_, id, hblk, fun j v hj => ?_, relR_strs ss⟩
      · obtain ⟨b, o, sp⟩ := a; simp at hsp; subst hsp; rfl
      · simp only [List.getElem?_map, Option.map_eq_some_iff] at hj
        obtain ⟨s', h1, rfl⟩ := hj
        have := hcell j s' h1
        rw [add_at hsp] at this
        exact this
end Go.Sx
