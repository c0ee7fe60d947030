/-
  A BUILDER OF STRINGS IN THE MEMORY OF A RUNNING FUNCTION: what a write does to it. Generic: no program in sight. An own text.
-/
import Derived.Test.YthkckljhcihbmaaGreatDoorC9
set_option linter.unusedVariables false
namespace Go.Sx
open Go.RowKit (Below)
section
variable {c : Cx} {h : Heap} {n : Nat} {F : Nat → Prop} {β : Beta} {Y : Nat → Prop} {w w' : World}
theorem put_put {w : World} {r : Nat} {o o' : Obj} : World.put (World.put w r o) r o' = World.put w r o' := by
 simp [World.put]
theorem put_self {w : World} {r : Nat} {o : Obj} (h : w.heap[r]? = some o) : World.put w r o = w := by
 have hlt := heap_lt h
 have : w.heap.setIfInBounds r o = w.heap := by
  apply Array.ext
  · simp
  · intro i h1 h2
    rw [Array.getElem_setIfInBounds (by simpa using h1)]
    split
    · rename_i e; subst e
      rw [Array.getElem?_eq_getElem hlt] at h
      exact (Option.some.inj h).symm
    · rfl
 unfold World.put
 rw [this]
theorem relP_agg2 {X : Nat → Prop} {a b : SV} {cs : List Value} (ha : ∀ c1, relP w X a β c1 → c1.length = 1) (h : relP w X (.agg [a, b]) β cs) (hb : ∀ c1, relP w X b β c1 → c1.length = 1) : ∃ p v, cs = [p, v] ∧ relP w X a β [p] ∧ relP w X b β [v] := by
 simp only [relP] at h
 obtain ⟨c1, c2, rfl, h1, h2⟩ := relC_cons.1 h
 obtain ⟨c3, c4, rfl, h3, h4⟩ := relC_cons.1 h2
 obtain rfl := relC_nil.1 h4
 have l1 := ha _ h1
 have l3 := hb _ h3
 obtain ⟨p, rfl⟩ := List.length_eq_one_iff.1 l1
 obtain ⟨v, rfl⟩ := List.length_eq_one_iff.1 l3
 exact ⟨p, v, rfl, h1, h3⟩
theorem relP_agg2_mk {X : Nat → Prop} {a b : SV} {p v : Value} (h1 : relP w X a β [p]) (h2 : relP w X b β [v]) : relP w X (.agg [a, b]) β [p, v] := by
 simp only [relP]
 exact relC_cons.2 ⟨[p], [v], rfl, h1, relC_cons.2 ⟨[v], [], rfl, h2, relC_nil.2 rfl⟩⟩
theorem Mem.wrote (m : Mem c h F β Y w) {b b2 : Nat} {TB e : TypeId} {a0 bf : SV} {t s : List UInt8} {l l2 : Loc} {p v v' : Value} (hbb : b ≠ b2) (hTe : TB ≠ e)
 (hb : lkB h b = some (.tv TB (.agg [a0, bf]))) (hb2 : lkB h b2 = some (.tr e t)) (hl : β b = some l) (hl2 : β b2 = some l2)
 (hat : w.heap[l.r]? = some (.cells #[p, v] TB (0, 0))) (hbf : relP w (XX c.Z Y β h) bf β [v]) (hvo : ∀ r, v.ownBlock = some r ↔ (l2.cap ≠ 0 ∧ r = l2.r))
 (hts : t ++ s ≠ []) (W : Wrote TB e l.r v ((t ++ s).map fun c => Value.int .u8 c.toNat) w w' v') :
 ∃ l2', Mem c (stB (stB (killH b2 (stB h b (.tv TB (.agg [.ptr b [], bf])))) b2 (.tr e (t ++ s))) b (.tv TB (.agg [.ptr b [], .osl b2 1]))) F (setβ β b2 l2') Y w' ∧
  ∀ v0 u0, rel w (XX c.Z Y β h) v0 β u0 → rel w' (XX c.Z Y (setβ β b2 l2') (stB (stB (killH b2 (stB h b (.tv TB (.agg [.ptr b [], bf])))) b2 (.tr e (t ++ s))) b (.tv TB (.agg [.ptr b [], .osl b2 1])))) (v0.kill b2) (setβ β b2 l2') u0 := by
 obtain ⟨g, cap, cur, fz, rfl, _, hg, hfz, hnc, hcm, hcs, htake⟩ : ∃ g cap cur fz, v' = .slice (some ⟨g, 0, none⟩) ((t ++ s).map fun c => Value.int .u8 c.toNat).length cap ∧ 0 ≤ g ∧ w'.heap[g]? = some (.cells cur e fz) ∧ fz.2 ≤ ((t ++ s).map fun c => Value.int .u8 c.toNat).length * 1 ∧ ((t ++ s).map fun c => Value.int .u8 c.toNat).length ≤ cap ∧ cap ≤ maxLen ∧ cur.size = cap * 1 ∧ cur.toList.take (((t ++ s).map fun c => Value.int .u8 c.toNat).length * 1) = (t ++ s).map fun c => Value.int .u8 c.toNat := by
  rcases W.row.2 with ⟨_, h0⟩ | h1
  · exfalso
    rw [List.length_map] at h0
    exact hts (List.length_eq_zero_iff.1 h0)
  · exact h1
 have hlen : ((t ++ s).map fun c => Value.int IntKind.u8 c.toNat).length = (t ++ s).length := List.length_map ..
 rw [hlen] at hfz hnc htake
 have hpos : 0 < (t ++ s).length := by
  cases h0 : t ++ s with
  | nil => exact absurd h0 hts
  | cons x r => simp
 have hcap : cap ≠ 0 := by omega
 have hgl : g ≠ l.r := fun e => W.ne (by simp [Value.ownBlock, e])
 have hlt := heap_lt hat
 have hll2 : l2.cap ≠ 0 → l.r ≠ l2.r := by
  intro hc er
  obtain ⟨l2', q1, q2, q3, _, q5⟩ := m.blk b2 _ hb2
  rw [hl2] at q1; cases q1
  rcases q5 with q5 | ⟨cs, fz, q6, _⟩
  · exact hc q5
  · rw [← er, hat] at q6
    simp only [Option.some.injEq, Obj.cells.injEq] at q6
    exact hTe q6.2.1
 obtain ⟨m1, e1⟩ := m.set (k := .tv TB (.agg [.ptr b [], bf])) (o' := .cells #[.pointer (some ⟨l.r, 0, none⟩), v] TB (0, 0)) hb hl rfl rfl hat (fun e hh => by
  refine ⟨_, hh, relP_agg2_mk ?_ ?_⟩
  · simp only [relP]; exact ⟨l, hl, by simp [pOff]⟩
  · exact relP_ext e _ _ (nms_true (fun _ _ k => k) _) hbf)
 have hkb2 : lkB (stB h b (.tv TB (.agg [.ptr b [], bf]))) b2 = some (.tr e t) := by rw [lkB_stB hb, if_neg (Ne.symm hbb)]; exact hb2
 obtain ⟨m2, e2⟩ := m1.appK (b := b2) (k0 := .tr e t) (kN := .tr e (t ++ s)) (l := l2) (l' := ⟨g, (t ++ s).length, cap⟩) (w' := World.put w' l.r (.cells #[.pointer (some ⟨l.r, 0, none⟩), v] TB (0, 0))) hkb2 hl2 (fun _ => rfl) (fun _ => rfl) ⟨_, by rw [lkB_killH, hkb2]; rfl⟩
  (by rw [put_size, put_size]; exact W.size) W.os W.tape W.output
  (fun r hr hn => by
    rw [put_size] at hr
    by_cases er : r = l.r
    · subst er; rw [put_same (Nat.lt_of_lt_of_le hlt W.size), put_same hlt]
    · rw [put_ne er, put_ne er]
      exact W.same r hr er fun hv => hn ((hvo r).1 hv))
  (fun _ => by
    rw [put_size, put_size]
    rcases W.new g rfl with q | q
    · have := (hvo g).1 q
      exact .inl ⟨this.2, this.1⟩
    · exact .inr ⟨q, heap_lt hg⟩)
  (fun X' e => ⟨rfl, hnc, hcm, .inr ⟨cur, fz, by rw [put_ne hgl]; exact hg, by simpa using hfz, by simpa using hcs, by simpa using htake⟩⟩)
 have hl' : setβ β b2 ⟨g, (t ++ s).length, cap⟩ b = some l := by rw [setβ_ne hbb]; exact hl
 have hkb : lkB (stB (killH b2 (stB h b (.tv TB (.agg [.ptr b [], bf])))) b2 (.tr e (t ++ s))) b = some (.tv TB ((SV.agg [.ptr b [], bf]).kill b2)) := by
  rw [lkB_stB (k0 := .tr e t) (by rw [lkB_killH, hkb2]; rfl), if_neg hbb, lkB_killH, lkB_stB hb, if_pos rfl]; rfl
 obtain ⟨m3, e3⟩ := m2.set (k := .tv TB (.agg [.ptr b [], .osl b2 1])) (o' := .cells #[.pointer (some ⟨l.r, 0, none⟩), .slice (some ⟨g, 0, none⟩) (t ++ s).length cap] TB (0, 0)) hkb hl' rfl rfl (put_same (Nat.lt_of_lt_of_le hlt W.size)) (fun e hh => by
  refine ⟨_, hh, relP_agg2_mk ?_ ?_⟩
  · simp only [relP]; exact ⟨l, hl', by simp [pOff]⟩
  · simp only [relP]; exact ⟨_, _, setβ_same .., rfl, fun _ => rfl⟩)
 have hw : World.put (World.put w' l.r (.cells #[.pointer (some ⟨l.r, 0, none⟩), v] TB (0, 0))) l.r (.cells #[.pointer (some ⟨l.r, 0, none⟩), .slice (some ⟨g, 0, none⟩) (t ++ s).length cap] TB (0, 0)) = w' := by
  rw [put_put]
  refine put_self ?_
  have := W.at_
  rw [hlen] at this
  exact this
 rw [hw] at m3 e3
 refine ⟨_, m3, fun v0 u0 h0 => ?_⟩
 have h1 := rel_ext e1 (nms_true (fun _ _ k => k) _) h0
 have h2 := rel_ext e2 (killP (β' := setβ β b2 ⟨g, (t ++ s).length, cap⟩) (fun b' l hb' hl => by rw [setβ_ne hb']; exact hl) v0) (rel_kill b2 h1)
 exact rel_ext e3 (nms_true (fun _ _ k => k) _) h2
end
theorem Mem.newTr {c : Cx} {h : Heap} {n : Nat} {F : Nat → Prop} {β : Beta} {Y : Nat → Prop} {w : World} (m : Mem c h F β Y w) (hF : F n) {e : Nat} :
 Mem c ((n, .tr e []) :: h) (rmF F n) (setβ β n ⟨0, 0, 0⟩) Y w ∧ Ext w (XX c.Z Y β h) w (XX c.Z Y (setβ β n ⟨0, 0, 0⟩) ((n, .tr e []) :: h)) := by
 have hn : β n = none := m.fresh n hF
 have hβ : ∀ b l', β b = some l' → setβ β n ⟨0, 0, 0⟩ b = some l' := fun b l' hb => by
  rw [setβ_ne]; · exact hb
  · rintro rfl; rw [hn] at hb; cases hb
 have hlk : ∀ b k', lkB h b = some k' → b ≠ n := fun b k' hb => by
  rintro rfl
  obtain ⟨l', h1, _⟩ := m.blk _ _ hb
  rw [hn] at h1; cases h1
 have hown : ∀ r, Own (setβ β n ⟨0, 0, 0⟩) ((n, .tr e []) :: h) r → Own β h r := by
  rintro r ⟨b, k', l', h1, h2, h3, h4⟩
  by_cases e : b = n
  · subst e
    rw [setβ_same] at h2; cases h2
    rw [lkB_cons, if_pos rfl] at h1; cases h1
    simp [live] at h3
  · rw [setβ_ne e] at h2
    rw [lkB_cons, if_neg (Ne.symm e)] at h1
    exact ⟨b, k', l', h1, h2, h3, h4⟩
 have hless : ∀ r, ¬ XX c.Z Y β h r → ¬ XX c.Z Y (setβ β n ⟨0, 0, 0⟩) ((n, .tr e []) :: h) r := by
  rintro r hx (g | g | g)
  · exact hx (.inl g)
  · exact hx (.inr (.inl g))
  · exact hx (.inr (.inr (hown r g)))
 have e : Ext w (XX c.Z Y β h) w (XX c.Z Y (setβ β n ⟨0, 0, 0⟩) ((n, .tr e []) :: h)) := ⟨Nat.le_refl _, fun _ _ _ => rfl, fun r _ hx => hless r hx⟩
 refine ⟨⟨fun b hb => ?_, fun b k' hk' => ?_, ?_, fun r hr => m.own r (hown r hr), m.yy, m.zz, m.size, m.frame, m.os, m.tape, m.output, fun g t hg ht => relP_ext e _ _ (nms_true (fun _ _ k => k) _) (m.gl g t hg ht)⟩, e⟩
 · rw [setβ_ne hb.2]; exact m.fresh b hb.1
 · rw [lkB_cons] at hk'
   by_cases eb : n = b
   · subst eb
     rw [if_pos rfl] at hk'; cases hk'
     exact ⟨_, setβ_same .., rfl, Nat.le_refl _, Nat.zero_le _, .inl rfl⟩
   · rw [if_neg eb] at hk'
     obtain ⟨l', h1, h2⟩ := m.blk b k' hk'
     exact ⟨l', hβ _ _ h1, h2.ext e rfl hβ (fun _ hx => hless _ hx)⟩
 · intro b1 b2 k1 k2 l1 l2 h1 h2 h3 h4 h5 h6 h7
   rw [lkB_cons] at h1 h2
   by_cases e1 : n = b1
   · rw [if_pos e1] at h1; cases h1
     subst e1
     rw [setβ_same] at h3; cases h3
     simp [live] at h5
   · by_cases e2 : n = b2
     · rw [if_pos e2] at h2; cases h2
       subst e2
       rw [setβ_same] at h4; cases h4
       simp [live] at h6
     · rw [if_neg e1] at h1; rw [if_neg e2] at h2
       rw [setβ_ne (Ne.symm e1)] at h3; rw [setβ_ne (Ne.symm e2)] at h4
       exact m.inj _ _ _ _ _ _ h1 h2 h3 h4 h5 h6 h7
def okP (b : Nat) : SV → Bool
 | .nilp => true
 | .ptr b' [] => Nat.beq b' b
 | _ => false
def wrK (TB e b : Nat) (s : List UInt8) (r : SV) (sl : Slots) (h : Heap) (n : Nat) (K : SV → Slots → Heap → Nat → Rt) : Rt :=
 match lkB h b with
 | some (.tv T (.agg [a0, bf])) => match Nat.beq T TB, okP b a0, Nat.blt b n, bf, s with
   | true, true, true, .nils, [] => stK h b (.tv TB (.agg [.ptr b [], .nils])) fun h => K r sl h n
   | true, true, true, .nils, c :: s => match Nat.ble (c :: s).length 100000000 with | false => none | true => killSK n sl fun sl => stK h b (.tv TB (.agg [.ptr b [], .nils])) fun h => killHK n ((n, .tr e []) :: h) fun h => stK h n (.tr e (c :: s)) fun h => stK h b (.tv TB (.agg [.ptr b [], .osl n 1])) fun h => K r sl h (n + 1)
   | true, true, true, .osl b2 1, s => (match lkB h b2 with
     | some (.tr e' (c0 :: t)) => (match Nat.beq e' e, Nat.beq b b2, Nat.ble ((c0 :: t) ++ s).length 100000000 with
       | true, false, true => killSK b2 sl fun sl => stK h b (.tv TB (.agg [.ptr b [], .osl b2 1])) fun h => killHK b2 h fun h => stK h b2 (.tr e ((c0 :: t) ++ s)) fun h => stK h b (.tv TB (.agg [.ptr b [], .osl b2 1])) fun h => K r sl h n
       | _, _, _ => none)
     | _ => none)
   | _, _, _, _, _ => none
 | _ => none
def WrC (P : Program) (TB e : TypeId) (f : FuncId) (us : Nat → Array Value) (s : List UInt8) (ru : Value) : Prop :=
 ∀ (r : Nat) (p v : Value) (xs : List Value) (w : World), (p = .pointer none ∨ p = .pointer (some ⟨r, 0, none⟩)) → w.heap[r]? = some (.cells #[p, v] TB (0, 0)) → w.ownsRowF 0 e 1 v xs.length xs → v.ownBlock ≠ some r → xs.length + s.length ≤ 140737488355328 →
  Calls P f (us r) w fun e' w' => e' = .returned ru ∧ ∃ v', Wrote TB e r v (xs ++ s.map fun c => Value.int .u8 c.toNat) w w' v' ∧ (v' = .slice none 0 0 ↔ v = .slice none 0 0 ∧ s = [])
theorem stB_cons_ne {i b : Nat} {k x : Blk} {h : Heap} (hn : i ≠ b) : stB ((i, k) :: h) b x = (i, k) :: stB h b x := by
 simp only [stB]
 rw [show Nat.beq i b = false by rw [Bool.eq_false_iff]; exact fun e => hn (Nat.eq_of_beq_eq_true e)]
theorem wrK_sem {E : Env} {TB e : TypeId} {f : FuncId} {us : Nat → Array Value} {b : Nat} {s : List UInt8} {ru : Value} {r : SV} {args : List SV} {sl : Slots} {h : Heap} {n : Nat} {K : SV → Slots → Heap → Nat → Rt} {K' : SV → Slots → Heap → Nat → Prop} {x : SV}
 (hTe : TB ≠ e) (hcal : Callable E.P f) (hc : WrC E.P TB e f us s ru)
 (has : ∀ (w : World) (X : Nat → Prop) (β : Beta) (us' : Array Value), relL w X args β us'.toList → ∃ l, β b = some l ∧ us' = us l.r) (hru : ∀ (w : World) (X : Nat → Prop) (β : Beta), rel w X r β ru)
 (hk : wrK TB e b s r sl h n K = some x) (g : ∀ v s h n, K v s h n = some x → K' v s h n) : SemCall E f args sl h n K' := by
 unfold SemCall
 refine ⟨hcal, fun c a w β Y us' hE m hs hrel => ?_⟩
 obtain ⟨l, hl, rfl⟩ := has _ _ _ _ hrel
 unfold wrK at hk
 split at hk
 case h_2 => cases hk
 rename_i T a0 bf hb
 obtain ⟨l0, q1, cs, hat, hrp⟩ := m.blk b _ hb
 rw [hl] at q1; cases q1
 have step : ∀ {bt bp bn : Bool}, Nat.beq T TB = bt → okP b a0 = bp → Nat.blt b n = bn → bt = true → bp = true → bn = true → T = TB ∧ (a0 = .nilp ∨ a0 = .ptr b []) ∧ b < n := by
  intro bt bp bn h1 h2 h3 e1 e2 e3
  subst e1 e2 e3
  refine ⟨Nat.eq_of_beq_eq_true h1, ?_, by simpa using h3⟩
  unfold okP at h2
  split at h2
  · exact .inl rfl
  · rename_i b' _; have := Nat.eq_of_beq_eq_true h2; subst this; exact .inr rfl
  · cases h2
 have a1 : (a0 = .nilp ∨ a0 = .ptr b []) → ∀ c1, relP w (XX c.Z Y β h) a0 β c1 → c1.length = 1 := by
  rintro (rfl | rfl) c1 h1
  · simp only [relP] at h1; rw [h1]; rfl
  · simp only [relP] at h1; obtain ⟨l', _, h1⟩ := h1; rw [h1]; rfl
 have a2 : (a0 = .nilp ∨ a0 = .ptr b []) → ∀ p, relP w (XX c.Z Y β h) a0 β [p] → (p = .pointer none ∨ p = .pointer (some ⟨l.r, 0, none⟩)) := by
  rintro (rfl | rfl) p h1
  · simp only [relP, List.cons.injEq, and_true] at h1; exact .inl h1
  · simp only [relP, List.cons.injEq, and_true] at h1
    obtain ⟨l', h2, h1⟩ := h1
    rw [hl] at h2; cases h2
    exact .inr (by simpa [pOff] using h1)
 have ptr2 : ∀ {v : Value}, bf = .nils → relP w (XX c.Z Y β h) bf β [v] → v = .slice none 0 0 := by
  rintro v rfl h1
  simpa [relP] using h1
 split at hk
 case h_4 => cases hk
 · rename_i e1 e2 e3
   obtain ⟨rfl, ha, hbn⟩ := step e1 e2 e3 rfl rfl rfl
   obtain ⟨p, v, hcs, h1, h2⟩ := relP_agg2 (a1 ha) hrp (fun c1 h => by simp only [relP] at h; rw [h]; rfl)
   obtain rfl : cs = #[p, v] := Array.toList_inj.1 (by rw [hcs])
   obtain rfl : v = .slice none 0 0 := by simpa [relP] using h2
   rw [stK_eq] at hk
   refine (hc l.r p _ [] w (a2 ha p h1) hat ⟨rfl, .inl ⟨rfl, rfl⟩⟩ (by simp [Value.ownBlock]) (by simp)).mono ?_
   rintro e' w' ⟨rfl, v', W, hn⟩
   obtain rfl := hn.2 ⟨rfl, rfl⟩
   obtain ⟨m1, k1⟩ := m.set (k := .tv T (.agg [.ptr b [], .nils])) (o' := .cells #[.pointer (some ⟨l.r, 0, none⟩), .slice none 0 0] T (0, 0)) hb hl rfl rfl hat (fun e hh => by
    refine ⟨_, hh, relP_agg2_mk ?_ ?_⟩
    · simp only [relP]; exact ⟨l, hl, by simp [pOff]⟩
    · simp [relP])
   have hbl : Below (World.put w l.r (.cells #[.pointer (some ⟨l.r, 0, none⟩), .slice none 0 0] T (0, 0))).heap.size (World.put w l.r (.cells #[.pointer (some ⟨l.r, 0, none⟩), .slice none 0 0] T (0, 0))) w' := by
    refine ⟨W.os, W.tape, W.output, by rw [put_size]; exact W.size, fun k hk => ?_⟩
    rw [put_size] at hk
    by_cases er : k = l.r
    · subst er; rw [W.at_, put_same hk]
    · rw [put_ne er]; exact W.same k hk er (by simp [Value.ownBlock])
   obtain ⟨m2, k2⟩ := m1.step hbl
   exact ⟨ru, rfl, r, sl, _, n, β, Y, fun _ h => h, g _ _ _ _ hk, m2, ⟨hs.1, fun t => rel_ext (k1.trans k2) (nms_true (fun _ _ k => k) _) (hs.2 t)⟩, hru _ _ _⟩
 · rename_i cc s' e1 e2 e3
   obtain ⟨rfl, ha, hbn⟩ := step e1 e2 e3 rfl rfl rfl
   split at hk
   · cases hk
   rename_i hle
   have hle := Nat.le_of_ble_eq_true hle
   obtain ⟨p, v, hcs, h1, h2⟩ := relP_agg2 (a1 ha) hrp (fun c1 h => by simp only [relP] at h; rw [h]; rfl)
   obtain rfl : cs = #[p, v] := Array.toList_inj.1 (by rw [hcs])
   obtain rfl : v = .slice none 0 0 := by simpa [relP] using h2
   rw [killSK_eq, stK_eq, killHK_eq, stK_eq, stK_eq] at hk
   refine (hc l.r p _ [] w (a2 ha p h1) hat ⟨rfl, .inl ⟨rfl, rfl⟩⟩ (by simp [Value.ownBlock]) (by simp only [List.length_nil]; omega)).mono ?_
   rintro e' w' ⟨rfl, v', W, hn⟩
   obtain ⟨m0, k0⟩ := m.newTr (n := n) (Nat.le_refl n) (e := e)
   have hln : setβ β n ⟨0, 0, 0⟩ b = some l := by rw [setβ_ne (by omega)]; exact hl
   have hβ : ∀ b l', β b = some l' → setβ β n ⟨0, 0, 0⟩ b = some l' := fun b l' hb => by
    rw [setβ_ne]; · exact hb
    · rintro rfl; rw [m.fresh _ (Nat.le_refl _)] at hb; cases hb
   obtain ⟨l2', m2, keep⟩ := m0.wrote (b := b) (b2 := n) (t := []) (s := cc :: s') (l2 := ⟨0, 0, 0⟩) (by omega) hTe (by rw [lkB_cons, if_neg (by omega)]; exact hb) (by rw [lkB_cons, if_pos rfl]) hln (setβ_same ..) hat (by simp [relP]) (fun r => by simp [Value.ownBlock]) (by simp) W
   rw [stB_cons_ne (by omega)] at m2 keep
   exact ⟨ru, rfl, r, _, _, n + 1, _, Y, fun _ h => h, g _ _ _ _ hk, m2.lessF fun b hb => ⟨Nat.le_of_succ_le hb, Nat.ne_of_gt hb⟩, ⟨hs.1, fun t => by rw [lk_killS]; exact keep _ _ (rel_ext k0 (nms_true hβ _) (hs.2 t))⟩, hru _ _ _⟩
 · rename_i x1 s' b2 e1 e2 e3
   obtain ⟨rfl, ha, hbn⟩ := step e1 e2 e3 rfl rfl rfl
   split at hk
   case h_2 => cases hk
   rename_i e' c0 t hb2
   split at hk
   case h_2 => cases hk
   rename_i f1 f2 f3
   have := Nat.eq_of_beq_eq_true f1
   subst this
   have hbb : b ≠ b2 := fun h => by rw [h] at f2; simp at f2
   have hle := Nat.le_of_ble_eq_true f3
   obtain ⟨p, v, hcs, h1, h2⟩ := relP_agg2 (a1 ha) hrp (fun c1 h => by simp only [relP] at h; obtain ⟨_, _, _, h, _⟩ := h; rw [h]; rfl)
   obtain rfl : cs = #[p, v] := Array.toList_inj.1 (by rw [hcs])
   have h2' := h2
   simp only [relP, List.cons.injEq, and_true] at h2'
   obtain ⟨l2, ad, hl2, rfl, had⟩ := h2'
   obtain ⟨l2', q1, q2, q3, q4, q5⟩ := m.blk b2 _ hb2
   rw [hl2] at q1; cases q1
   have hc0 : l2.cap ≠ 0 := by simp only [List.length_cons] at q2; omega
   obtain rfl := had hc0
   rcases q5 with q5 | ⟨cs, fz, q6, q7, q8, q9⟩
   · exact absurd q5 hc0
   have hne : l2.r ≠ l.r := by
    intro er
    rw [er, hat] at q6
    simp only [Option.some.injEq, Obj.cells.injEq] at q6
    exact hTe q6.2.1
   rw [killSK_eq, stK_eq, killHK_eq, stK_eq, stK_eq] at hk
   have hxl : ((c0 :: t).map fun c => Value.int IntKind.u8 c.toNat).length = l2.len := by rw [List.length_map, q2]
   refine (hc l.r p _ ((c0 :: t).map fun c => Value.int .u8 c.toNat) w (a2 ha p h1) hat ⟨by simp, .inr ⟨l2.r, l2.cap, cs, fz, by rw [hxl], Nat.zero_le _, q6, by rw [hxl, q2]; omega, by rw [hxl]; exact q3, q4, by omega, by rw [hxl, q2, Nat.mul_one]; exact q9⟩⟩ (by simp [Value.ownBlock]; exact hne) (by rw [hxl, q2]; simp only [List.length_append] at hle; omega)).mono ?_
   rintro e'' w' ⟨rfl, v', W, hn⟩
   have W2 := W
   rw [← List.map_append] at W2
   obtain ⟨l2', m2, keep⟩ := m.wrote (b := b) (b2 := b2) (t := c0 :: t) (l2 := l2) hbb hTe hb hb2 hl hl2 hat h2 (fun r => by simp [Value.ownBlock, hc0, eq_comm]) (by simp) W2
   exact ⟨ru, rfl, r, _, _, n, _, Y, fun _ h => h, g _ _ _ _ hk, m2, ⟨hs.1, fun t => by rw [lk_killS]; exact keep _ _ (hs.2 t)⟩, hru _ _ _⟩
end Go.Sx
