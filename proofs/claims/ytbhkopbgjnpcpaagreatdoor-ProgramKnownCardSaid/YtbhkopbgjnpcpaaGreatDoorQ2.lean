/-
  slices.Grow of nil: an own row with room. An own text.
-/
import Derived.Test.YtbhkopbgjnpcpaaGreatDoorQ1
import Derived.WalkKit
import Derived.Lib.Walk
import Derived.Lib.SliceRun
import Derived.Lib.AppendZerosOnto
set_option linter.unusedVariables false
set_option linter.unusedSimpArgs false
namespace Go.Sx.Tz
open Go Go.Proofs Go.RowKit Go.Lib
set_option maxHeartbeats 4000000 in
set_option maxRecDepth 100000 in
theorem grow0 (w : World) : Calls Tryz.prog 143 #[.slice none 0 0, .int .i64 0] w fun e w' => e = .returned (.slice none 0 0) ∧ w' = w := by
 have mixed := mixed
 have u120 := run_underlying Tryz.underlying31
 have u3 := run_underlying Tryz.underlying3
 have h2 : wrap64 (0 - 0) = 0 := by unfold wrap64; omega
 go_enter Tryz.func143, Tryz.ntmps143
 go_wp2
 go_ret
 exact ⟨rfl, rfl⟩
set_option maxHeartbeats 4000000 in
set_option maxRecDepth 100000 in
theorem growN (n : Nat) (h0 : 0 < n) (hn : n ≤ 100000000) (w : World) : Calls Tryz.prog 143 #[.slice none 0 0, .int .i64 n] w fun e w' => ∃ cap cs, e = .returned (.slice (some ⟨w.heap.size, 0, none⟩) 0 cap) ∧ n ≤ cap ∧ cap ≤ cs.size ∧ w' = w.drew.alloc (.cells cs 3) := by
 have mixed := mixed
 have u120 := run_underlying Tryz.underlying31
 have u3 := run_underlying Tryz.underlying3
 have hs1 : (lkT E.tt 3).size = 1 := by kernel_rfl
 have tI := ok.ts 3 (by omega)
 obtain ⟨i0, hi0, hs0, hb0, hz0⟩ := tI.info
 obtain ⟨z, hz, hz2⟩ := hz0 (by intro h; cases (show SV.int .i64 0 = SV.any from h))
 replace hi0 : Tryz.prog.info? 3 = some i0 := hi0
 replace hs0 : i0.size = 1 := hs0
 replace hb0 : i0.bytes = 8 := hb0
 have hz3 : z = .int .i64 0 := by
  have := hz2 default (fun _ => False)
  have h : relV default (fun _ => False) (.int .i64 0) nob z := this
  simpa [relV, SV.isAgg, relP] using h
 have h1 : ¬ ((n : Int) < 0) := by omega
 have h2 : wrap64 (0 - 0) = 0 := by unfold wrap64; omega
 have h3 : wrap64 ((n : Int) - 0) = (n : Int) := by unfold wrap64; omega
 have h4 : (n : Int) > 0 := by omega
 have z25 : ∀ w, (Go.sizeOf 3).run Tryz.prog w = .ok i0.size w := fun w => by simp [Go.sizeOf, typeInfo, hi0]
 have hold : (Builtin.firstCells i0.size 0 (.slice none 0 0)).run Tryz.prog w.drew = .ok #[] w.drew := run_firstCells_none w.drew i0.size 0 0 0
 have hrz : ∀ ty, (Builtin.append_ #[31, 3] ty #[.slice none 0 0, .int .i64 (n : Int)]).run Tryz.prog w =
  .ok (.slice (some ⟨w.heap.size, 0, none⟩) n (grownCap w n 0 3)) (w.drew.alloc (.cells (#[] ++ Builtin.zeroCells z.cells n ++ Builtin.zeroCells z.cells (grownCap w n 0 3 - n)) 3)) := fun ty => by
  have h := Lib.run_append_grow_zeros w 31 3 ty 3 i0 z .i64 .i64 Tryz.underlying31 Tryz.underlying3 hi0 hz none 0 0 [] hold n h0 (by omega) (by omega) (by omega) (by rw [hb0]; omega) (growslice_fits (by omega) (by rw [hb0]; omega))
  simpa using h
 have hGn : n ≤ grownCap w n 0 3 := grownCap_ge w _ _ _
 obtain ⟨G, hG⟩ : ∃ G, G = grownCap w n 0 3 := ⟨_, rfl⟩
 rw [← hG] at hrz hGn
 have hG63 : G ≤ 9223372036854775807 := by
  have := grownCap_le_maxLen w n 0 3 (by unfold maxLen; omega)
  rw [← hG] at this
  unfold maxLen at this
  omega
 have hsz : G ≤ (#[] ++ Builtin.zeroCells z.cells n ++ Builtin.zeroCells z.cells (G - n)).size := by
  simp only [Array.size_append, size_zeroCells, hz3]
  simp [Value.cells]
  omega
 obtain ⟨CS, hCS⟩ : ∃ CS, CS = (#[] ++ Builtin.zeroCells z.cells n ++ Builtin.zeroCells z.cells (G - n)) := ⟨_, rfl⟩
 rw [← hCS] at hrz hsz
 clear hG hold hCS
 go_enter Tryz.func143, Tryz.ntmps143
 go_wp2_with (at_builtin; refine Lib.wpList_append_run _ rfl _ _ _ _ rfl _ _ rfl rfl _ _ (hrz _) ?_)
 all_goals (go_ret; exact ⟨G, rfl, hGn, _, hsz, rfl⟩)
open Go.RowKit (Below)
theorem S_slices_Grow___int_int_ {x : Int} {sl : Slots} {h : Heap} {n : Nat} {K : SV → Slots → Heap → Nat → Prop} (hK : SideVC (0 ≤ x ∧ x ≤ 100000000) (K (.osl n 1) sl ((n, .row true 1 []) :: h) (n + 1))) : SemCall E 143 [.nils, .int .i64 x] sl h n K := by
 unfold SideVC at hK
 obtain ⟨⟨h0, h1⟩, hK⟩ := hK
 obtain ⟨q, rfl⟩ : ∃ q : Nat, x = q := ⟨x.toNat, by omega⟩
 unfold SemCall
 refine ⟨⟨_, Tryz.func143, by kernel_rfl, by kernel_rfl⟩, fun c a w β Y us hE m hs hus => ?_⟩
 obtain ⟨u1, us1, e1, r1, hus⟩ := relL_cons.1 hus
 obtain ⟨u2, us2, e2, r2, hus⟩ := relL_cons.1 hus
 have e3 := relL_nil.1 hus
 have k1 : u1 = .slice none 0 0 := by simpa [relV, SV.isAgg, relP] using r1
 have k2 : u2 = .int .i64 q := by simpa [relV, SV.isAgg, relP] using r2
 have hus' : us = #[.slice none 0 0, .int .i64 q] := by
  apply Array.toList_inj.1
  rw [e1, e2, e3, k1, k2]
 rw [hus']
 have hfr : β n = none := m.fresh n (Nat.le_refl n)
 have hβ : ∀ (l0 : Loc) b l, β b = some l → setβ β n l0 b = some l := fun l0 b l h => by
  rw [setβ_ne]; · exact h
  · rintro rfl; rw [hfr] at h; cases h
 by_cases hq : q = 0
 · subst hq
   refine (grow0 w).mono ?_
   rintro e w' ⟨rfl, rfl⟩
   obtain ⟨m', e'⟩ := Mem.newNil m (Nat.le_refl n) (Nat.le_refl 1)
   exact ⟨_, rfl, _, _, _, _, _, Y, fun _ h => h, hK, m'.lessF fun b hb => ⟨Nat.le_of_succ_le hb, Nat.ne_of_gt hb⟩, ⟨hs.1, fun t => rel_ext e' (nms_true (hβ _) _) (hs.2 t)⟩, rel_osl.2 ⟨⟨0, 0, 0⟩, none, setβ_same .., rfl, fun h => absurd rfl h⟩⟩
 · refine (growN q (by omega) (by omega) w).mono ?_
   rintro e w' ⟨cap, cs, rfl, g1, g2, rfl⟩
   obtain ⟨m1, e1⟩ := m.step (w' := w.drew) ⟨rfl, rfl, rfl, Nat.le_refl _, fun _ _ => rfl⟩
   obtain ⟨m2, e2⟩ := Mem.new m1 (n := n) (k := .row true 1 []) (l := ⟨w.heap.size, 0, cap⟩) (o := .cells cs 3) (Nat.le_refl n) rfl
    (fun w' X' β' e hβ' hh => ⟨rfl, Nat.zero_le _, Nat.le_refl 1, .inr ⟨cs, 3, 0, 0, hh, .inr (Nat.le_refl _), by simpa using g2, ⟨[], cs.toList, rfl, relR_nil.2 rfl⟩, fun h => by cases h⟩⟩)
   exact ⟨_, rfl, _, _, _, _, _, Y, fun _ h => h, hK, m2.lessF fun b hb => ⟨Nat.le_of_succ_le hb, Nat.ne_of_gt hb⟩, ⟨hs.1, fun t => rel_ext e2 (nms_true (hβ _) _) (rel_ext e1 (nms_true (fun _ _ k => k) _) (hs.2 t))⟩, rel_osl.2 ⟨⟨w.heap.size, 0, cap⟩, some ⟨w.heap.size, 0, none⟩, setβ_same .., rfl, fun _ => rfl⟩⟩
def grS : HkS := fun az sl h n K => match az with
 | [.nils, .int .i64 x] => sideC (0 ≤ x ∧ x ≤ 100000000) (K (.osl n 1) sl ((n, .row true 1 []) :: h) (n + 1))
 | _ => none
theorem grS_ok : SemOK E 143 grS := by
 intro az sl h n K r K' hk g
 unfold grS at hk
 split at hk
 case h_2 => cases hk
 exact S_slices_Grow___int_int_ (side_c hk fun hk => g _ _ _ _ hk)
end Go.Sx.Tz
