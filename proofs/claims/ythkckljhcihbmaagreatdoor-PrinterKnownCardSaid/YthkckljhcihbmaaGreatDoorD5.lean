/-
  strings.Builder's Len AS A HOOK OF CLOSED RUNS. Generic: over any program that bears the shelf's layings. An own text.
-/
import Derived.Test.YthkckljhcihbmaaGreatDoorD4
set_option linter.unusedVariables false
namespace Go.Sx
open Go.RowKit (Below)
open Go.Shelf Go.Proofs
variable {P : Program} {ρ : Ren}
set_option maxHeartbeats 1000000 in
set_option maxRecDepth 100000 in
theorem bld_Len (L : Lays.n170 P ρ) (b : Nat) (p : Value) (ao : Option Addr) (n cap : Nat) (w : World) (hb : w.heap[b]? = some (.cells #[p, .slice ao n cap] (ρ.t 72) (0, 0))) :
 Calls P (ρ.f 170) #[.pointer (some ⟨b, 0, none⟩)] w fun e w' => e = .returned (.int .i64 n) ∧ w' = w := by
 have c1 : w.cell? ⟨b, 1, none⟩ = some (.slice ao n cap) := by rw [Lib.cell_of_heap hb]; rfl
 have mixed := L.mixed
 have t72 := L.t72; have a72 := L.a72; have z72 := L.z72; have v72 := L.v72; have u72 := run_underlying L.t72
 have t70 := L.t70; have a70 := L.a70; have z70 := L.z70; have v70 := L.v70; have u70 := run_underlying L.t70
 have t37 := L.t37; have a37 := L.a37; have z37 := L.z37; have v37 := L.v37; have u37 := run_underlying L.t37
 have t3 := L.t3; have a3 := L.a3; have z3 := L.z3; have v3 := L.v3; have u3 := run_underlying L.t3
 go_enter L.f170, Body.n170_ntmps ρ
 go_wp2
 go_ret
 exact ⟨rfl, rfl⟩
def lnS (TB e : Nat) : HkS := fun az sl h n K => match az with
 | [.ptr b []] => (match lkB h b with
   | some (.tv T (.agg [a0, .osl b2 1])) => (match Nat.beq T TB, okP b a0, lkB h b2 with
     | true, true, some (.tr _ xs) => frI (.ofNat xs.length) fun i => K (.int .i64 i) sl h n
     | _, _, _ => none)
   | _ => none)
 | _ => none
theorem lnS_ok {E : Env} (L : Lays.n170 E.P ρ) (hcal : Callable E.P (ρ.f 170)) : SemOK E (ρ.f 170) (lnS (ρ.t 72) (ρ.t 5)) := by
 intro az sl h n K r K' hk g
 unfold lnS at hk
 split at hk
 case h_2 => cases hk
 rename_i b
 split at hk
 case h_2 => cases hk
 rename_i T a0 b2 hb
 split at hk
 case h_2 => cases hk
 rename_i e' xs f1 f2 hb2
 have := Nat.eq_of_beq_eq_true f1
 subst this
 rw [frI_eq] at hk
 unfold SemCall
 refine ⟨hcal, fun c a w β Y us hE m hs hrel => ?_⟩
 obtain ⟨u, us', e1, h1, h2⟩ := relL_cons.1 hrel
 obtain rfl := relL_nil.1 h2
 rw [relV_leaf rfl (by simp)] at h1
 simp only [relP, List.cons.injEq, and_true] at h1
 obtain ⟨l, hl, rfl⟩ := h1
 obtain rfl : us = #[.pointer (some ⟨l.r, 0, none⟩)] := Array.toList_inj.1 (by rw [e1]; simp [pOff])
 obtain ⟨l0, q1, cs, hat, hrp⟩ := m.blk b _ hb
 rw [hl] at q1; cases q1
 have ha1 : ∀ c1, relP w (XX c.Z Y β h) a0 β c1 → c1.length = 1 := by
  intro c1 h1
  unfold okP at f2
  split at f2
  · simp only [relP] at h1; rw [h1]; rfl
  · simp only [relP] at h1; obtain ⟨l', _, h1⟩ := h1; rw [h1]; rfl
  · cases f2
 obtain ⟨p, v, hcs, h1, h2⟩ := relP_agg2 ha1 hrp (fun c1 h => by simp only [relP] at h; obtain ⟨_, _, _, h, _⟩ := h; rw [h]; rfl)
 obtain rfl : cs = #[p, v] := Array.toList_inj.1 (by rw [hcs])
 simp only [relP, List.cons.injEq, and_true] at h2
 obtain ⟨l2, ad, hl2, rfl, had⟩ := h2
 obtain ⟨l2', q1, q2, _⟩ := m.blk b2 _ hb2
 rw [hl2] at q1; cases q1
 rw [q2] at hat
 refine (bld_Len L l.r p ad _ _ w hat).mono ?_
 rintro e'' w' ⟨rfl, rfl⟩
 exact ⟨_, rfl, .int .i64 xs.length, sl, h, n, β, Y, fun _ h => h, g _ _ _ _ hk, m, hs, rel_of_relP rfl rfl⟩
end Go.Sx
