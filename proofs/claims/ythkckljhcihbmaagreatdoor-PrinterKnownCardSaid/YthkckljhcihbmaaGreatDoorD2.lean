/-
  THE METHODS OF strings.Builder AS HOOKS OF CLOSED RUNS. Generic: over any program that bears the shelf's layings. An own text.
-/
import Derived.Test.YthkckljhcihbmaaGreatDoorD1
set_option linter.unusedVariables false
namespace Go.Sx
open Go.RowKit (Below)
open Go.Shelf Go.Proofs
variable {P : Program} {ρ : Ren}
theorem bytes_eq (s : List UInt8) : Lib.strCells ⟨s.toArray⟩ = s.map fun c => Value.int .u8 c.toNat := by simp [Lib.strCells]
theorem wrC_string (L : Lays.n166 P ρ) (X : Builder.Extra P ρ) (s : List UInt8) :
 WrC P (ρ.t 72) (ρ.t 5) (ρ.f 166) (fun r => #[.pointer (some ⟨r, 0, none⟩), .string ⟨s.toArray⟩]) s (.tuple #[.int .i64 s.length, .nilIface]) := by
 intro r p v xs w hp hb hown hne hlen
 have hsz : (⟨s.toArray⟩ : ByteArray).size = s.length := by simp [ByteArray.size]
 refine (bld_WriteString L X r p v xs ⟨s.toArray⟩ w hp hb hown hne (by omega)).mono ?_
 rintro e w' ⟨rfl, v', W, hn⟩
 rw [bytes_eq] at W
 refine ⟨by rw [hsz], v', W, hn.trans (and_congr_right fun _ => ⟨fun h => ?_, fun h => by rw [h]; rfl⟩)⟩
 have := congrArg ByteArray.size h
 rw [hsz] at this
 exact List.length_eq_zero_iff.1 (this.trans rfl)
theorem wrC_byte (L : Lays.n167 P ρ) (X : Builder.Extra P ρ) (ch : UInt8) :
 WrC P (ρ.t 72) (ρ.t 5) (ρ.f 167) (fun r => #[.pointer (some ⟨r, 0, none⟩), .int .u8 ch.toNat]) [ch] .nilIface := by
 intro r p v xs w hp hb hown hne hlen
 refine (bld_WriteByte L X r p v xs ch.toNat w hp hb hown hne (by simpa using hlen)).mono ?_
 rintro e w' ⟨rfl, v', W, hn⟩
 exact ⟨rfl, v', W, ⟨fun h => absurd h hn, fun h => by cases h.2⟩⟩
def strK (TB e b : Nat) (sl : Slots) (h : Heap) (n : Nat) (K : SV → Slots → Heap → Nat → Rt) : Rt :=
 match lkB h b with
 | some (.tv T (.agg [a0, .osl b2 1])) => match Nat.beq T TB, okP b a0, lkB h b2 with
   | true, true, some (.tr e' (c0 :: t)) => (match Nat.beq e' e with
     | true => stK h b2 (.tr e (c0 :: t)) fun h => K (.str (c0 :: t)) sl h n
     | false => none)
   | _, _, _ => none
 | _ => none
theorem strK_sem {E : Env} {ρ : Ren} (L : Lays.n169 E.P ρ) (X : Builder.Extra E.P ρ) (hcal : Callable E.P (ρ.f 169)) {b : Nat} {sl : Slots} {h : Heap} {n : Nat} {K : SV → Slots → Heap → Nat → Rt} {K' : SV → Slots → Heap → Nat → Prop} {x : SV}
 (hk : strK (ρ.t 72) (ρ.t 5) b sl h n K = some x) (g : ∀ v s h n, K v s h n = some x → K' v s h n) : SemCall E (ρ.f 169) [.ptr b []] sl h n K' := by
 unfold SemCall
 refine ⟨hcal, fun c a w β Y us hE m hs hrel => ?_⟩
 obtain ⟨u, us', e1, h1, h2⟩ := relL_cons.1 hrel
 obtain rfl := relL_nil.1 h2
 rw [relV_leaf rfl (by simp)] at h1
 simp only [relP, List.cons.injEq, and_true] at h1
 obtain ⟨l, hl, rfl⟩ := h1
 obtain rfl : us = #[.pointer (some ⟨l.r, 0, none⟩)] := Array.toList_inj.1 (by rw [e1]; simp [pOff])
 unfold strK at hk
 split at hk
 case h_2 => cases hk
 rename_i T a0 b2 hb
 obtain ⟨l0, q1, cs, hat, hrp⟩ := m.blk b _ hb
 rw [hl] at q1; cases q1
 split at hk
 case h_2 => cases hk
 rename_i e' c0 t f1 f2 hb2
 split at hk
 case h_2 => cases hk
 rename_i f3
 have := Nat.eq_of_beq_eq_true f1
 subst this
 have := Nat.eq_of_beq_eq_true f3
 subst this
 have ha1 : ∀ c1, relP w (XX c.Z Y β h) a0 β c1 → c1.length = 1 := by
  intro c1 h1
  unfold okP at f2
  split at f2
  · simp only [relP] at h1; rw [h1]; rfl
  · simp only [relP] at h1; obtain ⟨l', _, h1⟩ := h1; rw [h1]; rfl
  · cases f2
 obtain ⟨p, v, hcs, h1, h2⟩ := relP_agg2 ha1 hrp (fun c1 h => by simp only [relP] at h; obtain ⟨_, _, _, h, _⟩ := h; rw [h]; rfl)
 obtain rfl : cs = #[p, v] := Array.toList_inj.1 (by rw [hcs])
 simp only [relP, List.cons.injEq, and_true] at h2
 obtain ⟨l2, ad, hl2, rfl, had⟩ := h2
 obtain ⟨l2', q1, q2, q3, q4, q5⟩ := m.blk b2 _ hb2
 rw [hl2] at q1; cases q1
 have hc0 : l2.cap ≠ 0 := by simp only [List.length_cons] at q2; omega
 obtain rfl := had hc0
 rcases q5 with q5 | ⟨cs, fz, q6, q7, q8, q9⟩
 · exact absurd q5 hc0
 rw [q2] at hat
 rw [stK_eq] at hk
 refine (bld_String L X l.r l2.r l2.cap p cs fz (c0 :: t) w (by simp) hat q6 q7 (by omega) q4 q8 q9).mono ?_
 rintro e'' w' ⟨rfl, k1, ⟨fz', k2, k3⟩, k4, k5, k6, k7⟩
 obtain ⟨m1, x1⟩ := m.set (k := .tr (ρ.t 5) (c0 :: t)) (o' := .cells cs (ρ.t 5) fz') hb2 hl2 (by simp [live, hc0]) (by simp [live, hc0]) q6 (fun e hh => ⟨q2, q3, q4, .inr ⟨cs, fz', hh, k3, q8, q9⟩⟩)
 have hbl : Below (World.put w l2.r (.cells cs (ρ.t 5) fz')).heap.size (World.put w l2.r (.cells cs (ρ.t 5) fz')) w' := by
  refine ⟨k5, k6, k7, by rw [put_size, k4]; exact Nat.le_refl _, fun k hk => ?_⟩
  rw [put_size] at hk
  by_cases er : k = l2.r
  · subst er; rw [k2, put_same hk]
  · rw [put_ne er]; exact k1 k er
 obtain ⟨m2, x2⟩ := m1.step hbl
 exact ⟨_, rfl, .str (c0 :: t), sl, _, n, β, Y, fun _ h => h, g _ _ _ _ hk, m2, ⟨hs.1, fun t => rel_ext (x1.trans x2) (nms_true (fun _ _ k => k) _) (hs.2 t)⟩, rel_str.2 rfl⟩
end Go.Sx
