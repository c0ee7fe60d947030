/-
  THE HOOKS OF A SEAT THAT BUILDS STRINGS: strings.Builder's WriteString, WriteByte, String; strings.Join; strings.Split at one byte. Generic: over any program that bears the shelf's layings. An own text.
-/
import Derived.Test.YthkckljhcihbmaaGreatDoorD3
set_option linter.unusedVariables false
namespace Go.Sx
open Go.RowKit (Below)
open Go.Shelf Go.Proofs
variable {ρ : Ren}
abbrev HkS := List SV → Slots → Heap → Nat → (SV → Slots → Heap → Nat → Rt) → Rt
def wrS (TB e : Nat) : HkS := fun az sl h n K => match az with
 | [.ptr b [], .str s] => wrK TB e b s (.tup [.int .i64 s.length, .nili]) sl h n K
 | _ => none
def wrB (TB e : Nat) : HkS := fun az sl h n K => match az with
 | [.ptr b [], .int .u8 (.ofNat c)] => (match Nat.blt c 256 with | true => wrK TB e b [UInt8.ofNat c] .nili sl h n K | false => none)
 | _ => none
def stS (TB e : Nat) : HkS := fun az sl h n K => match az with
 | [.ptr b []] => strK TB e b sl h n K
 | _ => none
def SemOK (E : Env) (f : FuncId) (k : HkS) : Prop := ∀ az sl h n K r (K' : SV → Slots → Heap → Nat → Prop), k az sl h n K = some r → (∀ v s h n, K v s h n = some r → K' v s h n) → SemCall E f az sl h n K'
theorem wrS_ok {E : Env} (L : Lays.n166 E.P ρ) (X : Builder.Extra E.P ρ) (hTe : ρ.t 72 ≠ ρ.t 5) (hcal : Callable E.P (ρ.f 166)) : SemOK E (ρ.f 166) (wrS (ρ.t 72) (ρ.t 5)) := by
 intro az sl h n K r K' hk g
 unfold wrS at hk
 split at hk
 case h_2 => cases hk
 rename_i b s
 refine wrK_sem hTe hcal (wrC_string L X s) (fun w X β us hr => ?_) (fun w X β => ?_) hk g
 · obtain ⟨u, us', hu, h1, h2⟩ := relL_cons.1 hr
   obtain ⟨u2, us2, rfl, h3, h4⟩ := relL_cons.1 h2
   obtain rfl := relL_nil.1 h4
   rw [relV_leaf rfl (by simp)] at h1 h3
   simp only [relP, List.cons.injEq, and_true] at h1 h3
   obtain ⟨l, hl, rfl⟩ := h1
   subst h3
   exact ⟨l, hl, Array.toList_inj.1 (by rw [hu]; simp [pOff])⟩
 · refine ⟨#[.int .i64 s.length, .nilIface], rfl, relL_cons.2 ⟨.int .i64 s.length, [.nilIface], rfl, ?_, relL_cons.2 ⟨.nilIface, [], rfl, ?_, relL_nil.2 rfl⟩⟩⟩
   · exact (rfl : [_] = _)
   · exact (rfl : [_] = _)
theorem wrB_ok {E : Env} (L : Lays.n167 E.P ρ) (X : Builder.Extra E.P ρ) (hTe : ρ.t 72 ≠ ρ.t 5) (hcal : Callable E.P (ρ.f 167)) : SemOK E (ρ.f 167) (wrB (ρ.t 72) (ρ.t 5)) := by
 intro az sl h n K r K' hk g
 unfold wrB at hk
 split at hk
 case h_2 => cases hk
 rename_i b c
 split at hk
 case h_2 => cases hk
 rename_i hc
 rw [Nat.blt_eq] at hc
 refine wrK_sem hTe hcal (wrC_byte L X (UInt8.ofNat c)) (fun w X β us hr => ?_) (fun w X β => ?_) hk g
 · obtain ⟨u, us', hu, h1, h2⟩ := relL_cons.1 hr
   obtain ⟨u2, us2, rfl, h3, h4⟩ := relL_cons.1 h2
   obtain rfl := relL_nil.1 h4
   rw [relV_leaf rfl (by simp)] at h1 h3
   simp only [relP, List.cons.injEq, and_true] at h1 h3
   obtain ⟨l, hl, rfl⟩ := h1
   subst h3
   have e : ((UInt8.ofNat c).toNat : Int) = Int.ofNat c := by
    have : (UInt8.ofNat c).toNat = c := by simp; omega
    rw [this]; rfl
   exact ⟨l, hl, Array.toList_inj.1 (by rw [hu, e]; simp [pOff])⟩
 · exact (rfl : [_] = _)
theorem stS_ok {E : Env} (L : Lays.n169 E.P ρ) (X : Builder.Extra E.P ρ) (hcal : Callable E.P (ρ.f 169)) : SemOK E (ρ.f 169) (stS (ρ.t 72) (ρ.t 5)) := by
 intro az sl h n K r K' hk g
 unfold stS at hk
 split at hk
 case h_2 => cases hk
 exact strK_sem L X hcal hk g
theorem hkS_nil {E : Env} : ∀ f az sl h n K r (K' : SV → Slots → Heap → Nat → Prop), lkY [] f az sl h n K = some r → (∀ v s h n, K v s h n = some r → K' v s h n) → SemCall E f az sl h n K' := fun _ _ _ _ _ _ _ _ h => by cases h
theorem hkS_cons {E : Env} {g : Nat} {k : HkS} {l : List (Nat × HkS)} (h : SemOK E g k) (hl : ∀ f az sl h n K r (K' : SV → Slots → Heap → Nat → Prop), lkY l f az sl h n K = some r → (∀ v s h n, K v s h n = some r → K' v s h n) → SemCall E f az sl h n K') :
 ∀ f az sl h n K r (K' : SV → Slots → Heap → Nat → Prop), lkY ((g, k) :: l) f az sl h n K = some r → (∀ v s h n, K v s h n = some r → K' v s h n) → SemCall E f az sl h n K' := by
 intro f az sl hh n K r K' hk gg
 simp only [lkY] at hk
 split at hk
 · rename_i e
   have := beq_of e; subst this
   exact h az sl hh n K r K' hk gg
 · exact hl f az sl hh n K r K' hk gg
theorem hkX_nil {E : Env} : ∀ f az r, lkX [] f az = some r → Ret E f az r := fun _ _ _ h => by cases h
theorem hkX_cons {E : Env} {g : Nat} {k : List SV → Rt} {l : List (Nat × (List SV → Rt))} (h : ∀ az r, k az = some r → Ret E g az r) (hl : ∀ f az r, lkX l f az = some r → Ret E f az r) :
 ∀ f az r, lkX ((g, k) :: l) f az = some r → Ret E f az r := by
 intro f az r hk
 simp only [lkX] at hk
 split at hk
 · rename_i e
   have := beq_of e; subst this
   exact h az r hk
 · exact hl f az r hk
end Go.Sx
