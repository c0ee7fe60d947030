/-
  THE HOOKS OF A SEAT THAT BUILDS STRINGS: strings.Builder's WriteString, WriteByte, String; strings.Join; strings.Split at one byte. Generic: over any program that bears the shelf's layings. An own text.
-/
import Derived.Test.YtbhkopbgjnpcpaaGreatDoorD3
set_option linter.unusedVariables false
namespace Go.Sx
open Go.RowKit (Below)
open Go.Shelf Go.Proofs
variable {ρ : Ren}
abbrev HkS := List SV → Slots → Heap → Nat → (SV → Slots → Heap → Nat → Rt) → Rt
def SemOK (E : Env) (f : FuncId) (k : HkS) : Prop := ∀ az sl h n K r (K' : SV → Slots → Heap → Nat → Prop), k az sl h n K = some r → (∀ v s h n, K v s h n = some r → K' v s h n) → SemCall E f az sl h n K'
theorem hkS_nil {E : Env} : ∀ f az sl h n K r (K' : SV → Slots → Heap → Nat → Prop), lkY [] f az sl h n K = some r → (∀ v s h n, K v s h n = some r → K' v s h n) → SemCall E f az sl h n K' := fun _ _ _ _ _ _ _ _ h => by cases h
theorem hkS_cons {E : Env} {g : Nat} {k : HkS} {l : List (Nat × HkS)} (h : SemOK E g k) (hl : ∀ f az sl h n K r (K' : SV → Slots → Heap → Nat → Prop), lkY l f az sl h n K = some r → (∀ v s h n, K v s h n = some r → K' v s h n) → SemCall E f az sl h n K') :
 ∀ f az sl h n K r (K' : SV → Slots → Heap → Nat → Prop), lkY ((g, k) :: l) f az sl h n K = some r → (∀ v s h n, K v s h n = some r → K' v s h n) → SemCall E f az sl h n K' := by
 intro f az sl hh n K r K' hk gg
 simp only [lkY] at hk
 split at hk
 · rename_i e
   have := beq_of e; subst this
   exact h az sl hh n K r K' hk gg
 · exact hl f az sl hh n K r K' hk gg
theorem hkX_nil {E : Env} : ∀ f az r, lkX [] f az = some r → Ret E f az r := fun _ _ _ h => by cases h
theorem hkX_cons {E : Env} {g : Nat} {k : List SV → Rt} {l : List (Nat × (List SV → Rt))} (h : ∀ az r, k az = some r → Ret E g az r) (hl : ∀ f az r, lkX l f az = some r → Ret E f az r) :
 ∀ f az r, lkX ((g, k) :: l) f az = some r → Ret E f az r := by
 intro f az r hk
 simp only [lkX] at hk
 split at hk
 · rename_i e
   have := beq_of e; subst this
   exact h az r hk
 · exact hl f az r hk
end Go.Sx
