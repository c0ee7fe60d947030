/-
  CLOSED RUNS IN PARTS: what a function returned once is told again. An own text.
-/
import Derived.Test.YtbhkopbgjnpcpaaGreatDoorC7
namespace Go.Sx
open Go
def look : List (List SV × SV) → List SV → Rt
 | [], _ => none
 | (a, v) :: r, aa => match eqL a aa with | true => some v | false => look r aa
def without (gs : List Nat) : List (Nat × Func) → List (Nat × Func)
 | [] => []
 | (f, fn) :: r => match memb f gs with | true => without gs r | false => (f, fn) :: without gs r
def toldL (E : Env) (g : Nat) : List (List SV × SV) → Prop
 | [] => True
 | (a, v) :: r => Ret E g a v ∧ toldL E g r
def told (E : Env) : List (Nat × List (List SV × SV)) → Prop
 | [] => True
 | (g, l) :: r => toldL E g l ∧ told E r
theorem toldL_look {E : Env} {g : Nat} : ∀ {l : List (List SV × SV)}, toldL E g l → ∀ aa r, look l aa = some r → Ret E g aa r
 | [], _, _, _, h => by cases h
 | (a, v) :: l, k, aa, r, h => by
   unfold look at h
   split at h
   · rename_i e
     cases h
     exact eqL_ok e ▸ k.1
   · exact toldL_look k.2 aa r h
end Go.Sx
