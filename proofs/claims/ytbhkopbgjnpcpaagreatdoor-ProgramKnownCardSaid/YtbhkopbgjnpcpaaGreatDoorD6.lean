/-
  TOLD RESULTS for closed runs with panics. Generic: no program in sight. An own text.
-/
import Derived.Test.YtbhkopbgjnpcpaaGreatDoorD5
namespace Go.Sx
theorem ftP_without {P : Program} {W : Wd} {gs : List Nat} : ∀ {ft : List (Nat × Func)}, ftOKP P W ft → ftOKP P W (without gs ft)
 | [], _ => trivial
 | (f, fn) :: r, h => by
   simp only [without]
   split
   · exact ftP_without h.2
   · exact ⟨h.1, ftP_without h.2⟩
def withoutD (gs : List Nat) : List (Nat × Func × Nat × Func) → List (Nat × Func × Nat × Func)
 | [] => []
 | (f, d) :: r => match memb f gs with | true => withoutD gs r | false => (f, d) :: withoutD gs r
theorem fd_without {P : Program} {gs : List Nat} : ∀ {fd : List (Nat × Func × Nat × Func)}, fdOK P fd → fdOK P (withoutD gs fd)
 | [], _ => trivial
 | (f, fn, g, fg) :: r, h => by
   simp only [withoutD]
   split
   · exact fd_without h.2
   · exact ⟨h.1, fd_without h.2⟩
end Go.Sx
