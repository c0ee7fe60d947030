/-
  WHAT IS RETURNED, MAPS LEFT OUT. Generic: no program in sight. An own text.
-/
import Derived.Test.YtbhkopbgjnpcpaaGreatDoorB2
namespace Go.Sx
def bm1 (v : SV) : SV := match v with
 | .mpr _ => .any
 | v => v
def bmL : List SV → List SV
 | [] => []
 | v :: r => bm1 v :: bmL r
def bm (v : SV) : SV := match v with
 | .agg fs => .agg (bmL fs)
 | v => bl v
theorem bmL_ok {w : World} {X : Nat → Prop} {β : Beta} : ∀ {fs : List SV} {cs : List Value}, relC w X fs β cs → relC w X (bmL fs) β cs
 | [], cs, h => h
 | v :: r, cs, h => by
   obtain ⟨c1, c2, h1, h2, h3⟩ := h
   refine ⟨c1, c2, h1, ?_, bmL_ok h3⟩
   unfold bm1
   split
   · obtain ⟨l, _, h4⟩ := h2
     rw [h4]; exact ⟨_, rfl, rfl⟩
   · exact h2
theorem bm_rel {w : World} {X : Nat → Prop} {β : Beta} {v : SV} {u : Value} (h : rel w X v β u) : rel w X (bm v) β u := by
 unfold bm
 split
 · rw [rel_agg rfl] at h ⊢
   obtain ⟨cs, h1, h2⟩ := h
   exact ⟨cs, h1, bmL_ok h2⟩
 · exact bl_rel h
def resM (E : Env) (sl : Slots) (h : Heap) : List ResultVar → (List SV → Prop) → Prop
 | [], K => K []
 | .tmp t :: r, K => frz h 60 (bm (ev E sl (.tmp t))) [] fun v _ => resM E sl h r fun vs => K (v :: vs)
 | .cell t T :: r, K => opE E sl h 0 (.load T (.tmp t)) fun v _ _ => frz h 60 (bm v) [] fun v _ => resM E sl h r fun vs => K (v :: vs)
theorem resM_ok {c : Cx} (ok : EnvOK c.E) {sl : Slots} {h : Heap} {F : Nat → Prop} {β : Beta} {Y : Nat → Prop} {w : World} {a : Act} (m : Mem c h F β Y w) (hs : SlotsOK c sl h β Y w a) {X' : Nat → Prop} (hc : ∀ ns, Cold h β w (XX c.Z Y β h) X' ns) :
 ∀ (l : List ResultVar) (K : List SV → Prop), resM c.E sl h l K → ∃ vs us, K vs ∧ (resRun a l).run c.E.P w = .ok us w ∧ RelAll w X' vs us
 | [], K, hK => ⟨[], [], hK, by simp [resRun], trivial⟩
 | .tmp t :: r, K, hK => by
   simp only [resM] at hK
   obtain ⟨v', ns, k1, _, k2⟩ := frz_ok m 60 _ [] _ hK
   obtain ⟨vs, us, q1, q2, q3⟩ := resM_ok ok m hs hc r _ k1
   refine ⟨v' :: vs, a.tmps.getD t undef :: us, q1, ?_, (k2 X' (hc ns)).2.2 _ (bm_rel (ev_ok m hs (.tmp t))), q3⟩
   simp only [resRun] at q2 ⊢
   simp only [List.mapM_cons, Sem.run_bind, Sem.run_pure, Result.andThen_ok]
   rw [q2]
   rfl
 | .cell t T :: r, K, hK => by
   simp only [resM] at hK
   have hK' : opE c.E sl h 0 (.load T (.tmp t)) (fun v _ _ => frz h 60 (bm v) [] fun v _ => resM c.E sl h r fun vs => K (v :: vs)) := hK
   obtain ⟨v, u, ad, k0, hu, k5, k6⟩ := load_val ok m hK' (ev_ok m hs (.tmp t))
   obtain ⟨v', ns, k1, _, k2⟩ := frz_ok m 60 _ [] _ k0
   obtain ⟨vs, us, q1, q2, q3⟩ := resM_ok ok m hs hc r _ k1
   refine ⟨v' :: vs, u :: us, q1, ?_, (k2 X' (hc ns)).2.2 _ (bm_rel k6), q3⟩
   simp only [resRun] at q2 ⊢
   have ha : asAddr (.pointer (some ad)) = pure ad := rfl
   replace hu : a.tmps.getD t undef = .pointer (some ad) := hu
   simp only [List.mapM_cons, Sem.run_bind, hu, ha, Sem.run_pure, Result.andThen_ok, k5]
   rw [q2]
   rfl
def resXM (E : Env) (fn : Func) (sl : Slots) (h : Heap) (K : SV → Prop) : Prop :=
 resM E sl h fn.results.toList fun vs => match vs with
  | [v] => K v
  | vs => match noTup vs with | true => K (.tup vs) | false => False
end Go.Sx
