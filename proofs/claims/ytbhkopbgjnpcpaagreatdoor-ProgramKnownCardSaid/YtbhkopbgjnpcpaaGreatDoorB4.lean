/-
  THE EXECUTOR WITH PANICS: functions; a closure that is deferred and recovers. Generic: no program in sight. An own text.
-/
import Derived.Test.YtbhkopbgjnpcpaaGreatDoorB3
import Derived.RecoverIn
namespace Go.Sx
open Go.RowKit (Below)
theorem resX_end {c : Cx} (ok : EnvOK c.E) {fn : Func} {sl : Slots} {h : Heap} {F : Nat → Prop} {β : Beta} {Y : Nat → Prop} {w : World} {a : Act} {r : SV} (hF : ∀ r, ¬ c.F0 r) (m : Mem c h F β Y w) (hs : SlotsOK c sl h β Y w a) (hres : resXM c.E fn sl h fun v => Wk v r) :
 ∃ v, (results fn a.tmps).run c.E.P w = .ok v w ∧ Below c.w0.heap.size c.w0 w ∧ rel w c.Z r nob v := by
 have hbelow : Below c.w0.heap.size c.w0 w := ⟨m.os, m.tape, m.output.1, m.size, fun k hk => m.frame k hk (hF k)⟩
 have hc : ∀ ns, Cold h β w (XX c.Z Y β h) c.Z ns := fun ns => ⟨fun r _ hr hx => hr (.inl hx), fun b hb k l hk hl hlv hx => (m.own l.r ⟨b, k, l, hk, hl, hlv, rfl⟩).2.1 hx⟩
 unfold resXM at hres
 obtain ⟨vs, us', k1, k2, k3⟩ := resM_ok ok m hs hc fn.results.toList _ hres
 have k2' : (fn.results.mapM fun
  | .tmp t => pure (a.tmps.getD t undef)
  | .cell x t => do loadVar t (← asAddr (a.tmps.getD x undef)) : Sem (Array Value)).run c.E.P w = .ok us'.toArray w := by
  rw [Array.mapM_eq_mapM_toList, Sem.run_map]
  have k2'' := k2
  simp only [resRun] at k2''
  exact (congrArg (fun r => r.andThen fun (a : List Value) w'' => Result.ok a.toArray w'') k2'')
 have k4 : (results fn a.tmps).run c.E.P w = (Result.ok us'.toArray w).andThen fun (a : Array Value) w'' => (pure (if h : a.size = 1 then a[0] else Value.tuple a) : Sem Value).run c.E.P w'' := by
  unfold results
  rw [Sem.run_bind]
  exact (congrArg (fun r => r.andThen fun (a : Array Value) w'' => (pure (if h : a.size = 1 then a[0] else Value.tuple a) : Sem Value).run c.E.P w'') k2')
 split at k1
 · rename_i v
   match us', k3, k4 with
   | [u], k3, k4 => exact ⟨_, by rw [k4]; simp only [Result.andThen_ok, Sem.run_pure]; rfl, hbelow, k1.app k3.1⟩
 · rename_i hne
   split at k1
   case h_2 => exact k1.elim
   rename_i hnt
   have hlen2 : vs.length = us'.length := RelAll.len k3
   have hne1 : us'.length ≠ 1 := by
    intro e1
    match vs, hlen2.trans e1 with
    | [v], _ => exact hne v rfl
   refine ⟨.tuple us'.toArray, ?_, hbelow, k1.app ⟨us'.toArray, rfl, by simpa using RelAll.relL k3 hnt⟩⟩
   rw [k4]
   simp [hne1]
theorem enter0 {E : Env} {w : World} {X : Nat → Prop} {us : Array Value} {args : List SV} {fn : Func} {sl : Slots} (g : Good E w X) (hus : relL w X args nob us.toList) (hargs : args.length ≤ fn.ntmps) (hN : fn.ntmps ≤ 1000000)
 (h1 : ∀ t, 0 ≤ t → t < 0 + args.length → lk sl t = args.getD (t - 0) .any) (h2 : ∀ t, (t < 0 ∨ 0 + args.length ≤ t) → lk sl t = lk [] t) : Den (cx0 E w X) fn.ntmps sl [] 0 { tmps := us ++ Array.replicate (fn.ntmps - us.size) undef, defers := [] } w := by
 obtain ⟨hlen, hget⟩ := relL_get hus
 have hsize : us.size = args.length := by rw [← Array.length_toList]; exact hlen.symm
 have hX : XX X (fun _ => False) nob [] = X := by
  funext r
  simp only [XX, Own, lkB]
  simp
 refine ⟨nob, fun _ => False, mem0 g, ⟨by simp; omega, fun t => ?_⟩, by simp; omega, .nil (fun _ h => h)⟩
 show rel w (XX X (fun _ => False) nob []) (lk sl t) nob _
 rw [hX]
 by_cases ht : t < args.length
 · have hle : t ≤ 999999 := by omega
   unfold slotv
   rw [if_pos hle, h1 t (by omega) (by omega)]
   have := hget t ht
   have hu : (us ++ Array.replicate (fn.ntmps - us.size) undef).getD t undef = us.toList.getD t undef := by
    rw [Array.getD_eq_getD_getElem?, Array.getElem?_append_left (by omega)]
    simp
   show rel w X _ nob ((us ++ Array.replicate (fn.ntmps - us.size) undef).getD t undef)
   rw [hu]
   simpa using relV_rel this
 · rw [h2 t (by omega)]
   exact trivial
theorem ret_of_exP {E : Env} (ok : EnvOK E) {f : FuncId} {fn : Func} {code : Code} {cuts : List Nat} {args : List SV} {r : SV} (hf : E.P.funcs[f]? = some fn) (hb : fn.body = some code) (hname : (fn.name == "runtime.NumGoroutine") = false)
 (hargs : args.length ≤ fn.ntmps) (hN : fn.ntmps ≤ 1000000) (hc : codeP E fn.ntmps code)
 (hx : ini args 0 [] fun sl => exP E fn.ntmps cuts code sl [] 0 fun e sl h _ => match e with
   | .normal | .ret => resXM E fn sl h fun v => Wk v r
   | _ => False) : Ret E f args r := by
 refine ⟨⟨fn, hf, by rw [hb]; rfl, hname⟩, fun w X us g hus => ?_⟩
 obtain ⟨sl, hx, h1, h2⟩ := ini_ok args 0 [] hx
 have D := enter0 g hus hargs hN h1 h2
 refine callsIn_wide.1 (callsIn_of_wp_marks (n := 0) hf hb trivial (exP_sound (c := cx0 E w X) ok code sl [] 0 _ hx hc (.inl ⟨rfl, rfl⟩) _ w D _ ⟨fun e sl' h' n' a' w' hne k D' => ?_, fun v sl' h' n' a' w' k D' => k.elim⟩))
 have fin : resXM E fn sl' h' (fun v => Wk v r) → LeavesInM Fence.wide 0 E.P fn a'.tmps (fun e w' => ∃ u, e = .returned u ∧ Below w.heap.size w w' ∧ rel w' X r nob u) a'.defers .returning w' := by
  intro hres
  refine body_end (c := cx0 E w X) rfl D' fun β Y w' m hs _ => ?_
  obtain ⟨v, k1, k2, k3⟩ := resX_end (c := cx0 E w X) ok (fun _ h => h) m hs hres
  exact ⟨v, k1, _, rfl, k2, k3⟩
 cases e with
 | normal => exact fin k
 | ret => exact fin k
 | panic ch => exact absurd rfl (hne ch)
 | _ => exact k.elim
def dfrX (E : Env) (fg : Func) (cr : Code) (d : Nat) (cutsg : List Nat) (g : FuncId) (caps : List SV) (x : SV) (sl : Slots) (h : Heap) (n : Nat) (K : SK) : Prop :=
 lk sl 1999997 = .fn g caps ∧ shSK sl fun sl1 => ini caps 0 sl1 fun sl2 => exP E fg.ntmps cutsg cr ((d, x) :: sl2) h n fun e sl3 h3 n3 => match e with
  | .normal | .ret => unSK sl3 fun sl4 => K ((1999997, .any) :: (1999998, .any) :: sl4) h3 n3
  | _ => False
structure DfOK (E : Env) (g : FuncId) (fg : Func) (cr : Code) (d : Nat) : Prop where
 hf : E.P.funcs[g]? = some fg
 hb : ∃ id oR clR, fg.body = some (.seq (.region id #[oR] false) cr) ∧ oR.op = .call clR ∧ clR.callee = .builtin .recover ∧ clR.args = #[] ∧ oR.dst = some d ∧ oR.guard = none
 hd : d < fg.ntmps
 hN : fg.ntmps ≤ 1000000
 hc : codeP E fg.ntmps cr
 hrf : rfB cr = false
 hr : fg.results = #[]
 hn : (fg.name == "runtime.NumGoroutine") = false
def modeA : FrameMode → FrameMode
 | .panicking (e :: r) => .panicking ({ e with recovered := true } :: r)
 | u => u
theorem run_recover {P : Program} {w : World} {o : Oper} {cl : Call} {ρ : Operand → Value} (h1 : o.op = .call cl) (h2 : cl.callee = .builtin .recover) (h3 : cl.args = #[]) : (execOp ρ o).run P w = .ok .recover w := by
 simp only [execOp, h1, resolve, h2, h3, Sem.run_bind, Sem.run_pure, Result.andThen_ok, invoke]
 rfl
theorem dfr_run {c : Cx} (ok : EnvOK c.E) {g : FuncId} {fg : Func} {cr : Code} {d : Nat} {cutsg : List Nat} (dk : DfOK c.E g fg cr d) {caps : List SV} {x : SV} {sl : Slots} {h : Heap} {n : Nat} {K : SK} {a : Act} {w : World} {β : Beta} {Y : Nat → Prop} {us : Array Value} (hx : shSK sl fun sl1 => ini caps 0 sl1 fun sl2 => exP c.E fg.ntmps cutsg cr ((d, x) :: sl2) h n fun e sl3 h3 n3 => match e with
 | .normal | .ret => unSK sl3 fun sl4 => K sl4 h3 n3
 | _ => False) (hcap : caps.length ≤ fg.ntmps) (m : Mem c h (fun b => n ≤ b) β Y w) (hs : SlotsOK c sl h β Y w a) (hus : relL w (XX c.Z Y β h) caps β us.toList) {u : FrameMode}
 (hu : u = .returning ∧ x = .nili ∨ ∃ v, u = .panicking (pnE v) ∧ rel w (XX c.Z Y β h) x β v) :
 CallsDIn Fence.wide 0 c.E.P g us u w fun e u' w' => u' = modeA u ∧ ∃ v, e = .returned v ∧ ∃ sl' h' n' β' Y', (∀ r, Y r → Y' r) ∧ K sl' h' n' ∧ Mem c h' (fun b => n' ≤ b) β' Y' w' ∧ SlotsOK c sl' h' β' Y' w' a := by
 obtain ⟨id, oR, clR, hb, ho1, ho2, ho3, hdst, hgd⟩ := dk.hb
 rw [shSK_eq] at hx
 obtain ⟨sl2, hx, h1, h2⟩ := ini_ok caps 0 _ hx
 have hen := enterS (fn := fg) dk.hN hcap hs hus h1 h2
 have hv : ∃ v, rel w (XX c.Z Y β h) x β v ∧ (∀ c₀ cs, c₀.mode = u → (match recoverD (c₀ :: cs) with | some (v, cs') => (v, cs') | none => (.nilIface, c₀ :: cs)) = (v, { c₀ with mode := modeA u } :: cs)) := by
  rcases hu with ⟨rfl, rfl⟩ | ⟨v, rfl, hv⟩
  · refine ⟨.nilIface, rel_of_relP rfl rfl, fun c₀ cs hm => ?_⟩
    simp only [recoverD, hm, modeA]
    rw [← hm]
  · refine ⟨v, hv, fun c₀ cs hm => ?_⟩
    simp only [recoverD, hm, pnE, modeA]
 obtain ⟨v, hv, hrec⟩ := hv
 have hdn := dk.hd
 have D2 : Den (cxDf c a Y) fg.ntmps ((d, x) :: sl2) h n (({ tmps := us ++ Array.replicate (fg.ntmps - us.size) undef, defers := [] } : Act).put (some d) v) w := by
  have hs0 := slotsDf hen.1
  refine ⟨β, Y, memDf m, ⟨by rw [put_size']; exact hs0.1, fun t => ?_⟩, by rw [put_size']; exact hen.2, by rw [put_defers']; exact DefOK.nil (c := cxDf c a Y) fun _ h => h⟩
  rw [slotv_put _ _ _ _ (fun d' e => by cases e; show d < (us ++ Array.replicate (fg.ntmps - us.size) undef).size; rw [hen.2]; exact hdn) hs0.1, lk_cons]
  by_cases e : d = t
  · subst e; rw [if_pos rfl, if_pos rfl]; exact hv
  · rw [if_neg e, if_neg (fun h => e (Option.some.inj h))]; exact hs0.2 t
 refine callsDIn_of_wpSIn (F := Fence.wide) (n := 0) dk.hf hb trivial fun c₀ cs hm => wpSIn_seq (wpSIn_region ?_)
 have hr : List.range (#[oR] : Array Oper).size = [0] := rfl
 have hoi : (#[oR] : Array Oper)[0]? = some oR := rfl
 rw [hr]
 simp only [wpOpsSIn, hoi]
 refine ⟨fun _ _ => trivial, ?_⟩
 rw [if_pos (by simp [Region.wanted, hgd]), run_recover ho1 ho2 ho3]
 have hrec' := hrec c₀ cs hm
 have main : Code.wpSIn Fence.wide 0 c.E.P cr (bodyPostS c.E.P fg c₀ cs fun e u' w' => u' = modeA u ∧ ∃ v, e = .returned v ∧ ∃ sl' h' n' β' Y', (∀ r, Y r → Y' r) ∧ K sl' h' n' ∧ Mem c h' (fun b => n' ≤ b) β' Y' w' ∧ SlotsOK c sl' h' β' Y' w' a)
  (({ tmps := us ++ Array.replicate (fg.ntmps - us.size) undef, defers := [] } : Act).put (some d) v) ({ c₀ with mode := modeA u } :: cs) w := by
  refine wpSIn_of_wpIn rfl (exP_sound (c := cxDf c a Y) ok cr _ h n _ hx dk.hc (.inr dk.hrf) _ w D2 _ ⟨fun e sl' h' n' a' w' hne k D' => ?_, fun v sl' h' n' a' w' k D' => k.elim⟩)
  have fin : (unSK sl' fun sl4 => K sl4 h' n') → bodyPostS c.E.P fg c₀ cs (fun e u' w' => u' = modeA u ∧ ∃ v, e = .returned v ∧ ∃ sl' h' n' β' Y', (∀ r, Y r → Y' r) ∧ K sl' h' n' ∧ Mem c h' (fun b => n' ≤ b) β' Y' w' ∧ SlotsOK c sl' h' β' Y' w' a) .ret a' ({ c₀ with mode := modeA u } :: cs) w' := by
   intro hk
   rw [unSK_eq] at hk
   obtain ⟨β2, Y2, m2, hs2, _, h0, Ds, hds, _, _, hn0⟩ := D'
   have hD0 : Ds = [] := hn0 rfl
   subst hD0
   exact ⟨hds, _, rfl, .tuple #[], results_none dk.hr _ _ _, rfl, _, rfl, _, h', n', β2, Y2, h0, hk, memDfOut m2, slotsOut (Y1 := Y) hs.1 (slotsDf' hs2)⟩
  cases e with
  | normal => exact fin k
  | ret => exact fin k
  | panic ch => exact absurd rfl (hne ch)
  | _ => exact k.elim
 simp only
 rw [hdst]
 cases hrd : recoverD (c₀ :: cs) with
 | some p =>
   obtain ⟨v', cs'⟩ := p
   rw [hrd] at hrec'
   simp only [Prod.mk.injEq] at hrec'
   obtain ⟨rfl, rfl⟩ := hrec'
   exact main
 | none =>
   rw [hrd] at hrec'
   simp only [Prod.mk.injEq] at hrec'
   obtain ⟨h3, h4⟩ := hrec'
   rw [h4]
   subst h3
   exact main
end Go.Sx
