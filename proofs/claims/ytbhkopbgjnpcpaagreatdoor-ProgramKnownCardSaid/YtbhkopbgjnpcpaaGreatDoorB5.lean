/-
  THE EXECUTOR WITH PANICS: a function that defers a closure, which recovers. Generic: no program in sight. An own text.
-/
import Derived.Test.YtbhkopbgjnpcpaaGreatDoorB4
namespace Go.Sx
open Go.RowKit (Below)
def spine : List Code → Code → Code
 | [], b => b
 | a :: r, b => .seq a (spine r b)
def doorX (E : Env) (N : Nat) (cuts : List Nat) (g : FuncId) (fg : Func) (cr : Code) (d : Nat) (cutsg : List Nat) (o1 o2 : Oper) (t : Nat) (B : Code) : List Code → Slots → Heap → Nat → SK → SK → Prop
 | [], sl, h, n, K, _ => gW E [o1, o2] o1 sl h n fun sl h n => (match lk sl t with
   | .fn g' caps => (match Nat.beq g' g, Nat.ble caps.length fg.ntmps with
     | true, true => exP E N cuts B ((1999997, .fn g caps) :: sl) h n fun e sl h n => (match e with
       | .normal | .ret => dfrX E fg cr d cutsg g caps .nili sl h n K
       | .panic _ => dfrX E fg cr d cutsg g caps (lk sl 1999998) sl h n K
       | _ => False)
     | _, _ => False)
   | _ => False)
 | a :: r, sl, h, n, K, KP => exP E N cuts a sl h n fun e sl h n => match e with
   | .normal => doorX E N cuts g fg cr d cutsg o1 o2 t B r sl h n K KP
   | .ret => K sl h n
   | .panic _ => KP sl h n
   | _ => False
def cxDr (c : Cx) (Y : Nat → Prop) (df : Deferred) (ds : List Deferred) (fv : Value) : Cx := { c with sh := fun k => if k = 999997 then fv else c.sh k, Y0 := Y, bot := df :: ds }
theorem memDr {c : Cx} {Y0 : Nat → Prop} {df : Deferred} {ds : List Deferred} {fv : Value} {h : Heap} {F : Nat → Prop} {β : Beta} {Y : Nat → Prop} {w : World} (m : Mem c h F β Y w) : Mem (cxDr c Y0 df ds fv) h F β Y w :=
 ⟨m.fresh, m.blk, m.inj, m.own, m.yy, m.zz, m.size, m.frame, m.os, m.tape, m.output, m.gl⟩
theorem memDrOut {c : Cx} {Y0 : Nat → Prop} {df : Deferred} {ds : List Deferred} {fv : Value} {h : Heap} {F : Nat → Prop} {β : Beta} {Y : Nat → Prop} {w : World} (m : Mem (cxDr c Y0 df ds fv) h F β Y w) : Mem c h F β Y w :=
 ⟨m.fresh, m.blk, m.inj, m.own, m.yy, m.zz, m.size, m.frame, m.os, m.tape, m.output, m.gl⟩
theorem dr_sh {c : Cx} {Y0 : Nat → Prop} {df : Deferred} {ds : List Deferred} {fv : Value} (k : Nat) : (cxDr c Y0 df ds fv).sh k = if k = 999997 then fv else c.sh k := rfl
structure CxE (c c' : Cx) : Prop where
 E : c'.E = c.E
 Z : c'.Z = c.Z
 sh : ∀ k, k ≠ 999997 → k ≠ 999998 → c'.sh k = c.sh k
 mem : ∀ {h F β Y w}, Mem c' h F β Y w → Mem c h F β Y w
theorem CxE.slots {c c' : Cx} (e : CxE c c') {sl : Slots} {h : Heap} {β : Beta} {Y : Nat → Prop} {w : World} {a : Act} (k : SlotsOK c' sl h β Y w a) : SlotsOK c ((1999997, .any) :: (1999998, .any) :: sl) h β Y w a := by
 refine ⟨k.1, fun t => ?_⟩
 rw [lk_cons, lk_cons]
 by_cases e1 : 1999997 = t
 · rw [if_pos e1]; exact rel_any
 · rw [if_neg e1]
   by_cases e2 : 1999998 = t
   · rw [if_pos e2]; exact rel_any
   · rw [if_neg e2]
     have := k.2 t
     rw [e.Z] at this
     have hs : slotv c' a t = slotv c a t := by
      unfold slotv
      by_cases hl : t ≤ 999999
      · rw [if_pos hl, if_pos hl]
      · rw [if_neg hl, if_neg hl]
        exact e.sh _ (by omega) (by omega)
     rw [← hs]
     exact this
theorem door_wp {c : Cx} {N : Nat} (ok : EnvOK c.E) (hbot : c.bot = []) (hro : c.ro = none ∧ c.nm = false) {fn : Func} {cuts cutsg : List Nat} {id : Nat} {o1 o2 : Oper} {cl : Call} {t : Nat} {B : Code} {g : FuncId} {fg : Func} {cr : Code} {d : Nat} (dk : DfOK c.E g fg cr d)
 (ho2 : o2.op = .defer cl) (hg2 : o2.guard = none) (hd2 : o2.dst = none) (hcl : cl.callee = .value (.tmp t)) (hca : cl.args = #[]) (ht : t ≤ 999999) (hd1 : ∀ d, o1.dst = some d → d < N) (hB : codeP c.E N B) {K KP : SK} {R : Ending → World → Prop}
 (fin : ∀ sl h n β Y w a, K sl h n → Mem c h (fun b => n ≤ b) β Y w → SlotsOK c sl h β Y w a → (∀ r, c.Y0 r → Y r) → ∃ v, (results fn a.tmps).run c.E.P w = .ok v w ∧ R (.returned v) w)
 (finP : ∀ v sl h n β Y w a, KP sl h n → Mem c h (fun b => n ≤ b) β Y w → SlotsOK (c.pnc v) sl h β Y w a → (∀ r, c.Y0 r → Y r) → R (.panicked (pnE v)) w) :
 ∀ (pre : List Code) {sl : Slots} {h : Heap} {n : Nat}, (∀ x ∈ pre, codeP c.E N x) → doorX c.E N cuts g fg cr d cutsg o1 o2 t B pre sl h n K KP → ∀ {a : Act} {w : World}, Den c N sl h n a w → (spine pre (.seq (.region id #[o1, o2] false) B)).wpIn (FR c.ro) 0 c.E.P (bodyPostM Fence.wide 0 c.E.P fn R) a w
 | x :: r, sl, h, n, hpre, hx, a, w, D => by
   simp only [doorX] at hx
   simp only [spine]
   refine wpIn_seq (exP_sound ok x sl h n _ hx (hpre x (by simp)) (.inl hro) a w D _ ⟨fun e sl' h' n' a' w' hne k D' => ?_, fun v sl' h' n' a' w' k D' => ?_⟩)
   · cases e with
     | normal => exact door_wp ok hbot hro dk ho2 hg2 hd2 hcl hca ht hd1 hB fin finP r (fun y hy => hpre y (by simp [hy])) k D'
     | ret => exact body_end hbot D' fun β Y w2 m hs hY => fin _ _ _ β Y w2 a' k m hs hY
     | panic ch => exact absurd rfl (hne ch)
     | _ => exact k.elim
   · exact body_endP (c := c.pnc v) hbot D' fun β Y w2 m hs hY => finP v _ _ _ β Y w2 a' k (memUnpan m) hs hY
 | [], sl, h, n, hpre, hx, a, w, D => by
   simp only [doorX] at hx
   simp only [spine]
   refine wpIn_seq (wpIn_region ?_)
   have hr : List.range (#[o1, o2] : Array Oper).size = [0, 1] := rfl
   rw [hr, wpOpsIn_cons]
   have hdall : ∀ o ∈ (#[o1, o2] : Array Oper).toList, ∀ d, o.dst = some d → d < N := by
    intro o ho d hd
    simp only [List.mem_cons, List.not_mem_nil, or_false] at ho
    rcases ho with rfl | rfl
    · exact hd1 d hd
    · rw [hd2] at hd; cases hd
   refine gW_sound ok hdall (i := 0) rfl hx D fun sl3 h3 n3 a3 w3 k3 D3 => ?_
   split at k3
   case h_2 => exact k3.elim
   rename_i g' caps kf
   split at k3
   case h_2 => exact k3.elim
   rename_i hgg hcl2
   have hgg := beq_of hgg
   subst hgg
   rw [Nat.ble_eq] at hcl2
   rw [wpOpsIn_cons]
   unfold wpOpIn
   have hoi : (#[o1, o2] : Array Oper)[1]? = some o2 := rfl
   simp only [hoi]
   have hwant : Region.wanted o2 (yielded #[o1, o2] a3.tmps) = true := by simp [Region.wanted, hg2]
   rw [if_pos hwant]
   obtain ⟨β, Y, m, hs, hN3, h0, Ds, hds, hnd, hDs, _⟩ := D3
   have hft := hs.2 t
   rw [kf] at hft
   obtain ⟨usv, hfv, hcaps⟩ := rel_fn.1 hft
   rw [fnV_lo (ok.fsz _ _ dk.hf)] at hfv
   have hfv' : a3.tmps.getD t undef = .func (.func g') #[] usv := by
    unfold slotv at hfv
    rw [if_pos ht] at hfv
    exact hfv
   refine ⟨fun _ _ => trivial, ?_⟩
   have hrun : ((o2.semAt (FR c.ro).round a3.eval).run c.E.P w3) = .ok (.defer { target := .fn (.func g') usv, args := #[] }) w3 := by
    rw [hro.1]
    show (execOp a3.eval o2).run c.E.P w3 = _
    have he : a3.eval (.tmp t) = .func (.func g') #[] usv := hfv'
    simp [execOp, ho2, resolve, hcl, hca, Deferred.ofValue, he, Sem.run_bind, Sem.run_pure, Result.andThen_ok]
   rw [hrun, Oper.uponIn_defer, hd2]
   let cD := cxDr c Y { target := .fn (.func g') usv, args := #[] } a3.defers (.func (.func g') #[] usv)
   have D4 : Den cD N ((1999997, .fn g' caps) :: sl3) h3 n3 { a3 with defers := { target := .fn (.func g') usv, args := #[] } :: a3.defers } w3 := by
    refine ⟨β, Y, memDr m, ⟨hs.1, fun s => ?_⟩, hN3, .nil fun _ h => h⟩
    rw [lk_cons]
    by_cases e1 : 1999997 = s
    · subst e1
      rw [if_pos rfl]
      have hle : ¬ ((1999997 : Nat) ≤ 999999) := by omega
      simp only [slotv, hle, if_false]
      rw [dr_sh, if_pos (by omega)]
      exact rel_fn.2 ⟨usv, (fnV_lo (ok.fsz _ _ dk.hf) _).symm, hcaps⟩
    · rw [if_neg e1]
      have := hs.2 s
      have e2 : slotv cD { a3 with defers := { target := .fn (.func g') usv, args := #[] } :: a3.defers } s = slotv c a3 s := by
       unfold slotv
       by_cases hl : s ≤ 999999
       · rw [if_pos hl, if_pos hl]
       · rw [if_neg hl, if_neg hl, dr_sh, if_neg (by omega)]
      rw [e2]
      exact this
   have out : ∀ (c' : Cx) (u : FrameMode) (x : SV) (sl4 : Slots) (h4 : Heap) (n4 : Nat) (a4 : Act) (w4 : World), CxE c c' → c'.bot = { target := .fn (.func g') usv, args := #[] } :: a3.defers → c'.Y0 = Y → c'.sh 999997 = .func (.func g') #[] usv → u ≠ .run → settle (modeA u) = .returning →
    (u = .returning ∧ x = .nili ∨ ∃ v, u = .panicking (pnE v) ∧ x = lk sl4 1999998 ∧ c'.sh 999998 = v) → dfrX c.E fg cr d cutsg g' caps x sl4 h4 n4 K → Den c' N sl4 h4 n4 a4 w4 → LeavesInM Fence.wide 0 c.E.P fn a4.tmps R a4.defers u w4 := by
    intro c' u x sl4 h4 n4 a4 w4 ce hb' hY' hsh' hu hset hux hdf D5
    obtain ⟨hEq, hZq⟩ := And.intro ce.E ce.Z
    obtain ⟨β5, Y5, m5, hs5, hN5, h05, Ds5, hds5, hnd5, hDs5, _⟩ := D5
    rw [hds5, hb']
    obtain ⟨kc, hk⟩ := hdf
    rw [hY'] at h05 hDs5
    rw [← hEq]
    refine leave_marksU (c := c') hu Ds5 β5 Y5 Y w4 m5 hs5 hnd5 (fun D hD => (hDs5 D hD).1) (fun r hr => ⟨h05 r hr, fun hD => (hDs5 r hD).2 hr⟩) fun Y6 w6 m6 hs6 hY6 => ?_
    have h6 := hs6.2 1999997
    rw [kc] at h6
    obtain ⟨us', hus', hcap'⟩ := rel_fn.1 h6
    have hle : ¬ ((1999997 : Nat) ≤ 999999) := by omega
    have hsv : slotv c' a4 1999997 = .func (.func g') #[] usv := by
     unfold slotv
     rw [if_neg hle]
     exact hsh'
    rw [hsv, fnV_lo (ok.fsz _ _ dk.hf)] at hus'
    injection hus' with _ _ hue
    subst hue
    have hux' : u = .returning ∧ x = .nili ∨ ∃ v, u = .panicking (pnE v) ∧ rel w6 (XX c'.Z Y6 β5 h4) x β5 v := by
     rcases hux with h | ⟨v, h1, h2, h3⟩
     · exact .inl h
     · refine .inr ⟨v, h1, ?_⟩
       have h7 := hs6.2 1999998
       have hle8 : ¬ ((1999998 : Nat) ≤ 999999) := by omega
       unfold slotv at h7
       rw [if_neg hle8] at h7
       rw [h2, ← h3]
       exact h7
    rw [← hEq] at hk dk
    have hcall := dfr_run (c := c') (K := fun sl h n => K ((1999997, .any) :: (1999998, .any) :: sl) h n) (by rw [hEq]; exact ok) dk hk hcl2 m6 hs6 hcap' hux'
    have hinv : (invoke (.fn (.func g') usv) #[]).run c'.E.P w6 = .ok (.enter g' usv) w6 := by
     have hgn' : ¬ fg.name = "runtime.NumGoroutine" := by simpa using dk.hn
     obtain ⟨_, _, _, hbb, _⟩ := dk.hb
     simp [invoke, callFunc, run_program, dk.hf, hbb, hgn', Sem.run_bind, Result.andThen_ok]
    refine ⟨hu, .inr ⟨fun h => by simp [Fence.wide] at h, .func g', usv, g', usv, rfl, hinv, fun _ _ => trivial, hcall.mono ?_⟩⟩
    rintro e u' w7 ⟨rfl, v, rfl, sl7, h7, n7, β7, Y7, hY7, k7, m7, hs7⟩
    show LeavesInM Fence.wide 0 c'.E.P fn a4.tmps R a3.defers (settle (modeA u)) w7
    rw [hset, hds, hbot, hEq]
    refine leave_marksU (c := c) (by simp) Ds β7 Y7 c.Y0 w7 (ce.mem m7) (ce.slots hs7) hnd (fun D hD => hY7 _ (hY6 _ (hDs D hD).1)) (fun r hr => ⟨hY7 _ (hY6 _ (h0 r hr)), fun hD => (hDs r hD).2 hr⟩) fun Y8 w8 m8 hs8 hY8 => ?_
    exact fin _ _ _ β7 Y8 w8 a4 k7 m8 hs8 hY8
   have ceD : CxE c cD := ⟨rfl, rfl, fun k h1 _ => by rw [dr_sh, if_neg h1], memDrOut⟩
   refine exP_sound (c := cD) ok B _ h3 n3 _ k3 hB (.inl hro) _ w3 D4 _ ⟨fun e sl4 h4 n4 a4 w4 hne k4 D5 => ?_, fun v sl4 h4 n4 a4 w4 k4 D5 => ?_⟩
   · have o := fun k => out cD .returning .nili sl4 h4 n4 a4 w4 ceD rfl rfl (by rw [dr_sh, if_pos rfl]) (by simp) rfl (.inl ⟨rfl, rfl⟩) k D5
     cases e with
     | normal => exact o k4
     | ret => exact o k4
     | panic ch => exact absurd rfl (hne ch)
     | _ => exact k4.elim
   · exact out (cD.pnc v) (.panicking (pnE v)) (lk sl4 1999998) sl4 h4 n4 a4 w4 ⟨rfl, rfl, fun k h1 h2 => by rw [pnc_sh, if_neg h2, dr_sh, if_neg h1], fun m => memDrOut (memUnpan m)⟩ rfl rfl (by rw [pnc_sh, if_neg (by omega), dr_sh, if_pos rfl]) (by simp) rfl (.inr ⟨v, rfl, rfl, by rw [pnc_sh, if_pos rfl]⟩) k4 D5
end Go.Sx
