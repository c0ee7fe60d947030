/-
  CODE WITH CALLS OF CLOSURES IN THE MIDST OF REGIONS THAT DRAW THEIR ORDER. Generic: no program in sight. An own text.
  THE EXECUTOR WITH PANICS: operations. Generic: no program in sight. An own text.
-/
import Derived.Test.YtbhkopbgjnpcpaaGreatDoorA6
namespace Go.Sx
open Go.RowKit (Below)
def caK : List Oper → Nat → Option Nat
 | [], _ => none
 | o :: r, i => match r with
   | [] => none
   | _ :: _ => (match slotC o with | true => some i | false => caK r (i + 1))
def fallsB : Code → Bool
 | .seq a b => (match fallsB a with | true => fallsB b | false => false)
 | .cond _ a b => (match fallsB a with | true => true | false => fallsB b)
 | .exit _ => false
 | .ret => false
 | _ => true
def meetB (a b : Code) : Bool := match fallsB a with | true => fallsB b | false => false
def hasGd : List Oper → Bool
 | [] => false
 | o :: r => match o.guard with
   | some _ => true
   | none => hasGd r
def mtK (cuts : List Nat) (b : Bool) : Bool := match b with | true => memb 999997 cuts | false => false
section
variable {c : Cx} {N : Nat}
end
open Go.RowKit (Below)
def isTA (o : Op) : Bool := match o with
 | .typeAssert .. => true
 | .makeFunc _ f _ => (match f.toList with | [] => false | _ => true)
 | _ => false
def qW (E : Env) (S : Slots) (h : Heap) (n : Nat) (o : Oper) (K : KE) : Prop := match isTA o.op with
 | true => False
 | false => match spV E S h n o.op with
   | some r => K r.1 [] r.2
   | none => match eqNI E S o.op with
     | some v => K v [] .nil
     | none => opQ E S h n o K
def zW (E : Env) (all : List Oper) (o : Oper) (sl : Slots) (h : Heap) (n : Nat) (K : SK) : Prop := match spV E sl h n o.op with
 | some r => app r.1 [] r.2 o.dst sl h n fun sl h => K sl h (n + 1)
 | none => match eqNI E sl o.op with
   | some v => app v [] .nil o.dst sl h n fun sl h => K sl h (n + 1)
   | none => opZ E all o sl h n K
def gW (E : Env) (all : List Oper) (o : Oper) (sl : Slots) (h : Heap) (n : Nat) (K : SK) : Prop :=
 grd all o.guard sl (fun sl => zW E all o sl h n K) (fun sl => match o.dst with
  | some d => K ((d, und) :: sl) h n
  | none => K sl h n)
def wlk (E : Env) : Wlk E := ⟨qW E, gW E⟩
theorem spV_slots {E : Env} {sl sl' : Slots} {h : Heap} {n : Nat} {o : Op} (hta : isTA o = false) (e : ∀ x ∈ opnds o, ev E sl x = ev E sl' x) : spV E sl h n o = spV E sl' h n o := by
 cases o with
 | buildSlice T len ps =>
   simp only [spV]
   split
   · rename_i x e1 _ _ hps _
     rw [e x (by simp [opnds, hps])]
   · rfl
 | load T x => simp only [spV, e x (by simp [opnds])]
 | indexAddr T x i => simp only [spV, e x (by simp [opnds]), e i (by simp [opnds])]
 | slice T x lo hi mx =>
   cases lo <;> cases hi <;> cases mx <;> simp only [spV]
   rename_i y
   rw [e x (by simp [opnds]), e y (by simp [opnds])]
 | call cl =>
   simp only [spV]
   split
   · split
     · rename_i x T hargs _
       rw [e x (by cases hc : cl.callee <;> simp [opnds, hargs, hc])]
     · rfl
   · split
     · rename_i x y T T' hargs _
       rw [e x (by cases hc : cl.callee <;> simp [opnds, hargs, hc]), e y (by cases hc : cl.callee <;> simp [opnds, hargs, hc])]
     · rfl
   · rfl
 | typeAssert x S T b => cases hta
 | makeFunc f fst caps =>
   cases f with
   | func f =>
     have : fst.toList = [] := by
      simp only [isTA] at hta
      split at hta
      · assumption
      · cases hta
     simp only [spV, this]
   | _ => rfl
 | _ => rfl
theorem eqNI_slots {E : Env} {sl sl' : Slots} {o : Op} (e : ∀ x ∈ opnds o, ev E sl x = ev E sl' x) : eqNI E sl o = eqNI E sl' o := by
 cases o with
 | binOp op T x y T' =>
   have := e x (by simp [opnds])
   unfold eqNI
   split <;> simp_all
 | _ => rfl
section
variable {c : Cx} {N : Nat}
theorem DenF.of_ok {o : Oper} (hdN : ∀ d, o.dst = some d → d < N) {S : Slots} {h : Heap} {n : Nat} {F : Nat → Prop} {v : SV} {ns : List Nat} {ea : EA} {a : Act} {w : World} {β : Beta} {Y : Nat → Prop} (hs : SlotsOK c S h β Y w a) (hN : a.tmps.size = N) (hdef : DefOK c Y a.defers) (hnd : ∀ c, o.op ≠ .defer c)
 (k : OpOK c o a h n F β Y w v ns ea) {next : Act → World → Prop} {Q : Exit → Act → World → Prop} (hn : ∀ a' w', DenF c N (putS o.dst v (killE ea S)) (hE ns ea h n) (FE ea n F) a' w' → next a' w') : o.wpIn (FR c.ro) 0 c.E.P a w next Q := by
 refine wp_in hnd (k next Q fun u w' β' r => hn _ _ ⟨β', Y, r.mem, ⟨by rw [put_size']; exact hs.1, fun t => ?_⟩, by rw [put_size', hN], by rw [put_defers']; exact hdef⟩)
 rw [lk_put, slotv_put _ _ _ _ (by rw [hN]; exact hdN) hs.1]
 by_cases e : o.dst = some t
 · rw [if_pos e, if_pos e]; exact r.val
 · rw [if_neg e, if_neg e, lk_killE]; exact r.keep _ _ (hs.2 t)
theorem spV_nd {E : Env} {sl : Slots} {h : Heap} {n : Nat} {o : Op} {r : SV × EA} (k : spV E sl h n o = some r) : ∀ c, o ≠ .defer c := fun c e => by
 subst e; cases k
theorem eqNI_nd {E : Env} {sl : Slots} {o : Op} {r : SV} (k : eqNI E sl o = some r) : ∀ c, o ≠ .defer c := fun c e => by
 subst e; cases k
theorem qW_ok (ok : EnvOK c.E) {S : Slots} {h : Heap} {n : Nat} {F : Nat → Prop} {a : Act} {w : World} {o : Oper} {K : KE} (hd : ∀ d, o.dst = some d → d < N) (hK : qW c.E S h n o K) (hF : F n) (D : DenF c N S h F a w) :
 ∃ v ns ea, K v ns ea ∧ ∀ (next : Act → World → Prop) (Q : Exit → Act → World → Prop), (∀ a' w', DenF c N (putS o.dst v (killE ea S)) (hE ns ea h n) (FE ea n F) a' w' → next a' w') → o.wpIn (FR c.ro) 0 c.E.P a w next Q := by
 have D0 := D
 obtain ⟨β, Y, m, hs, hN, hdef⟩ := D
 unfold qW at hK
 split at hK
 · exact hK.elim
 split at hK
 · rename_i r hr
   exact ⟨_, _, _, hK, fun next Q hn => DenF.of_ok hd hs hN hdef (spV_nd hr) (spV_ok ok m hF (fun x => ev_ok m hs x) hr) hn⟩
 · split at hK
   · rename_i v hv
     exact ⟨_, _, _, hK, fun next Q hn => DenF.of_ok hd hs hN hdef (eqNI_nd hv) (eqNI_ok ok m (fun x => ev_ok m hs x) hv) hn⟩
   · obtain ⟨v, ns, ea, k, R⟩ := opQ_pf hK
     exact ⟨v, ns, ea, k, fun next Q hn => q_step ok hd R hF D0 hn⟩
theorem zW_sound (ok : EnvOK c.E) {all : List Oper} {o : Oper} {sl : Slots} {h : Heap} {n : Nat} {K : SK} (hK : zW c.E all o sl h n K) (hd : ∀ d, o.dst = some d → d < N) {a : Act} {w : World} (D : Den c N sl h n a w)
 {next : Act → World → Prop} {Q : Exit → Act → World → Prop} (hn : ∀ sl' h' n' a' w', K sl' h' n' → Den c N sl' h' n' a' w' → next a' w') : o.wpIn (FR c.ro) 0 c.E.P a w next Q := by
 have fin : ∀ {v : SV} {ea : EA}, (∀ c, o.op ≠ .defer c) → (∀ {β Y}, Mem c h (fun b => n ≤ b) β Y w → SlotsOK c sl h β Y w a → OpOK c o a h n (fun b => n ≤ b) β Y w v [] ea) → (app v [] ea o.dst sl h n fun sl h => K sl h (n + 1)) → o.wpIn (FR c.ro) 0 c.E.P a w next Q := by
  intro v ea hnd hk ha
  rw [app_iff] at ha
  obtain ⟨β, Y, m, hs, hN, hdef⟩ := D
  refine DenF.of_ok hd hs hN hdef hnd (hk m hs) fun a' w' D' => hn _ _ _ _ _ ha (D'.less fun b hb => ?_)
  have hb : n + 1 ≤ b := hb
  cases ea <;> first | (exact (show n ≤ b by omega)) | exact ⟨by omega, by omega⟩
 unfold zW at hK
 split at hK
 · rename_i r hr
   exact fin (spV_nd hr) (fun m hs => spV_ok ok m (Nat.le_refl n) (fun x => ev_ok m hs x) hr) hK
 · split at hK
   · rename_i v hv
     exact fin (eqNI_nd hv) (fun m hs => eqNI_ok ok m (fun x => ev_ok m hs x) hv) hK
   · exact opZ_sound ok hK hd D hn
theorem gW_sound (ok : EnvOK c.E) {ops : Array Oper} {i : Nat} {o : Oper} {sl : Slots} {h : Heap} {n : Nat} {K : SK} {a : Act} {w : World} {next : Act → World → Prop} {Q : Exit → Act → World → Prop} (hd : ∀ o ∈ ops.toList, ∀ d, o.dst = some d → d < N) (ho : ops[i]? = some o) (hK : gW c.E ops.toList o sl h n K) (D : Den c N sl h n a w)
 (hn : ∀ sl' h' n' a' w', K sl' h' n' → Den c N sl' h' n' a' w' → next a' w') : wpOpIn (FR c.ro) 0 c.E.P ops Q i next a w := by
 have hmem : o ∈ ops.toList := List.mem_of_getElem? (i := i) (by rw [Array.getElem?_toList]; exact ho)
 unfold gW at hK
 obtain ⟨sl', D', hw⟩ := grd_sound hd hK D rfl
 unfold wpOpIn
 rw [ho]
 simp only
 rcases hw with ⟨h1, h2⟩ | ⟨h1, h2⟩
 · rw [if_pos h1]
   exact zW_sound ok h2 (hd o hmem) D' hn
 · rw [if_neg (by rw [h1]; simp)]
   refine ⟨fun _ _ => trivial, ?_⟩
   refine hn (putS o.dst und sl') h n _ _ ?_ (D'.skip (hd o hmem))
   cases hdst : o.dst <;> simp only [hdst] at h2 <;> exact h2
theorem wlk_ok {E : Env} (ok : EnvOK E) : WlkOK E (wlk E) where
 qslots := fun {sl sl' h n o K} e hk => by
  have e2 := ev_tmps (E := E) e
  show qW E sl' h n o K
  have hk : qW E sl h n o K := hk
  unfold qW at hk ⊢
  cases hta : isTA o.op with
  | true => rw [hta] at hk; exact hk
  | false =>
  rw [hta] at hk
  simp only at hk ⊢
  rw [← spV_slots hta e2, ← eqNI_slots e2]
  split
  · rename_i r hr; rw [hr] at hk; exact hk
  · rename_i hr
    rw [hr] at hk
    simp only at hk
    split
    · rename_i v hv; rw [hv] at hk; exact hk
    · rename_i hv; rw [hv] at hk; exact opQ_slots e hk
 q := fun hE hd hk hF D => by subst hE; exact qW_ok ok hd hk hF D
 st := fun hE hd ho hk D hn => by subst hE; exact gW_sound ok hd ho hk D hn
def Cx.pnc (c : Cx) (v : Value) : Cx := { c with sh := fun k => if k = 999998 then v else c.sh k }
theorem memPan {c : Cx} {v : Value} {h : Heap} {F : Nat → Prop} {β : Beta} {Y : Nat → Prop} {w : World} (m : Mem c h F β Y w) : Mem (c.pnc v) h F β Y w :=
 ⟨m.fresh, m.blk, m.inj, m.own, m.yy, m.zz, m.size, m.frame, m.os, m.tape, m.output, m.gl⟩
theorem memUnpan {c : Cx} {v : Value} {h : Heap} {F : Nat → Prop} {β : Beta} {Y : Nat → Prop} {w : World} (m : Mem (c.pnc v) h F β Y w) : Mem c h F β Y w :=
 ⟨m.fresh, m.blk, m.inj, m.own, m.yy, m.zz, m.size, m.frame, m.os, m.tape, m.output, m.gl⟩
def pnE (v : Value) : List PanicEntry := [{ v := v, recovered := false }]
@[irreducible] def SemCallP (E : Env) (f : FuncId) (az : List SV) (sl : Slots) (h : Heap) (n : Nat) (K : SV → SK) (KP : SK) : Prop :=
 Callable E.P f ∧ ∀ (c : Cx) (a : Act) (w : World) (β : Beta) (Y : Nat → Prop) (us : Array Value), c.E = E → Mem c h (fun b => n ≤ b) β Y w → SlotsOK c sl h β Y w a → relL w (XX c.Z Y β h) az β us.toList →
  Calls E.P f us w fun e w' => (∃ u, e = .returned u ∧ ∃ r sl' h' n' β' Y', (∀ r, Y r → Y' r) ∧ K r sl' h' n' ∧ Mem c h' (fun b => n' ≤ b) β' Y' w' ∧ SlotsOK c sl' h' β' Y' w' a ∧ rel w' (XX c.Z Y' β' h') r β' u) ∨
   ∃ v, e = .panicked (pnE v) ∧ ∃ sl' h' n' β' Y', (∀ r, Y r → Y' r) ∧ KP sl' h' n' ∧ Mem c h' (fun b => n' ≤ b) β' Y' w' ∧ SlotsOK (c.pnc v) sl' h' β' Y' w' a
def panC (E : Env) (cl : Call) (sl : Slots) : Option (FuncId × List SV) := match cl.callee with
 | .value f => (match ev E sl f with
   | .fn g caps => (match memb g E.pan with | true => some (g, caps) | false => none)
   | _ => none)
 | _ => none
@[irreducible] def unB (g : Nat) : Nat := Nat.sub g 1000000
theorem fnV_un {f : Nat} (h : Nat.ble 1000000 f = true) (us : Array Value) : fnV f us = .func (.func (unB f)) us #[] := by
 rw [fnV_hi h]; unfold unB; rfl
def bndM (E : Env) (cl : Call) (sl : Slots) : Option (FuncId × List SV) := match cl.callee, cl.args.toList with
 | .value f, [] => (match ev E sl f with
   | .fn g caps => (match Nat.ble 1000000 g with | true => some (unB g, caps) | false => none)
   | _ => none)
 | _, _ => none
def opP1 (E : Env) (all : List Oper) (o : Oper) (sl : Slots) (h : Heap) (n : Nat) (K KP : SK) : Prop := match o.guard with
 | some _ => gW E all o sl h n K
 | none => match o.op with
   | .panic x => (match ev E sl x with
     | .ifc T vs => KP ((1999998, .ifc T vs) :: sl) h n
     | _ => False)
   | .call cl => (match panC E cl sl with
     | some (g, caps) => frcL (cl.args.toList.map (ev E sl)) fun az => (match noTup az with
       | true => SemCallP E g (az ++ caps) sl h n (fun r sl h n => match o.dst with
         | some d => K ((d, r) :: sl) h n
         | none => K sl h n) KP
       | false => False)
     | none => (match bndM E cl sl with
       | some (g, az) => SemCallP E g az sl h n (fun r sl h n => match o.dst with
         | some d => K ((d, r) :: sl) h n
         | none => K sl h n) KP
       | none => gW E all o sl h n K))
   | _ => gW E all o sl h n K
def opsP (E : Env) (all : List Oper) : List Oper → Slots → Heap → Nat → SK → SK → Prop
 | [], sl, h, n, K, _ => K sl h n
 | o :: r, sl, h, n, K, KP => match r with
   | [] => opP1 E all o sl h n K KP
   | o2 :: r2 => opP1 E all o sl h n (fun sl h n => opsP E all (o2 :: r2) sl h n K KP) KP
theorem opsP_cons {E : Env} {all : List Oper} {o : Oper} {r : List Oper} {sl : Slots} {h : Heap} {n : Nat} {K KP : SK} : opsP E all (o :: r) sl h n K KP = opP1 E all o sl h n (fun sl h n => opsP E all r sl h n K KP) KP := by cases r <;> rfl
theorem opP1_sound (ok : EnvOK c.E) {ops : Array Oper} {i : Nat} {o : Oper} {sl : Slots} {h : Heap} {n : Nat} {K KP : SK} {a : Act} {w : World} {next : Act → World → Prop} {Q : Exit → Act → World → Prop} (hd : ∀ o ∈ ops.toList, ∀ d, o.dst = some d → d < N) (ho : ops[i]? = some o) (hK : opP1 c.E ops.toList o sl h n K KP) (D : Den c N sl h n a w)
 (hn : ∀ sl' h' n' a' w', K sl' h' n' → Den c N sl' h' n' a' w' → next a' w') (hP : ∀ v sl' h' n' a' w', KP sl' h' n' → Den (c.pnc v) N sl' h' n' a' w' → Q (.panic (pnE v)) a' w') : wpOpIn (FR c.ro) 0 c.E.P ops Q i next a w := by
 unfold opP1 at hK
 split at hK
 · exact gW_sound ok hd ho hK D hn
 rename_i hg
 have hmem : o ∈ ops.toList := List.mem_of_getElem? (i := i) (by rw [Array.getElem?_toList]; exact ho)
 have hw : Region.wanted o (yielded ops a.tmps) = true := by unfold Region.wanted; rw [hg]
 split at hK
 · rename_i x hop
   split at hK
   case h_2 => exact hK.elim
   rename_i T vs hx
   unfold wpOpIn
   rw [ho]
   simp only
   rw [if_pos hw]
   obtain ⟨β, Y, m, hs, hN, hdef⟩ := D
   have hxr := ev_ok m hs x
   rw [hx] at hxr
   have hxp := relP_of_rel rfl (by simp) (by simp) hxr
   simp only [relP] at hxp
   obtain ⟨u, hu, hl⟩ := hxp
   simp only [List.cons.injEq, and_true] at hu
   refine wp_in (by intro c e; rw [hop] at e; cases e) ?_
   unfold Oper.wp
   have hr : (execOp a.eval o).run c.E.P w = .halt (.panic (.iface T u)) w := by
    simp only [execOp, hop, hu]
    rfl
   rw [hr]
   refine hP _ _ _ _ _ _ hK ⟨β, Y, memPan m, ⟨hs.1, fun t => ?_⟩, hN, hdef⟩
   simp only [lk]
   cases hb : Nat.beq 1999998 t with
   | true =>
     have := beq_of hb; subst this
     have hle : ¬ ((1999998 : Nat) ≤ 999999) := by omega
     simp only [slotv, hle, if_false, Cx.pnc, if_true]
     exact rel_of_relP rfl (by simp only [relP]; exact ⟨u, rfl, hl⟩)
   | false =>
     have hne := beq_ne hb
     have h0 := hs.2 t
     simp only [slotv] at h0 ⊢
     split
     · rename_i h; rw [if_pos h] at h0; exact h0
     · rename_i h
       rw [if_neg h] at h0
       have hne2 : ¬ t - 1000000 = 999998 := by omega
       simp only [Cx.pnc, hne2, if_false]
       exact h0
 · rename_i cl hop
   split at hK
   · rename_i g caps hpc
     unfold panC at hpc
     split at hpc
     case h_2 => cases hpc
     rename_i f hf
     split at hpc
     case h_2 => cases hpc
     rename_i g' caps' hgf
     split at hpc
     case h_2 => cases hpc
     cases hpc
     rw [frcL_eq] at hK
     split at hK
     case h_2 => exact hK.elim
     rename_i hnt
     unfold wpOpIn
     rw [ho]
     simp only
     rw [if_pos hw]
     obtain ⟨β, Y, m, hs, hN, hdef⟩ := D
     refine wp_in (by intro c e; rw [hop] at e; cases e) ?_
     unfold SemCallP at hK
     obtain ⟨⟨fn, hfn, hbody, hname⟩, hK⟩ := hK
     have hfun := ev_ok m hs f
     rw [hgf] at hfun
     obtain ⟨us, hfu, hcaps⟩ := rel_fn.1 hfun
     rw [fnV_lo (ok.fsz _ _ hfn)] at hfu
     have hargs := evL_ok (w := w) (X := XX c.Z Y β h) (β := β) (a := a) (E := c.E) (sl := sl) cl.args.toList (fun x _ => ev_ok m hs x) hnt
     have hr : (execOp a.eval o).run c.E.P w = .ok (.enter g (cl.args.map a.eval ++ us)) w := by
      simp only [execOp, hop, resolve, hf, hfu, Deferred.ofValue, Sem.run_bind, Sem.run_pure, Result.andThen_ok, invoke, callFunc, run_program, hfn]
      rw [if_neg (by rw [hname]; simp), if_neg (by simp [Option.isNone_iff_eq_none, Option.isSome_iff_ne_none.1 hbody])]
      simp
     unfold Oper.wp
     rw [hr, Oper.upon_enter]
     refine Calls.mono (hK c a w β Y ((cl.args.map a.eval) ++ us) rfl m hs (by simpa using relL_append hargs hcaps)) ?_
     rintro e w' (⟨u, rfl, r, sl', h', n', β', Y', hY, k, m', hs', hrel⟩ | ⟨v, rfl, sl', h', n', β', Y', hY, k, m', hs'⟩)
     · refine hn (putS o.dst r sl') h' n' _ _ ?_ ⟨β', Y', m', ⟨by rw [put_size']; exact hs'.1, fun t => ?_⟩, by rw [put_size', hN], by rw [put_defers']; exact hdef.mono hY⟩
       · cases hdd : o.dst <;> rw [hdd] at k <;> exact k
       · rw [lk_put, slotv_put _ _ _ _ (by rw [hN]; exact hd o hmem) hs'.1]
         by_cases e : o.dst = some t
         · rw [if_pos e, if_pos e]; exact hrel
         · rw [if_neg e, if_neg e]; exact hs'.2 t
     · exact hP v sl' h' n' a w' k ⟨β', Y', memPan m', hs', hN, hdef.mono hY⟩
   · split at hK
     case h_2 => exact gW_sound ok hd ho hK D hn
     rename_i g az hpc
     unfold bndM at hpc
     split at hpc
     case h_2 => cases hpc
     rename_i f hf hca
     split at hpc
     case h_2 => cases hpc
     rename_i g' caps' hgf
     split at hpc
     case h_2 => cases hpc
     rename_i hge
     obtain ⟨hgq, rfl⟩ := Prod.mk.inj (Option.some.inj hpc)
     unfold wpOpIn
     rw [ho]
     simp only
     rw [if_pos hw]
     obtain ⟨β, Y, m, hs, hN, hdef⟩ := D
     refine wp_in (by intro c e; rw [hop] at e; cases e) ?_
     unfold SemCallP at hK
     obtain ⟨⟨fn, hfn, hbody, hname⟩, hK⟩ := hK
     have hfun := ev_ok m hs f
     rw [hgf] at hfun
     obtain ⟨us, hfu, hcaps⟩ := rel_fn.1 hfun
     have hfu : a.eval f = .func (.func g) us #[] := by rw [← hgq]; exact hfu.trans (fnV_un hge us)
     have hca : cl.args = #[] := Array.toList_inj.1 hca
     have hr : (execOp a.eval o).run c.E.P w = .ok (.enter g us) w := by
      simp only [execOp, hop, resolve, hf, hfu, hca, Deferred.ofValue, Sem.run_bind, Sem.run_pure, Result.andThen_ok, invoke, callFunc, run_program, hfn]
      rw [if_neg (by rw [hname]; simp), if_neg (by simp [Option.isNone_iff_eq_none, Option.isSome_iff_ne_none.1 hbody])]
      simp
     unfold Oper.wp
     rw [hr, Oper.upon_enter]
     refine Calls.mono (hK c a w β Y us rfl m hs hcaps) ?_
     rintro e w' (⟨u, rfl, r, sl', h', n', β', Y', hY, k, m', hs', hrel⟩ | ⟨v, rfl, sl', h', n', β', Y', hY, k, m', hs'⟩)
     · refine hn (putS o.dst r sl') h' n' _ _ ?_ ⟨β', Y', m', ⟨by rw [put_size']; exact hs'.1, fun t => ?_⟩, by rw [put_size', hN], by rw [put_defers']; exact hdef.mono hY⟩
       · cases hdd : o.dst <;> rw [hdd] at k <;> exact k
       · rw [lk_put, slotv_put _ _ _ _ (by rw [hN]; exact hd o hmem) hs'.1]
         by_cases e : o.dst = some t
         · rw [if_pos e, if_pos e]; exact hrel
         · rw [if_neg e, if_neg e]; exact hs'.2 t
     · exact hP v sl' h' n' a w' k ⟨β', Y', memPan m', hs', hN, hdef.mono hY⟩
 · exact gW_sound ok hd ho hK D hn
theorem opsP_sound (ok : EnvOK c.E) {ops : Array Oper} (hd : ∀ o ∈ ops.toList, ∀ d, o.dst = some d → d < N) {Q : Exit → Act → World → Prop} {KP : SK} (hP : ∀ v sl' h' n' a' w', KP sl' h' n' → Den (c.pnc v) N sl' h' n' a' w' → Q (.panic (pnE v)) a' w') : ∀ (r pre : List Oper) (sl : Slots) (h : Heap) (n : Nat) (K : SK), ops.toList = pre ++ r → opsP c.E ops.toList r sl h n K KP → ∀ a w, Den c N sl h n a w →
 (∀ sl' h' n' a' w', K sl' h' n' → Den c N sl' h' n' a' w' → Q .normal a' w') → wpOpsIn (FR c.ro) 0 c.E.P ops Q (List.range' pre.length r.length) a w
 | [], pre, sl, h, n, K, _, hK, a, w, D, hn => hn _ _ _ _ _ hK D
 | o :: r, pre, sl, h, n, K, hl, hK, a, w, D, hn => by
   rw [opsP_cons] at hK
   have hoi : ops[pre.length]? = some o := by
    rw [← Array.getElem?_toList, hl]; simp
   rw [List.length_cons, List.range'_succ, wpOpsIn_cons]
   refine opP1_sound ok hd hoi hK D (fun sl' h' n' a' w' k D' => ?_) hP
   have := opsP_sound ok hd hP r (pre ++ [o]) sl' h' n' K (by simp [hl]) k a' w' D' hn
   simpa using this
end
end Go.Sx
