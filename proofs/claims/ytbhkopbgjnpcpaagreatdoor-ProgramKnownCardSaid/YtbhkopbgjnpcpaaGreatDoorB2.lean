/-
  THE EXECUTOR WITH PANICS: code, calls in place, functions. Generic: no program in sight. An own text.
-/
import Derived.Test.YtbhkopbgjnpcpaaGreatDoorB1
namespace Go.Sx
open Go.RowKit (Below)
def npK (K : KX) : KX := fun e sl h n => match e with
 | .panic _ => False
 | .outgrown => False
 | e => K e sl h n
def flRun (E : Env) (ops : List Oper) (sl : Slots) (h : Heap) (n : Nat) (K : SK) : Prop := FlX E (wlk E) ops (clsF ops []) (prtF ops (clsF ops []) ops.length 0) 0 sl h n K
def Env.wd (E : Env) : Wd := ⟨E.lend, E.nrT, E.pan⟩
def lstP (E : Env) (ops : List Oper) (m : Nat) (sl : Slots) (h : Heap) (n : Nat) (K KP : SK) : Prop := opsP E ops (ops.drop m) sl h n K KP
def regP (E : Env) (N : Nat) (cuts : List Nat) (id : Nat) (ops : Array Oper) : Bool → Slots → Heap → Nat → KX → Prop
 | true, sl, h, n, K => (match plnF E.wd ops.toList with
   | some p => flRun E p.ops sl h n fun sl h n => lstP E ops.toList p.m sl h n (fun sl h n => K .normal sl h n) fun sl h n => K (.panic []) sl h n
   | none => exec E N cuts (.region id ops true) sl h n (npK K))
 | false, sl, h, n, K => opsP E ops.toList ops.toList sl h n (fun sl h n => K .normal sl h n) fun sl h n => K (.panic []) sl h n
def exP (E : Env) (N : Nat) (cuts : List Nat) : Code → Slots → Heap → Nat → KX → Prop
 | .skip, sl, h, n, K => K .normal sl h n
 | .seq a b, sl, h, n, K => exP E N cuts a sl h n fun e sl h n => match e with
   | .normal => exP E N cuts b sl h n K
   | e => K e sl h n
 | .cond c a b, sl, h, n, K => match mtK cuts (meetB a b) with
   | false => brk (ev E sl c) (exP E N cuts a sl h n K) (exP E N cuts b sl h n K)
   | true => CutVC (fun K => brk (ev E sl c) (exP E N cuts a sl h n K) (exP E N cuts b sl h n K)) K
 | .block id b, sl, h, n, K => match memb id cuts with
   | false => exP E N cuts b sl h n fun e sl h n => (match e with
     | .exit i => (match Nat.beq i id with | true => K .normal sl h n | false => K (.exit i) sl h n)
     | e => K e sl h n)
   | true => CutVC (fun K => exP E N cuts b sl h n fun e sl h n => (match e with
     | .exit i => (match Nat.beq i id with | true => K .normal sl h n | false => K (.exit i) sl h n)
     | e => K e sl h n)) K
 | .exit i, sl, h, n, K => K (.exit i) sl h n
 | .ret, sl, h, n, K => K .ret sl h n
 | .region id ops d, sl, h, n, K => match mtK cuts (hasGd ops.toList) with
   | false => regP E N cuts id ops d sl h n K
   | true => CutVC (fun K => regP E N cuts id ops d sl h n K) K
 | .loop b, sl, h, n, K => LoopVC sl h n fun sl h n C => exP E N cuts b sl h n fun e sl h n => match e with
   | .normal => C sl h n
   | e => K e sl h n
 | .scope b, sl, h, n, K => exP E N cuts b sl h n fun e sl h n => match e with
   | .goto _ => False
   | e => K e sl h n
 | .label _, sl, h, n, K => K .normal sl h n
 | c, sl, h, n, K => exec E N cuts c sl h n (npK K)
def codeP (E : Env) (N : Nat) : Code → Prop
 | .seq a b => codeP E N a ∧ codeP E N b
 | .cond _ a b => codeP E N a ∧ codeP E N b
 | .block _ b => codeP E N b
 | .loop b => codeP E N b
 | .scope b => codeP E N b
 | .region id ops true => (match plnF E.wd ops.toList with
   | some _ => ∀ o ∈ ops.toList, ∀ d, o.dst = some d → d < N
   | none => codeOK E N (.region id ops true))
 | .region _ ops false => ∀ o ∈ ops.toList, ∀ d, o.dst = some d → d < N
 | c => codeOK E N c
section
variable {c : Cx} {N : Nat}
structure Ends (c : Cx) (N : Nat) (K : KX) (Q : Exit → Act → World → Prop) : Prop where
 q : ∀ e sl h n a w, (∀ ch, e ≠ .panic ch) → K e sl h n → Den c N sl h n a w → Q e a w
 p : ∀ v sl h n a w, K (.panic []) sl h n → Den (c.pnc v) N sl h n a w → Q (.panic (pnE v)) a w
theorem Ends.np {K : KX} {Q : Exit → Act → World → Prop} (k : Ends c N K Q) : ∀ e sl' h' n' a' w', npK K e sl' h' n' → Den c N sl' h' n' a' w' → Q e a' w' := by
 intro e sl h n a w hk D
 cases e with
 | panic ch => exact hk.elim
 | outgrown => exact hk.elim
 | _ => exact k.q _ _ _ _ _ _ (by simp) hk D
theorem Ends.cut {K : KX} {Q : Exit → Act → World → Prop} (k : Ends c N K Q) : Ends c N (fun e sl' h' n' => ∃ sl h n, SubX sl' h' n' sl h n ∧ K e sl h n) Q := by
 refine ⟨fun e sl h n a w hne hk D => ?_, fun v sl h n a w hk D => ?_⟩
 · obtain ⟨sl2, h2, n2, hs, hk⟩ := hk
   unfold SubX at hs
   exact k.q _ _ _ _ _ _ hne hk (hs _ _ _ _ D)
 · obtain ⟨sl2, h2, n2, hs, hk⟩ := hk
   unfold SubX at hs
   exact k.p _ _ _ _ _ _ hk (hs _ _ _ _ D)
theorem regP_sound (ok : EnvOK c.E) {cuts : List Nat} {id : Nat} {ops : Array Oper} {d : Bool} {sl : Slots} {h : Heap} {n : Nat} {K : KX} (hK : regP c.E N cuts id ops d sl h n K) (hc : codeP c.E N (.region id ops d)) (hr : c.ro = none ∧ c.nm = false ∨ rfB (.region id ops d) = false) {a : Act} {w : World} (D : Den c N sl h n a w)
 {Q : Exit → Act → World → Prop} (hQ : Ends c N K Q) : (Code.region id ops d).wpIn (FR c.ro) 0 c.E.P Q a w := by
 cases d with
 | true =>
   simp only [regP] at hK
   simp only [codeP] at hc
   split at hK
   · rename_i p e
     rw [e] at hc
     obtain ⟨pm, hf, hm⟩ := plnF_ok e
     unfold flRun at hK
     obtain ⟨A, HA⟩ := fl_core (ops := p.ops.toArray) ok (wlk_ok ok) hf (pm_dst pm hc) hK D
     refine pm_tail (T := fun t sl h n => opsP c.E ops.toList (ops.toList.drop t) sl h n (fun sl h n => K .normal sl h n) fun sl h n => K (.panic []) sl h n) ok pm HA (fun k h1 h2 => ?_) (fun t h1 h2 sl' h' n' a' w' next k D' hn => ?_) fun sl' h' n' a' w' k D' => ?_
     · rw [hm] at h1
       exact lstF_ok k h1 (by rw [Array.length_toList]; exact h2)
     · have hlt : t < ops.toList.length := by rw [Array.length_toList]; exact h2
       have k : opsP c.E ops.toList (ops.toList.drop t) sl' h' n' (fun sl h n => K .normal sl h n) fun sl h n => K (.panic []) sl h n := k
       rw [List.drop_eq_getElem_cons hlt, opsP_cons] at k
       exact opP1_sound ok hc (by rw [Array.getElem?_eq_getElem h2]; simp) k D' hn fun v sl2 h2 n2 a2 w2 k2 D2 => hQ.p v _ _ _ _ _ k2 D2
     · have k : opsP c.E ops.toList (ops.toList.drop ops.size) sl' h' n' (fun sl h n => K .normal sl h n) fun sl h n => K (.panic []) sl h n := k
       rw [List.drop_eq_nil_of_le (by rw [Array.length_toList]; exact Nat.le_refl _)] at k
       exact hQ.q _ _ _ _ _ _ (by simp) k D'
   · rename_i e
     rw [e] at hc
     exact exec_sound ok _ sl h n _ hK hc hr a w D Q hQ.np
 | false =>
   simp only [regP] at hK
   simp only [codeP] at hc
   refine wpIn_region ?_
   have := opsP_sound ok hc (Q := Q) (fun v sl' h' n' a' w' k D' => hQ.p v _ _ _ _ _ k D') ops.toList [] sl h n _ (by simp) hK a w D fun sl' h' n' a' w' k D' => hQ.q _ _ _ _ _ _ (by simp) k D'
   simpa [List.range_eq_range'] using this
theorem exP_sound (ok : EnvOK c.E) {cuts : List Nat} : ∀ (code : Code) (sl : Slots) (h : Heap) (n : Nat) (K : KX), exP c.E N cuts code sl h n K → codeP c.E N code → (c.ro = none ∧ c.nm = false ∨ rfB code = false) → ∀ (a : Act) (w : World), Den c N sl h n a w →
 ∀ Q : Exit → Act → World → Prop, Ends c N K Q → code.wpIn (FR c.ro) 0 c.E.P Q a w
 | .skip, sl, h, n, K, hK, _, _, a, w, D, Q, hQ => by
   simp only [exP] at hK
   exact wpIn_skip (hQ.q _ _ _ _ _ _ (by simp) hK D)
 | .exit i, sl, h, n, K, hK, _, _, a, w, D, Q, hQ => by
   simp only [exP] at hK
   exact wpIn_exit (hQ.q _ _ _ _ _ _ (by simp) hK D)
 | .ret, sl, h, n, K, hK, _, _, a, w, D, Q, hQ => by
   simp only [exP] at hK
   exact wpIn_ret (hQ.q _ _ _ _ _ _ (by simp) hK D)
 | .label _, sl, h, n, K, hK, _, _, a, w, D, Q, hQ => by
   simp only [exP] at hK
   exact wpIn_label (hQ.q _ _ _ _ _ _ (by simp) hK D)
 | .seq x y, sl, h, n, K, hK, hc, hr, a, w, D, Q, hQ => by
   simp only [exP] at hK
   refine wpIn_seq (exP_sound ok x sl h n _ hK hc.1 (rf_seq1 hr) a w D _ ⟨fun e sl' h' n' a' w' hne k D' => ?_, fun v sl' h' n' a' w' k D' => hQ.p v _ _ _ _ _ k D'⟩)
   cases e with
   | normal => exact exP_sound ok y sl' h' n' K k hc.2 (rf_seq2 hr) a' w' D' Q hQ
   | _ => exact hQ.q _ _ _ _ _ _ hne k D'
 | .cond x c1 c2, sl, h, n, K, hK, hc, hr, a, w, D, Q, hQ => by
   have go : ∀ K' : KX, brk (ev c.E sl x) (exP c.E N cuts c1 sl h n K') (exP c.E N cuts c2 sl h n K') → Ends c N K' Q → (Code.cond x c1 c2).wpIn (FR c.ro) 0 c.E.P Q a w := by
    intro K' hK' hQ'
    have D0 := D
    obtain ⟨β, Y, m, hs, _⟩ := D0
    obtain ⟨t, ht, h1, h2⟩ := brk_sound hK' (ev_ok m hs x)
    refine wpIn_cond_split ht (fun e => ?_) (fun e => ?_)
    · exact exP_sound ok c1 sl h n K' (h1 e) hc.1 (rf_seq1 hr) a w D Q hQ'
    · exact exP_sound ok c2 sl h n K' (h2 e) hc.2 (rf_seq2 hr) a w D Q hQ'
   simp only [exP] at hK
   split at hK
   · exact go K hK hQ
   · unfold CutVC at hK
     exact go _ hK hQ.cut
 | .block id b, sl, h, n, K, hK, hc, hr, a, w, D, Q, hQ => by
   have go : ∀ K' : KX, (exP c.E N cuts b sl h n fun e sl h n => (match e with
    | .exit i => (match Nat.beq i id with | true => K' .normal sl h n | false => K' (.exit i) sl h n)
    | e => K' e sl h n)) → Ends c N K' Q → (Code.block id b).wpIn (FR c.ro) 0 c.E.P Q a w := by
    intro K' hK' hQ'
    refine wpIn_block (exP_sound ok b sl h n _ hK' hc hr a w D _ ⟨fun e sl' h' n' a' w' hne k D' => ?_, fun v sl' h' n' a' w' k D' => hQ'.p v _ _ _ _ _ k D'⟩)
    cases e with
    | exit i =>
      simp only at k
      simp only [Exit.inBlock]
      cases hb : Nat.beq i id with
      | true => simp only [hb] at k; rw [if_pos (beq_of hb)]; exact hQ'.q _ _ _ _ _ _ (by simp) k D'
      | false => simp only [hb] at k; rw [if_neg (beq_ne hb)]; exact hQ'.q _ _ _ _ _ _ (by simp) k D'
    | _ => exact hQ'.q _ _ _ _ _ _ hne k D'
   simp only [exP] at hK
   split at hK
   · exact go K hK hQ
   · unfold CutVC at hK
     exact go _ hK hQ.cut
 | .region id ops d, sl, h, n, K, hK, hc, hr, a, w, D, Q, hQ => by
   simp only [exP] at hK
   split at hK
   · exact regP_sound ok hK hc hr D hQ
   · unfold CutVC at hK
     exact regP_sound ok hK hc hr D hQ.cut
 | .loop b, sl, h, n, K, hK, hc, hr, a, w, D, Q, hQ => by
   simp only [exP] at hK
   unfold LoopVC at hK
   refine loopWp_loop ?_
   refine hK (fun sl h n => ∀ a w, Den c N sl h n a w → LoopWp c.ro c.E.P b Q a w) ?_ ?_ ?_ a w D
   · intro sl h n hB a w D
     refine loopWp_step (exP_sound ok b sl h n _ hB hc hr a w D _ ⟨fun e sl' h' n' a' w' hne k D' => ?_, fun v sl' h' n' a' w' k D' => hQ.p v _ _ _ _ _ k D'⟩)
     cases e with
     | normal => exact k a' w' D'
     | _ => exact hQ.q _ _ _ _ _ _ hne k D'
   · intro sl h n sl' h' n' hs hI a w D'
     unfold SubX at hs
     exact hI a w (hs _ _ _ _ D')
   · intro sl sl' h n hs hI a w D'
     exact hI a w (D'.fewer hs)
 | .scope b, sl, h, n, K, hK, hc, hr, a, w, D, Q, hQ => by
   simp only [exP] at hK
   refine wpIn_scope_straight (exP_sound ok b sl h n _ hK hc hr a w D _ ⟨fun e sl' h' n' a' w' hne k D' => ?_, fun v sl' h' n' a' w' k D' => hQ.p v _ _ _ _ _ k D'⟩)
   cases e with
   | goto l => exact k.elim
   | _ => exact hQ.q _ _ _ _ _ _ hne k D'
 | .goto _, sl, h, n, K, hK, hc, hr, a, w, D, Q, hQ => exec_sound ok _ sl h n _ hK hc hr a w D Q hQ.np
 | .refuse _, sl, h, n, K, hK, hc, hr, a, w, D, Q, hQ => exec_sound ok _ sl h n _ hK hc hr a w D Q hQ.np
 | .rangeFunc .., sl, h, n, K, hK, hc, hr, a, w, D, Q, hQ => exec_sound ok _ sl h n _ hK hc hr a w D Q hQ.np
theorem leave_marksU {c : Cx} {sl : Slots} {h : Heap} {F : Nat → Prop} {a : Act} {n : Nat} {fn : Func} {R : Ending → World → Prop} {bt : List Deferred} {u : FrameMode} (hu : u ≠ .run) : ∀ (Ds : List Nat) (β : Beta) (Y Y1 : Nat → Prop) (w : World), Mem c h F β Y w → SlotsOK c sl h β Y w a → Ds.Nodup → (∀ D ∈ Ds, Y D) → (∀ r, Y1 r → Y r ∧ r ∉ Ds) →
 (∀ Y' w', Mem c h F β Y' w' → SlotsOK c sl h β Y' w' a → (∀ r, Y1 r → Y' r) → LeavesInM Fence.wide n c.E.P fn a.tmps R bt u w') → LeavesInM Fence.wide n c.E.P fn a.tmps R (marks Ds ++ bt) u w
 | [], β, Y, Y1, w, m, hs, _, _, hY, hk => hk Y w m hs fun r hr => (hY r hr).1
 | D :: Ds, β, Y, Y1, w, m, hs, hnd, hD, hY, hk => by
   obtain ⟨h1, h2⟩ := List.nodup_cons.1 hnd
   have hD' := hD D (by simp)
   obtain ⟨m', e⟩ := m.unY hD' (.deferred none)
   refine ⟨hu, .inl ⟨D, World.put w D (.deferred none), rfl, run_takeDeferred (m.yy D hD').1, ?_⟩⟩
   refine leave_marksU hu Ds β _ Y1 _ m' ⟨hs.1, fun t => rel_ext e (nms_true (fun _ _ k => k) _) (hs.2 t)⟩ h2 (fun D' hD2 => ⟨hD D' (by simp [hD2]), fun e => h1 (e ▸ hD2)⟩) (fun r hr => ?_) hk
   obtain ⟨g1, g2⟩ := hY r hr
   simp at g2
   exact ⟨⟨g1, g2.1⟩, g2.2⟩
theorem body_endP {fn : Func} {sl : Slots} {h : Heap} {n : Nat} {a : Act} {w : World} {ch : List PanicEntry} (hbot : c.bot = []) (D : Den c N sl h n a w) {R : Ending → World → Prop}
 (k : ∀ β Y w', Mem c h (fun b => n ≤ b) β Y w' → SlotsOK c sl h β Y w' a → (∀ r, c.Y0 r → Y r) → R (.panicked ch) w') : LeavesInM Fence.wide 0 c.E.P fn a.tmps R a.defers (.panicking ch) w := by
 obtain ⟨β, Y, m, hs, hN, h0, Ds, hds, hnd, hDs, _⟩ := D
 rw [hds, hbot]
 refine leave_marksU (by simp) Ds β Y c.Y0 w m hs hnd (fun D hD => (hDs D hD).1) (fun r hr => ⟨h0 r hr, fun hD => (hDs r hD).2 hr⟩) fun Y' w' m' hs' hY' => ?_
 exact k β Y' w' m' hs' hY'
end
def pnOut (sl : Slots) (h : Heap) (n : Nat) (KP : SK) : Prop := frc (lk sl 1999998) fun x => unSK sl fun sl4 => KP ((1999998, x) :: (999998, .any) :: sl4) h n
def endX (K1 K2 : SK) : KX := fun e sl h n => match e with
 | .normal | .ret => K1 sl h n
 | .panic _ => K2 sl h n
 | _ => False
def bodyK (E : Env) (N : Nat) (cuts : List Nat) (c : Code) (sl : Slots) (h : Heap) (n : Nat) (K1 K2 : SK) : Prop := match memb 999997 cuts with
 | true => CutVC (fun K => exP E N cuts c sl h n (endX (K .normal) (K (.panic [])))) (endX K1 K2)
 | false => exP E N cuts c sl h n (endX K1 K2)
theorem bodyK_nil {E : Env} {N : Nat} {c : Code} {sl : Slots} {h : Heap} {n : Nat} {K1 K2 : SK} (k : exP E N [] c sl h n (endX K1 K2)) : bodyK E N [] c sl h n K1 K2 := k
theorem bodyK_sound {c : Cx} {N : Nat} (ok : EnvOK c.E) {cuts : List Nat} {code : Code} {sl : Slots} {h : Heap} {n : Nat} {K1 K2 : SK} (hK : bodyK c.E N cuts code sl h n K1 K2) (hc : codeP c.E N code) (hr : c.ro = none ∧ c.nm = false) {a : Act} {w : World} (D : Den c N sl h n a w)
 {Q : Exit → Act → World → Prop} (h1 : ∀ e sl' h' n' a' w', (e = .normal ∨ e = .ret) → K1 sl' h' n' → Den c N sl' h' n' a' w' → Q e a' w') (h2 : ∀ v sl' h' n' a' w', K2 sl' h' n' → Den (c.pnc v) N sl' h' n' a' w' → Q (.panic (pnE v)) a' w') : code.wpIn (FR c.ro) 0 c.E.P Q a w := by
 have go : ∀ K1 K2 : SK, (∀ e sl' h' n' a' w', (e = .normal ∨ e = .ret) → K1 sl' h' n' → Den c N sl' h' n' a' w' → Q e a' w') → (∀ v sl' h' n' a' w', K2 sl' h' n' → Den (c.pnc v) N sl' h' n' a' w' → Q (.panic (pnE v)) a' w') → exP c.E N cuts code sl h n (endX K1 K2) → code.wpIn (FR c.ro) 0 c.E.P Q a w := by
  intro K1 K2 h1 h2 hx
  refine exP_sound ok code sl h n _ hx hc (.inl hr) a w D Q ⟨fun e sl' h' n' a' w' hne k D' => ?_, fun v sl' h' n' a' w' k D' => h2 v _ _ _ _ _ k D'⟩
  cases e with
  | normal => exact h1 _ _ _ _ _ _ (.inl rfl) k D'
  | ret => exact h1 _ _ _ _ _ _ (.inr rfl) k D'
  | panic ch => exact absurd rfl (hne ch)
  | _ => exact k.elim
 unfold bodyK at hK
 split at hK
 · unfold CutVC at hK
   refine go _ _ (fun e sl' h' n' a' w' he k D' => ?_) (fun v sl' h' n' a' w' k D' => ?_) hK
   · obtain ⟨sl2, h3, n2, hs, k⟩ := k
     unfold SubX at hs
     exact h1 _ _ _ _ _ _ he k (hs _ _ _ _ D')
   · obtain ⟨sl2, h3, n2, hs, k⟩ := k
     unfold SubX at hs
     exact h2 _ _ _ _ _ _ k (hs _ _ _ _ D')
 · exact go _ _ h1 h2 hK
def inP (E : Env) (fn : Func) (cuts : List Nat) (code : Code) (az : List SV) (sl : Slots) (h : Heap) (n : Nat) (K : SV → SK) (KP : SK) : Prop :=
 shSK sl fun sl1 => ini az 0 sl1 fun sl2 => bodyK E fn.ntmps cuts code sl2 h n (fun sl3 h3 n3 => resI E fn sl3 h3 fun r => unSK sl3 fun sl4 => K r sl4 h3 n3) fun sl3 h3 n3 => pnOut sl3 h3 n3 KP
theorem pnc_sh {c : Cx} {v : Value} (k : Nat) : (c.pnc v).sh k = if k = 999998 then v else c.sh k := rfl
theorem slotsPan {c : Cx} {a a' : Act} {Y Y2 : Nat → Prop} {v : Value} {sl : Slots} {h : Heap} {β : Beta} {w : World} (ha : a.tmps.size ≤ 1000000) (hs : SlotsOK ((cxIn c a Y none).pnc v) sl h β Y2 w a') : SlotsOK (c.pnc v) ((1999998, lk sl 1999998) :: (999998, .any) :: unS sl) h β Y2 w a := by
 refine ⟨ha, fun t => ?_⟩
 rw [lk_cons, lk_cons]
 by_cases e1 : 1999998 = t
 · subst e1
   rw [if_pos rfl]
   have := hs.2 1999998
   have hle : ¬ ((1999998 : Nat) ≤ 999999) := by omega
   simp only [slotv, hle, if_false, Cx.pnc, if_true] at this ⊢
   exact this
 · rw [if_neg e1]
   by_cases e2 : 999998 = t
   · rw [if_pos e2]; exact rel_any
   · rw [if_neg e2, lk_unS]
     have := hs.2 (t + 1000000)
     have hle : ¬ (t + 1000000 ≤ 999999) := by omega
     have hne : ¬ t = 999998 := fun h => e2 h.symm
     have e3 : slotv ((cxIn c a Y none).pnc v) a' (t + 1000000) = slotv c a t := by
      unfold slotv
      rw [if_neg hle, Nat.add_sub_cancel]
      rw [pnc_sh, if_neg hne]
      rfl
     have e4 : slotv (c.pnc v) a t = slotv c a t := by
      unfold slotv
      by_cases hl : t ≤ 999999
      · rw [if_pos hl, if_pos hl]
      · rw [if_neg hl, if_neg hl]
        have : ¬ t - 1000000 = 999998 := by omega
        rw [pnc_sh, if_neg this]
     rw [e3] at this
     rw [e4]
     exact this
theorem enterS {c : Cx} {a : Act} {w : World} {fn : Func} {az : List SV} {us : Array Value} {sl sl2 : Slots} {h : Heap} {β : Beta} {Y : Nat → Prop} (hN : fn.ntmps ≤ 1000000) (hargs : az.length ≤ fn.ntmps) (hs : SlotsOK c sl h β Y w a) (hus : relL w (XX c.Z Y β h) az β us.toList)
 (h1 : ∀ t, 0 ≤ t → t < 0 + az.length → lk sl2 t = az.getD (t - 0) .any) (h2 : ∀ t, (t < 0 ∨ 0 + az.length ≤ t) → lk sl2 t = lk (shS sl) t) : SlotsOK (cxIn c a Y none) sl2 h β Y w { tmps := us ++ Array.replicate (fn.ntmps - us.size) undef, defers := [] } ∧ (us ++ Array.replicate (fn.ntmps - us.size) undef).size = fn.ntmps := by
 obtain ⟨hlen, hget⟩ := relL_get hus
 have hsize : us.size = az.length := by rw [← Array.length_toList]; exact hlen.symm
 refine ⟨slotsIn hs (by simp; omega) (fun t hle => ?_) (fun t ht => h2 t (by omega)), by simp; omega⟩
 by_cases ht : t < az.length
 · rw [h1 t (by omega) (by omega)]
   have := hget t ht
   have hu : (us ++ Array.replicate (fn.ntmps - us.size) undef).getD t undef = us.toList.getD t undef := by
    rw [Array.getD_eq_getD_getElem?, Array.getElem?_append_left (by omega)]
    simp
   show rel w _ _ β ((us ++ Array.replicate (fn.ntmps - us.size) undef).getD t undef)
   rw [hu]
   simpa using relV_rel this
 · rw [h2 t (by omega), lk_shS_lo hle]
   exact trivial
theorem inlineP {E : Env} (ok : EnvOK E) {f : FuncId} {fn : Func} {code : Code} {cuts : List Nat} {az : List SV} {sl : Slots} {h : Heap} {n : Nat} {K : SV → SK} {KP : SK} (hf : E.P.funcs[f]? = some fn) (hb : fn.body = some code) (hname : (fn.name == "runtime.NumGoroutine") = false)
 (hargs : az.length ≤ fn.ntmps) (hN : fn.ntmps ≤ 1000000) (hc : codeP E fn.ntmps code) (hx : inP E fn cuts code az sl h n K KP) : SemCallP E f az sl h n K KP := by
 unfold SemCallP
 refine ⟨⟨fn, hf, by rw [hb]; rfl, hname⟩, ?_⟩
 intro c a w β Y us hE m hs hus
 subst hE
 unfold inP at hx
 rw [shSK_eq] at hx
 obtain ⟨sl2, hx, h1, h2⟩ := ini_ok az 0 _ hx
 have hen := enterS hN hargs hs hus h1 h2
 have D : Den (cxIn c a Y none) fn.ntmps sl2 h n { tmps := us ++ Array.replicate (fn.ntmps - us.size) undef, defers := [] } w := ⟨β, Y, memIn m, hen.1, hen.2, .nil fun _ h => h⟩
 refine callsIn_wide.1 (callsIn_of_wp_marks (n := 0) hf hb trivial (bodyK_sound (c := cxIn c a Y none) ok hx hc ⟨rfl, rfl⟩ D (fun e sl' h' n' a' w' he k D' => ?_) fun v sl' h' n' a' w' k D' => ?_))
 · have fin : (resI c.E fn sl' h' fun r => unSK sl' fun sl4 => K r sl4 h' n') → bodyPostM Fence.wide 0 c.E.P fn (fun e w' => (∃ u, e = .returned u ∧ ∃ r sl' h' n' β' Y', (∀ r, Y r → Y' r) ∧ K r sl' h' n' ∧ Mem c h' (fun b => n' ≤ b) β' Y' w' ∧ SlotsOK c sl' h' β' Y' w' a ∧ rel w' (XX c.Z Y' β' h') r β' u) ∨
    ∃ v, e = .panicked (pnE v) ∧ ∃ sl' h' n' β' Y', (∀ r, Y r → Y' r) ∧ KP sl' h' n' ∧ Mem c h' (fun b => n' ≤ b) β' Y' w' ∧ SlotsOK (c.pnc v) sl' h' β' Y' w' a) .ret a' w' := by
    intro hres
    refine body_end (c := cxIn c a Y none) rfl D' fun β2 Y2 w2 m2 hs2 hY2 => ?_
    obtain ⟨r, v, k1, k2, k3⟩ := resI_ok (c := cxIn c a Y none) ok m2 hs2 hres
    rw [unSK_eq] at k1
    exact ⟨v, k2, .inl ⟨v, rfl, r, _, h', n', β2, Y2, hY2, k1, memOut m2, slotsOut (Y1 := Y) hs.1 hs2, k3⟩⟩
   rcases he with rfl | rfl <;> exact fin k
 · have k : pnOut sl' h' n' KP := k
   unfold pnOut at k
   rw [frc_eq, unSK_eq] at k
   have hbe := fun (R : Ending → World → Prop) => body_endP (c := (cxIn c a Y none).pnc v) (fn := fn) (ch := pnE v) (R := R) rfl D'
   refine hbe _ fun β2 Y2 w2 m2 hs2 hY2 => .inr ⟨v, rfl, _, h', n', β2, Y2, hY2, k, memOut (memUnpan m2), slotsPan hs.1 hs2⟩
theorem sem_of_semP {E : Env} {f : FuncId} {az : List SV} {sl : Slots} {h : Heap} {n : Nat} {K : SV → SK} (hx : SemCallP E f az sl h n K fun _ _ _ => False) : SemCall E f az sl h n K := by
 unfold SemCallP at hx
 unfold SemCall
 refine ⟨hx.1, fun c a w β Y us hE m hs hus => (hx.2 c a w β Y us hE m hs hus).mono ?_⟩
 rintro e w' (h1 | ⟨v, _, _, _, _, _, _, _, h1, _⟩)
 · exact h1
 · exact h1.elim
end Go.Sx
