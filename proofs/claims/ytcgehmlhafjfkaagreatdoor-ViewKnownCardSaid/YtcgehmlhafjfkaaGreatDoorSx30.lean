/-
  CALLS WITH THE CALLER'S BLOCKS IN THE CALLEE'S HANDS: in place; by a contract. Generic: no program in sight. An own text.
-/
import Derived.Test.YtcgehmlhafjfkaaGreatDoorSx29
namespace Go.Sx
open Go.RowKit (Below)

theorem lk_cons (i : Nat) (v : SV) (r : Slots) (t : Nat) : lk ((i, v) :: r) t = if i = t then v else lk r t := by
  simp only [lk]
  by_cases e : i = t
  · subst e; simp
  · rw [beq_false e, if_neg e]
theorem lk_shS_lo {s : Slots} {t : Nat} (h : t ≤ 999999) : lk (shS s) t = .any := by
  induction s with
  | nil => rfl
  | cons x r ih =>
    obtain ⟨i, v⟩ := x
    simp only [shS]
    rw [lk_cons, if_neg (by omega)]
    exact ih
theorem lk_shS_hi {s : Slots} {t : Nat} : lk (shS s) (t + 1000000) = lk s t := by
  induction s with
  | nil => rfl
  | cons x r ih =>
    obtain ⟨i, v⟩ := x
    simp only [shS]
    rw [lk_cons, lk_cons, ih]
    by_cases e : i = t
    · rw [if_pos e, if_pos (by omega)]
    · rw [if_neg e, if_neg (by omega)]
theorem lk_unS {s : Slots} {t : Nat} : lk (unS s) t = lk s (t + 1000000) := by
  induction s with
  | nil => rfl
  | cons x r ih =>
    obtain ⟨i, v⟩ := x
    simp only [unS]
    split
    · rename_i e
      rw [Nat.ble_eq] at e
      rw [lk_cons, if_neg (by omega)]
      exact ih
    · rename_i e
      have : ¬ i ≤ 999999 := by rw [← Nat.ble_eq, e]; simp
      rw [lk_cons, lk_cons, ih]
      by_cases e : i = t + 1000000
      · rw [if_pos e, if_pos (by omega)]
      · rw [if_neg e, if_neg (by omega)]

theorem resLI_ok {c : Cx} (ok : EnvOK c.E) {sl : Slots} {h : Heap} {F : Nat → Prop} {β : Beta} {Y : Nat → Prop} {w : World} {a : Act} (m : Mem c h F β Y w) (hs : SlotsOK c sl h β Y w a) :
    ∀ (l : List ResultVar) (K : List SV → Prop), resLI c.E sl h l K → ∃ vs us, K vs ∧ (resRun a l).run c.E.P w = .ok us w ∧ vs.length = us.length ∧ ∀ (i : Nat) (v : SV) (u : Value), vs[i]? = some v → us[i]? = some u → rel w (XX c.Z Y β h) v β u
  | [], K, hK => ⟨[], [], hK, by simp [resRun], rfl, fun i v u h => by simp at h⟩
  | .tmp t :: r, K, hK => by
    simp only [resLI, frc_eq] at hK
    obtain ⟨vs, us, q1, q2, q3, q4⟩ := resLI_ok ok m hs r _ hK
    refine ⟨_ :: vs, a.tmps.getD t undef :: us, q1, ?_, by simp [q3], fun i v u h1 h2 => ?_⟩
    · simp only [resRun] at q2 ⊢
      simp only [List.mapM_cons, Sem.run_bind, Sem.run_pure, Result.andThen_ok]
      rw [q2]
      rfl
    · cases i with
      | zero =>
        simp only [List.getElem?_cons_zero, Option.some.injEq] at h1 h2
        subst h1; subst h2; exact ev_ok m hs (.tmp t)
      | succ i => exact q4 i v u (by simpa using h1) (by simpa using h2)
  | .cell t T :: r, K, hK => by
    simp only [resLI] at hK
    have hK' : opE c.E sl h 0 (.load T (.tmp t)) (fun v _ _ => resLI c.E sl h r fun vs => K (v :: vs)) := hK
    obtain ⟨v, u, ad, k0, hu, k5, k6⟩ := load_val ok m hK' (ev_ok m hs (.tmp t))
    obtain ⟨vs, us, q1, q2, q3, q4⟩ := resLI_ok ok m hs r _ k0
    refine ⟨v :: vs, u :: us, q1, ?_, by simp [q3], fun i v' u' h1 h2 => ?_⟩
    · simp only [resRun] at q2 ⊢
      have ha : asAddr (.pointer (some ad)) = pure ad := rfl
      replace hu : a.tmps.getD t undef = .pointer (some ad) := hu
      simp only [List.mapM_cons, Sem.run_bind, hu, ha, Sem.run_pure, Result.andThen_ok, k5]
      rw [q2]
      rfl
    · cases i with
      | zero => simp at h1 h2; subst h1; subst h2; exact k6
      | succ i => exact q4 i v' u' (by simpa using h1) (by simpa using h2)

theorem relL_of {w : World} {X : Nat → Prop} {β : Beta} : ∀ {vs : List SV} {us : List Value}, vs.length = us.length → noTup vs = true → (∀ (i : Nat) (v : SV) (u : Value), vs[i]? = some v → us[i]? = some u → rel w X v β u) → relL w X vs β us
  | [], us, h, _, _ => by rw [relL_nil]; exact List.length_eq_zero_iff.1 (by simpa using h.symm)
  | v :: r, [], h, _, _ => by simp at h
  | v :: r, u :: us, h, hn, k => by
    obtain ⟨h1, h2⟩ := noTup_cons hn
    rw [relL_cons]
    refine ⟨u, us, rfl, ?_, relL_of (by simpa using h) h2 fun i v' u' g1 g2 => k (i + 1) v' u' (by simpa using g1) (by simpa using g2)⟩
    have := k 0 v u (by simp) (by simp)
    rw [rel_eq h1] at this
    exact this

/-- how a body ends, by the executor's word -/
theorem resI_ok {c : Cx} (ok : EnvOK c.E) {fn : Func} {sl : Slots} {h : Heap} {F : Nat → Prop} {β : Beta} {Y : Nat → Prop} {w : World} {a : Act} (m : Mem c h F β Y w) (hs : SlotsOK c sl h β Y w a) {K : SV → Prop} (hK : resI c.E fn sl h K) :
    ∃ r v, K r ∧ (results fn a.tmps).run c.E.P w = .ok v w ∧ rel w (XX c.Z Y β h) r β v := by
  unfold resI at hK
  obtain ⟨vs, us', k1, k2, k3, k4⟩ := resLI_ok ok m hs fn.results.toList _ hK
  have k2' : (fn.results.mapM fun
      | .tmp t => pure (a.tmps.getD t undef)
      | .cell x t => do loadVar t (← asAddr (a.tmps.getD x undef)) : Sem (Array Value)).run c.E.P w = .ok us'.toArray w := by
    rw [Array.mapM_eq_mapM_toList, Sem.run_map]
    have k2'' := k2
    simp only [resRun] at k2''
    exact (congrArg (fun r => r.andThen fun (a : List Value) w'' => Result.ok a.toArray w'') k2'')
  have k5 : (results fn a.tmps).run c.E.P w = (Result.ok us'.toArray w).andThen fun (a : Array Value) w'' => (pure (if h : a.size = 1 then a[0] else Value.tuple a) : Sem Value).run c.E.P w'' := by
    unfold results
    rw [Sem.run_bind]
    exact (congrArg (fun r => r.andThen fun (a : Array Value) w'' => (pure (if h : a.size = 1 then a[0] else Value.tuple a) : Sem Value).run c.E.P w'') k2')
  split at k1
  · rename_i v
    match us', k3, k4, k5 with
    | [u], k3, k4, k5 => exact ⟨v, u, k1, by rw [k5]; simp only [Result.andThen_ok, Sem.run_pure]; rfl, k4 0 v u rfl rfl⟩
  · rename_i hne
    split at k1
    case h_2 => exact k1.elim
    rename_i hnt
    have hne1 : us'.length ≠ 1 := by
      intro e1
      have e2 := k3.trans e1
      obtain ⟨v, rfl⟩ := List.length_eq_one_iff.1 e2
      exact hne v rfl
    refine ⟨.tup vs, .tuple us'.toArray, k1, by rw [k5]; simp [hne1], us'.toArray, rfl, ?_⟩
    simpa using relL_of k3 hnt k4

/-- the callee's context: its slots are the frame's, the caller's lie beyond a million -/
def cxIn (c : Cx) (a : Act) (Y : Nat → Prop) (ro : Option Nat) : Cx := { c with sh := slotv c a, ro := ro, Y0 := Y }

theorem memIn {c : Cx} {h : Heap} {F : Nat → Prop} {β : Beta} {Y Y0 : Nat → Prop} {w : World} {a : Act} {ro : Option Nat} (m : Mem c h F β Y w) : Mem (cxIn c a Y0 ro) h F β Y w :=
  ⟨m.fresh, m.blk, m.inj, m.own, m.yy, m.zz, m.size, m.frame, m.os, m.tape, m.output, m.gl⟩
theorem memOut {c : Cx} {h : Heap} {F : Nat → Prop} {β : Beta} {Y Y0 : Nat → Prop} {w : World} {a : Act} {ro : Option Nat} (m : Mem (cxIn c a Y0 ro) h F β Y w) : Mem c h F β Y w :=
  ⟨m.fresh, m.blk, m.inj, m.own, m.yy, m.zz, m.size, m.frame, m.os, m.tape, m.output, m.gl⟩
theorem slotsOut {c : Cx} {sl : Slots} {h : Heap} {β : Beta} {Y Y0 Y1 : Nat → Prop} {w : World} {a a' : Act} {ro : Option Nat} (ha : a.tmps.size ≤ 1000000) (hs : SlotsOK (cxIn c a Y0 ro) sl h β Y w a') : SlotsOK c (unS sl) h β Y w a := by
  refine ⟨ha, fun t => ?_⟩
  rw [lk_unS]
  have := hs.2 (t + 1000000)
  unfold slotv at this
  rw [if_neg (by omega), Nat.add_sub_cancel] at this
  exact this
theorem slotsIn {c : Cx} {sl sl2 : Slots} {h : Heap} {β : Beta} {Y Y0 : Nat → Prop} {w : World} {a a' : Act} {ro : Option Nat} (hs : SlotsOK c sl h β Y w a) (ha : a'.tmps.size ≤ 1000000) (h1 : ∀ t, t ≤ 999999 → rel w (XX c.Z Y β h) (lk sl2 t) β (a'.tmps.getD t undef)) (h2 : ∀ t, 999999 < t → lk sl2 t = lk (shS sl) t) :
    SlotsOK (cxIn c a Y0 ro) sl2 h β Y w a' := by
  refine ⟨ha, fun t => ?_⟩
  by_cases hle : t ≤ 999999
  · unfold slotv
    rw [if_pos hle]
    exact h1 t hle
  · rw [h2 t (by omega)]
    obtain ⟨t', rfl⟩ : ∃ t', t = t' + 1000000 := ⟨t - 1000000, by omega⟩
    rw [lk_shS_hi]
    unfold slotv
    rw [if_neg hle, Nat.add_sub_cancel]
    exact hs.2 t'

/-- A CALL IN PLACE: the callee's text is walked where it is called. -/
theorem inline {E : Env} (ok : EnvOK E) {f : FuncId} {fn : Func} {code : Code} {cuts : List Nat} {as : List SV} {sl : Slots} {h : Heap} {n : Nat} {K : SV → Slots → Heap → Nat → Prop} (hf : E.P.funcs[f]? = some fn) (hb : fn.body = some code) (hname : (fn.name == "runtime.NumGoroutine") = false)
    (hargs : as.length ≤ fn.ntmps) (hN : fn.ntmps ≤ 1000000) (hc : codeOK E fn.ntmps code)
    (hx : shSK sl fun sl1 => ini as 0 sl1 fun sl2 => exec E fn.ntmps cuts code sl2 h n fun e sl3 h3 n3 => match e with
      | .normal | .ret => resI E fn sl3 h3 fun r => unSK sl3 fun sl4 => K r sl4 h3 n3
      | _ => False) : SemCall E f as sl h n K := by
  unfold SemCall
  refine ⟨⟨fn, hf, by rw [hb]; rfl, hname⟩, ?_⟩
  intro c a w β Y us hE m hs hus
  subst hE
  obtain ⟨hlen, hget⟩ := relL_get hus
  rw [shSK_eq] at hx
  obtain ⟨sl2, hx, h1, h2⟩ := ini_ok as 0 _ hx
  have hsize : us.size = as.length := by rw [← Array.length_toList]; exact hlen.symm
  have D : Den (cxIn c a Y none) fn.ntmps sl2 h n { tmps := us ++ Array.replicate (fn.ntmps - us.size) undef, defers := [] } w := by
    refine ⟨β, Y, memIn m, slotsIn hs (by simp; omega) (fun t hle => ?_) (fun t ht => h2 t (by omega)), by simp; omega, .nil fun _ h => h⟩
    by_cases ht : t < as.length
    · rw [h1 t (by omega) (by omega)]
      have := hget t ht
      have hu : (us ++ Array.replicate (fn.ntmps - us.size) undef).getD t undef = us.toList.getD t undef := by
        rw [Array.getD_eq_getD_getElem?, Array.getElem?_append_left (by omega)]
        simp
      show rel w _ _ β ((us ++ Array.replicate (fn.ntmps - us.size) undef).getD t undef)
      rw [hu]
      simpa using relV_rel this
    · rw [h2 t (by omega), lk_shS_lo hle]
      exact trivial
  refine callsIn_wide.1 (callsIn_of_wp_marks (n := 0) hf hb trivial (exec_sound (c := cxIn c a Y none) ok code sl2 h n _ hx hc (.inl rfl) _ w D _ ?_))
  intro e sl' h' n' a' w' k D'
  have fin : (resI c.E fn sl' h' fun r => unSK sl' fun sl4 => K r sl4 h' n') → LeavesInM Fence.wide 0 c.E.P fn a'.tmps (fun e w' => ∃ u, e = .returned u ∧ ∃ r sl' h' n' β' Y', (∀ r, Y r → Y' r) ∧ K r sl' h' n' ∧ Mem c h' (fun b => n' ≤ b) β' Y' w' ∧ SlotsOK c sl' h' β' Y' w' a ∧ rel w' (XX c.Z Y' β' h') r β' u) a'.defers .returning w' := by
    intro hres
    refine body_end (c := cxIn c a Y none) D' fun β2 Y2 w2 m2 hs2 hY2 => ?_
    obtain ⟨r, v, k1, k2, k3⟩ := resI_ok (c := cxIn c a Y none) ok m2 hs2 hres
    rw [unSK_eq] at k1
    exact ⟨v, k2, v, rfl, r, _, h', n', β2, Y2, hY2, k1, memOut m2, slotsOut (Y1 := Y) hs.1 hs2, k3⟩
  cases e with
  | normal => exact fin k
  | ret => exact fin k
  | _ => exact k.elim

/-- the loop's variables, set -/
def parS : List Nat → List SV → Slots → (Slots → Prop) → Prop
  | [], [], sl, K => K sl
  | t :: ts, v :: vs, sl, K => frc v fun v => parS ts vs ((t, v) :: sl) K
  | _, _, _, _ => False

theorem parS_ok {K : Slots → Prop} {w : World} {X : Nat → Prop} {β : Beta} : ∀ (ts : List Nat) (vs : List SV) (sl : Slots) (tmps : Array Value) (us : List Value), parS ts vs sl K → (∀ t ∈ ts, t < tmps.size) → relL w X vs β us → (∀ t, t ≤ 999999 → rel w X (lk sl t) β (tmps.getD t undef)) →
    ∃ sl', K sl' ∧ (∀ t, t ≤ 999999 → rel w X (lk sl' t) β (((ts.zip us).foldl (fun tmps (t, a) => tmps.setIfInBounds t a) tmps).getD t undef)) ∧ (∀ t, t ∉ ts → lk sl' t = lk sl t) ∧ ((ts.zip us).foldl (fun tmps (t, a) => tmps.setIfInBounds t a) tmps).size = tmps.size ∧ ts.length = us.length
  | [], [], sl, tmps, us, hk, _, hr, h => by
    rw [relL_nil] at hr; subst hr
    exact ⟨sl, hk, h, fun _ _ => rfl, rfl, rfl⟩
  | t :: ts, v :: vs, sl, tmps, us, hk, hlt, hr, h => by
    rw [relL_cons] at hr
    obtain ⟨u, us', rfl, h1, h2⟩ := hr
    simp only [parS, frc_eq] at hk
    have ht := hlt t (by simp)
    obtain ⟨sl', g1, g2, g3, g4, g5⟩ := parS_ok ts vs ((t, v) :: sl) (tmps.setIfInBounds t u) us' hk (fun t' h' => by rw [Array.size_setIfInBounds]; exact hlt t' (by simp [h'])) h2 (fun t' ht' => by
      rw [lk_cons]
      by_cases e : t = t'
      · subst e
        rw [if_pos rfl]
        simpa [ht] using relV_rel h1
      · rw [if_neg e]
        have := h t' ht'
        rw [Array.getD_eq_getD_getElem?] at this ⊢
        rw [Array.getElem?_setIfInBounds_ne e]
        exact this)
    refine ⟨sl', g1, g2, fun t' ht' => ?_, by simpa using g4, by simp [g5]⟩
    rw [g3 t' (fun h => ht' (by simp [h])), lk_cons, if_neg (by rintro rfl; simp at ht')]
  | [], _ :: _, _, _, _, hk, _, _, _ => hk.elim
  | _ :: _, [], _, _, _, hk, _, _, _ => hk.elim

/-- what a round's end leaves in the record -/
def endQ (q : Lp) : Exit → Option Lp
  | .normal => some { q with st := .ready, pend := none }
  | .ret => some { q with st := .done, pend := some .ret }
  | .exit i => some { q with st := .done, pend := some (.exit i) }
  | _ => none

def ltAll (N : Nat) : List Nat → Bool
  | [] => true
  | t :: r => match Nat.blt t N with | true => ltAll N r | false => false
theorem ltAll_ok {N : Nat} : ∀ {l : List Nat}, ltAll N l = true → ∀ t ∈ l, t < N
  | t :: r, h, t', ht => by
    simp only [ltAll] at h
    split at h
    · rename_i e
      rcases List.mem_cons.1 ht with rfl | ht
      · simpa using e
      · exact ltAll_ok h t' ht
    · cases h

def stIs : LoopState → LoopState → Bool
  | .ready, .ready | .busy, .busy => true
  | _, _ => false

/-- the slots of a round: those of the record, and those of the frames that wait -/
def loAp : Slots → Slots → Slots
  | [], r => r
  | (t, v) :: s, r => match Nat.ble t 999999 with
    | true => (t, v) :: loAp s r
    | false => loAp s r
def loApK {R : Sort _} : Slots → Slots → (Slots → R) → R
  | [], r, K => K r
  | (t, v) :: s, r, K => match Nat.ble t 999999 with
    | true => loApK s r fun r => K ((t, v) :: r)
    | false => loApK s r K
theorem loApK_eq {R : Sort _} (s r : Slots) (K : Slots → R) : loApK s r K = K (loAp s r) := by
  induction s generalizing K with
  | nil => rfl
  | cons x s ih =>
    obtain ⟨t, v⟩ := x
    simp only [loApK, loAp]
    split <;> simp only [ih]
theorem lk_loAp_lo {s r : Slots} {t : Nat} (h : t ≤ 999999) (hr : lk r t = .any) : lk (loAp s r) t = lk s t := by
  induction s with
  | nil => exact hr
  | cons x s ih =>
    obtain ⟨i, v⟩ := x
    simp only [loAp]
    split
    · rw [lk_cons, lk_cons, ih]
    · rename_i e
      have : ¬ i ≤ 999999 := by rw [← Nat.ble_eq, e]; simp
      rw [lk_cons, if_neg (by omega), ih]
theorem lk_loAp_hi {s r : Slots} {t : Nat} (h : 999999 < t) : lk (loAp s r) t = lk r t := by
  induction s with
  | nil => rfl
  | cons x s ih =>
    obtain ⟨i, v⟩ := x
    simp only [loAp]
    split
    · rename_i e
      rw [Nat.ble_eq] at e
      rw [lk_cons, if_neg (by omega), ih]
    · exact ih

/-- does the name still stand for the record? -/
def sameL (v : SV) (b : Nat) : Bool := match v with
  | .yld b' => Nat.beq b' b
  | _ => false
theorem sameL_ok {v : SV} {b : Nat} (h : sameL v b = true) : v = .yld b := by
  cases v <;> simp only [sameL] at h <;> first | cases h | (rw [beq_of h])

/-- A ROUND IN PLACE. -/
def yieldX (E : Env) (cuts : List Nat) (b : Nat) (as : List SV) (sl : Slots) (h : Heap) (n : Nat) (K : SV → Slots → Heap → Nat → Prop) : Prop :=
  match lkB h b with
  | some (.gho q s) => (match q.dead, ltAll q.N q.ps.toList, Nat.ble q.N 999999 with
    | false, true, true => shSK sl fun sl1 => loApK s sl1 fun sl1 => parS q.ps.toList as sl1 fun sl2 => exec E q.N cuts q.asg ((1999999, .yld b) :: sl2) h n fun e sl3 h3 n3 => match e with
      | .normal => (match lkB h3 b with
        | some (.gho q3 s3) => (match stIs q3.st .ready, q3.dead, sameL (lk sl3 1999999) b with
          | true, false, true => stK h3 b (.gho { q3 with st := .busy } s3) fun h4 => exec E q.N cuts q.body sl3 h4 n3 fun e sl5 h5 n5 => (match lkB h5 b with
            | some (.gho q5 s5) => (match q5.dead, endQ q5 e, sameL (lk sl5 1999999) b with
              | false, some q6, true => stK h5 b (.gho q6 s5) fun h6 => unSK sl5 fun sl6 => K (match e with | .normal => .tru | _ => .fls) ((999999, .any) :: sl6) h6 n5
              | _, _, _ => False)
            | _ => False)
          | _, _, _ => False)
        | _ => False)
      | _ => False
    | _, _, _ => False)
  | _ => False

def cxRd (c : Cx) (a : Act) (Y : Nat → Prop) (l : Nat) : Cx := { c with sh := fun t => if t = 999999 then .func (.yield l) #[] #[] else slotv c a t, ro := some l, Y0 := Y }

theorem rd_l {c : Cx} {a a' : Act} {Y0 Y : Nat → Prop} {l b : Nat} {sl : Slots} {h : Heap} {β : Beta} {w : World} (hs : SlotsOK (cxRd c a Y0 l) sl h β Y w a') (hb : lk sl 1999999 = .yld b) {l' : Loc} (hl : β b = some l') : l'.r = l := by
  have := hs.2 1999999
  rw [hb] at this
  have hle : ¬ ((1999999 : Nat) ≤ 999999) := by omega
  simp only [slotv, hle, if_false] at this
  have h2 := relP_of_rel rfl (by simp) (by simp) this
  simp only [relP] at h2
  obtain ⟨l2, hl2, h3⟩ := h2
  rw [hl] at hl2; cases hl2
  simp only [cxRd, if_pos, List.cons.injEq, and_true, Value.func.injEq, Fn.yield.injEq] at h3
  omega

theorem rd_sh {c : Cx} {a : Act} {Y : Nat → Prop} {l t : Nat} (h : t ≠ 999999) : (cxRd c a Y l).sh t = slotv c a t := if_neg h
theorem rd_slot {c : Cx} {a a' : Act} {Y : Nat → Prop} {l t : Nat} (h : t ≠ 999999) : slotv (cxRd c a Y l) a' (t + 1000000) = slotv c a t := by
  have h1 : ¬ (t + 1000000 ≤ 999999) := by omega
  rw [← rd_sh (Y := Y) (l := l) h]
  unfold slotv
  rw [if_neg h1, Nat.add_sub_cancel]
theorem memRd {c : Cx} {h : Heap} {F : Nat → Prop} {β : Beta} {Y Y0 : Nat → Prop} {w : World} {a : Act} {l : Nat} (m : Mem c h F β Y w) : Mem (cxRd c a Y0 l) h F β Y w :=
  ⟨m.fresh, m.blk, m.inj, m.own, m.yy, m.zz, m.size, m.frame, m.os, m.tape, m.output, m.gl⟩
theorem memRdOut {c : Cx} {h : Heap} {F : Nat → Prop} {β : Beta} {Y Y0 : Nat → Prop} {w : World} {a : Act} {l : Nat} (m : Mem (cxRd c a Y0 l) h F β Y w) : Mem c h F β Y w :=
  ⟨m.fresh, m.blk, m.inj, m.own, m.yy, m.zz, m.size, m.frame, m.os, m.tape, m.output, m.gl⟩

theorem stIs_ready {s : LoopState} (h : stIs s .ready = true) : s = .ready := by cases s <;> simp_all [stIs]

theorem yield_inline {E : Env} (ok : EnvOK E) {cuts : List Nat} {b : Nat} {q : Lp} {s : Slots} {as : List SV} {sl : Slots} {h : Heap} {n : Nat} {K : SV → Slots → Heap → Nat → Prop} (hq : lkB h b = some (.gho q s)) (hc1 : codeOK E q.N q.asg) (hc2 : codeOK E q.N q.body)
    (hr1 : rfB q.asg = false) (hr2 : rfB q.body = false) (hx : yieldX E cuts b as sl h n K) : SemYield E b as sl h n K := by
  unfold SemYield
  intro c a w β Y us l hE m hs hus hl
  subst hE
  unfold yieldX at hx
  simp only [hq] at hx
  split at hx
  case h_2 => exact hx.elim
  rename_i hdead hlt hNle
  rw [Nat.ble_eq] at hNle
  obtain ⟨l', hl', hok⟩ := m.blk b _ hq
  rw [hl] at hl'; cases hl'
  obtain ⟨fn, tmps, D, hrec, htm, hslots⟩ := hok.resolve_left (by rw [hdead]; simp)
  rw [shSK_eq, loApK_eq] at hx
  obtain ⟨sl2, hx, g1, g2, g3, g4⟩ := parS_ok (w := w) (X := XX c.Z Y β h) (β := β) q.ps.toList as _ tmps us.toList hx (fun t ht => by rw [htm]; exact ltAll_ok hlt t ht) hus (fun t ht => by
    rw [lk_loAp_lo ht (lk_shS_lo ht)]; exact hslots t ht)
  have hps : us.size = q.ps.size := by rw [← Array.length_toList, ← Array.length_toList, g4]
  obtain ⟨tm, htmE⟩ : ∃ tm : Array Value, ((q.ps.zip us).foldl (fun tmps (t, a) => tmps.setIfInBounds t a) tmps) = tm := ⟨_, rfl⟩
  have htmL : ((q.ps.toList.zip us.toList).foldl (fun tmps (t, a) => tmps.setIfInBounds t a) tmps) = tm := by
    rw [← htmE, ← Array.foldl_toList, Array.toList_zip]
  rw [htmL] at g1 g3
  have hy := run_yield (P := c.E.P) (args := us) hrec hps
  simp only [htmE] at hy
  refine ⟨fn, tm, q.asg, q.body, hy, roundIn_of_wpIn (F := Fence.wide) trivial ?_⟩
  have hle : ¬ ((1999999 : Nat) ≤ 999999) := by omega
  have D1 : Den (cxRd c a Y l.r) q.N ((1999999, .yld b) :: sl2) h n { tmps := tm, defers := [] } w := by
    refine ⟨β, Y, memRd m, ⟨by show tm.size ≤ _; rw [g3, htm]; omega, fun t => ?_⟩, by rw [← htm, ← g3], .nil fun _ h => h⟩
    rw [lk_cons]
    by_cases e : 1999999 = t
    · subst e
      rw [if_pos rfl]
      simp only [slotv, hle, if_false, cxRd, if_pos]
      exact rel_of_relP rfl ⟨l, hl, rfl⟩
    · rw [if_neg e]
      by_cases ht : t ≤ 999999
      · unfold slotv
        rw [if_pos ht]
        exact g1 t ht
      · have hni : t ∉ q.ps.toList := fun hm => by have := ltAll_ok hlt t hm; omega
        rw [g2 t hni, lk_loAp_hi (by omega)]
        unfold slotv
        rw [if_neg ht]
        obtain ⟨t', rfl⟩ : ∃ t', t = t' + 1000000 := ⟨t - 1000000, by omega⟩
        rw [lk_shS_hi, Nat.add_sub_cancel]
        have hne : t' ≠ 999999 := by omega
        show rel w _ _ β (if t' = 999999 then _ else slotv c a t')
        rw [if_neg hne]
        exact hs.2 t'
  refine exec_sound (c := cxRd c a Y l.r) ok q.asg _ h n _ hx hc1 (.inr hr1) _ w D1 _ ?_
  intro e sl3 h3 n3 a1 w1 k D3
  cases e with
  | normal =>
    simp only at k
    split at k
    case h_2 => exact k.elim
    rename_i q3 s3 hq3
    split at k
    case h_2 => exact k.elim
    rename_i hst3 hd3 hsm3
    rw [stK_eq] at k
    have hy3 := sameL_ok hsm3
    obtain ⟨β3, Y3, m3, hs3, hN3, hdef3⟩ := D3
    obtain ⟨l3, hl3, hok3⟩ := m3.blk b _ hq3
    have hlr3 := rd_l hs3 hy3 hl3
    obtain ⟨fn3, tmps3, D', hrec3, htm3, hslots3⟩ := hok3.resolve_left (by rw [hd3]; simp)
    obtain ⟨m4, e4⟩ := Mem.set m3 (k := .gho { q3 with st := .busy } s3) (o' := .loop { state := .busy, pending := q3.pend, fn := fn3, tmps := tmps3, params := q3.ps, assign := q3.asg, body := q3.body, defers := D' }) hq3 hl3
      (live_gho (by rw [hd3]; simp)) (live_gho (q := { q3 with st := .busy }) (by show ¬ q3.dead = true; rw [hd3]; simp)) hrec3 (fun e hh => .inr ⟨fn3, tmps3, D', hh, htm3, fun t ht => rel_ext e (nms_true (fun _ _ k => k) _) (hslots3 t ht)⟩)
    have hbeg := run_beginRound (P := c.E.P) (w := w1) hrec3 (stIs_ready hst3)
    rw [hlr3] at hbeg m4 e4
    refine ⟨_, hbeg, ?_⟩
    have D4 : Den (cxRd c a Y l.r) q.N sl3 (stB h3 b (.gho { q3 with st := .busy } s3)) n3 a1 (World.put w1 l.r (.loop { state := .busy, pending := q3.pend, fn := fn3, tmps := tmps3, params := q3.ps, assign := q3.asg, body := q3.body, defers := D' })) :=
      ⟨β3, Y3, m4, ⟨hs3.1, fun t => rel_ext e4 (nms_true (fun _ _ k => k) _) (hs3.2 t)⟩, hN3, hdef3⟩
    refine exec_sound (c := cxRd c a Y l.r) ok q.body _ _ n3 _ k hc2 (.inr hr2) _ _ D4 _ ?_
    intro e sl5 h5 n5 a5 w5 k D5
    split at k
    case h_2 => exact k.elim
    rename_i q5 s5 hq5
    split at k
    case h_2 => exact k.elim
    rename_i q6 hd5 heq hsm5
    rw [stK_eq, unSK_eq] at k
    have hy5 := sameL_ok hsm5
    obtain ⟨β5, Y5, m5, hs5, hN5, h05, _⟩ := D5
    obtain ⟨l5, hl5, hok5⟩ := m5.blk b _ hq5
    have hlr5 := rd_l hs5 hy5 hl5
    obtain ⟨fn5, tmps5, D'', hrec5, htm5, hslots5⟩ := hok5.resolve_left (by rw [hd5]; simp)
    have fin : ∀ (jump : Option Code) (v : SV), q6 = { q5 with st := if jump.isNone then .ready else .done, pend := jump } → (v = if jump.isNone then .tru else .fls) → K v ((999999, .any) :: unS sl5) (stB h5 b (.gho q6 s5)) n5 →
        ∃ u w', (Instr.endRound l.r jump).run c.E.P w5 = .ok u w' ∧ (∃ u', Ending.returned u = .returned u' ∧ ∃ r sl' h' n' β' Y', (∀ r, Y r → Y' r) ∧ K r sl' h' n' ∧ Mem c h' (fun b => n' ≤ b) β' Y' w' ∧ SlotsOK c sl' h' β' Y' w' a ∧ rel w' (XX c.Z Y' β' h') r β' u') := by
      intro jump v hq6 hv hk
      have hend := run_endRound (P := c.E.P) (w := w5) jump hrec5
      have hd6 : ¬ q6.dead = true := by rw [hq6]; show ¬ q5.dead = true; rw [hd5]; simp
      obtain ⟨m6, e6⟩ := Mem.set m5 (k := .gho q6 s5) (o' := .loop { state := if jump.isNone then .ready else .done, pending := jump, fn := fn5, tmps := tmps5, params := q5.ps, assign := q5.asg, body := q5.body, defers := D'' }) hq5 hl5
        (live_gho (by rw [hd5]; simp)) (live_gho hd6) hrec5 (fun e hh => .inr ⟨fn5, tmps5, D'', by rw [hq6]; exact hh, by rw [hq6]; exact htm5, fun t ht => rel_ext e (nms_true (fun _ _ k => k) _) (hslots5 t ht)⟩)
      rw [hlr5] at hend m6 e6
      refine ⟨_, _, hend, _, rfl, v, _, _, n5, β5, Y5, h05, hk, memRdOut m6, ⟨hs.1, fun t => ?_⟩, ?_⟩
      · rw [lk_cons]
        by_cases et : 999999 = t
        · rw [if_pos et]; exact trivial
        · rw [if_neg et, lk_unS]
          have := rel_ext e6 (nms_true (fun _ _ k => k) _) (hs5.2 (t + 1000000))
          rw [rd_slot (Ne.symm et)] at this
          exact this
      · rw [hv]
        cases jump with
        | none => exact rel_tru.2 rfl
        | some j => exact rel_fls.2 rfl
    cases e with
    | normal => cases heq; exact fin none .tru rfl rfl k
    | ret => cases heq; exact fin (some .ret) .fls rfl rfl k
    | exit i => cases heq; exact fin (some (.exit i)) .fls rfl rfl k
    | _ => cases heq
  | _ => exact k.elim
end Go.Sx
