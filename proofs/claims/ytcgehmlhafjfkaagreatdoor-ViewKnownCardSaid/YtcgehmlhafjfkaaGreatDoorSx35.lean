/-
  CLOSED RUNS ARE RUNS OF THE EXECUTOR: code, calls, rounds. Generic: no program in sight. An own text.
-/
import Derived.Test.YtcgehmlhafjfkaaGreatDoorSx34
namespace Go.Sx

/-- what is asked of a run below -/
inductive Rq where
  | ret (f : FuncId) (as : List SV)
  | sem (f : FuncId) (as : List SV) (sl : Slots) (h : Heap) (n : Nat) (K : SV → Slots → Heap → Nat → Rt)
  | yld (b : Nat) (as : List SV) (sl : Slots) (h : Heap) (n : Nat) (K : SV → Slots → Heap → Nat → Rt)

abbrev KXC := Exit → Slots → Heap → Nat → Rt

def appC (v : SV) (ns : List Nat) (a : EA) (d : Option Nat) (sl : Slots) (h : Heap) (n : Nat) (K : Slots → Heap → Rt) : Rt :=
  iceK ns h fun h =>
  match a with
  | .nil => (match d with | some d => K ((d, v) :: sl) h | none => K sl h)
  | .new k => (match d with | some d => K ((d, v) :: sl) ((n, k) :: h) | none => K sl ((n, k) :: h))
  | .set b k => stK h b k fun h => (match d with | some d => K ((d, v) :: sl) h | none => K sl h)
  | .app b k => killSK b sl fun sl => killHK b h fun h => stK h b k fun h => (match d with | some d => K ((d, v) :: sl) h | none => K sl h)
theorem app_c {r : SV} {v : SV} {ns : List Nat} {a : EA} {d : Option Nat} {sl : Slots} {h : Heap} {n : Nat} {K : Slots → Heap → Rt} {K' : Slots → Heap → Prop} (hk : appC v ns a d sl h n K = some r) (g : ∀ s h, K s h = some r → K' s h) : app v ns a d sl h n K' := by
  unfold appC at hk
  unfold app
  rw [iceK_eq] at hk ⊢
  cases a <;> cases d <;> simp only [stK_eq, killSK_eq, killHK_eq] at hk ⊢ <;> exact g _ _ hk

def grdC (all : List Oper) (g : Option (Nat × Bool)) (sl : Slots) (Kyes Kno : Slots → Rt) : Rt :=
  match g with
  | none => Kyes sl
  | some (j, want) => match all[j]? with
    | some o => (match o.dst with
      | some d => (match lk sl d with
        | .tru => (match want with | true => Kyes sl | false => Kno sl)
        | .fls => (match want with | true => Kno sl | false => Kyes sl)
        | .bool b => (match b with
          | true => (match want with | true => Kyes ((d, .tru) :: sl) | false => Kno ((d, .tru) :: sl))
          | false => (match want with | true => Kno ((d, .fls) :: sl) | false => Kyes ((d, .fls) :: sl)))
        | .tup [] => Kno sl
        | _ => none)
      | none => none)
    | none => none
theorem grd_c {r : SV} {all : List Oper} {g : Option (Nat × Bool)} {sl : Slots} {Ky Kn : Slots → Rt} {Ky' Kn' : Slots → Prop} (hk : grdC all g sl Ky Kn = some r) (g1 : ∀ s, Ky s = some r → Ky' s) (g2 : ∀ s, Kn s = some r → Kn' s) : grd all g sl Ky' Kn' := by
  unfold grdC at hk
  unfold grd
  split at hk
  · exact g1 _ hk
  · split at hk
    case h_2 => cases hk
    rename_i e1
    split at hk
    case h_2 => cases hk
    rename_i e2
    simp only [e1, e2]
    split at hk
    · rename_i e3; simp only [e3]; split at hk <;> first | exact g1 _ hk | exact g2 _ hk
    · rename_i e3; simp only [e3]; split at hk <;> first | exact g1 _ hk | exact g2 _ hk
    · rename_i b e3
      simp only [e3]
      split at hk <;> split at hk <;> first
        | exact ⟨fun _ => g1 _ hk, fun h => (by cases h)⟩
        | exact ⟨fun h => (by cases h), fun _ => g2 _ hk⟩
    · rename_i e3; simp only [e3]; exact g2 _ hk
    · cases hk

def opsXC (E : Env) (CR : FuncId → List SV → Rt) (all : List Oper) : List Oper → Slots → Heap → Nat → (Slots → Heap → Nat → Rt) → Rt
  | [], sl, h, n, K => K sl h n
  | o :: r, sl, h, n, K => grdC all o.guard sl (fun sl => opC E CR sl h n o.op fun v ns a => appC v ns a o.dst sl h n fun sl h => opsXC E CR all r sl h (n + 1) K)
    (fun sl => match o.dst with
      | some d => opsXC E CR all r ((d, und) :: sl) h (n + 1) K
      | none => opsXC E CR all r sl h (n + 1) K)
theorem opsX_c {r : SV} {E : Env} {CR : FuncId → List SV → Rt} (hCR : ∀ f args r, CR f args = some r → Ret E f args r) {all : List Oper} : ∀ {l : List Oper} {sl : Slots} {h : Heap} {n : Nat} {K : Slots → Heap → Nat → Rt} {K' : Slots → Heap → Nat → Prop}, opsXC E CR all l sl h n K = some r → (∀ s h n, K s h n = some r → K' s h n) → opsX E all l sl h n K'
  | [], sl, h, n, K, K', hk, g => by simp only [opsXC, opsX] at hk ⊢; exact g _ _ _ hk
  | o :: l, sl, h, n, K, K', hk, g => by
    simp only [opsXC, opsX, gopX, opX] at hk ⊢
    refine grd_c hk (fun s hs => op_c hCR hs fun a b c hs => app_c hs fun s h hs => opsX_c hCR hs g) (fun s hs => ?_)
    split at hs <;> (rename_i e; simp only [e]; exact opsX_c hCR hs g)

def lendC (E : Env) (o : Op) (sl : Slots) (Kno : Rt) (Kyes : FuncId → List SV → Rt) (Kyld : Nat → List SV → Rt) : Rt :=
  match o with
  | .call c => match c.callee with
    | .value f => match ev E sl f with
      | .fn g caps => match memb g E.lend with
        | true => frcL (c.args.toList.map (ev E sl)) fun as => match noTup as with
          | true => Kyes g (as ++ caps)
          | false => none
        | false => Kno
      | .yld b => frcL (c.args.toList.map (ev E sl)) fun as => match noTup as with
          | true => Kyld b as
          | false => none
      | _ => Kno
    | _ => Kno
  | _ => Kno
theorem lend_c {r : SV} {E : Env} {o : Op} {sl : Slots} {Kno : Rt} {Kyes : FuncId → List SV → Rt} {Kyld : Nat → List SV → Rt} {Kno' : Prop} {Kyes' : FuncId → List SV → Prop} {Kyld' : Nat → List SV → Prop}
    (hk : lendC E o sl Kno Kyes Kyld = some r) (g1 : Kno = some r → Kno') (g2 : ∀ f as, Kyes f as = some r → Kyes' f as) (g3 : ∀ b as, Kyld b as = some r → Kyld' b as) : lendX E o sl Kno' Kyes' Kyld' := by
  unfold lendC at hk
  unfold lendX
  split at hk
  · split at hk
    · rename_i e0
      simp only [e0]
      split at hk
      · rename_i e1
        simp only [e1]
        split at hk
        · rename_i e2
          simp only [e2]
          rw [frcL_eq] at hk ⊢
          split at hk
          case h_2 => cases hk
          rename_i e3
          simp only [e3]
          exact g2 _ _ hk
        · rename_i e2; simp only [e2]; exact g1 hk
      · rename_i e1
        simp only [e1]
        rw [frcL_eq] at hk ⊢
        split at hk
        case h_2 => cases hk
        rename_i e3
        simp only [e3]
        exact g3 _ _ hk
      · rename_i e1 e2; split
        · rename_i e; exact absurd e (e1 _ _)
        · rename_i e; exact absurd e (e2 _)
        · exact g1 hk
    · rename_i e0
      simp only
      exact g1 hk
  · rename_i e0; split
    · exact absurd rfl (e0 _)
    · exact g1 hk

def opYC (E : Env) (run : Rq → Rt) (o : Oper) (sl : Slots) (h : Heap) (n : Nat) (K : Slots → Heap → Nat → Rt) : Rt :=
  match nilT E o with
  | some sz => (match o.dst with
    | some d => K ((d, .osl n sz) :: sl) ((n, .row true sz []) :: h) (n + 1)
    | none => K sl h (n + 1))
  | none => lendC E o.op sl (opC E (fun f as => run (.ret f as)) sl h n o.op fun v ns a => appC v ns a o.dst sl h n fun sl h => K sl h (n + 1)) (fun f as =>
    run (.sem f as sl h n fun r sl h n => match o.dst with
      | some d => K ((d, r) :: sl) h n
      | none => K sl h n)) fun b as =>
    run (.yld b as sl h n fun r sl h n => match o.dst with
      | some d => K ((d, r) :: sl) h n
      | none => K sl h n)

structure RunOK (E : Env) (run : Rq → Rt) : Prop where
  ret : ∀ f as r, run (.ret f as) = some r → Ret E f as r
  sem : ∀ f as sl h n K r (K' : SV → Slots → Heap → Nat → Prop), run (.sem f as sl h n K) = some r → (∀ v s h n, K v s h n = some r → K' v s h n) → SemCall E f as sl h n K'
  yld : ∀ b as sl h n K r (K' : SV → Slots → Heap → Nat → Prop), run (.yld b as sl h n K) = some r → (∀ v s h n, K v s h n = some r → K' v s h n) → SemYield E b as sl h n K'

def opsYC (E : Env) (run : Rq → Rt) (all : List Oper) : List Oper → Slots → Heap → Nat → (Slots → Heap → Nat → Rt) → Rt
  | [], sl, h, n, K => K sl h n
  | o :: r, sl, h, n, K => grdC all o.guard sl (fun sl => opYC E run o sl h n fun sl h n => opsYC E run all r sl h n K)
    (fun sl => match o.dst with
      | some d => opsYC E run all r ((d, und) :: sl) h n K
      | none => opsYC E run all r sl h n K)

theorem opY_c {r : SV} {E : Env} {run : Rq → Rt} (ok : RunOK E run) {o : Oper} {sl : Slots} {h : Heap} {n : Nat} {K : Slots → Heap → Nat → Rt} {K' : Slots → Heap → Nat → Prop} (hk : opYC E run o sl h n K = some r) (g : ∀ s h n, K s h n = some r → K' s h n) : opY E o sl h n K' := by
  unfold opYC at hk
  unfold opY
  split at hk
  · rename_i e0
    simp only [e0]
    split at hk <;> (rename_i e; simp only [e]; exact g _ _ _ hk)
  · rename_i e0
    simp only [e0]
    refine lend_c hk (fun hk => ?_) (fun f as hk => ?_) (fun b as hk => ?_)
    · unfold opX
      exact op_c ok.ret hk fun a b c hs => app_c hs fun s h hs => g _ _ _ hs
    · refine ok.sem _ _ _ _ _ _ r _ hk fun v s h n hs => ?_
      split at hs <;> (rename_i e; simp only [e]; exact g _ _ _ hs)
    · refine ok.yld _ _ _ _ _ _ r _ hk fun v s h n hs => ?_
      split at hs <;> (rename_i e; simp only [e]; exact g _ _ _ hs)

theorem opsY_c {r : SV} {E : Env} {run : Rq → Rt} (ok : RunOK E run) {all : List Oper} : ∀ {l : List Oper} {sl : Slots} {h : Heap} {n : Nat} {K : Slots → Heap → Nat → Rt} {K' : Slots → Heap → Nat → Prop}, opsYC E run all l sl h n K = some r → (∀ s h n, K s h n = some r → K' s h n) → opsY E all l sl h n K'
  | [], sl, h, n, K, K', hk, g => by simp only [opsYC, opsY] at hk ⊢; exact g _ _ _ hk
  | o :: l, sl, h, n, K, K', hk, g => by
    simp only [opsYC, opsY, gopY] at hk ⊢
    refine grd_c hk (fun s hs => opY_c ok hs fun s h n hs => opsY_c ok hs g) (fun s hs => ?_)
    split at hs <;> (rename_i e; simp only [e]; exact opsY_c ok hs g)

mutual
/-- are two values alike? (where the answer is no, nothing is said) -/
def eqSV : SV → SV → Bool
  | .int k n, .int k' n' => match decide (k = k') with | true => decide (n = n') | false => false
  | .bool b, .bool b' => decide (b = b')
  | .tru, .tru => true
  | .fls, .fls => true
  | .str s, .str s' => decide (s = s')
  | .agg l, .agg l' => eqL l l'
  | .arr n s l, .arr n' s' l' => match Nat.beq n n', Nat.beq s s' with | true, true => eqL l l' | _, _ => false
  | .tup l, .tup l' => eqL l l'
  | .sl n l, .sl n' l' => match Nat.beq n n' with | true => eqL l l' | false => false
  | .mt, .mt => true
  | .nils, .nils => true
  | .nilf, .nilf => true
  | .nilp, .nilp => true
  | .nili, .nili => true
  | _, _ => false
def eqL : List SV → List SV → Bool
  | [], [] => true
  | v :: r, v' :: r' => match eqSV v v' with | true => eqL r r' | false => false
  | _, _ => false
end
mutual
theorem eqSV_ok : ∀ {a b : SV}, eqSV a b = true → a = b
  | a, b, h => by
    cases a <;> cases b <;> simp only [eqSV] at h <;> first | (cases h; done) | rfl | skip
    · split at h
      · rename_i e; rw [of_decide_eq_true e, of_decide_eq_true h]
      · cases h
    · rw [of_decide_eq_true h]
    · rw [of_decide_eq_true h]
    · rw [eqL_ok h]
    · split at h
      · rename_i e1 e2; rw [beq_of e1, beq_of e2, eqL_ok h]
      · cases h
    · rw [eqL_ok h]
    · split at h
      · rename_i e1; rw [beq_of e1, eqL_ok h]
      · cases h
theorem eqL_ok : ∀ {a b : List SV}, eqL a b = true → a = b
  | [], [], _ => rfl
  | v :: r, v' :: r', h => by
    simp only [eqL] at h
    split at h
    · rename_i e; rw [eqSV_ok e, eqL_ok h]
    · cases h
  | [], _ :: _, h => by simp only [eqL] at h; cases h
  | _ :: _, [], h => by simp only [eqL] at h; cases h
end

def allC (f : Nat × Oper → Rt) : List (Nat × Oper) → Rt
  | [] => none
  | [a] => f a
  | a :: r => match f a with
    | some v => (match allC f r with
      | some v' => (match eqSV v' v with | true => some v | false => none)
      | none => none)
    | none => none
theorem allC_ok {f : Nat × Oper → Rt} {v : SV} (l : List (Nat × Oper)) : allC f l = some v → ∀ p ∈ l, f p = some v := by
  induction l with
  | nil => intro _ p hp; cases hp
  | cons a r ih =>
    intro h p hp
    cases r with
    | nil =>
      simp only [allC] at h
      simp at hp; subst hp; exact h
    | cons b r =>
      simp only [allC] at h
      split at h
      case h_2 => cases h
      rename_i v1 e1
      split at h
      case h_2 => cases h
      rename_i v2 e2
      split at h
      case h_2 => cases h
      rename_i e3
      cases h
      rw [eqSV_ok e3] at e2
      rcases List.mem_cons.1 hp with rfl | hp
      · exact e1
      · exact ih e2 p hp
theorem allA_of {f : Nat × Oper → Prop} (l : List (Nat × Oper)) (h : ∀ p ∈ l, f p) : allA f l := by
  induction l with
  | nil => trivial
  | cons a r ih => exact ⟨h a (by simp), ih fun p hp => h p (by simp [hp])⟩

def anyYC (E : Env) (run : Rq → Rt) (ops : List Oper) : Nat → List Nat → Slots → Heap → Nat → (Slots → Heap → Nat → Rt) → Rt
  | 0, L, sl, h, n, K => match rdy L ops 0 with
    | [] => K sl h n
    | _ :: _ => none
  | f + 1, L, sl, h, n, K => match rdy L ops 0 with
    | [] => K sl h n
    | q :: r => allC (fun p => grdC ops p.2.guard sl (fun sl => opYC E run p.2 sl h n fun sl h n => anyYC E run ops f (p.1 :: L) sl h n K)
      (fun sl => match p.2.dst with
        | some d => anyYC E run ops f (p.1 :: L) ((d, und) :: sl) h n K
        | none => anyYC E run ops f (p.1 :: L) sl h n K)) (q :: r)

theorem anyY_c {r : SV} {E : Env} {run : Rq → Rt} (ok : RunOK E run) {ops : List Oper} : ∀ {f : Nat} {L : List Nat} {sl : Slots} {h : Heap} {n : Nat} {K : Slots → Heap → Nat → Rt} {K' : Slots → Heap → Nat → Prop}, anyYC E run ops f L sl h n K = some r → (∀ s h n, K s h n = some r → K' s h n) → anyY E ops f L sl h n K'
  | 0, L, sl, h, n, K, K', hk, g => by
    simp only [anyYC, anyY] at hk ⊢
    split at hk
    · rename_i e; simp only [e]; exact g _ _ _ hk
    · cases hk
  | f + 1, L, sl, h, n, K, K', hk, g => by
    simp only [anyYC, anyY] at hk ⊢
    split at hk
    · rename_i e; simp only [e]; exact g _ _ _ hk
    · rename_i q r' e
      simp only [e]
      refine allA_of _ fun p hp => ?_
      have hk := allC_ok _ hk p hp
      unfold gopY
      refine grd_c hk (fun s hs => opY_c ok hs fun s h n hs => anyY_c ok hs g) (fun s hs => ?_)
      split at hs <;> (rename_i e; simp only [e]; exact anyY_c ok hs g)

/-- slots, each once -/
def dedS : List Nat → Slots → (Slots → Rt) → Rt
  | _, [], K => K []
  | seen, (t, v) :: r, K => match memb t seen with
    | true => dedS seen r K
    | false => dedS (t :: seen) r fun r => K ((t, v) :: r)
theorem dedS_ok {r : SV} : ∀ {sl : Slots} {seen : List Nat} {K : Slots → Rt}, dedS seen sl K = some r → ∃ s, K s = some r ∧ ∀ t, t ∉ seen → lk s t = lk sl t
  | [], seen, K, h => ⟨[], h, fun _ _ => rfl⟩
  | (i, v) :: l, seen, K, h => by
    simp only [dedS] at h
    split at h
    · rename_i e
      obtain ⟨s, h1, h2⟩ := dedS_ok h
      refine ⟨s, h1, fun t ht => ?_⟩
      rw [h2 t ht, lk_cons, if_neg]
      rintro rfl
      exact ht (memb_true.1 e)
    · rename_i e
      obtain ⟨s, h1, h2⟩ := dedS_ok h
      refine ⟨_, h1, fun t ht => ?_⟩
      rw [lk_cons, lk_cons]
      by_cases et : i = t
      · rw [if_pos et, if_pos et]
      · rw [if_neg et, if_neg et]
        exact h2 t (by simp [ht, Ne.symm et])

def loopC (B : Slots → Heap → Nat → KXC → Rt) : Nat → Slots → Heap → Nat → KXC → Rt
  | 0, _, _, _, _ => none
  | f + 1, sl, h, n, K => dedS [] sl fun sl => B sl h n fun e sl h n => match e with
    | .normal => loopC B f sl h n K
    | e => K e sl h n

def execC (E : Env) (run : Rq → Rt) (fuel N : Nat) : Code → Slots → Heap → Nat → KXC → Rt
  | .skip, sl, h, n, K => K .normal sl h n
  | .seq a b, sl, h, n, K => execC E run fuel N a sl h n fun e sl h n => match e with
    | .normal => execC E run fuel N b sl h n K
    | e => K e sl h n
  | .cond c a b, sl, h, n, K => (match ev E sl c with
    | .bool t => (match t with | true => execC E run fuel N a sl h n K | false => execC E run fuel N b sl h n K)
    | .tru => execC E run fuel N a sl h n K
    | .fls => execC E run fuel N b sl h n K
    | _ => none)
  | .block id b, sl, h, n, K => execC E run fuel N b sl h n fun e sl h n => (match e with
      | .exit i => (match Nat.beq i id with | true => K .normal sl h n | false => K (.exit i) sl h n)
      | e => K e sl h n)
  | .exit i, sl, h, n, K => K (.exit i) sl h n
  | .ret, sl, h, n, K => K .ret sl h n
  | .region _ ops true, sl, h, n, K => (match lendB E.lend ops.toList with
    | false => opsXC E (fun f as => run (.ret f as)) ops.toList ops.toList sl h n fun sl h n => K .normal sl h n
    | true => anyYC E run ops.toList ops.toList.length [] sl h n fun sl h n => K .normal sl h n)
  | .region _ ops false, sl, h, n, K => opsYC E run ops.toList ops.toList sl h n fun sl h n => K .normal sl h n
  | .loop b, sl, h, n, K => loopC (execC E run fuel N b) fuel sl h n K
  | .scope b, sl, h, n, K => execC E run fuel N b sl h n fun e sl h n => match e with
    | .goto _ => none
    | e => K e sl h n
  | .label _, sl, h, n, K => K .normal sl h n
  | .rangeFunc f ps asg b, sl, h, n, K => (match ev E sl f with
    | .fn g caps => run (.sem g (.yld n :: caps) ((1999999, .yld n) :: sl) ((n, .gho ⟨.ready, none, N, ps, asg, b, false⟩ sl) :: h) (n + 1) fun _ sl h n' => (match lk sl 1999999 with
      | .yld b => (match Nat.beq b n with
        | true => (match lkB h n with
          | some (.gho q _) => (match q.dead with
            | true => none
            | false => (match q.st with
              | .busy => none
              | _ => (match q.pend with
                | none => stK h n .dead fun h => K .normal ((1999999, .any) :: sl) h n'
                | some .ret => stK h n .dead fun h => K .ret ((1999999, .any) :: sl) h n'
                | some (.exit i) => stK h n .dead fun h => K (.exit i) ((1999999, .any) :: sl) h n'
                | _ => none)))
          | _ => none)
        | false => none)
      | _ => none))
    | _ => none)
  | _, _, _, _, _ => none

theorem exec_c {r : SV} {E : Env} {run : Rq → Rt} (ok : RunOK E run) {fuel N : Nat} : ∀ (code : Code) {sl : Slots} {h : Heap} {n : Nat} {K : KXC} {K' : KX}, execC E run fuel N code sl h n K = some r → (∀ e s h n, K e s h n = some r → K' e s h n) → exec E N [] code sl h n K'
  | .skip, sl, h, n, K, K', hk, g => by simp only [execC, exec] at hk ⊢; exact g _ _ _ _ hk
  | .exit i, sl, h, n, K, K', hk, g => by simp only [execC, exec] at hk ⊢; exact g _ _ _ _ hk
  | .ret, sl, h, n, K, K', hk, g => by simp only [execC, exec] at hk ⊢; exact g _ _ _ _ hk
  | .label _, sl, h, n, K, K', hk, g => by simp only [execC, exec] at hk ⊢; exact g _ _ _ _ hk
  | .seq a b, sl, h, n, K, K', hk, g => by
    simp only [execC, exec] at hk ⊢
    refine exec_c ok a hk fun e s h n hs => ?_
    cases e with
    | normal => exact exec_c ok b hs g
    | _ => exact g _ _ _ _ hs
  | .cond c a b, sl, h, n, K, K', hk, g => by
    simp only [execC, exec, brk] at hk ⊢
    split at hk
    · rename_i t e
      simp only [e]
      cases t with
      | true => exact ⟨fun _ => exec_c ok a hk g, fun h => by cases h⟩
      | false => exact ⟨fun h => (by cases h), fun _ => exec_c ok b hk g⟩
    · rename_i e; simp only [e]; exact exec_c ok a hk g
    · rename_i e; simp only [e]; exact exec_c ok b hk g
    · cases hk
  | .block id b, sl, h, n, K, K', hk, g => by
    simp only [execC, exec, memb] at hk ⊢
    refine exec_c ok b hk fun e s h n hs => ?_
    cases e with
    | exit i =>
      simp only at hs ⊢
      split at hs <;> (rename_i e; simp only [e]; exact g _ _ _ _ hs)
    | _ => exact g _ _ _ _ hs
  | .region _ ops true, sl, h, n, K, K', hk, g => by
    simp only [execC, exec] at hk ⊢
    split at hk
    · rename_i e; simp only [e]; exact opsX_c ok.ret hk fun s h n hs => g _ _ _ _ hs
    · rename_i e; simp only [e]; exact anyY_c ok hk fun s h n hs => g _ _ _ _ hs
  | .region _ ops false, sl, h, n, K, K', hk, g => by
    simp only [execC, exec] at hk ⊢
    exact opsY_c ok hk fun s h n hs => g _ _ _ _ hs
  | .loop b, sl, h, n, K, K', hk, g => by
    simp only [execC, exec] at hk ⊢
    unfold LoopVC
    intro I h1 _ h3
    have go : ∀ f sl h n, loopC (execC E run fuel N b) f sl h n K = some r → I sl h n := by
      intro f
      induction f with
      | zero => intro sl h n hk; simp only [loopC] at hk; cases hk
      | succ f ih =>
        intro sl h n hk
        simp only [loopC] at hk
        obtain ⟨s, hs, hl⟩ := dedS_ok hk
        refine h3 s sl h n (fun t => .inr (hl t (by simp))) (h1 _ _ _ ?_)
        refine exec_c ok b hs fun e s h n hs => ?_
        cases e with
        | normal => exact ih _ _ _ hs
        | _ => exact g _ _ _ _ hs
    exact go _ _ _ _ hk
  | .scope b, sl, h, n, K, K', hk, g => by
    simp only [execC, exec] at hk ⊢
    refine exec_c ok b hk fun e s h n hs => ?_
    cases e with
    | goto l => cases hs
    | _ => exact g _ _ _ _ hs
  | .rangeFunc f ps asg b, sl, h, n, K, K', hk, g => by
    simp only [execC, exec] at hk ⊢
    split at hk
    case h_2 => cases hk
    rename_i e0
    simp only [e0]
    refine ok.sem _ _ _ _ _ _ r _ hk fun v s h n' hs => ?_
    split at hs
    case h_2 => cases hs
    rename_i e1
    simp only [e1]
    split at hs
    case h_2 => cases hs
    rename_i e2
    simp only [e2, afterR]
    split at hs
    case h_2 => cases hs
    rename_i e3
    simp only [e3]
    split at hs
    · cases hs
    rename_i e4
    simp only [e4]
    split at hs
    · cases hs
    rename_i e5
    split
    · rename_i e; exact absurd e e5
    simp only [stK_eq] at hs ⊢
    split at hs
    · rename_i e6; simp only [e6]; exact g _ _ _ _ hs
    · rename_i e6; simp only [e6]; exact g _ _ _ _ hs
    · rename_i e6; simp only [e6]; exact g _ _ _ _ hs
    · cases hs
  | .goto _, sl, h, n, K, K', hk, g => by simp only [execC] at hk; cases hk
  | .refuse _, sl, h, n, K, K', hk, g => by simp only [execC] at hk; cases hk
end Go.Sx
