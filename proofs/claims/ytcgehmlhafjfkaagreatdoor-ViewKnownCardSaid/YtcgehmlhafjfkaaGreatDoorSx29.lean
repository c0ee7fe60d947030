/-
  A REGION THAT DRAWS ITS ORDER: any order that is drawn ends as the order of the text does. Generic: no program in sight. An own text.
-/
import Derived.Test.YtcgehmlhafjfkaaGreatDoorSx28d
namespace Go.Sx
open Go.RowKit (Below)

/-- where an operation is well, a state follows -/
theorem wpOp_some {ro : Option Nat} {P : Program} {ops : Array Oper} {i : Nat} {next : Act → World → Prop} {a : Act} {w : World} (h : wpOpIn (FR ro) 0 P ops (fun _ _ _ => False) i next a w) : ∃ a' w', next a' w' := by
  unfold wpOpIn at h
  split at h
  · exact ⟨_, _, h⟩
  · split at h
    · have h := h.2
      generalize (Oper.semAt _ _ _).run P w = r at h
      cases r with
      | ok n w' =>
        cases n with
        | enter f args =>
          simp only [Oper.uponIn] at h
          obtain ⟨e, w2, fr, h, _⟩ := h.2.2 [] (room_FR _)
          cases e with
          | returned v => exact ⟨_, _, h⟩
          | panicked c => exact h.elim
          | outgrown => obtain ⟨_, _, h⟩ := h; exact h.elim
        | row r args =>
          simp only [Oper.uponIn] at h
          obtain ⟨v, w2, h, _⟩ := h.2 default [] (room_FR _)
          exact ⟨_, _, h⟩
        | round l f tmps asg body =>
          simp only [Oper.uponIn] at h
          obtain ⟨e, w2, h, _⟩ := h.2.2 default [] (room_FR _)
          cases e with
          | returned v => exact ⟨_, _, h⟩
          | panicked c => exact h.elim
          | outgrown => obtain ⟨_, _, h⟩ := h; exact h.elim
        | _ => first | exact ⟨_, _, h⟩ | exact h.elim
      | halt x w' => cases x <;> exact h.elim
    · exact ⟨_, _, h.2⟩

section
variable {c : Cx} (ok : EnvOK c.E) {N : Nat}

theorem DenF.glb {sl : Slots} {h : Heap} {F : Nat → Prop} {a : Act} {w : World} (D : DenF c N sl h F a w) (sl' : Slots) (g : Nat) : (ev c.E sl' (.global g)).nmd fun _ => False := by
  obtain ⟨β, Y, m, _⟩ := D
  simp only [ev]
  split
  · exact True.intro
  · rename_i e
    exact nmd_mono (fun b hb => hb rfl) _ (rel_nmd (m.gl g _ rfl e))

def Som (c : Cx) (N : Nat) (sl : Slots) (h : Heap) (F : Nat → Prop) : Prop := ∃ a w, DenF c N sl h F a w

include ok in
theorem gopX_som {ops : Array Oper} (hall : ∀ o ∈ ops.toList, ∀ d, o.dst = some d → d < N) {o : Oper} {i : Nat} (hi : ops[i]? = some o) {sl : Slots} {h : Heap} {m : Nat} {F : Nat → Prop} {K : Slots → Heap → Prop} (hd : ∀ d, o.dst = some d → d < N) (s : Som c N sl h F) (hF : F m) (k : gopX c.E ops.toList o sl h m K) :
    ∃ s' g', K s' g' ∧ Som c N s' g' (rmF F m) ∧ ∀ K' : Slots → Heap → Prop, K' s' g' → gopX c.E ops.toList o sl h m K' := by
  obtain ⟨s', g', k1, k2⟩ := gopX_pf k
  refine ⟨s', g', k1, ?_, k2⟩
  obtain ⟨a, w, D⟩ := s
  have := gopX_sound ok hall hi (k2 (fun a b => a = s' ∧ b = g') ⟨rfl, rfl⟩) hF hd D (Q := fun _ _ _ => False) (next := fun a w => DenF c N s' g' (rmF F m) a w) (fun sl' h' a' w' e D' => by obtain ⟨rfl, rfl⟩ := e; exact D')
  exact wpOp_some this

/-- operations by their numbers, one after the other -/
def opsI (E : Env) (all : List Oper) (n : Nat) : List Nat → Slots → Heap → (Slots → Heap → Prop) → Prop
  | [], sl, h, K => K sl h
  | i :: r, sl, h, K => match all[i]? with
    | some o => gopX E all o sl h (n + i) fun sl h => opsI E all n r sl h K
    | none => False

theorem opsI_inv {E : Env} {all : List Oper} {n : Nat} {K : Slots → Heap → Prop} (inv : Inv K) : ∀ r, Inv fun sl h => opsI E all n r sl h K
  | [] => inv
  | i :: r => by
    intro sl h sl' h' e1 e2 k
    simp only [opsI] at k ⊢
    split at k
    case h_2 => exact k.elim
    exact gopX_inv (opsI_inv inv r) sl h sl' h' e1 e2 k

/-- what is asked of two operations that change places -/
def IndP (all : List Oper) (T : List Nat) (fl : Bool) (gx : List Nat) (gl : Bool) (p : Nat) (x y : Oper) : Prop := indep all x y = true ∨ (fl = true ∧ indep2 all T x y = true) ∨ (gl = true ∧ indep3 all gx p x y = true)

/-- what a region in which stores are to its own variables has been asked -/
structure FlOK (ops : Array Oper) (T : List Nat) : Prop where
  tk : tntOK T ops.toList = true
  kd : ∀ (p : Nat) (o : Oper), ops[p]? = some o → kind o.op ≤ 3
  st : ∀ (p : Nat) (o : Oper), ops[p]? = some o → ∀ T a v, o.op = .store T a v → ∃ i, frS ops.toList o = some i ∧ i < p

include ok in
theorem bubble {ops : Array Oper} (hd : ∀ o ∈ ops.toList, ∀ d, o.dst = some d → d < N) {fl : Bool} {T : List Nat} (hfl : fl = true → FlOK ops T) {gl : Bool} {gx cls : List Nat} (hgl : gl = true → NlS ops.toList cls gx) {n i : Nat} {oi : Oper} (hi : ops[i]? = some oi) {K : Slots → Heap → Prop} (inv : Inv K) (post : List Nat) : ∀ (pre : List Nat) (sl : Slots) (h : Heap) (F L : Nat → Prop),
    (∀ p ∈ pre, p ≠ i ∧ ∃ o, ops[p]? = some o ∧ IndP ops.toList T fl gx gl p o oi) → (pre ++ i :: post).Pairwise (· < ·) → (∀ p ∈ pre ++ i :: post, F (n + p)) → Som c N sl h F → (∀ T, (lkT c.E.tt T).zero.nmd (· < n)) → (fl = true → Cl c.E ops.toList n T L sl h) → (gl = true → Nl ops.toList gx L sl) → (∀ j, L j → j ∉ pre ++ i :: post) → (∀ j, j < ops.size → L j ∨ j ∈ pre ++ i :: post) →
    (fl = true → ∀ a, frS ops.toList oi = some a → L a) → opsI c.E ops.toList n (pre ++ i :: post) sl h K → opsI c.E ops.toList n (i :: (pre ++ post)) sl h K
  | [], sl, h, F, L, _, _, _, _, _, _, _, _, _, _, k => k
  | p :: pre, sl, h, F, L, hp, hnd, hF, s, hz, hcl, hnl, hL1, hL2, hLa, k => by
    obtain ⟨hpi, o, ho, hind⟩ := hp p (by simp)
    have ho' : ops.toList[p]? = some o := by rw [Array.getElem?_toList]; exact ho
    have hi' : ops.toList[i]? = some oi := by rw [Array.getElem?_toList]; exact hi
    have hlt : ∀ q ∈ pre ++ i :: post, p < q := (List.pairwise_cons.1 hnd).1
    simp only [List.cons_append, opsI, ho'] at k
    have hpl : p < ops.size := by
      rcases Nat.lt_or_ge p ops.size with g | g
      · exact g
      · rw [Array.getElem?_eq_none g] at ho; cases ho
    have k' := gopX_cl (E := c.E) (fl := fl) (T := T) (L := L) (opsI_inv inv (pre ++ i :: post)) hz ho' (fun hf => ⟨hcl hf, (hfl hf).kd p o ho, fun hLp => hL1 p hLp (by simp), (hfl hf).tk, fun T0 a v hs => by
      obtain ⟨a0, h1, h2⟩ := (hfl hf).st p o ho T0 a v hs
      refine ⟨a0, h1, (hL2 a0 (by omega)).resolve_right fun hm => ?_⟩
      rcases List.mem_cons.1 hm with rfl | hm
      · omega
      · have := hlt a0 hm; omega⟩) k
    have hLp : ∀ j, j < p → L j := fun j hj => (hL2 j (by omega)).resolve_right fun hm => by
      rcases List.mem_cons.1 hm with rfl | hm
      · omega
      · have := hlt j hm; omega
    have hglb : ∀ g, (ev c.E sl (.global g)).nmd fun _ => False := by obtain ⟨a, w, D⟩ := s; exact fun g => D.glb sl g
    have k' := gopX_nl (E := c.E) (gl := gl) (gx := gx) (cls := cls) (L := L) hglb ho' (fun hf => ⟨hnl hf, hgl hf, fun j hj _ _ => hLp j hj⟩) k'
    obtain ⟨s', g', ⟨⟨k1, kc⟩, kn⟩, k2, k3⟩ := gopX_som ok hd ho (hd o (List.mem_of_getElem? ho')) s (hF p (by simp)) k'
    have k4 := bubble hd hfl hgl hi inv post pre s' g' (rmF F (n + p)) (fun j => L j ∨ j = p) (fun q hq => hp q (by simp [hq])) (by simpa using (List.pairwise_cons.1 hnd).2) (fun q hq => ⟨hF q (by simp only [List.cons_append, List.mem_cons]; exact .inr hq), by
      have := hlt q hq
      omega⟩) k2 hz kc kn (fun j hj hm => by
        rcases hj with hj | rfl
        · exact hL1 j hj (by simp only [List.cons_append, List.mem_cons]; exact .inr hm)
        · have := hlt j hm; omega) (fun j hj => by
        rcases hL2 j hj with h | h
        · exact .inl (.inl h)
        · rcases List.mem_cons.1 h with h | h
          · exact .inl (.inr h)
          · exact .inr h) (fun hf a ha => .inl (hLa hf a ha)) k1
    have k5 := k3 (fun sl h => opsI c.E ops.toList n (i :: (pre ++ post)) sl h K) k4
    simp only [opsI, hi'] at k5
    obtain ⟨a, w, D⟩ := s
    have hip : p < i := hlt i (by simp)
    have k6 : gopX c.E ops.toList oi sl h (n + i) fun sl h => gopX c.E ops.toList o sl h (n + p) fun sl h => opsI c.E ops.toList n (pre ++ post) sl h K := by
      rcases hind with hind | ⟨hf, hind⟩ | ⟨hf, hind⟩
      · exact swap (opsI_inv inv (pre ++ post)) (D.wf ok) (hF p (by simp)) (hF i (by simp)) (by omega) hind k5
      · have hfr : ∃ a, frS ops.toList oi = some a := by
          unfold indep2 at hind
          split at hind
          · exact ⟨_, ‹_›⟩
          · cases hind
        obtain ⟨a0, hfr⟩ := hfr
        exact swap2 (opsI_inv inv (pre ++ post)) (hcl hf) hz (by omega) (by omega) (fun hLp => hL1 p hLp (by simp)) hfr (hLa hf a0 hfr) hind k5
      · exact swap3 ok (opsI_inv inv (pre ++ post)) (hnl hf) hglb (fun j hj _ => hLp j hj) hind k5
    simp only [opsI, hi', List.cons_append, ho']
    exact k6

/-- the operations before each one, as bits -/
def closE (cls : List Nat) : List Edge → Nat
  | [] => 0
  | e :: r => match Region.binds .any e with
    | true => (1 <<< e.on) ||| (cls.getD e.on 0 ||| closE cls r)
    | false => closE cls r
def clos : List Oper → List Nat → List Nat
  | [], cls => cls
  | o :: r, cls => clos r (cls ++ [closE cls o.after.toList])

def Dn (ops : Array Oper) (L : Nat → Prop) : Prop := ∀ i o, ops[i]? = some o → L i → ∀ e ∈ o.after.toList, Region.binds .any e = true → L e.on

theorem closE_ok {ops : Array Oper} {L : Nat → Prop} {cls : List Nat} (hc : ∀ k p, (cls.getD k 0).testBit p = true → L k → L p) : ∀ {l : List Edge}, (∀ e ∈ l, Region.binds .any e = true → L e.on) → ∀ p, (closE cls l).testBit p = true → L p
  | [], _, p, h => by simp [closE] at h
  | e :: r, hl, p, h => by
    simp only [closE] at h
    split at h
    · rename_i hb
      rw [Nat.testBit_or, Nat.testBit_or, Bool.or_eq_true, Bool.or_eq_true] at h
      rcases h with h | h | h
      · rw [Nat.one_shiftLeft, Nat.testBit_two_pow] at h
        simp at h; subst h
        exact hl e (by simp) hb
      · exact hc e.on p h (hl e (by simp) hb)
      · exact closE_ok hc (ops := ops) (fun e' he' => hl e' (by simp [he'])) p h
    · exact closE_ok hc (ops := ops) (fun e' he' => hl e' (by simp [he'])) p h

theorem clos_ok {ops : Array Oper} {L : Nat → Prop} (dn : Dn ops L) : ∀ (r : List Oper) (pre : List Oper) (cls : List Nat), ops.toList = pre ++ r → cls.length = pre.length → (∀ k p, (cls.getD k 0).testBit p = true → L k → L p) → ∀ k p, ((clos r cls).getD k 0).testBit p = true → L k → L p
  | [], pre, cls, _, _, hc => hc
  | o :: r, pre, cls, hp, hl, hc => by
    simp only [clos]
    refine clos_ok dn r (pre ++ [o]) _ (by rw [hp]; simp) (by simp [hl]) ?_
    intro k p hk hL
    by_cases hlt : k < cls.length
    · have : (cls ++ [closE cls o.after.toList]).getD k 0 = cls.getD k 0 := by
        simp only [List.getD_eq_getElem?_getD]
        rw [List.getElem?_append_left hlt]
      rw [this] at hk
      exact hc k p hk hL
    · by_cases e : k = cls.length
      · subst e
        have ho : ops[pre.length]? = some o := by rw [← Array.getElem?_toList, hp]; simp
        have : (cls ++ [closE cls o.after.toList]).getD cls.length 0 = closE cls o.after.toList := by
          simp only [List.getD_eq_getElem?_getD]
          rw [List.getElem?_append_right (Nat.le_refl _)]
          simp
        rw [this] at hk
        exact closE_ok (ops := ops) hc (fun e he hb => dn _ o ho (by rw [← hl]; exact hL) e he hb) p hk
      · have : (cls ++ [closE cls o.after.toList]).getD k 0 = 0 := by
          rw [List.getD_eq_getElem?_getD, List.getElem?_eq_none (by simp; omega)]; rfl
        rw [this] at hk; simp at hk

end

def edgesLt (i : Nat) : List Edge → Bool
  | [] => true
  | e :: r => match Region.binds .any e with
    | true => (match Nat.blt e.on i with | true => edgesLt i r | false => false)
    | false => edgesLt i r
def indB (all : List Oper) (T : List Nat) (fl : Bool) (gx : List Nat) (gl : Bool) (p : Nat) (x y : Oper) : Bool := match indep all x y with
  | true => true
  | false => match fl, gl with
    | true, _ => indep2 all T x y
    | false, true => indep3 all gx p x y
    | false, false => false
theorem indB_ok {all : List Oper} {T : List Nat} {fl : Bool} {gx : List Nat} {gl : Bool} {p : Nat} {x y : Oper} (h : indB all T fl gx gl p x y = true) : IndP all T fl gx gl p x y := by
  unfold indB at h
  split at h
  · rename_i e; exact .inl e
  · split at h
    · exact .inr (.inl ⟨rfl, h⟩)
    · exact .inr (.inr ⟨rfl, h⟩)
    · cases h
def stoB (all : List Oper) (m i : Nat) (o : Oper) : Bool := match Nat.ble (kind o.op) 3 with
  | false => false
  | true => match o.op with
    | .store .. => (match frS all o with
      | some a => (match Nat.blt a i with | true => m.testBit a | false => false)
      | none => false)
    | _ => true
theorem stoB_ok {all : List Oper} {m i : Nat} {o : Oper} (h : stoB all m i o = true) : kind o.op ≤ 3 ∧ ∀ T a v, o.op = .store T a v → ∃ a, frS all o = some a ∧ a < i ∧ m.testBit a = true := by
  unfold stoB at h
  split at h
  · cases h
  rename_i e
  rw [Nat.ble_eq] at e
  refine ⟨e, fun T a v ho => ?_⟩
  rw [ho] at h
  simp only at h
  split at h
  · rename_i a0 e1
    split at h
    · rename_i e2; rw [Nat.blt_eq] at e2; exact ⟨a0, e1, e2, h⟩
    · cases h
  · cases h
def chkP (all : List Oper) (T : List Nat) (fl : Bool) (gx : List Nat) (gl : Bool) (m : Nat) (o : Oper) (i : Nat) : List Oper → Nat → Bool
  | [], _ => true
  | q :: r, p => match Nat.blt p i with
    | false => true
    | true => match m.testBit p with
      | true => chkP all T fl gx gl m o i r (p + 1)
      | false => match indB all T fl gx gl p q o with
        | true => chkP all T fl gx gl m o i r (p + 1)
        | false => false
def chk (all : List Oper) (T : List Nat) (fl : Bool) (gx : List Nat) (gl : Bool) (cls : List Nat) : List Oper → Nat → Bool
  | [], _ => true
  | o :: r, i => match edgesLt i o.after.toList, chkP all T fl gx gl (cls.getD i 0) o i all 0, (match fl with | true => stoB all (cls.getD i 0) i o | false => true) with
    | true, true, true => chk all T fl gx gl cls r (i + 1)
    | _, _, _ => false
def statF (ops : Array Oper) (T : List Nat) (fl : Bool) (gx : List Nat) (gl : Bool) : Bool := chk ops.toList T fl gx gl (clos ops.toList []) ops.toList 0
def statG (ops : Array Oper) (cls gx : List Nat) : Bool := match nlB ops.toList cls gx gx with
  | true => statF ops [] false gx true
  | false => false
def statB (ops : Array Oper) : Bool := match statF ops [] false [] false with
  | true => true
  | false => match (match tntOK (tnt ops.toList []) ops.toList with
    | true => statF ops (tnt ops.toList []) true [] false
    | false => false) with
    | true => true
    | false => statG ops (clos ops.toList []) (nlP ops.toList (clos ops.toList []) ops.toList 0 [])

theorem edgesLt_ok {i : Nat} : ∀ {l : List Edge}, edgesLt i l = true → ∀ e ∈ l, Region.binds .any e = true → e.on < i
  | [], _, e, he => by cases he
  | e' :: r, h, e, he => by
    intro hb
    simp only [edgesLt] at h
    rcases List.mem_cons.1 he with rfl | he
    · rw [hb] at h
      simp only at h
      split at h
      · rename_i h1; rw [Nat.blt_eq] at h1; exact h1
      · cases h
    · split at h
      · split at h
        · exact edgesLt_ok h e he hb
        · cases h
      · exact edgesLt_ok h e he hb
theorem chkP_ok {all : List Oper} {T : List Nat} {fl : Bool} {gx : List Nat} {gl : Bool} {m i : Nat} {o : Oper} : ∀ {r pre : List Oper} {p : Nat}, all = pre ++ r → pre.length = p → chkP all T fl gx gl m o i r p = true → ∀ k q, p ≤ k → k < i → all[k]? = some q → m.testBit k = true ∨ IndP all T fl gx gl k q o
  | [], pre, p, ha, hp, _, k, q, h1, h2, h3 => by
    subst ha
    have : pre.length ≤ k := by omega
    rw [List.getElem?_eq_none (by simpa using this)] at h3
    cases h3
  | q0 :: r, pre, p, ha, hp, h, k, q, h1, h2, h3 => by
    simp only [chkP] at h
    have hlt : Nat.blt p i = true := by rw [Nat.blt_eq]; omega
    simp only [hlt] at h
    by_cases e : k = p
    · subst e
      have : all[k]? = some q0 := by rw [ha, ← hp]; simp
      rw [this] at h3; cases h3
      split at h
      · rename_i hb; exact .inl hb
      · split at h
        · rename_i hb; exact .inr (indB_ok hb)
        · cases h
    · have step := fun hh => chkP_ok (T := T) (fl := fl) (gx := gx) (gl := gl) (m := m) (o := o) (r := r) (pre := pre ++ [q0]) (p := p + 1) (by rw [ha]; simp) (by simp [hp]) hh k q (by omega) h2 h3
      split at h
      · exact step h
      · split at h
        · exact step h
        · cases h
theorem chk_ok {all : List Oper} {T : List Nat} {fl : Bool} {gx : List Nat} {gl : Bool} {cls : List Nat} : ∀ {r pre : List Oper} {i : Nat}, all = pre ++ r → pre.length = i → chk all T fl gx gl cls r i = true → ∀ j o, i ≤ j → all[j]? = some o → (∀ e ∈ o.after.toList, Region.binds .any e = true → e.on < j) ∧ (∀ p q, p < j → all[p]? = some q → (cls.getD j 0).testBit p = true ∨ IndP all T fl gx gl p q o) ∧ (fl = true → stoB all (cls.getD j 0) j o = true)
  | [], pre, i, ha, hi, _, j, o, h1, h3 => by
    subst ha
    rw [List.getElem?_eq_none (by simp; omega)] at h3
    cases h3
  | o0 :: r, pre, i, ha, hi, h, j, o, h1, h3 => by
    simp only [chk] at h
    split at h
    case h_2 => cases h
    rename_i g1 g2 g3
    by_cases e : j = i
    · subst e
      have : all[j]? = some o0 := by rw [ha, ← hi]; simp
      rw [this] at h3; cases h3
      refine ⟨edgesLt_ok g1, fun p q hp hq => chkP_ok (pre := []) rfl rfl g2 p q (Nat.zero_le _) hp hq, fun hf => ?_⟩
      rw [hf] at g3; exact g3
    · exact chk_ok (r := r) (pre := pre ++ [o0]) (i := i + 1) (by rw [ha]; simp) (by simp [hi]) h j o (by omega) h3

theorem statF_ok {ops : Array Oper} {T : List Nat} {fl : Bool} {gx : List Nat} {gl : Bool} (h : statF ops T fl gx gl = true) (j : Nat) (o : Oper) (hj : ops[j]? = some o) : (∀ e ∈ o.after.toList, Region.binds .any e = true → e.on < j) ∧ (∀ p q, p < j → ops[p]? = some q → ((clos ops.toList []).getD j 0).testBit p = true ∨ IndP ops.toList T fl gx gl p q o) ∧ (fl = true → stoB ops.toList ((clos ops.toList []).getD j 0) j o = true) := by
  have := chk_ok (pre := []) rfl rfl h j o (Nat.zero_le _) (by rw [Array.getElem?_toList]; exact hj)
  exact ⟨this.1, fun p q hp hq => this.2.1 p q hp (by rw [Array.getElem?_toList]; exact hq), this.2.2⟩

theorem DenF.lkeq {c : Cx} {N : Nat} {sl sl' : Slots} {h h' : Heap} {F : Nat → Prop} {a : Act} {w : World} (e1 : ∀ t, lk sl t = lk sl' t) (e2 : ∀ b, lkB h b = lkB h' b) (D : DenF c N sl h F a w) : DenF c N sl' h' F a w := by
  obtain ⟨β, Y, m, hs, hN, hd⟩ := D
  have hown : ∀ β, Own β h = Own β h' := fun β => by funext r; simp only [Own, e2]
  have hX : ∀ Z Y β, XX Z Y β h = XX Z Y β h' := fun Z Y β => by funext r; simp only [XX, hown]
  refine ⟨β, Y, ⟨m.fresh, fun b k hk => ?_, fun b b' k k' l l' h1 h2 => m.inj b b' k k' l l' (by rw [e2]; exact h1) (by rw [e2]; exact h2), fun r hr => m.own r (by rw [hown]; exact hr), m.yy, m.zz, m.size, m.frame, m.os, m.tape, m.output, fun g t hg ht => ?_⟩, ⟨hs.1, fun t => ?_⟩, hN, hd⟩
  · obtain ⟨l, g1, g2⟩ := m.blk b k (by rw [e2]; exact hk)
    exact ⟨l, g1, by rw [← hX]; exact g2⟩
  · rw [← hX]; exact m.gl g t hg ht
  · have := hs.2 t
    rw [← hX, ← e1]; exact this

theorem DenF.drew {c : Cx} {N : Nat} {sl : Slots} {h : Heap} {F : Nat → Prop} {a : Act} {w : World} (D : DenF c N sl h F a w) : DenF c N sl h F a { w with drawn := w.drawn + 1 } := by
  obtain ⟨β, Y, m, hs, hN, hd⟩ := D
  have b : Below w.heap.size w { w with drawn := w.drawn + 1 } := ⟨rfl, rfl, rfl, Nat.le_refl _, fun _ _ => rfl⟩
  obtain ⟨m', e⟩ := m.step b
  exact ⟨β, Y, m', ⟨hs.1, fun t => rel_ext e (nms_true (fun _ _ k => k) _) (hs.2 t)⟩, hN, hd⟩

theorem opsI_of {E : Env} {all : List Oper} {n : Nat} {K : Slots → Heap → Nat → Prop} : ∀ {r pre : List Oper} {sl : Slots} {h : Heap}, all = pre ++ r → opsX E all r sl h (n + pre.length) K → opsI E all n (List.range' pre.length r.length) sl h fun s g => K s g (n + all.length)
  | [], pre, sl, h, ha, k => by
    subst ha
    simpa [opsX, opsI] using k
  | o :: r, pre, sl, h, ha, k => by
    have : all[pre.length]? = some o := by rw [ha]; simp
    simp only [List.length_cons, List.range'_succ, opsI, this]
    simp only [opsX] at k
    refine gopX_mono (fun s g k' => ?_) k
    have := opsI_of (all := all) (E := E) (r := r) (pre := pre ++ [o]) (sl := s) (h := g) (by rw [ha]; simp) (K := K) (n := n) (by simpa [Nat.add_assoc] using k')
    simpa using this

section
variable {c : Cx} (ok : EnvOK c.E) {N : Nat}
include ok in
theorem anyOrd {ops : Array Oper} {T : List Nat} {fl : Bool} {gx : List Nat} {gl : Bool} (st : statF ops T fl gx gl = true) (hfl : fl = true → FlOK ops T) (hgl : gl = true → NlS ops.toList (clos ops.toList []) gx) (hd : ∀ o ∈ ops.toList, ∀ d, o.dst = some d → d < N) {n : Nat} {K : Slots → Heap → Prop} (inv : Inv K) {Q : Exit → Act → World → Prop} (fin : ∀ s g a w, K s g → DenF c N s g (fun b => n + ops.size ≤ b) a w → Q .normal a w) :
    ∀ (fuel : Nat) (listed : Array Bool) (R : List Nat) (sl : Slots) (h : Heap) (F : Nat → Prop) (a : Act) (w : World), listed.size = ops.size → R.Pairwise (· < ·) → (∀ i, i ∈ R ↔ i < ops.size ∧ listed.getD i false = false) → R.length ≤ fuel →
      Dn ops (fun i => listed.getD i false = true) → (∀ i ∈ R, F (n + i)) → (∀ b, n + ops.size ≤ b → F b) → DenF c N sl h F a w → (∀ T, (lkT c.E.tt T).zero.nmd (· < n)) → (fl = true → Cl c.E ops.toList n T (fun j => j < ops.size ∧ listed.getD j false = true) sl h) → (gl = true → Nl ops.toList gx (fun j => j < ops.size ∧ listed.getD j false = true) sl) → opsI c.E ops.toList n R sl h K → wpAnyIn (FR c.ro) 0 c.E.P .any ops Q fuel listed a w := by
  intro fuel
  have mem_R : ∀ (listed : Array Bool) (R : List Nat) i, listed.size = ops.size → (∀ i, i ∈ R ↔ i < ops.size ∧ listed.getD i false = false) → i ∈ Region.ready .any ops listed → i ∈ R ∧ ∃ o, ops[i]? = some o ∧ ∀ e ∈ o.after.toList, Region.binds .any e = true → listed.getD e.on false = true := by
    intro listed R i hs hR hi
    rw [Region.ready, List.mem_filter] at hi
    obtain ⟨h1, h2⟩ := hi
    have hlt : i < ops.size := by simpa using h1
    rw [Bool.and_eq_true] at h2
    obtain ⟨h2, h3⟩ := h2
    have hgt : listed.getD i true = listed.getD i false := by
      rw [Array.getD_eq_getD_getElem?, Array.getD_eq_getD_getElem?, Array.getElem?_eq_getElem (by omega)]; rfl
    refine ⟨(hR i).2 ⟨hlt, by rw [hgt] at h2; simpa using h2⟩, ops[i], by simp [hlt], ?_⟩
    rw [Array.getElem?_eq_getElem hlt] at h3
    simp only [Option.map_some, Option.getD_some] at h3
    intro e he hb
    have := Array.all_eq_true_iff_forall_mem.1 h3 e (by simpa using he)
    rw [hb] at this
    simpa using this
  have empty : ∀ (listed : Array Bool) (R : List Nat), listed.size = ops.size → R.Pairwise (· < ·) → (∀ i, i ∈ R ↔ i < ops.size ∧ listed.getD i false = false) → Region.ready .any ops listed = [] → R = [] := by
    intro listed R hs hp hR hr
    cases R with
    | nil => rfl
    | cons i R =>
      exfalso
      have hi := (hR i).1 (by simp)
      have : i ∈ Region.ready .any ops listed := by
        rw [Region.ready, List.mem_filter]
        refine ⟨by simpa using hi.1, ?_⟩
        have hgt : listed.getD i true = listed.getD i false := by
          rw [Array.getD_eq_getD_getElem?, Array.getD_eq_getD_getElem?, Array.getElem?_eq_getElem (by omega)]; rfl
        rw [hgt, hi.2, Array.getElem?_eq_getElem hi.1]
        simp only [Bool.not_false, Bool.true_and, Option.map_some, Option.getD_some]
        rw [Array.all_eq_true_iff_forall_mem]
        intro e he
        cases hb : Region.binds .any e with
        | false => rfl
        | true =>
          have hlt := (statF_ok st i _ (Array.getElem?_eq_getElem hi.1)).1 e (by simpa using he) hb
          simp only [Bool.not_true, Bool.false_or]
          cases hl : listed.getD e.on false with
          | true => rfl
          | false =>
            have := (hR e.on).2 ⟨by omega, hl⟩
            rcases List.mem_cons.1 this with h | h
            · omega
            · have := (List.pairwise_cons.1 hp).1 _ h
              omega
      rw [hr] at this
      cases this
  induction fuel with
  | zero =>
    intro listed R sl h F a w hs hp hR hlen dn hF hF2 D hz hcl hnl k
    have : R = [] := List.length_eq_zero_iff.1 (by omega)
    subst this
    refine ⟨?_, fin _ _ _ _ k (D.less hF2)⟩
    cases hr : Region.ready .any ops listed with
    | nil => rfl
    | cons i r =>
      have := (mem_R listed [] i hs hR (by rw [hr]; simp)).1
      cases this
  | succ fuel ih =>
    intro listed R sl h F a w hs hp hR hlen dn hF hF2 D hz hcl hnl k
    refine ⟨fun hr => ?_, fun i hi => ?_⟩
    · have := empty listed R hs hp hR hr
      subst this
      exact fin _ _ _ _ k (D.less hF2)
    · obtain ⟨hiR, oi, hoi, hafter⟩ := mem_R listed R i hs hR hi
      obtain ⟨pre, post, rfl⟩ := List.append_of_mem hiR
      have hp2 := List.pairwise_append.1 hp
      have hpre : ∀ p ∈ pre, p < i := fun p hp' => hp2.2.2 p hp' i (by simp)
      have hpost : ∀ p ∈ post, i < p := fun p hp' => (List.pairwise_cons.1 hp2.2.1).1 p hp'
      have hind : ∀ p ∈ pre, p ≠ i ∧ ∃ o, ops[p]? = some o ∧ IndP ops.toList T fl gx gl p o oi := by
        intro p hp'
        have h1 := (hR p).1 (by simp [hp'])
        refine ⟨by have := hpre p hp'; omega, ops[p]'h1.1, by simp [h1.1], ?_⟩
        rcases (statF_ok st i oi hoi).2.1 p _ (hpre p hp') (Array.getElem?_eq_getElem h1.1) with hb | hb
        · exfalso
          -- p stands before i: it is listed
          have hL := clos_ok (ops := ops) (L := fun j => listed.getD j false = true ∨ j = i) (fun j o hj hj' e he hbd => ?_) ops.toList [] [] rfl rfl (fun k p hk => by simp at hk) i p hb (.inr rfl)
          · rcases hL with hL | hL
            · rw [h1.2] at hL; cases hL
            · have := hpre p hp'; omega
          · rcases hj' with hj' | rfl
            · exact .inl (dn j o hj hj' e he hbd)
            · rw [hoi] at hj; cases hj
              exact .inl (hafter e he hbd)
        · exact hb
      have hlt : i < ops.size := ((hR i).1 hiR).1
      have hLi : ∀ q, q < i → ((clos ops.toList []).getD i 0).testBit q = true → listed.getD q false = true := by
        intro q hq hb
        have hL := clos_ok (ops := ops) (L := fun j => listed.getD j false = true ∨ j = i) (fun j o hj hj' e he hbd => ?_) ops.toList [] [] rfl rfl (fun k p hk => by simp at hk) i q hb (.inr rfl)
        · rcases hL with hL | hL
          · exact hL
          · omega
        · rcases hj' with hj' | rfl
          · exact .inl (dn j o hj hj' e he hbd)
          · rw [hoi] at hj; cases hj
            exact .inl (hafter e he hbd)
      have hLa : fl = true → ∀ a, frS ops.toList oi = some a → a < ops.size ∧ listed.getD a false = true := by
        intro hf a0 ha0
        obtain ⟨T0, t, v, hy, _, _⟩ := frS_ok ha0
        obtain ⟨a1, h1, h2, h3⟩ := (stoB_ok ((statF_ok st i oi hoi).2.2 hf)).2 _ _ _ hy
        rw [ha0] at h1; cases h1
        exact ⟨by omega, hLi a0 h2 h3⟩
      have k2 := bubble ok hd hfl hgl hoi inv post pre sl h F (fun j => j < ops.size ∧ listed.getD j false = true) hind hp hF ⟨a, w, D⟩ hz hcl hnl (fun j hj hm => by
        have := ((hR j).1 hm).2
        rw [hj.2] at this; cases this) (fun j hj => by
        by_cases hl : listed.getD j false = true
        · exact .inl ⟨hj, hl⟩
        · exact .inr ((hR j).2 ⟨hj, by simpa using hl⟩)) hLa k
      have hi' : ops.toList[i]? = some oi := by rw [Array.getElem?_toList]; exact hoi
      simp only [opsI, hi'] at k2
      have k2c := gopX_cl (E := c.E) (fl := fl) (T := T) (L := fun j => j < ops.size ∧ listed.getD j false = true) (opsI_inv inv (pre ++ post)) hz hi' (fun hf => ⟨hcl hf, (hfl hf).kd i oi hoi, (fun hLp => by
        have := ((hR i).1 hiR).2
        rw [hLp.2] at this; cases this), (hfl hf).tk, fun T0 a0 v hs => by
        obtain ⟨a1, h1, h2⟩ := (hfl hf).st i oi hoi T0 a0 v hs
        exact ⟨a1, h1, hLa hf a1 h1⟩⟩) k2
      have hglb : ∀ g, (ev c.E sl (.global g)).nmd fun _ => False := fun g => D.glb sl g
      have k2c := gopX_nl (E := c.E) (gl := gl) (gx := gx) (cls := clos ops.toList []) (L := fun j => j < ops.size ∧ listed.getD j false = true) hglb hi' (fun hf => ⟨hnl hf, hgl hf, fun j hj hb _ => ⟨by omega, hLi j hj hb⟩⟩) k2c
      refine gopX_sound ok hd hoi k2c (hF i hiR) (hd oi (List.mem_of_getElem? hi')) D fun sl' h' a' w' k3c D' => ?_
      obtain ⟨⟨k3, kc3⟩, kn3⟩ := k3c
      refine ih (listed.setIfInBounds i true) (pre ++ post) sl' h' (rmF F (n + i)) a' w' (by simpa using hs) ?_ ?_ ?_ ?_ ?_ ?_ D' hz (fun hf => (kc3 hf).less fun j hj => ?_) (fun hf => (kn3 hf).less fun j hj => ?_) k3
      · exact hp.sublist ((List.sublist_cons_self i post).append_left pre)
      · intro j
        have hmem : j ∈ pre ++ post ↔ j ∈ pre ++ i :: post ∧ j ≠ i := by
          simp only [List.mem_append, List.mem_cons]
          constructor
          · rintro (h | h)
            · exact ⟨.inl h, by have := hpre j h; omega⟩
            · exact ⟨.inr (.inr h), by have := hpost j h; omega⟩
          · rintro ⟨h | h | h, h'⟩
            · exact .inl h
            · exact absurd h h'
            · exact .inr h
        rw [hmem, hR j]
        by_cases e : j = i
        · subst e
          simp only [ne_eq, not_true, and_false, false_iff, not_and]
          intro _
          rw [Array.getD_eq_getD_getElem?, Array.getElem?_setIfInBounds_self_of_lt (by omega)]
          simp
        · rw [getD_set_ne false (Ne.symm e)]
          simp [e]
      · simp at hlen ⊢; omega
      · intro j o hj hj' e he hb
        by_cases hji : j = i
        · subst hji
          rw [hoi] at hj; cases hj
          exact getD_set_true (hafter e he hb)
        · rw [getD_set_ne false (Ne.symm hji)] at hj'
          exact getD_set_true (dn j o hj hj' e he hb)
      · intro j hj
        have hj' : j ∈ pre ++ i :: post ∧ j ≠ i := by
          simp only [List.mem_append] at hj
          rcases hj with h | h
          · exact ⟨by simp [h], by have := hpre j h; omega⟩
          · exact ⟨by simp [h], by have := hpost j h; omega⟩
        exact ⟨hF j hj'.1, by omega⟩
      · intro b hb
        exact ⟨hF2 b hb, by omega⟩
      · by_cases e : j = i
        · exact .inr e
        · rw [getD_set_ne false (Ne.symm e)] at hj
          exact .inl hj
      · by_cases e : j = i
        · exact .inr e
        · rw [getD_set_ne false (Ne.symm e)] at hj
          exact .inl hj

include ok in
theorem drawn_okF {ops : Array Oper} {T : List Nat} {fl : Bool} {gx : List Nat} {gl : Bool} (st : statF ops T fl gx gl = true) (tk : fl = true → tntOK T ops.toList = true) (hgl : gl = true → NlS ops.toList (clos ops.toList []) gx) (hd : ∀ o ∈ ops.toList, ∀ d, o.dst = some d → d < N) (id : Nat) {sl : Slots} {h : Heap} {n : Nat} {K : Slots → Heap → Nat → Prop} (k : opsX c.E ops.toList ops.toList sl h n K) {a : Act} {w : World} (D : Den c N sl h n a w) {Q : Exit → Act → World → Prop}
    (hQ : ∀ sl' h' n' a' w', K sl' h' n' → Den c N sl' h' n' a' w' → Q .normal a' w') : (Code.region id ops true).wpIn (FR c.ro) 0 c.E.P Q a w := by
  have k1 := opsI_of (pre := []) (r := ops.toList) rfl (by simpa using k)
  let K' : Slots → Heap → Prop := fun s g => ∃ s0 g0, (∀ t, lk s0 t = lk s t) ∧ (∀ b, lkB g0 b = lkB g b) ∧ K s0 g0 (n + ops.toList.length)
  have inv : Inv K' := fun s g s' g' e1 e2 ⟨s0, g0, h1, h2, h3⟩ => ⟨s0, g0, fun t => (h1 t).trans (e1 t), fun b => (h2 b).trans (e2 b), h3⟩
  have mono : ∀ r sl h, opsI c.E ops.toList n r sl h (fun s g => K s g (n + ops.toList.length)) → opsI c.E ops.toList n r sl h K' := by
    intro r
    induction r with
    | nil => exact fun sl h k => ⟨sl, h, fun _ => rfl, fun _ => rfl, k⟩
    | cons i r ih =>
      intro sl h k
      simp only [opsI] at k ⊢
      split at k
      case h_2 => exact k.elim
      exact gopX_mono (fun s g k => ih s g k) k
  refine wpIn_region_any ok.mixed ?_
  have hfl : fl = true → FlOK ops T := fun hf => ⟨tk hf, fun p o hp => (stoB_ok ((statF_ok st p o hp).2.2 hf)).1, fun p o hp T0 a v hs => by
    obtain ⟨a1, h1, h2, _⟩ := (stoB_ok ((statF_ok st p o hp).2.2 hf)).2 T0 a v hs
    exact ⟨a1, h1, h2⟩⟩
  have hlt : ∀ (P : Nat → Prop) v, SV.nmd (fun b => ¬ n ≤ b) v → SV.nmd (· < n) v := fun _ v hv => nmd_mono (fun b hb => by omega) _ hv
  have hz : ∀ T, (lkT c.E.tt T).zero.nmd (· < n) := fun T => zero_nmd ok _ T
  have hcl : Cl c.E ops.toList n T (fun j => j < ops.size ∧ (Array.replicate ops.size false).getD j false = true) sl h := by
    have wf := D.wf ok
    obtain ⟨β, Y, m, hs, _⟩ := D
    have hF : ∀ b, β b ≠ none → b < n := fun b hb => by
      rcases Nat.lt_or_ge b n with g | g
      · exact g
      · exact absurd (m.fresh b g) hb
    refine ⟨fun t _ => nmd_mono hF _ (rel_nmd (hs.2 t)), fun g => hlt (fun _ => True) _ (wf.ev (.global g)), fun b hb o v hv => hlt (fun _ => True) _ (wf.hs.var b (by omega) o v hv), fun b hb o s xs hv => ?_, fun i o t hL => ?_⟩
    · obtain ⟨l, h1, h2⟩ := m.blk b _ hv
      obtain ⟨g1, g2, g3, g4⟩ := h2
      rcases g4 with g4 | ⟨cs, ty, lo, hi, _, _, _, ⟨c1, c2, _, h5⟩, _⟩
      · have : xs = [] := by cases xs with
          | nil => rfl
          | cons a r => simp at g1; omega
        subst this; trivial
      · exact nmdL_mono (fun b hb => absurd rfl hb) _ (relR_nmd _ _ _ _ h5)
    · exfalso
      obtain ⟨h1, h2⟩ := hL
      rw [Array.getD_eq_getD_getElem?] at h2
      simp [h1] at h2
  refine anyOrd ok st hfl hgl hd (n := n) inv (fun s g a w hk D => ?_) ops.size _ (List.range ops.size) sl h (fun b => n ≤ b) a _ (by simp) List.pairwise_lt_range ?_ (by simp) ?_ (fun i _ => by omega) (fun b hb => by omega) D.drew hz (fun _ => hcl) (fun _ => Nl.none fun j hj => by
    obtain ⟨h1, h2⟩ := hj
    rw [Array.getD_eq_getD_getElem?] at h2
    simp [h1] at h2) ?_
  · obtain ⟨s0, g0, h1, h2, h3⟩ := hk
    have h3' : K s0 g0 (n + ops.size) := by simpa using h3
    exact hQ s0 g0 _ a w h3' (DenF.lkeq (fun t => (h1 t).symm) (fun b => (h2 b).symm) D)
  · intro i
    rw [List.mem_range]
    constructor
    · intro hi
      refine ⟨hi, ?_⟩
      rw [Array.getD_eq_getD_getElem?]
      simp [hi]
    · exact fun h => h.1
  · intro i o hi hL
    exfalso
    rw [Array.getD_eq_getD_getElem?] at hL
    have : i < ops.size := by
      rcases Nat.lt_or_ge i ops.size with h | h
      · exact h
      · rw [Array.getElem?_eq_none h] at hi; cases hi
    simp [this] at hL
  · have := mono _ _ _ k1
    simpa [List.range_eq_range'] using this

include ok in
theorem drawn_ok {ops : Array Oper} (st : statB ops = true) (hd : ∀ o ∈ ops.toList, ∀ d, o.dst = some d → d < N) (id : Nat) {sl : Slots} {h : Heap} {n : Nat} {K : Slots → Heap → Nat → Prop} (k : opsX c.E ops.toList ops.toList sl h n K) {a : Act} {w : World} (D : Den c N sl h n a w) {Q : Exit → Act → World → Prop}
    (hQ : ∀ sl' h' n' a' w', K sl' h' n' → Den c N sl' h' n' a' w' → Q .normal a' w') : (Code.region id ops true).wpIn (FR c.ro) 0 c.E.P Q a w := by
  unfold statB at st
  split at st
  · rename_i e; exact drawn_okF ok e (fun h => by cases h) (fun h => by cases h) hd id k D hQ
  · split at st
    · rename_i e0
      split at e0
      · rename_i e; exact drawn_okF ok e0 (fun _ => e) (fun h => by cases h) hd id k D hQ
      · cases e0
    · unfold statG at st
      split at st
      · rename_i e; exact drawn_okF ok st (fun h => by cases h) (fun _ => nlB_ok e) hd id k D hQ
      · cases st
end

/-- A text whose drawn regions hold only operations that do not meet. -/
def codeB (N : Nat) : Code → Bool
  | .region _ ops draw => match plainOps N ops.toList with
    | true => (match draw with | true => statB ops | false => true)
    | false => false
  | .seq a b => match codeB N a with | true => codeB N b | false => false
  | .cond _ a b => match codeB N a with | true => codeB N b | false => false
  | .block _ b => codeB N b
  | .loop b => codeB N b
  | .scope b => codeB N b
  | _ => true
theorem codeB_ok {E : Env} (ok : EnvOK E) {N : Nat} : ∀ {c : Code}, codeB N c = true → codeOK E N c
  | .region id ops draw, h => by
    simp only [codeB] at h
    split at h
    case h_2 => cases h
    rename_i e
    refine ⟨plainOps_ok e, fun hd => ?_⟩
    subst hd
    intro c hc id sl h' n K hk a w D Q hQ
    subst hc
    exact drawn_ok ok h (plainOps_ok e) id hk D hQ
  | .seq a b, h => by
    simp only [codeB] at h
    split at h
    · rename_i e; exact ⟨codeB_ok ok e, codeB_ok ok h⟩
    · cases h
  | .cond _ a b, h => by
    simp only [codeB] at h
    split at h
    · rename_i e; exact ⟨codeB_ok ok e, codeB_ok ok h⟩
    · cases h
  | .block _ b, h => codeB_ok ok (c := b) h
  | .loop b, h => codeB_ok ok (c := b) h
  | .scope b, h => codeB_ok ok (c := b) h
  | .skip, _ | .exit _, _ | .ret, _ | .rangeFunc _ _ _ _, _ | .label _, _ | .goto _, _ | .refuse _, _ => trivial
end Go.Sx
