/-
  THE EXECUTOR IS SOUND: code, loops, functions. Generic: no program in sight. An own text.
-/
import Derived.Test.YtcgehmlhafjfkaaGreatDoorSx18
import Derived.Scope
import Derived.RangeFuncLeaves
import Derived.RangeFuncKeeps
namespace Go.Sx
open Go.RowKit (Below)

def brk (v : SV) (K1 K2 : Prop) : Prop :=
  match v with
  | .bool b => (b = true → K1) ∧ (b = false → K2)
  | .tru => K1
  | .fls => K2
  | _ => False

abbrev KX := Exit → Slots → Heap → Nat → Prop

/-- A loop: the least relation that holds where one round, its end taken care of, leads to where it holds; states may be weakened. -/
@[irreducible] def LoopVC (sl : Slots) (h : Heap) (n : Nat) (B : Slots → Heap → Nat → (Slots → Heap → Nat → Prop) → Prop) : Prop :=
  ∀ I : Slots → Heap → Nat → Prop, (∀ sl h n, B sl h n I → I sl h n) → (∀ sl h n sl' h' n', Sub sl' h' n' sl h n → I sl h n → I sl' h' n') → (∀ sl sl' h n, (∀ t, lk sl t = .any ∨ lk sl t = lk sl' t) → I sl h n → I sl' h n) → I sl h n

/-- A block at whose end states may be weakened. -/
@[irreducible] def CutVC (B : KX → Prop) (K : KX) : Prop :=
  B fun e sl' h' n' => ∃ sl h n, ((sl = sl' ∧ h = h' ∧ n = n') ∨ Sub sl' h' n' sl h n) ∧ K e sl h n

/-- Slots, moved out of the way of a callee's. -/
def shS : Slots → Slots
  | [] => []
  | (t, v) :: r => (t + 1000000, v) :: shS r
def shSK {R : Sort _} : Slots → (Slots → R) → R
  | [], K => K []
  | (t, v) :: r, K => shSK r fun r => K ((t + 1000000, v) :: r)
theorem shSK_eq {R : Sort _} (s : Slots) (K : Slots → R) : shSK s K = K (shS s) := by
  induction s generalizing K with
  | nil => rfl
  | cons x r ih => obtain ⟨t, v⟩ := x; simp only [shSK, shS, ih]
/-- .. and back -/
def unS : Slots → Slots
  | [] => []
  | (t, v) :: r => match Nat.ble t 999999 with
    | true => unS r
    | false => (t - 1000000, v) :: unS r
def unSK {R : Sort _} : Slots → (Slots → R) → R
  | [], K => K []
  | (t, v) :: r, K => match Nat.ble t 999999 with
    | true => unSK r K
    | false => unSK r fun r => K ((t - 1000000, v) :: r)
theorem unSK_eq {R : Sort _} (s : Slots) (K : Slots → R) : unSK s K = K (unS s) := by
  induction s generalizing K with
  | nil => rfl
  | cons x r ih =>
    obtain ⟨t, v⟩ := x
    simp only [unSK, unS]
    split <;> simp only [ih]

/-- A call that is made with the caller's own blocks in the callee's hands: it ends in a state of which K holds. -/
@[irreducible] def SemCall (E : Env) (f : FuncId) (as : List SV) (sl : Slots) (h : Heap) (n : Nat) (K : SV → Slots → Heap → Nat → Prop) : Prop :=
  Callable E.P f ∧ ∀ (c : Cx) (a : Act) (w : World) (β : Beta) (Y : Nat → Prop) (us : Array Value), c.E = E → Mem c h (fun b => n ≤ b) β Y w → SlotsOK c sl h β Y w a → relL w (XX c.Z Y β h) as β us.toList →
    Calls E.P f us w fun e w' => ∃ u, e = .returned u ∧ ∃ r sl' h' n' β' Y', (∀ r, Y r → Y' r) ∧ K r sl' h' n' ∧ Mem c h' (fun b => n' ≤ b) β' Y' w' ∧ SlotsOK c sl' h' β' Y' w' a ∧ rel w' (XX c.Z Y' β' h') r β' u

/-- A call of yield: a round. -/
@[irreducible] def SemYield (E : Env) (b : Nat) (as : List SV) (sl : Slots) (h : Heap) (n : Nat) (K : SV → Slots → Heap → Nat → Prop) : Prop :=
  ∀ (c : Cx) (a : Act) (w : World) (β : Beta) (Y : Nat → Prop) (us : Array Value) (l : Loc), c.E = E → Mem c h (fun b => n ≤ b) β Y w → SlotsOK c sl h β Y w a → relL w (XX c.Z Y β h) as β us.toList → β b = some l →
    ∃ fn tmps asg body, (Instr.yield l.r us).run E.P w = .ok (.round l.r fn tmps asg body) w ∧ RoundIn Fence.wide 0 E.P l.r fn tmps asg body w fun e w' =>
      ∃ u, e = .returned u ∧ ∃ r sl' h' n' β' Y', (∀ r, Y r → Y' r) ∧ K r sl' h' n' ∧ Mem c h' (fun b => n' ≤ b) β' Y' w' ∧ SlotsOK c sl' h' β' Y' w' a ∧ rel w' (XX c.Z Y' β' h') r β' u

/-- Is an operation a call with the caller's blocks? -/
def lendX (E : Env) (o : Op) (sl : Slots) (Kno : Prop) (Kyes : FuncId → List SV → Prop) (Kyld : Nat → List SV → Prop) : Prop :=
  match o with
  | .call c => match c.callee with
    | .value f => match ev E sl f with
      | .fn g caps => match memb g E.lend with
        | true => frcL (c.args.toList.map (ev E sl)) fun as => match noTup as with
          | true => Kyes g (as ++ caps)
          | false => False
        | false => Kno
      | .yld b => frcL (c.args.toList.map (ev E sl)) fun as => match noTup as with
          | true => Kyld b as
          | false => False
      | _ => Kno
    | _ => Kno
  | _ => Kno

/-- a nil slice that is laid in a slot: the cell size of its elements -/
def nilT (E : Env) (o : Oper) : Option Nat :=
  match o.op with
  | .assign (.const (.slice none 0 0)) => match (lkT E.tt o.type).d with
    | .sl e => match Nat.ble 1 (lkT E.tt e).size with
      | true => some (lkT E.tt e).size
      | false => none
    | _ => none
  | _ => none

def opY (E : Env) (o : Oper) (sl : Slots) (h : Heap) (n : Nat) (K : Slots → Heap → Nat → Prop) : Prop :=
  match nilT E o with
  | some sz => (match o.dst with
    | some d => K ((d, .osl n sz) :: sl) ((n, .row true sz []) :: h) (n + 1)
    | none => K sl h (n + 1))
  | none => lendX E o.op sl (opX E o sl h n fun sl h => K sl h (n + 1)) (fun f as =>
    SemCall E f as sl h n fun r sl h n => match o.dst with
      | some d => K ((d, r) :: sl) h n
      | none => K sl h n) fun b as =>
    SemYield E b as sl h n fun r sl h n => match o.dst with
      | some d => K ((d, r) :: sl) h n
      | none => K sl h n

/-- behind a range over a function: on, or what a round left -/
def afterR (h : Heap) (b : Nat) (K : Exit → Heap → Prop) : Prop :=
  match lkB h b with
  | some (.gho q _) => match q.dead with
    | true => False
    | false => (match q.st with
    | .busy => False
    | _ => (match q.pend with
      | none => stK h b .dead fun h => K .normal h
      | some .ret => stK h b .dead fun h => K .ret h
      | some (.exit i) => stK h b .dead fun h => K (.exit i) h
      | _ => False))
  | _ => False

def gopY (E : Env) (all : List Oper) (o : Oper) (sl : Slots) (h : Heap) (n : Nat) (K : Slots → Heap → Nat → Prop) : Prop :=
  grd all o.guard sl (fun sl => opY E o sl h n K)
    (fun sl => match o.dst with
      | some d => K ((d, und) :: sl) h n
      | none => K sl h n)

def opsY (E : Env) (all : List Oper) : List Oper → Slots → Heap → Nat → (Slots → Heap → Nat → Prop) → Prop
  | [], sl, h, n, K => K sl h n
  | o :: r, sl, h, n, K => gopY E all o sl h n fun sl h n => opsY E all r sl h n K

/-! every order, one by one -/
def bndL (L : List Nat) : List Edge → Bool
  | [] => true
  | e :: r => match Region.binds .any e with
    | true => (match memb e.on L with | true => bndL L r | false => false)
    | false => bndL L r
def rdy (L : List Nat) : List Oper → Nat → List (Nat × Oper)
  | [], _ => []
  | o :: r, i => match memb i L, bndL L o.after.toList with
    | false, true => (i, o) :: rdy L r (i + 1)
    | _, _ => rdy L r (i + 1)
def allA (f : Nat × Oper → Prop) : List (Nat × Oper) → Prop
  | [] => True
  | a :: r => f a ∧ allA f r
def anyY (E : Env) (ops : List Oper) : Nat → List Nat → Slots → Heap → Nat → (Slots → Heap → Nat → Prop) → Prop
  | 0, L, sl, h, n, K => match rdy L ops 0 with
    | [] => K sl h n
    | _ :: _ => False
  | f + 1, L, sl, h, n, K => match rdy L ops 0 with
    | [] => K sl h n
    | q :: r => allA (fun p => gopY E ops p.2 sl h n fun sl h n => anyY E ops f (p.1 :: L) sl h n K) (q :: r)
/-- is there a call with the caller's blocks among them? -/
def lendB (l : List Nat) : List Oper → Bool
  | [] => false
  | o :: r => match o.op with
    | .call c => (match c.callee with
      | .value (.func g) => (match memb g l with | true => true | false => lendB l r)
      | _ => lendB l r)
    | _ => lendB l r

def exec (E : Env) (N : Nat) (cuts : List Nat) : Code → Slots → Heap → Nat → KX → Prop
  | .skip, sl, h, n, K => K .normal sl h n
  | .seq a b, sl, h, n, K => exec E N cuts a sl h n fun e sl h n => match e with
    | .normal => exec E N cuts b sl h n K
    | e => K e sl h n
  | .cond c a b, sl, h, n, K => brk (ev E sl c) (exec E N cuts a sl h n K) (exec E N cuts b sl h n K)
  | .block id b, sl, h, n, K => match memb id cuts with
    | false => exec E N cuts b sl h n fun e sl h n => (match e with
      | .exit i => (match Nat.beq i id with | true => K .normal sl h n | false => K (.exit i) sl h n)
      | e => K e sl h n)
    | true => CutVC (fun K => exec E N cuts b sl h n fun e sl h n => (match e with
      | .exit i => (match Nat.beq i id with | true => K .normal sl h n | false => K (.exit i) sl h n)
      | e => K e sl h n)) K
  | .exit i, sl, h, n, K => K (.exit i) sl h n
  | .ret, sl, h, n, K => K .ret sl h n
  | .region _ ops true, sl, h, n, K => (match lendB E.lend ops.toList with
    | false => opsX E ops.toList ops.toList sl h n fun sl h n => K .normal sl h n
    | true => anyY E ops.toList ops.toList.length [] sl h n fun sl h n => K .normal sl h n)
  | .region _ ops false, sl, h, n, K => opsY E ops.toList ops.toList sl h n fun sl h n => K .normal sl h n
  | .loop b, sl, h, n, K => LoopVC sl h n fun sl h n C => exec E N cuts b sl h n fun e sl h n => match e with
    | .normal => C sl h n
    | e => K e sl h n
  | .scope b, sl, h, n, K => exec E N cuts b sl h n fun e sl h n => match e with
    | .goto _ => False
    | e => K e sl h n
  | .label _, sl, h, n, K => K .normal sl h n
  | .rangeFunc f ps asg b, sl, h, n, K => (match ev E sl f with
    | .fn g caps => SemCall E g (.yld n :: caps) ((1999999, .yld n) :: sl) ((n, .gho ⟨.ready, none, N, ps, asg, b, false⟩ sl) :: h) (n + 1) fun _ sl h n' => (match lk sl 1999999 with
      | .yld b => (match Nat.beq b n with
        | true => afterR h n fun e h => K e ((1999999, .any) :: sl) h n'
        | false => False)
      | _ => False)
    | _ => False)
  | _, _, _, _, _ => False

def ini {R : Sort _} : List SV → Nat → Slots → (Slots → R) → R
  | [], _, sl, K => K sl
  | v :: r, i, sl, K => frc v fun v => ini r (i + 1) ((i, v) :: sl) K

/-- A result as it is told: a bool that is known is a bool. -/
def bl : SV → SV
  | .tru => .bool true
  | .fls => .bool false
  | v => v

def resL (E : Env) (sl : Slots) (h : Heap) : List ResultVar → (List SV → Prop) → Prop
  | [], K => K []
  | .tmp t :: r, K => frz h 60 (bl (ev E sl (.tmp t))) [] fun v _ => resL E sl h r fun vs => K (v :: vs)
  | .cell t T :: r, K => opE E sl h 0 (.load T (.tmp t)) fun v _ _ => frz h 60 v [] fun v _ => resL E sl h r fun vs => K (v :: vs)

/-- .. the same, where names may stay -/
def resLI (E : Env) (sl : Slots) (h : Heap) : List ResultVar → (List SV → Prop) → Prop
  | [], K => K []
  | .tmp t :: r, K => frc (ev E sl (.tmp t)) fun v => resLI E sl h r fun vs => K (v :: vs)
  | .cell t T :: r, K => opE E sl h 0 (.load T (.tmp t)) fun v _ _ => resLI E sl h r fun vs => K (v :: vs)

def resI (E : Env) (fn : Func) (sl : Slots) (h : Heap) (K : SV → Prop) : Prop :=
  resLI E sl h fn.results.toList fun vs => match vs with
    | [v] => K v
    | vs => match noTup vs with | true => K (.tup vs) | false => False

/-- What a call returns: from its result variables. -/
def resX (E : Env) (fn : Func) (sl : Slots) (h : Heap) (K : SV → Prop) : Prop :=
  resL E sl h fn.results.toList fun vs => match vs with
    | [v] => K v
    | vs => match noTup vs with | true => K (.tup vs) | false => False

/-- One value says no less than another. -/
@[irreducible] def Wk (v r : SV) : Prop := ∀ w X β u, rel w X v β u → rel w X r β u
theorem Wk.refl (v : SV) : Wk v v := by unfold Wk; exact fun _ _ _ _ h => h
theorem Wk.app {v r : SV} (h : Wk v r) {w : World} {X : Nat → Prop} {β : Beta} {u : Value} (k : rel w X v β u) : rel w X r β u := by unfold Wk at h; exact h w X β u k
theorem Wk.of {v r : SV} (h : v = r) : Wk v r := h ▸ .refl v

def fnX (E : Env) (cuts : List Nat) (fn : Func) (args : List SV) (r : SV) : Prop :=
  match fn.body with
  | some c => ini args 0 [] fun sl => exec E fn.ntmps cuts c sl [] 0 fun e sl h _ => match e with
    | .normal | .ret => resX E fn sl h fun v => Wk v r
    | _ => False
  | none => False


/-- A region that draws its order: whatever order is drawn, it ends as the order of the text does. -/
def DrawnOK (E : Env) (N : Nat) (ops : Array Oper) : Prop :=
  ∀ (c : Cx), c.E = E → ∀ (id : Nat) (sl : Slots) (h : Heap) (n : Nat) (K : Slots → Heap → Nat → Prop), opsX E ops.toList ops.toList sl h n K → ∀ (a : Act) (w : World), Den c N sl h n a w → ∀ Q : Exit → Act → World → Prop,
    (∀ sl' h' n' a' w', K sl' h' n' → Den c N sl' h' n' a' w' → Q .normal a' w') → (Code.region id ops true).wpIn (FR c.ro) 0 E.P Q a w

def codeOK (E : Env) (N : Nat) : Code → Prop
  | .scope b => codeOK E N b
  | .region _ ops draw => (∀ o ∈ ops.toList, ∀ d, o.dst = some d → d < N) ∧ (draw = true → DrawnOK E N ops)
  | .seq a b => codeOK E N a ∧ codeOK E N b
  | .cond _ a b => codeOK E N a ∧ codeOK E N b
  | .block _ b => codeOK E N b
  | .loop b => codeOK E N b
  | _ => True

/-- Is there a range over a function? -/
def rfB : Code → Bool
  | .rangeFunc .. => true
  | .scope b => rfB b
  | .seq a b => match rfB a with | true => true | false => rfB b
  | .cond _ a b => match rfB a with | true => true | false => rfB b
  | .block _ b => rfB b
  | .loop b => rfB b
  | _ => false

/-- a loop, from behind its head -/
def LoopWp (ro : Option Nat) (P : Program) (c : Code) (Q : Exit → Act → World → Prop) (a : Act) (w : World) : Prop :=
  ∀ (b : Frame) (k : List Item) (cs : List Frame), b.roundOf = ro → ∃ e a' w', Q e a' w' ∧ ArrivesIn (Machine.fenced P (FR ro)) P (lone (b.atR a (.code c :: .inLoop c :: k)) cs w) b k cs e a' w'

theorem stepR_scope {P : Program} {b : Frame} {a : Act} {k : List Item} {cs : List Frame} {w : World} {c : Code} : step P (lone (b.atR a (.code (.scope c) :: k)) cs w) = .next (lone (b.atR a (.code c :: .inScope c :: k)) cs w) :=
  step_lone_go (by simp [stepG, stepG.exec, Frame.atR])
theorem stepR_inScope {P : Program} {b : Frame} {a : Act} {k : List Item} {cs : List Frame} {w : World} {c : Code} : step P (lone (b.atR a (.inScope c :: k)) cs w) = .next (lone (b.atR a k) cs w) :=
  step_lone_go (by simp [stepG, stepG.exec, Frame.atR])

theorem calmR {P : Program} {ro : Option Nat} {fr : Frame} {cs : List Frame} {w : World} : (lone fr cs w).fenced P (FR ro) := fenced_wide _ _

theorem loopWp_step {ro : Option Nat} {P : Program} {c : Code} {Q : Exit → Act → World → Prop} {a : Act} {w : World} (h : c.wpIn (FR ro) 0 P (Exit.then (LoopWp ro P c Q) Q) a w) : LoopWp ro P c Q a w := by
  intro b k cs hro
  obtain ⟨e, a₁, w₁, hq, harr⟩ := h b (.inLoop c :: k) cs hro trivial (room_FR _)
  cases e with
  | normal =>
    obtain ⟨e₂, a₂, w₂, hq₂, harr₂⟩ := hq b k cs hro
    exact ⟨e₂, a₂, w₂, hq₂, .of_steps (StepsIn.trans harr (.one calmR stepR_inLoop)) harr₂⟩
  | exit id => exact ⟨_, a₁, w₁, hq, .pass (x := .inLoop c) rfl (fun _ _ => .inl (by simp)) harr⟩
  | goto l => exact ⟨_, a₁, w₁, hq, .pass (x := .inLoop c) rfl (fun _ _ => .inl (by simp)) harr⟩
  | ret => exact ⟨_, a₁, w₁, hq, .pass (x := .inLoop c) rfl (fun _ _ => .inl (by simp)) harr⟩
  | panic ch => exact ⟨_, a₁, w₁, hq, .pass (x := .inLoop c) rfl (fun _ _ => .inl (by simp)) harr⟩
  | outgrown => exact ⟨_, a₁, w₁, hq, .pass (x := .inLoop c) rfl (fun _ _ => .inl (by simp)) harr⟩

theorem loopWp_loop {ro : Option Nat} {P : Program} {c : Code} {Q : Exit → Act → World → Prop} {a : Act} {w : World} (h : LoopWp ro P c Q a w) : (Code.loop c).wpIn (FR ro) 0 P Q a w := by
  intro b k cs hro _ _
  obtain ⟨e, a', w', hq, harr⟩ := h b k cs hro
  exact ⟨e, a', w', hq, .of_steps (.one calmR stepR_loop) harr⟩

theorem wpIn_scope_straight {F : Fence} {n : Nat} {P : Program} {Q : Exit → Act → World → Prop} {a : Act} {w : World} {c : Code} (h : c.wpIn F n P (Exit.noGoto Q) a w) : (Code.scope c).wpIn F n P Q a w := by
  intro b k cs hro hb hr
  have h0 : (lone (b.atR a (.code (.scope c) :: k)) cs w).fenced P F := fenced_calm hb hr rfl
  obtain ⟨e, a₁, w₁, hq, harr⟩ := h b (.inScope c :: k) cs hro hb hr
  cases e with
  | normal => exact ⟨.normal, a₁, w₁, hq, .head h0 stepR_scope (StepsIn.trans harr (.one (fenced_calm hb hr rfl) stepR_inScope))⟩
  | exit id => exact ⟨_, a₁, w₁, hq, .of_steps (.one h0 stepR_scope) ⟨fun k' hk => harr.1 k' (by simp [exitTo, hk]), fun hr' hk => harr.2 hr' (by simp [exitTo, hk])⟩⟩
  | goto l => exact hq.elim
  | ret => exact ⟨_, a₁, w₁, hq, .of_steps (.one h0 stepR_scope) harr⟩
  | panic ch => exact ⟨_, a₁, w₁, hq, .of_steps (.one h0 stepR_scope) harr⟩
  | outgrown => exact ⟨_, a₁, w₁, hq, .of_steps (.one h0 stepR_scope) harr⟩

section
variable {c : Cx} {N : Nat}

theorem Den.weaken {sl sl' : Slots} {h h' : Heap} {n n' : Nat} {a : Act} {w : World} (hs : Sub sl' h' n' sl h n) (D : Den c N sl' h' n' a w) : Den c N sl h n a w := by
  obtain ⟨β, Y, m, hsl, hN, hdef⟩ := D
  obtain ⟨h1, h2, _, h4, h5⟩ := hs
  exact ⟨cutβ β n, Y, (m.weaken h2 h5).1, SlotsOK.weaken m h2 h5 h1 h4 hsl, hN, hdef⟩

theorem Den.fewer {sl sl' : Slots} {h : Heap} {n : Nat} {a : Act} {w : World} (hs : ∀ t, lk sl t = .any ∨ lk sl t = lk sl' t) (D : Den c N sl' h n a w) : Den c N sl h n a w := by
  obtain ⟨β, Y, m, hsl, hN, hdef⟩ := D
  refine ⟨β, Y, m, ⟨hsl.1, fun t => ?_⟩, hN, hdef⟩
  rcases hs t with e | e
  · rw [e]; exact rel_any
  · rw [e]; exact hsl.2 t

theorem brk_sound {v : SV} {K1 K2 : Prop} (hK : brk v K1 K2) {w : World} {X : Nat → Prop} {β : Beta} {u : Value} (hv : rel w X v β u) : ∃ t, u = .bool t ∧ (t = true → K1) ∧ (t = false → K2) := by
  unfold brk at hK
  split at hK
  · exact ⟨_, rel_bool.1 hv, hK⟩
  · exact ⟨true, rel_tru.1 hv, fun _ => hK, fun h => by cases h⟩
  · exact ⟨false, rel_fls.1 hv, fun h => (by cases h), fun _ => hK⟩
  · exact hK.elim

/-- a mark: a block that nobody writes till the frame leaves -/
theorem Mem.markY {c : Cx} {h : Heap} {F : Nat → Prop} {β : Beta} {Y : Nat → Prop} {w : World} (m : Mem c h F β Y w) :
    Mem c h F β (fun r => Y r ∨ r = w.heap.size) (w.alloc (.deferred (some []))) ∧ Ext w (XX c.Z Y β h) (w.alloc (.deferred (some []))) (XX c.Z (fun r => Y r ∨ r = w.heap.size) β h) := by
  have hpush : ∀ r, r < w.heap.size → (w.alloc (.deferred (some []))).heap[r]? = w.heap[r]? := fun r hr => Below.heap_alloc w _ r hr
  have hnew : (w.alloc (.deferred (some []))).heap[w.heap.size]? = some (.deferred (some [])) := by
    show (w.heap.push _)[w.heap.size]? = _
    simp
  have e : Ext w (XX c.Z Y β h) (w.alloc (.deferred (some []))) (XX c.Z (fun r => Y r ∨ r = w.heap.size) β h) := by
    refine ⟨by simp, fun r hr _ => hpush r hr, fun r hr hx => ?_⟩
    rintro (g | (g | g) | g)
    · exact hx (.inl g)
    · exact hx (.inr (.inl g))
    · omega
    · exact hx (.inr (.inr g))
  refine ⟨⟨m.fresh, fun b k hk => ?_, m.inj, fun r hr => ?_, fun r hr => ?_, m.zz, ?_, fun r hr hf => ?_, m.os, m.tape, m.output, fun g t hg ht => relP_ext e _ _ (nms_true (fun _ _ k => k) _) (m.gl g t hg ht)⟩, e⟩
  · obtain ⟨l, h1, h2⟩ := m.blk b k hk
    refine ⟨l, h1, ?_⟩
    by_cases hl : l.r < w.heap.size
    · exact h2.ext e (hpush _ hl) (fun _ _ k => k) (fun g1 g2 => e.less _ g1 g2)
    · cases k with
      | var own v =>
        obtain ⟨cs, ty, lo, hi, g1, _⟩ := h2
        exact absurd (heap_lt g1) hl
      | row own sz xs =>
        obtain ⟨g1, g2, g3, g4⟩ := h2
        refine ⟨g1, g2, g3, g4.imp id ?_⟩
        rintro ⟨cs, ty, lo, hi, f1, _⟩
        exact absurd (heap_lt f1) hl
      | gho q s =>
        rcases h2 with h2 | ⟨fn, tmps, D, g1, _⟩
        · exact .inl h2
        · exact absurd (heap_lt g1) hl
  · obtain ⟨g1, g2, g3, g4⟩ := m.own r hr
    exact ⟨by simp; omega, g2, fun hy => hy.elim g3 (fun e => by omega), g4⟩
  · rcases hr with hr | hr
    · obtain ⟨g1, g2, g3⟩ := m.yy r hr
      exact ⟨(hpush r (heap_lt g1)).trans g1, g2, g3⟩
    · subst hr
      refine ⟨hnew, fun hz => ?_, .inl m.size⟩
      have := (m.zz _ hz).1; have := m.size; omega
  · have := m.size; simp; omega
  · rw [hpush r (Nat.lt_of_lt_of_le hr m.size)]; exact m.frame r hr hf

/-- a mark is taken -/
theorem Mem.unY {c : Cx} {h : Heap} {F : Nat → Prop} {β : Beta} {Y : Nat → Prop} {w : World} (m : Mem c h F β Y w) {D : Nat} (hD : Y D) (o : Obj) :
    Mem c h F β (fun r => Y r ∧ r ≠ D) (World.put w D o) ∧ Ext w (XX c.Z Y β h) (World.put w D o) (XX c.Z (fun r => Y r ∧ r ≠ D) β h) := by
  have hlt : D < w.heap.size := heap_lt (m.yy D hD).1
  have hsame : ∀ r, r ≠ D → (World.put w D o).heap[r]? = w.heap[r]? := fun r hr => put_ne hr
  have e : Ext w (XX c.Z Y β h) (World.put w D o) (XX c.Z (fun r => Y r ∧ r ≠ D) β h) := by
    refine ⟨by rw [put_size]; exact Nat.le_refl _, fun r hr hx => hsame r fun er => hx (.inr (.inl (er ▸ hD))), fun r hr hx => ?_⟩
    rintro (g | g | g)
    · exact hx (.inl g)
    · exact hx (.inr (.inl g.1))
    · exact hx (.inr (.inr g))
  refine ⟨⟨m.fresh, fun b k hk => ?_, m.inj, fun r hr => ?_, fun r hr => ?_, m.zz, by rw [put_size]; exact m.size, fun r hr hf => ?_, m.os, m.tape, m.output, fun g t hg ht => relP_ext e _ _ (nms_true (fun _ _ k => k) _) (m.gl g t hg ht)⟩, e⟩
  · obtain ⟨l, h1, h2⟩ := m.blk b k hk
    refine ⟨l, h1, ?_⟩
    by_cases hl : l.r = D
    · have hc : ∀ {cs ty lo hi}, w.heap[l.r]? = some (.cells cs ty (lo, hi)) → False := by
        intro cs ty lo hi g
        rw [hl, (m.yy D hD).1] at g; cases g
      cases k with
      | var own v =>
        obtain ⟨cs, ty, lo, hi, g1, _⟩ := h2
        exact (hc g1).elim
      | row own sz xs =>
        obtain ⟨g1, g2, g3, g4⟩ := h2
        refine ⟨g1, g2, g3, g4.imp id ?_⟩
        rintro ⟨cs, ty, lo, hi, f1, _⟩
        exact (hc f1).elim
      | gho q s =>
        rcases h2 with h2 | ⟨fn, tmps, D', g1, _⟩
        · exact .inl h2
        · rw [hl, (m.yy D hD).1] at g1; cases g1
    · exact h2.ext e (hsame _ hl) (fun _ _ k => k) (fun g1 g2 => e.less _ g1 g2)
  · obtain ⟨g1, g2, g3, g4⟩ := m.own r hr
    exact ⟨by rw [put_size]; exact g1, g2, fun hy => g3 hy.1, g4⟩
  · obtain ⟨g1, g2, g3⟩ := m.yy r hr.1
    exact ⟨(hsame r hr.2).trans g1, g2, g3⟩
  · rw [hsame r]
    · exact m.frame r hr hf
    · rintro rfl
      rcases (m.yy _ hD).2.2 with g | g
      · omega
      · exact hf g

theorem leave_marks {c : Cx} {sl : Slots} {h : Heap} {F : Nat → Prop} {a : Act} {n : Nat} {fn : Func} {R : Ending → World → Prop} : ∀ (Ds : List Nat) (β : Beta) (Y Y1 : Nat → Prop) (w : World), Mem c h F β Y w → SlotsOK c sl h β Y w a → Ds.Nodup → (∀ D ∈ Ds, Y D) → (∀ r, Y1 r → Y r ∧ r ∉ Ds) →
    (∀ Y' w', Mem c h F β Y' w' → SlotsOK c sl h β Y' w' a → (∀ r, Y1 r → Y' r) → LeavesInM Fence.wide n c.E.P fn a.tmps R [] .returning w') → LeavesInM Fence.wide n c.E.P fn a.tmps R (marks Ds) .returning w
  | [], β, Y, Y1, w, m, hs, _, _, hY, hk => hk Y w m hs fun r hr => (hY r hr).1
  | D :: Ds, β, Y, Y1, w, m, hs, hnd, hD, hY, hk => by
    obtain ⟨h1, h2⟩ := List.nodup_cons.1 hnd
    have hD' := hD D (by simp)
    obtain ⟨m', e⟩ := m.unY hD' (.deferred none)
    refine ⟨by simp, .inl ⟨D, World.put w D (.deferred none), rfl, run_takeDeferred (m.yy D hD').1, ?_⟩⟩
    refine leave_marks Ds β _ Y1 _ m' ⟨hs.1, fun t => rel_ext e (nms_true (fun _ _ k => k) _) (hs.2 t)⟩ h2 (fun D' hD2 => ⟨hD D' (by simp [hD2]), fun e => h1 (e ▸ hD2)⟩) (fun r hr => ?_) hk
    obtain ⟨g1, g2⟩ := hY r hr
    simp at g2
    exact ⟨⟨g1, g2.1⟩, g2.2⟩

theorem stB_twice {k k' : Blk} {b : Nat} : ∀ {h : Heap}, stB (stB h b k) b k' = stB h b k'
  | [] => rfl
  | (i, v) :: r => by
    simp only [stB]
    cases hi : Nat.beq i b with
    | true => simp only [stB, hi]
    | false => simp only [stB, hi, stB_twice]

theorem afterR_ok {h : Heap} {b : Nat} {K : Exit → Heap → Prop} (hk : afterR h b K) : ∃ q s, lkB h b = some (.gho q s) ∧ q.st ≠ .busy ∧ ¬ q.dead = true ∧ ((q.pend = none ∧ K .normal (stB h b .dead)) ∨ (q.pend = some .ret ∧ K .ret (stB h b .dead)) ∨ ∃ i, q.pend = some (.exit i) ∧ K (.exit i) (stB h b .dead)) := by
  unfold afterR at hk
  split at hk
  case h_2 => exact hk.elim
  rename_i q s hq
  split at hk
  · exact hk.elim
  rename_i hst2
  split at hk
  · exact hk.elim
  rename_i hst
  refine ⟨q, s, hq, hst, by rw [hst2]; simp, ?_⟩
  simp only [stK_eq] at hk
  split at hk
  · rename_i hp; exact .inl ⟨hp, hk⟩
  · rename_i hp; exact .inr (.inl ⟨hp, hk⟩)
  · rename_i i hp; exact .inr (.inr ⟨i, hp, hk⟩)
  · exact hk.elim

theorem lendX_no {E : Env} {o : Op} {sl : Slots} {Kno : Prop} {Kyes : FuncId → List SV → Prop} {Kyld : Nat → List SV → Prop} (h : lendX E o sl Kno Kyes Kyld) :
    Kno ∨ (∃ cl f g caps, o = .call cl ∧ cl.callee = .value f ∧ ev E sl f = .fn g caps ∧ noTup (cl.args.toList.map (ev E sl)) = true ∧ Kyes g (cl.args.toList.map (ev E sl) ++ caps)) ∨
      ∃ cl f b, o = .call cl ∧ cl.callee = .value f ∧ ev E sl f = .yld b ∧ noTup (cl.args.toList.map (ev E sl)) = true ∧ Kyld b (cl.args.toList.map (ev E sl)) := by
  unfold lendX at h
  split at h
  · rename_i cl
    split at h
    · rename_i f hf
      split at h
      · rename_i g caps hg
        split at h
        · rw [frcL_eq] at h
          split at h
          · rename_i hn; exact .inr (.inl ⟨cl, f, g, caps, rfl, hf, hg, hn, h⟩)
          · exact h.elim
        · exact .inl h
      · rename_i b hg
        rw [frcL_eq] at h
        split at h
        · rename_i hn; exact .inr (.inr ⟨cl, f, b, rfl, hf, hg, hn, h⟩)
        · exact h.elim
      · exact .inl h
    · exact .inl h
  · exact .inl h

theorem opY_sound (ok : EnvOK c.E) {o : Oper} {sl : Slots} {h : Heap} {n : Nat} {K : Slots → Heap → Nat → Prop} (hK : opY c.E o sl h n K) (hd : ∀ d, o.dst = some d → d < N) {a : Act} {w : World} (D : Den c N sl h n a w)
    {next : Act → World → Prop} {Q : Exit → Act → World → Prop} (hn : ∀ sl' h' n' a' w', K sl' h' n' → Den c N sl' h' n' a' w' → next a' w') : o.wpIn (FR c.ro) 0 c.E.P a w next Q := by
  unfold opY at hK
  split at hK
  · rename_i sz hsz
    unfold nilT at hsz
    split at hsz
    case h_2 => cases hsz
    rename_i hop
    split at hsz
    case h_2 => cases hsz
    split at hsz
    case h_2 => cases hsz
    rename_i hs1
    cases hsz
    obtain ⟨β, Y, m, hs, hN, hdef⟩ := D
    refine wp_in (by intro c e; rw [hop] at e; cases e) ?_
    have hrun : (execOp a.eval o).run c.E.P w = .ok (.value (.slice none 0 0)) w := by
      simp [execOp, hop, Act.eval]
    unfold Oper.wp
    rw [hrun, Oper.upon_value]
    rw [Nat.ble_eq] at hs1
    obtain ⟨m', e'⟩ := Mem.newNil m (Nat.le_refl n) hs1
    have hfr : β n = none := m.fresh n (Nat.le_refl n)
    have hβ : ∀ b l, β b = some l → setβ β n ⟨0, 0, 0⟩ b = some l := fun b l h => by
      rw [setβ_ne]; · exact h
      · rintro rfl; rw [hfr] at h; cases h
    cases hdst : o.dst with
    | none =>
      rw [hdst] at hK
      exact hn _ _ _ _ _ hK ⟨β, Y, m.lessF fun b hb => Nat.le_of_succ_le hb, hs, hN, hdef⟩
    | some d =>
      rw [hdst] at hK
      refine hn (putS (some d) _ sl) _ _ _ _ hK ⟨_, Y, m'.lessF fun b hb => ⟨Nat.le_of_succ_le hb, Nat.ne_of_gt hb⟩, ⟨by rw [put_size']; exact hs.1, fun t => ?_⟩, by rw [put_size', hN], by rw [put_defers']; exact hdef⟩
      rw [lk_put, slotv_put _ _ _ _ (by rw [hN]; intro d' h; exact hd d' (by rw [hdst]; exact h)) hs.1]
      by_cases e : some d = some t
      · rw [if_pos e, if_pos e]
        exact rel_of_relP rfl ⟨⟨0, 0, 0⟩, none, setβ_same .., rfl, fun h => absurd rfl h⟩
      · rw [if_neg e, if_neg e]; exact rel_ext e' (nms_true hβ _) (hs.2 t)
  have fin : ∀ (β : Beta) (Y : Nat → Prop), DefOK c.Y0 Y a.defers → a.tmps.size = N → ∀ (u : Value) (w' : World) (r : SV) (sl' : Slots) (h' : Heap) (n' : Nat) (β' : Beta) (Y' : Nat → Prop), (∀ r, Y r → Y' r) → (match o.dst with | some d => K ((d, r) :: sl') h' n' | none => K sl' h' n') → Mem c h' (fun b => n' ≤ b) β' Y' w' → SlotsOK c sl' h' β' Y' w' a → rel w' (XX c.Z Y' β' h') r β' u → next (a.put o.dst u) w' := by
    intro β Y hdef hN u w' r sl' h' n' β' Y' hY k m' hs' hrel
    refine hn (putS o.dst r sl') h' n' _ _ ?_ ⟨β', Y', m', ⟨by rw [put_size']; exact hs'.1, fun t => ?_⟩, by rw [put_size', hN], by rw [put_defers']; exact hdef.mono hY⟩
    · cases hd : o.dst <;> rw [hd] at k <;> exact k
    · rw [lk_put, slotv_put _ _ _ _ (by rw [hN]; exact hd) hs'.1]
      by_cases e : o.dst = some t
      · rw [if_pos e, if_pos e]; exact hrel
      · rw [if_neg e, if_neg e]; exact hs'.2 t
  rcases lendX_no hK with hK | ⟨cl, f, g, caps, ho, hf, hg, hnt, hK⟩ | ⟨cl, f, b, ho, hf, hg, hnt, hK⟩
  · exact wp_in (opX_nodefer hK) (opX_sound ok hK (Nat.le_refl n) hd D fun sl' h' a' w' k D' => hn _ _ _ _ _ k (D'.less fun b hb => ⟨by omega, by omega⟩))
  · obtain ⟨β, Y, m, hs, hN, hdef⟩ := D
    refine wp_in (by intro c e; rw [ho] at e; cases e) ?_
    unfold SemCall at hK
    obtain ⟨⟨fn, hfn, hbody, hname⟩, hK⟩ := hK
    have hfun := ev_ok m hs f
    rw [hg] at hfun
    obtain ⟨us, hfu, hcaps⟩ := rel_fn.1 hfun
    have hargs := evL_ok (w := w) (X := XX c.Z Y β h) (β := β) (a := a) (E := c.E) (sl := sl) cl.args.toList (fun x _ => ev_ok m hs x) hnt
    have hr : (execOp a.eval o).run c.E.P w = .ok (.enter g (cl.args.map a.eval ++ us)) w := by
      simp only [execOp, ho, resolve, hf, hfu, Deferred.ofValue, Sem.run_bind, Sem.run_pure, Result.andThen_ok, invoke, callFunc, run_program, hfn]
      rw [if_neg (by rw [hname]; simp), if_neg (by simp [Option.isNone_iff_eq_none, Option.isSome_iff_ne_none.1 hbody])]
      simp
    unfold Oper.wp
    rw [hr, Oper.upon_enter]
    refine Calls.mono (hK c a w β Y ((cl.args.map a.eval) ++ us) rfl m hs (by simpa using relL_append hargs hcaps)) ?_
    rintro e w' ⟨u, rfl, r, sl', h', n', β', Y', hY, k, m', hs', hrel⟩
    exact fin β Y hdef hN u w' r sl' h' n' β' Y' hY k m' hs' hrel
  · obtain ⟨β, Y, m, hs, hN, hdef⟩ := D
    refine ⟨fun _ _ => trivial, ?_⟩
    rw [Oper.semAt_eq _ _ _ (by intro c e; rw [ho] at e; cases e)]
    unfold SemYield at hK
    have hfun := ev_ok m hs f
    rw [hg] at hfun
    have hfun' := relP_of_rel rfl (by simp) (by simp) hfun
    simp only [relP] at hfun'
    obtain ⟨l, hl, hfu⟩ := hfun'
    simp only [List.cons.injEq, and_true] at hfu
    have hargs := evL_ok (w := w) (X := XX c.Z Y β h) (β := β) (a := a) (E := c.E) (sl := sl) cl.args.toList (fun x _ => ev_ok m hs x) hnt
    obtain ⟨fn, tmps, asg, body, hy, hround⟩ := hK c a w β Y (cl.args.map a.eval) l rfl m hs (by simpa using hargs) hl
    have hr : (execOp a.eval o).run c.E.P w = .ok (.round l.r fn tmps asg body) w := by
      simp only [execOp, ho, resolve, hf, hfu, Deferred.ofValue, Sem.run_bind, Sem.run_pure, Result.andThen_ok, invoke]
      simpa using hy
    rw [hr, Oper.uponIn_round]
    refine ⟨depth_FR, RoundIn.mono (F := FR c.ro) hround ?_⟩
    rintro e w' ⟨u, rfl, r, sl', h', n', β', Y', hY, k, m', hs', hrel⟩
    exact fin β Y hdef hN u w' r sl' h' n' β' Y' hY k m' hs' hrel

theorem opsY_sound (ok : EnvOK c.E) {ops : Array Oper} (hd : ∀ o ∈ ops.toList, ∀ d, o.dst = some d → d < N) {Q : Exit → Act → World → Prop} : ∀ (r pre : List Oper) (sl : Slots) (h : Heap) (n : Nat) (K : Slots → Heap → Nat → Prop), ops.toList = pre ++ r → opsY c.E ops.toList r sl h n K →
    ∀ a w, Den c N sl h n a w → (∀ sl' h' n' a' w', K sl' h' n' → Den c N sl' h' n' a' w' → Q .normal a' w') → wpOpsIn (FR c.ro) 0 c.E.P ops Q (List.range' pre.length r.length) a w
  | [], pre, sl, h, n, K, hp, hK, a, w, D, hQ => by
    simp only [opsY] at hK
    simp only [List.length_nil, List.range'_zero, wpOpsIn]
    exact hQ _ _ _ _ _ hK D
  | o :: r, pre, sl, h, n, K, hp, hK, a, w, D, hQ => by
    simp only [opsY] at hK
    have hoi : ops[pre.length]? = some o := by rw [← Array.getElem?_toList, hp]; simp
    have hmem : o ∈ ops.toList := by rw [hp]; simp
    simp only [List.length_cons, List.range'_succ]
    rw [wpOpsIn_cons]
    have rest : ∀ sl2 h2 n2 a2 w2, opsY c.E ops.toList r sl2 h2 n2 K → Den c N sl2 h2 n2 a2 w2 → wpOpsIn (FR c.ro) 0 c.E.P ops Q (List.range' (pre.length + 1) r.length) a2 w2 := by
      intro sl2 h2 n2 a2 w2 k1 k2
      have := opsY_sound ok hd r (pre ++ [o]) sl2 h2 n2 K (by rw [hp]; simp) k1 a2 w2 k2 hQ
      simpa using this
    unfold gopY at hK
    obtain ⟨sl', D', hw⟩ := grd_sound hd hK D rfl
    unfold wpOpIn
    simp only [hoi]
    rcases hw with ⟨h1, h2⟩ | ⟨h1, h2⟩
    · rw [if_pos h1]
      exact opY_sound ok h2 (hd o hmem) D' rest
    · rw [if_neg (by rw [h1]; simp)]
      refine ⟨fun _ _ => trivial, ?_⟩
      refine rest (putS o.dst und sl') h n _ _ ?_ (D'.skip (hd o hmem))
      cases hdst : o.dst <;> simp only [hdst] at h2 <;> exact h2

theorem memb_mem {x : Nat} : ∀ {l : List Nat}, memb x l = true ↔ x ∈ l
  | [] => by simp [memb]
  | y :: r => by
    simp only [memb, List.mem_cons]
    cases h : Nat.beq x y with
    | true => simp [beq_of h]
    | false => simp [beq_ne h, memb_mem (l := r)]
theorem bndL_iff {L : List Nat} : ∀ {l : List Edge}, bndL L l = true ↔ ∀ e ∈ l, Region.binds .any e = true → e.on ∈ L
  | [] => by simp [bndL]
  | e :: r => by
    simp only [bndL, List.forall_mem_cons]
    cases hb : Region.binds .any e with
    | false => simp [bndL_iff (l := r)]
    | true =>
      cases hm : memb e.on L with
      | true => simp [memb_mem.1 hm, bndL_iff (l := r)]
      | false =>
        have : e.on ∉ L := fun h => by rw [memb_mem.2 h] at hm; cases hm
        simp [this]
theorem rdy_iff {L : List Nat} {i : Nat} {o : Oper} : ∀ {r : List Oper} {k : Nat}, (i, o) ∈ rdy L r k ↔ k ≤ i ∧ r[i - k]? = some o ∧ i ∉ L ∧ ∀ e ∈ o.after.toList, Region.binds .any e = true → e.on ∈ L
  | [], k => by simp [rdy]
  | o0 :: r, k => by
    have ih := rdy_iff (L := L) (i := i) (o := o) (r := r) (k := k + 1)
    have step : (i, o) ∈ rdy L r (k + 1) ↔ k < i ∧ (o0 :: r)[i - k]? = some o ∧ i ∉ L ∧ ∀ e ∈ o.after.toList, Region.binds .any e = true → e.on ∈ L := by
      rw [ih]
      constructor
      · rintro ⟨h1, h2, h3⟩
        refine ⟨by omega, ?_, h3⟩
        have : i - k = (i - (k + 1)) + 1 := by omega
        rw [this]; simpa using h2
      · rintro ⟨h1, h2, h3⟩
        refine ⟨by omega, ?_, h3⟩
        have : i - k = (i - (k + 1)) + 1 := by omega
        rw [this] at h2; simpa using h2
    simp only [rdy]
    split
    · rename_i e1 e2
      have e1' : k ∉ L := fun h => by rw [memb_mem.2 h] at e1; cases e1
      simp only [List.mem_cons, Prod.mk.injEq, step]
      constructor
      · rintro (⟨rfl, rfl⟩ | ⟨h1, h2⟩)
        · exact ⟨Nat.le_refl _, by simp, e1', bndL_iff.1 e2⟩
        · exact ⟨by omega, h2⟩
      · rintro ⟨h1, h2, h3⟩
        by_cases e : i = k
        · subst e
          simp at h2
          exact .inl ⟨rfl, h2.symm⟩
        · exact .inr ⟨by omega, h2, h3⟩
    · rename_i hne
      rw [step]
      constructor
      · rintro ⟨h1, h2⟩; exact ⟨by omega, h2⟩
      · rintro ⟨h1, h2, h3, h4⟩
        refine ⟨?_, h2, h3, h4⟩
        by_cases e : i = k
        · exfalso
          subst e
          simp at h2
          subst h2
          refine hne ?_ (bndL_iff.2 h4)
          cases hm : memb i L with
          | false => rfl
          | true => exact absurd (memb_mem.1 hm) h3
        · omega
theorem allA_mem {f : Nat × Oper → Prop} (l : List (Nat × Oper)) (h : allA f l) : ∀ p ∈ l, f p := by
  induction l with
  | nil => intro p hp; cases hp
  | cons a r ih =>
    intro p hp
    rcases List.mem_cons.1 hp with rfl | hp
    · exact h.1
    · exact ih h.2 p hp

theorem Den.drew {sl : Slots} {h : Heap} {n : Nat} {a : Act} {w : World} (D : Den c N sl h n a w) : Den c N sl h n a { w with drawn := w.drawn + 1 } := by
  obtain ⟨β, Y, m, hs, hN, hd⟩ := D
  have b : Below w.heap.size w { w with drawn := w.drawn + 1 } := ⟨rfl, rfl, rfl, Nat.le_refl _, fun _ _ => rfl⟩
  obtain ⟨m', e⟩ := m.step b
  exact ⟨β, Y, m', ⟨hs.1, fun t => rel_ext e (nms_true (fun _ _ k => k) _) (hs.2 t)⟩, hN, hd⟩

theorem anyY_sound (ok : EnvOK c.E) {ops : Array Oper} (hd : ∀ o ∈ ops.toList, ∀ d, o.dst = some d → d < N) {Q : Exit → Act → World → Prop} : ∀ (fuel : Nat) (listed : Array Bool) (L : List Nat) (sl : Slots) (h : Heap) (n : Nat) (K : Slots → Heap → Nat → Prop), listed.size = ops.size → (∀ i, listed.getD i false = true ↔ i ∈ L) → anyY c.E ops.toList fuel L sl h n K →
    ∀ a w, Den c N sl h n a w → (∀ sl' h' n' a' w', K sl' h' n' → Den c N sl' h' n' a' w' → Q .normal a' w') → wpAnyIn (FR c.ro) 0 c.E.P .any ops Q fuel listed a w := by
  have key : ∀ (listed : Array Bool) (L : List Nat), listed.size = ops.size → (∀ i, listed.getD i false = true ↔ i ∈ L) → ∀ i, i ∈ Region.ready .any ops listed ↔ ∃ o, ops[i]? = some o ∧ i ∉ L ∧ ∀ e ∈ o.after.toList, Region.binds .any e = true → e.on ∈ L := by
    intro listed L hs hL i
    rw [Region.ready, List.mem_filter, List.mem_range, Bool.and_eq_true]
    constructor
    · rintro ⟨h1, h2, h3⟩
      have hgt : listed.getD i true = listed.getD i false := by
        rw [Array.getD_eq_getD_getElem?, Array.getD_eq_getD_getElem?, Array.getElem?_eq_getElem (by omega)]; rfl
      refine ⟨ops[i], by simp [h1], fun hm => ?_, fun e he hb => ?_⟩
      · rw [hgt, (hL i).2 hm] at h2; cases h2
      · rw [Array.getElem?_eq_getElem h1] at h3
        simp only [Option.map_some, Option.getD_some] at h3
        have := Array.all_eq_true_iff_forall_mem.1 h3 e (by simpa using he)
        rw [hb] at this
        exact (hL _).1 (by simpa using this)
    · rintro ⟨o, h1, h2, h3⟩
      have hlt : i < ops.size := by
        rcases Nat.lt_or_ge i ops.size with g | g
        · exact g
        · rw [Array.getElem?_eq_none g] at h1; cases h1
      have hgt : listed.getD i true = listed.getD i false := by
        rw [Array.getD_eq_getD_getElem?, Array.getD_eq_getD_getElem?, Array.getElem?_eq_getElem (by omega)]; rfl
      refine ⟨hlt, ?_, ?_⟩
      · rw [hgt]
        cases hl : listed.getD i false with
        | false => rfl
        | true => exact absurd ((hL i).1 hl) h2
      · rw [h1]
        simp only [Option.map_some, Option.getD_some]
        rw [Array.all_eq_true_iff_forall_mem]
        intro e he
        cases hb : Region.binds .any e with
        | false => rfl
        | true => simp [(hL _).2 (h3 e (by simpa using he) hb)]
  have hin : ∀ (listed : Array Bool) (L : List Nat), listed.size = ops.size → (∀ i, listed.getD i false = true ↔ i ∈ L) → ∀ i, i ∈ Region.ready .any ops listed → ∃ o, ops[i]? = some o ∧ (i, o) ∈ rdy L ops.toList 0 := by
    intro listed L hs hL i hi
    obtain ⟨o, h1, h2, h3⟩ := (key listed L hs hL i).1 hi
    exact ⟨o, h1, rdy_iff.2 ⟨Nat.zero_le _, by simpa using h1, h2, fun e he hb => h3 e he hb⟩⟩
  intro fuel
  induction fuel with
  | zero =>
    intro listed L sl h n K hs hL hK a w D hQ
    simp only [anyY] at hK
    split at hK
    case h_2 => exact hK.elim
    rename_i e
    refine ⟨?_, hQ _ _ _ _ _ hK D⟩
    cases hr : Region.ready .any ops listed with
    | nil => rfl
    | cons i r =>
      obtain ⟨o, _, h2⟩ := hin listed L hs hL i (by rw [hr]; simp)
      rw [e] at h2; cases h2
  | succ fuel ih =>
    intro listed L sl h n K hs hL hK a w D hQ
    simp only [anyY] at hK
    split at hK
    · rename_i e
      refine ⟨fun _ => hQ _ _ _ _ _ hK D, fun i hi => ?_⟩
      obtain ⟨o, _, h2⟩ := hin listed L hs hL i hi
      rw [e] at h2; cases h2
    · rename_i q r e
      rw [← e] at hK
      refine ⟨fun hr => ?_, fun i hi => ?_⟩
      · exfalso
        have hq : (q.1, q.2) ∈ rdy L ops.toList 0 := by rw [e]; simp
        obtain ⟨_, h1, h2, h3⟩ := rdy_iff.1 hq
        have : q.1 ∈ Region.ready .any ops listed := (key listed L hs hL q.1).2 ⟨q.2, by simpa using h1, h2, h3⟩
        rw [hr] at this; cases this
      · obtain ⟨o, hoi, h2⟩ := hin listed L hs hL i hi
        have hK := allA_mem _ hK _ h2
        have hlt : i < ops.size := by
          rcases Nat.lt_or_ge i ops.size with g | g
          · exact g
          · rw [Array.getElem?_eq_none g] at hoi; cases hoi
        have hmem : o ∈ ops.toList := List.mem_of_getElem? (i := i) (by rw [Array.getElem?_toList]; exact hoi)
        have rest : ∀ sl2 h2 n2 a2 w2, anyY c.E ops.toList fuel (i :: L) sl2 h2 n2 K → Den c N sl2 h2 n2 a2 w2 → wpAnyIn (FR c.ro) 0 c.E.P .any ops Q fuel (listed.setIfInBounds i true) a2 w2 := by
          intro sl2 h2 n2 a2 w2 k1 k2
          refine ih (listed.setIfInBounds i true) (i :: L) sl2 h2 n2 K (by simpa using hs) (fun j => ?_) k1 a2 w2 k2 hQ
          by_cases e : j = i
          · subst e
            rw [Array.getD_eq_getD_getElem?, Array.getElem?_setIfInBounds_self_of_lt (by omega)]
            simp
          · rw [getD_set_ne false (Ne.symm e), hL j]
            simp [e]
        unfold gopY at hK
        obtain ⟨sl', D', hw⟩ := grd_sound hd hK D rfl
        unfold wpOpIn
        simp only [hoi]
        rcases hw with ⟨h1, h2⟩ | ⟨h1, h2⟩
        · rw [if_pos h1]
          exact opY_sound ok h2 (hd o hmem) D' rest
        · rw [if_neg (by rw [h1]; simp)]
          refine ⟨fun _ _ => trivial, ?_⟩
          refine rest (putS o.dst und sl') h n _ _ ?_ (D'.skip (hd o hmem))
          cases hdst : o.dst <;> simp only [hdst] at h2 <;> exact h2

theorem rf_seq1 {c : Cx} {a b : Code} (h : c.ro = none ∨ (match rfB a with | true => true | false => rfB b) = false) : c.ro = none ∨ rfB a = false := by
  refine h.imp id fun h => ?_
  cases ha : rfB a with
  | true => rw [ha] at h; cases h
  | false => rfl
theorem rf_seq2 {c : Cx} {a b : Code} (h : c.ro = none ∨ (match rfB a with | true => true | false => rfB b) = false) : c.ro = none ∨ rfB b = false := by
  refine h.imp id fun h => ?_
  cases ha : rfB a with
  | true => rw [ha] at h; cases h
  | false => rw [ha] at h; exact h

theorem exec_sound (ok : EnvOK c.E) {cuts : List Nat} : ∀ (code : Code) (sl : Slots) (h : Heap) (n : Nat) (K : KX), exec c.E N cuts code sl h n K → codeOK c.E N code → (c.ro = none ∨ rfB code = false) → ∀ (a : Act) (w : World), Den c N sl h n a w →
    ∀ Q : Exit → Act → World → Prop, (∀ e sl' h' n' a' w', K e sl' h' n' → Den c N sl' h' n' a' w' → Q e a' w') → code.wpIn (FR c.ro) 0 c.E.P Q a w
  | .skip, sl, h, n, K, hK, _, _, a, w, D, Q, hQ => by
    simp only [exec] at hK
    exact wpIn_skip (hQ _ _ _ _ _ _ hK D)
  | .exit i, sl, h, n, K, hK, _, _, a, w, D, Q, hQ => by
    simp only [exec] at hK
    exact wpIn_exit (hQ _ _ _ _ _ _ hK D)
  | .ret, sl, h, n, K, hK, _, _, a, w, D, Q, hQ => by
    simp only [exec] at hK
    exact wpIn_ret (hQ _ _ _ _ _ _ hK D)
  | .seq x y, sl, h, n, K, hK, hc, hr, a, w, D, Q, hQ => by
    simp only [exec] at hK
    refine wpIn_seq (exec_sound ok x sl h n _ hK hc.1 (rf_seq1 hr) a w D _ ?_)
    intro e sl' h' n' a' w' k D'
    cases e with
    | normal => exact exec_sound ok y sl' h' n' K k hc.2 (rf_seq2 hr) a' w' D' Q hQ
    | _ => exact hQ _ _ _ _ _ _ k D'
  | .cond x c1 c2, sl, h, n, K, hK, hc, hr, a, w, D, Q, hQ => by
    simp only [exec] at hK
    have D0 := D
    obtain ⟨β, Y, m, hs, _⟩ := D0
    obtain ⟨t, ht, h1, h2⟩ := brk_sound hK (ev_ok m hs x)
    refine wpIn_cond_split ht (fun e => ?_) (fun e => ?_)
    · exact exec_sound ok c1 sl h n K (h1 e) hc.1 (rf_seq1 hr) a w D Q hQ
    · exact exec_sound ok c2 sl h n K (h2 e) hc.2 (rf_seq2 hr) a w D Q hQ
  | .block id b, sl, h, n, K, hK, hc, hr, a, w, D, Q, hQ => by
    have go : ∀ K' : KX, (exec c.E N cuts b sl h n fun e sl h n => (match e with
      | .exit i => (match Nat.beq i id with | true => K' .normal sl h n | false => K' (.exit i) sl h n)
      | e => K' e sl h n)) → (∀ e sl' h' n' a' w', K' e sl' h' n' → Den c N sl' h' n' a' w' → Q e a' w') → (Code.block id b).wpIn (FR c.ro) 0 c.E.P Q a w := by
      intro K' hK' hQ'
      refine wpIn_block (exec_sound ok b sl h n _ hK' hc hr a w D _ ?_)
      intro e sl' h' n' a' w' k D'
      cases e with
      | exit i =>
        simp only at k
        simp only [Exit.inBlock]
        cases hb : Nat.beq i id with
        | true => simp only [hb] at k; rw [if_pos (beq_of hb)]; exact hQ' _ _ _ _ _ _ k D'
        | false => simp only [hb] at k; rw [if_neg (beq_ne hb)]; exact hQ' _ _ _ _ _ _ k D'
      | _ => exact hQ' _ _ _ _ _ _ k D'
    simp only [exec] at hK
    split at hK
    · exact go K hK hQ
    · unfold CutVC at hK
      refine go (fun e sl' h' n' => ∃ sl h n, ((sl = sl' ∧ h = h' ∧ n = n') ∨ Sub sl' h' n' sl h n) ∧ K e sl h n) hK fun e sl' h' n' a' w' k D' => ?_
      obtain ⟨sl2, h2, n2, hsub, k⟩ := k
      rcases hsub with ⟨rfl, rfl, rfl⟩ | hsub
      · exact hQ _ _ _ _ _ _ k D'
      · exact hQ _ _ _ _ _ _ k (D'.weaken hsub)
  | .region id ops draw, sl, h, n, K, hK, hc, hr, a, w, D, Q, hQ => by
    have hQ' : ∀ sl' h' n' a' w', K .normal sl' h' n' → Den c N sl' h' n' a' w' → Q .normal a' w' := fun sl' h' n' a' w' k D' => hQ _ _ _ _ _ _ k D'
    cases draw with
    | true =>
      simp only [exec] at hK
      split at hK
      · exact hc.2 rfl c rfl id sl h n _ hK a w D Q hQ'
      · refine wpIn_region_any ok.mixed ?_
        have := anyY_sound ok hc.1 (Q := Q) ops.toList.length (Array.replicate ops.size false) [] sl h n _ (by simp) (fun i => ?_) hK a _ D.drew hQ'
        · simpa using this
        · rw [Array.getD_eq_getD_getElem?]
          by_cases hi : i < ops.size <;> simp [hi]
    | false =>
      simp only [exec] at hK
      refine wpIn_region ?_
      have := opsY_sound ok hc.1 (Q := Q) ops.toList [] sl h n _ (by simp) hK a w D hQ'
      simpa [List.range_eq_range'] using this
  | .loop b, sl, h, n, K, hK, hc, hr, a, w, D, Q, hQ => by
    simp only [exec] at hK
    unfold LoopVC at hK
    refine loopWp_loop ?_
    refine hK (fun sl h n => ∀ a w, Den c N sl h n a w → LoopWp c.ro c.E.P b Q a w) ?_ ?_ ?_ a w D
    · intro sl h n hB a w D
      refine loopWp_step (exec_sound ok b sl h n _ hB hc hr a w D _ ?_)
      intro e sl' h' n' a' w' k D'
      cases e with
      | normal => exact k a' w' D'
      | _ => exact hQ _ _ _ _ _ _ k D'
    · intro sl h n sl' h' n' hs hI a w D'
      exact hI a w (D'.weaken hs)
    · intro sl sl' h n hs hI a w D'
      exact hI a w (D'.fewer hs)
  | .rangeFunc f ps asg b, sl, h, n, K, hK, hc, hr, a, w, D, Q, hQ => by
    simp only [exec] at hK
    have hro : c.ro = none := hr.resolve_right (by simp [rfB])
    split at hK
    case h_2 => exact hK.elim
    rename_i g caps hg
    obtain ⟨β, Y, m, hs, hN, h0, Ds, hds, hnd, hDs⟩ := D
    unfold SemCall at hK
    obtain ⟨⟨fn, hfn, hbody, hname⟩, hK⟩ := hK
    obtain ⟨m1, e1⟩ := m.markY
    have hs1 : SlotsOK c sl h β _ _ a := ⟨hs.1, fun t => rel_ext e1 (nms_true (fun _ _ k => k) _) (hs.2 t)⟩
    have hfr : β n = none := m.fresh n (Nat.le_refl n)
    have hsz : (w.alloc (.deferred (some []))).heap.size = w.heap.size + 1 := World.size_alloc _ _
    have hβ : ∀ b l, β b = some l → setβ β n ⟨w.heap.size + 1, 0, 0⟩ b = some l := fun b l h => by
      rw [setβ_ne]; · exact h
      · rintro rfl; rw [hfr] at h; cases h
    rw [hro]
    refine wpIn_rangeFunc ?_
    intro fi _
    obtain ⟨m2, e2⟩ := m1.new (n := n) (k := .gho ⟨.ready, none, N, ps, asg, b, false⟩ sl) (l := ⟨w.heap.size + 1, 0, 0⟩) (o := .loop { state := .ready, pending := none, fn := fi, tmps := a.tmps, params := ps, assign := asg, body := b, defers := w.heap.size }) (Nat.le_refl n) hsz.symm
      (fun w' X' β' e hβ' hh => .inr ⟨fi, a.tmps, w.heap.size, hh, hN, fun t ht => by
        have := rel_ext e (nms_true hβ' _) (hs1.2 t)
        unfold slotv at this
        rw [if_pos ht] at this
        exact this⟩)
    have hs2 := fun t => rel_ext e2 (nms_true hβ (lk sl t)) (hs1.2 t)
    have hfun := ev_ok m2 (sl := sl) ⟨hs.1, hs2⟩ f
    rw [hg] at hfun
    obtain ⟨us, hfu, hcaps⟩ := rel_fn.1 hfun
    obtain ⟨w2, hw2⟩ : ∃ w2, (w.alloc (.deferred (some []))).alloc (.loop { state := .ready, pending := none, fn := fi, tmps := a.tmps, params := ps, assign := asg, body := b, defers := w.heap.size }) = w2 := ⟨_, rfl⟩
    rw [hw2] at m2 e2 hs2 hfun hcaps
    have hle : ¬ ((1999999 : Nat) ≤ 999999) := by omega
    let c' : Cx := { c with sh := fun t => if t = 999999 then .func (.yield (w.heap.size + 1)) #[] #[] else c.sh t }
    have hsh0 : ∀ m, m ≠ 999999 → c'.sh m = c.sh m := fun m hm => if_neg hm
    have hsh : ∀ t, ¬ t ≤ 999999 → 1999999 ≠ t → c'.sh (t - 1000000) = c.sh (t - 1000000) := fun t h1 h2 => hsh0 _ (by omega)
    have m2' : Mem c' ((n, .gho ⟨.ready, none, N, ps, asg, b, false⟩ sl) :: h) (fun b => n + 1 ≤ b) (setβ β n ⟨w.heap.size + 1, 0, 0⟩) (fun r => Y r ∨ r = w.heap.size) w2 :=
      ⟨fun b hb => m2.fresh b ⟨Nat.le_of_succ_le hb, Nat.ne_of_gt hb⟩, m2.blk, m2.inj, m2.own, m2.yy, m2.zz, m2.size, m2.frame, m2.os, m2.tape, m2.output, m2.gl⟩
    have hyv : rel w2 (XX c.Z (fun r => Y r ∨ r = w.heap.size) (setβ β n ⟨w.heap.size + 1, 0, 0⟩) ((n, .gho ⟨.ready, none, N, ps, asg, b, false⟩ sl) :: h)) (.yld n) (setβ β n ⟨w.heap.size + 1, 0, 0⟩) (.func (.yield (w.heap.size + 1)) #[] #[]) :=
      rel_of_relP rfl ⟨⟨w.heap.size + 1, 0, 0⟩, setβ_same .., rfl⟩
    have hs2' : SlotsOK c' ((1999999, .yld n) :: sl) ((n, .gho ⟨.ready, none, N, ps, asg, b, false⟩ sl) :: h) (setβ β n ⟨w.heap.size + 1, 0, 0⟩) (fun r => Y r ∨ r = w.heap.size) w2 a := by
      refine ⟨hs.1, fun t => ?_⟩
      simp only [lk]
      cases hb : Nat.beq 1999999 t with
      | true =>
        have := beq_of hb; subst this
        simp only [slotv, hle, if_false]
        exact hyv
      | false =>
        have hne := beq_ne hb
        have := hs2 t
        simp only [slotv] at this ⊢
        split
        · rename_i h; rw [if_pos h] at this; exact this
        · rename_i h
          rw [if_neg h] at this
          rw [hsh t h hne]; exact this
    refine ⟨w.heap.size + 1, [{ target := .collected w.heap.size, args := #[] }], w2, { target := .fn (.func g) us, args := #[.func (.yield (w.heap.size + 1)) #[] #[]] }, w2, g,
      #[.func (.yield (w.heap.size + 1)) #[] #[]] ++ us, w2, hw2 ▸ run_enterLoop_outer _ _ _ _ _, ?_, fun _ _ => trivial, ?_, depth_FR, ?_⟩
    · simp only [resolve, hfu, Deferred.ofValue]
      simp [go_sem]
    · simp only [invoke, callFunc, Sem.run_bind, run_program, hfn, Result.andThen_ok]
      rw [if_neg (by rw [hname]; simp), if_neg (by simp [Option.isNone_iff_eq_none, Option.isSome_iff_ne_none.1 hbody])]
      simp
    · refine callsIn_FR.2 (Calls.mono (hK c' a w2 _ _ _ rfl m2' hs2' ?_) ?_)
      · simp only [Array.toList_append]
        rw [show (#[Value.func (.yield (w.heap.size + 1)) #[] #[]] : Array Value).toList ++ us.toList = Value.func (.yield (w.heap.size + 1)) #[] #[] :: us.toList from rfl, relL_cons]
        refine ⟨_, _, rfl, ?_, hcaps⟩
        rw [relV_leaf rfl (by simp)]
        exact ⟨⟨w.heap.size + 1, 0, 0⟩, setβ_same .., rfl⟩
      · rintro e w' ⟨u, rfl, r, sl', h', n', β', Y', hY, k, m', hs', hrel⟩
        split at k
        case h_2 => exact k.elim
        rename_i b' hb'
        split at k
        case h_2 => exact k.elim
        rename_i hbn
        have := beq_of hbn; subst this
        obtain ⟨q, s, hq, hst, hst2, hk⟩ := afterR_ok k
        obtain ⟨l, hl, hok⟩ := m'.blk b' _ hq
        obtain ⟨fn', tmps', D', hrec, htm, hslots⟩ := hok.resolve_left hst2
        have hlr : l.r = w.heap.size + 1 := by
          have := hs'.2 1999999
          rw [hb'] at this
          simp only [slotv, hle, if_false] at this
          have h2 := relP_of_rel rfl (by simp) (by simp) this
          simp only [relP] at h2
          obtain ⟨l', hl', h3⟩ := h2
          rw [hl] at hl'; cases hl'
          simp only [c', if_pos, List.cons.injEq, and_true, Value.func.injEq, Fn.yield.injEq] at h3
          omega
        obtain ⟨m3, e3⟩ := Mem.set m' (k := .gho { q with st := .exhausted } s) (o' := .loop { state := .exhausted, pending := q.pend, fn := fn', tmps := tmps', params := q.ps, assign := q.asg, body := q.body, defers := D' }) hq hl (live_gho hst2) (live_gho (q := { q with st := .exhausted }) hst2) hrec
          (fun e hh => .inr ⟨fn', tmps', D', hh, htm, fun t ht => rel_ext e (nms_true (fun _ _ k => k) _) (hslots t ht)⟩)
        have hq3 : lkB (stB h' b' (.gho { q with st := .exhausted } s)) b' = some (.gho { q with st := .exhausted } s) := by rw [lkB_stB hq, if_pos rfl]
        obtain ⟨m4, e4, _⟩ := m3.ice1 hq3
        simp only [Blk.cold, stB_twice] at m4 e4
        have e5 := e3.trans e4
        have hend := run_endLoop (P := c.E.P) (w := w') hrec hst
        rw [hlr] at hend
        have hw4 : w'.putObj (w.heap.size + 1) (.loop { state := .exhausted, pending := q.pend, fn := fn', tmps := tmps', params := q.ps, assign := q.asg, body := q.body, defers := D' }) = World.put w' l.r (.loop { state := .exhausted, pending := q.pend, fn := fn', tmps := tmps', params := q.ps, assign := q.asg, body := q.body, defers := D' }) := by rw [hlr]; rfl
        have hsz2 : w.heap.size < w2.heap.size := by rw [← hw2]; simp only [World.size_alloc]; omega
        have D4 : Den c N ((1999999, .any) :: sl') (stB h' b' .dead) n' { a with defers := [{ target := .collected w.heap.size, args := #[] }] ++ a.defers } (World.put w' l.r (.loop { state := .exhausted, pending := q.pend, fn := fn', tmps := tmps', params := q.ps, assign := q.asg, body := q.body, defers := D' })) := by
          refine ⟨β', Y', ⟨m4.fresh, m4.blk, m4.inj, m4.own, m4.yy, m4.zz, m4.size, m4.frame, m4.os, m4.tape, m4.output, m4.gl⟩, ⟨hs.1, fun t => ?_⟩, hN, fun r hr => hY r (.inl (h0 r hr)), w.heap.size :: Ds, by rw [hds]; rfl, ?_, fun D hD => ?_⟩
          · simp only [lk]
            cases hb : Nat.beq 1999999 t with
            | true => exact trivial
            | false =>
              have hne := beq_ne hb
              have := rel_ext e5 (nms_true (fun _ _ k => k) _) (hs'.2 t)
              simp only [slotv] at this ⊢
              split
              · rename_i h; rw [if_pos h] at this; exact this
              · rename_i h
                rw [if_neg h] at this
                rw [hsh t h hne] at this
                exact this
          · refine List.nodup_cons.2 ⟨fun hD => ?_, hnd⟩
            have := heap_lt (m.yy _ (hDs _ hD).1).1
            omega
          · rcases List.mem_cons.1 hD with rfl | hD
            · exact ⟨hY _ (.inr rfl), fun h => by have := heap_lt (m.yy _ (h0 _ h)).1; omega⟩
            · exact ⟨hY _ (.inl (hDs D hD).1), (hDs D hD).2⟩
        refine ⟨q.pend, _, hend, ?_⟩
        rw [hw4]
        rcases hk with ⟨hp, hk⟩ | ⟨hp, hk⟩ | ⟨i, hp, hk⟩
        · rw [hp]; rw [hp] at D4; exact hQ _ _ _ _ _ _ hk D4
        · rw [hp]; rw [hp] at D4; exact wpIn_ret (hQ _ _ _ _ _ _ hk D4)
        · rw [hp]; rw [hp] at D4; exact wpIn_exit (hQ _ _ _ _ _ _ hk D4)
  | .scope b, sl, h, n, K, hK, hc, hr, a, w, D, Q, hQ => by
    simp only [exec] at hK
    refine wpIn_scope_straight (exec_sound ok b sl h n _ hK hc hr a w D _ ?_)
    intro e sl' h' n' a' w' k D'
    cases e with
    | goto l => exact k.elim
    | _ => exact hQ _ _ _ _ _ _ k D'
  | .label _, sl, h, n, K, hK, _, _, a, w, D, Q, hQ => by
    simp only [exec] at hK
    exact wpIn_label (hQ _ _ _ _ _ _ hK D)
  | .goto _, sl, h, n, K, hK, _, _, a, w, D, Q, hQ => by simp only [exec] at hK
  | .refuse _, sl, h, n, K, hK, _, _, a, w, D, Q, hQ => by simp only [exec] at hK
end

/-- the cell results of a function -/
theorem ini_ok {K : Slots → Prop} : ∀ (l : List SV) (i : Nat) (sl : Slots), ini l i sl K → ∃ sl', K sl' ∧ (∀ t, i ≤ t → t < i + l.length → lk sl' t = l.getD (t - i) .any) ∧ ∀ t, (t < i ∨ i + l.length ≤ t) → lk sl' t = lk sl t
  | [], i, sl, h => ⟨sl, h, fun t h1 h2 => by simp at h2; omega, fun t _ => rfl⟩
  | v :: r, i, sl, h => by
    simp only [ini, frc_eq] at h
    obtain ⟨sl', h1, h2, h3⟩ := ini_ok r (i + 1) ((i, v) :: sl) h
    refine ⟨sl', h1, fun t g1 g2 => ?_, fun t g => ?_⟩
    · by_cases e : t = i
      · subst e
        rw [h3 t (.inl (by omega))]
        simp [lk]
      · rw [h2 t (by omega) (by simp at g2; omega)]
        have : t - i = (t - (i + 1)) + 1 := by omega
        rw [this]
        simp
    · rw [h3 t (by simp at g; omega)]
      simp only [lk]
      rw [beq_false (by simp at g; omega)]

theorem relL_get {w : World} {X : Nat → Prop} {β : Beta} : ∀ {l : List SV} {us : List Value}, relL w X l β us → l.length = us.length ∧ ∀ i, i < l.length → relV w X (l.getD i .any) β (us.getD i undef)
  | [], us, h => by rw [relL_nil] at h; subst h; exact ⟨rfl, fun i hi => by simp at hi⟩
  | v :: r, us, h => by
    rw [relL_cons] at h
    obtain ⟨u, us', rfl, h1, h2⟩ := h
    obtain ⟨g1, g2⟩ := relL_get h2
    refine ⟨by simp [g1], fun i hi => ?_⟩
    cases i with
    | zero => simpa using h1
    | succ i => simpa using g2 i (by simpa using hi)

theorem relV_rel {w : World} {X : Nat → Prop} {β : Beta} {v : SV} {u : Value} (h : relV w X v β u) : rel w X v β u := by
  by_cases ht : ∃ vs, v = .tup vs
  · obtain ⟨vs, rfl⟩ := ht
    simp only [relV, SV.isAgg, relP] at h
  · rw [rel_eq fun vs e => ht ⟨vs, e⟩]; exact h

/-- the context of a call that only computes -/
def cx0 (E : Env) (w : World) (X : Nat → Prop) : Cx := { E := E, w0 := w, Z := X, F0 := fun _ => False }

theorem mem0 {E : Env} {w : World} {X : Nat → Prop} (g : Good E w X) : Mem (cx0 E w X) [] (fun b => 0 ≤ b) nob (fun _ => False) w := by
  have hX : XX X (fun _ => False) nob [] = X := by
    funext r
    simp only [XX, Own, lkB]
    simp
  refine ⟨fun _ _ => rfl, fun b k hk => by simp [lkB] at hk, fun b b' k k' l l' hk => by simp [lkB] at hk, ?_, fun r hr => hr.elim, fun r hr => ⟨g.1 r hr, id⟩, Nat.le_refl _, fun _ _ _ => rfl, rfl, rfl, rfl, fun g' t hg ht => ?_⟩
  · rintro r ⟨b, k, l, h1, _⟩; simp [lkB] at h1
  · show relP w (XX X (fun _ => False) nob []) (.iptr t) nob _
    rw [hX]
    exact g.2 g' t hg fun e => ht e

theorem bl_rel {w : World} {X : Nat → Prop} {β : Beta} {v : SV} {u : Value} (h : rel w X v β u) : rel w X (bl v) β u := by
  cases v <;> first | exact h | exact rel_bool.2 (rel_tru.1 h) | exact rel_bool.2 (rel_fls.1 h)

def RelAll (w : World) (X : Nat → Prop) : List SV → List Value → Prop
  | [], [] => True
  | v :: vs, u :: us => rel w X v nob u ∧ RelAll w X vs us
  | _, _ => False
theorem RelAll.len {w : World} {X : Nat → Prop} : ∀ {vs : List SV} {us : List Value}, RelAll w X vs us → vs.length = us.length
  | [], [], _ => rfl
  | _ :: _, _ :: _, h => by simp [RelAll.len h.2]
  | [], _ :: _, h => h.elim
  | _ :: _, [], h => h.elim
theorem RelAll.relL {w : World} {X : Nat → Prop} : ∀ {vs : List SV} {us : List Value}, RelAll w X vs us → noTup vs = true → relL w X vs nob us
  | [], [], _, _ => by simp [relL_nil]
  | v :: vs, u :: us, h, hn => by
    obtain ⟨h1, h2⟩ := noTup_cons hn
    rw [relL_cons]
    refine ⟨u, us, rfl, ?_, RelAll.relL h.2 h2⟩
    rw [← rel_eq h1]; exact h.1
  | [], _ :: _, h, _ => h.elim
  | _ :: _, [], h, _ => h.elim

/-- the results' values -/
def resRun (a : Act) (l : List ResultVar) : Sem (List Value) := l.mapM fun
  | .tmp t => pure (a.tmps.getD t undef)
  | .cell x t => do loadVar t (← asAddr (a.tmps.getD x undef))

theorem resL_ok {c : Cx} (ok : EnvOK c.E) {sl : Slots} {h : Heap} {F : Nat → Prop} {β : Beta} {Y : Nat → Prop} {w : World} {a : Act} (m : Mem c h F β Y w) (hs : SlotsOK c sl h β Y w a) {X' : Nat → Prop} (hc : ∀ ns, Cold h β w (XX c.Z Y β h) X' ns) :
    ∀ (l : List ResultVar) (K : List SV → Prop), resL c.E sl h l K → ∃ vs us, K vs ∧ (resRun a l).run c.E.P w = .ok us w ∧ RelAll w X' vs us
  | [], K, hK => ⟨[], [], hK, by simp [resRun], trivial⟩
  | .tmp t :: r, K, hK => by
    simp only [resL] at hK
    obtain ⟨v', ns, k1, _, k2⟩ := frz_ok m 60 _ [] _ hK
    obtain ⟨vs, us, q1, q2, q3⟩ := resL_ok ok m hs hc r _ k1
    refine ⟨v' :: vs, a.tmps.getD t undef :: us, q1, ?_, (k2 X' (hc ns)).2.2 _ (bl_rel (ev_ok m hs (.tmp t))), q3⟩
    simp only [resRun] at q2 ⊢
    simp only [List.mapM_cons, Sem.run_bind, Sem.run_pure, Result.andThen_ok]
    rw [q2]
    rfl
  | .cell t T :: r, K, hK => by
    simp only [resL] at hK
    have hK' : opE c.E sl h 0 (.load T (.tmp t)) (fun v _ _ => frz h 60 v [] fun v _ => resL c.E sl h r fun vs => K (v :: vs)) := hK
    obtain ⟨v, u, ad, k0, hu, k5, k6⟩ := load_val ok m hK' (ev_ok m hs (.tmp t))
    obtain ⟨v', ns, k1, _, k2⟩ := frz_ok m 60 _ [] _ k0
    obtain ⟨vs, us, q1, q2, q3⟩ := resL_ok ok m hs hc r _ k1
    refine ⟨v' :: vs, u :: us, q1, ?_, (k2 X' (hc ns)).2.2 _ k6, q3⟩
    simp only [resRun] at q2 ⊢
    have ha : asAddr (.pointer (some ad)) = pure ad := rfl
    replace hu : a.tmps.getD t undef = .pointer (some ad) := hu
    simp only [List.mapM_cons, Sem.run_bind, hu, ha, Sem.run_pure, Result.andThen_ok, k5]
    rw [q2]
    rfl

/-- how a frame leaves: its marks are taken, its results are read -/
theorem body_end {c : Cx} {N : Nat} {fn : Func} {sl : Slots} {h : Heap} {n : Nat} {a : Act} {w : World} (D : Den c N sl h n a w) {R : Ending → World → Prop}
    (k : ∀ β Y w', Mem c h (fun b => n ≤ b) β Y w' → SlotsOK c sl h β Y w' a → (∀ r, c.Y0 r → Y r) → ∃ v, (results fn a.tmps).run c.E.P w' = .ok v w' ∧ R (.returned v) w') :
    LeavesInM Fence.wide 0 c.E.P fn a.tmps R a.defers .returning w := by
  obtain ⟨β, Y, m, hs, hN, h0, Ds, hds, hnd, hDs⟩ := D
  rw [hds]
  refine leave_marks Ds β Y c.Y0 w m hs hnd (fun D hD => (hDs D hD).1) (fun r hr => ⟨h0 r hr, fun hD => (hDs r hD).2 hr⟩) fun Y' w' m' hs' hY' => ?_
  exact k β Y' w' m' hs' hY'

/-- THE RULE OF A FUNCTION: what the executor says of its text holds of its calls. -/
theorem ret_of_exec {E : Env} (ok : EnvOK E) {f : FuncId} {fn : Func} {code : Code} {cuts : List Nat} {args : List SV} {r : SV} (hf : E.P.funcs[f]? = some fn) (hb : fn.body = some code) (hname : (fn.name == "runtime.NumGoroutine") = false)
    (hargs : args.length ≤ fn.ntmps) (hN : fn.ntmps ≤ 1000000) (hc : codeOK E fn.ntmps code)
    (hx : ini args 0 [] fun sl => exec E fn.ntmps cuts code sl [] 0 fun e sl h _ => match e with
      | .normal | .ret => resX E fn sl h fun v => Wk v r
      | _ => False) : Ret E f args r := by
  refine ⟨⟨fn, hf, by rw [hb]; rfl, hname⟩, fun w X us g hus => ?_⟩
  obtain ⟨hlen, hget⟩ := relL_get hus
  obtain ⟨sl, hx, h1, h2⟩ := ini_ok args 0 [] hx
  have hsize : us.size = args.length := by rw [← Array.length_toList]; exact hlen.symm
  have hX : XX X (fun _ => False) nob [] = X := by
    funext r
    simp only [XX, Own, lkB]
    simp
  have D : Den (cx0 E w X) fn.ntmps sl [] 0 { tmps := us ++ Array.replicate (fn.ntmps - us.size) undef, defers := [] } w := by
    refine ⟨nob, fun _ => False, mem0 g, ⟨by simp; omega, fun t => ?_⟩, by simp; omega, .nil (fun _ h => h)⟩
    show rel w (XX X (fun _ => False) nob []) (lk sl t) nob _
    rw [hX]
    by_cases ht : t < args.length
    · have hle : t ≤ 999999 := by omega
      unfold slotv
      rw [if_pos hle, h1 t (by omega) (by omega)]
      have := hget t ht
      have hu : (us ++ Array.replicate (fn.ntmps - us.size) undef).getD t undef = us.toList.getD t undef := by
        rw [Array.getD_eq_getD_getElem?, Array.getElem?_append_left (by omega)]
        simp
      show rel w X _ nob ((us ++ Array.replicate (fn.ntmps - us.size) undef).getD t undef)
      rw [hu]
      simpa using relV_rel this
    · rw [h2 t (by omega)]
      exact trivial
  refine callsIn_wide.1 (callsIn_of_wp_marks (n := 0) hf hb trivial (exec_sound (c := cx0 E w X) ok code sl [] 0 _ hx hc (.inl rfl) _ w D _ ?_))
  intro e sl' h' n' a' w' k D'
  have fin : resX E fn sl' h' (fun v => Wk v r) → LeavesInM Fence.wide 0 E.P fn a'.tmps (fun e w' => ∃ u, e = .returned u ∧ Below w.heap.size w w' ∧ rel w' X r nob u) a'.defers .returning w' := by
    intro hres
    refine body_end (c := cx0 E w X) D' fun β Y w' m hs _ => ?_
    have hbelow : Below w.heap.size w w' := ⟨m.os, m.tape, m.output, m.size, fun k hk => m.frame k hk id⟩
    have hXX : ∀ ns, Cold h' β w' (XX X Y β h') X ns := fun ns => ⟨fun r _ hr hx => hr (.inl hx), fun b hb k l hk hl hlv hx => (m.own l.r ⟨b, k, l, hk, hl, hlv, rfl⟩).2.1 hx⟩
    have hc : ∀ ns, Cold h' β w' (XX X Y β h') X ns := hXX
    unfold resX at hres
    obtain ⟨vs, us', k1, k2, k3⟩ := resL_ok ok m hs hc fn.results.toList _ hres
    have k2' : (fn.results.mapM fun
        | .tmp t => pure (a'.tmps.getD t undef)
        | .cell x t => do loadVar t (← asAddr (a'.tmps.getD x undef)) : Sem (Array Value)).run E.P w' = .ok us'.toArray w' := by
      rw [Array.mapM_eq_mapM_toList, Sem.run_map]
      have k2'' := k2
      simp only [resRun] at k2''
      exact (congrArg (fun r => r.andThen fun (a : List Value) w'' => Result.ok a.toArray w'') k2'')
    have k4 : (results fn a'.tmps).run E.P w' = (Result.ok us'.toArray w').andThen fun (a : Array Value) w'' => (pure (if h : a.size = 1 then a[0] else Value.tuple a) : Sem Value).run E.P w'' := by
      unfold results
      rw [Sem.run_bind]
      exact (congrArg (fun r => r.andThen fun (a : Array Value) w'' => (pure (if h : a.size = 1 then a[0] else Value.tuple a) : Sem Value).run E.P w'') k2')
    split at k1
    · rename_i v
      match us', k3, k4 with
      | [u], k3, k4 => exact ⟨u, by show (results fn a'.tmps).run E.P w' = _; rw [k4]; simp only [Result.andThen_ok, Sem.run_pure]; rfl, _, rfl, hbelow, k1.app k3.1⟩
    · rename_i hne
      split at k1
      case h_2 => exact k1.elim
      rename_i hnt
      have hlen2 : vs.length = us'.length := RelAll.len k3
      have hne1 : us'.length ≠ 1 := by
        intro e1
        match vs, hlen2.trans e1 with
        | [v], _ => exact hne v rfl
      refine ⟨.tuple us'.toArray, ?_, _, rfl, hbelow, k1.app ⟨us'.toArray, rfl, by simpa using RelAll.relL k3 hnt⟩⟩
      show (results fn a'.tmps).run E.P w' = _
      rw [k4]
      simp [hne1]
  cases e with
  | normal => exact fin k
  | ret => exact fin k
  | _ => exact k.elim
end Go.Sx
