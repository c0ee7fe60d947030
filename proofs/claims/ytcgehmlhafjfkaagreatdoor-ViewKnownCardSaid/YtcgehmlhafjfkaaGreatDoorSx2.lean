/-
  THE SYMBOLIC EXECUTOR: 'exec' reads a function's code and says what is to be shown. Generic: no program in sight. An own text.
-/
import Derived.Test.YtcgehmlhafjfkaaGreatDoorSx1
namespace Go.Sx
open Go.RowKit (Below)

abbrev Slots := List (Nat × SV)
/-- The record of a range over a function. -/
structure Lp where
  st : LoopState
  pend : Option Code
  N : Nat
  ps : Array Tmp
  asg : Code
  body : Code
  dead : Bool := false
/-- A block of the running function's: a variable, or a row of elements behind a slice. own = false: it is no longer written. gho: the record of a range over a function, and its slots. -/
inductive Blk where
  | var (own : Bool) (v : SV)
  | row (own : Bool) (sz : Nat) (xs : List SV)
  | gho (q : Lp) (sl : Slots)

abbrev Heap := List (Nat × Blk)
/-- a record that is done with -/
def Blk.dead : Blk := .gho ⟨.exhausted, none, 0, #[], .skip, .skip, true⟩ []

inductive TD where
  | int (k : IntKind) | bool | str | fn | ptr (e : TypeId) | ifc
  | strct (fs : List (TypeId × Nat))
  | arr (n : Nat) (e : TypeId)
  | sl (e : TypeId)
  | other

/-- What the executor knows of a type: its shape, its cells, its bytes, its zero value. -/
structure TI where
  d : TD
  size : Nat
  bytes : Nat
  zero : SV
  cmp : Bool

structure Env where
  P : Program
  tt : List (Nat × TI)
  gl : List (Nat × SV)
  /-- the functions that are called with the caller's own blocks in their hands -/
  lend : List Nat := []
  /-- the functions that hand back their argument -/
  idf : List Nat := []

def lk : Slots → Nat → SV
  | [], _ => .any
  | (i, v) :: r, t => match Nat.beq i t with | true => v | false => lk r t

def lkT : List (Nat × TI) → Nat → TI
  | [], _ => ⟨.other, 0, 0, .any, false⟩
  | (i, v) :: r, t => match Nat.beq i t with | true => v | false => lkT r t

def lkB : Heap → Nat → Option Blk
  | [], _ => none
  | (i, v) :: r, t => match Nat.beq i t with | true => some v | false => lkB r t

def stB : Heap → Nat → Blk → Heap
  | [], _, _ => []
  | (i, v) :: r, t, b => match Nat.beq i t with | true => (i, b) :: r | false => (i, v) :: stB r t b

def ofVal : Value → SV
  | .int k n => .int k n
  | .bool true => .tru
  | .bool false => .fls
  | .string s => .str s.data.toList
  | .slice none 0 0 => .nils
  | .nilFunc => .nilf
  | .nilIface => .nili
  | .pointer none => .nilp
  | _ => .any

def ev (E : Env) (sl : Slots) : Operand → SV
  | .tmp t => match Nat.ble t 999999 with | true => lk sl t | false => .any
  | .const v => ofVal v
  | .global g => match lk E.gl g with | .any => .any | t => .iptr t
  | .func f => .fn f []

/-- Lays a value's head open, so that nothing is reckoned twice. -/
def frc {R : Sort _} (v : SV) (K : SV → R) : R :=
  match v with
  | .any => K .any
  | .int k n => K (.int k n)
  | .bool b => K (.bool b)
  | .tru => K .tru
  | .fls => K .fls
  | .str s => K (.str s)
  | .agg fs => K (.agg fs)
  | .arr n sz xs => K (.arr n sz xs)
  | .tup vs => K (.tup vs)
  | .sl sz xs => K (.sl sz xs)
  | .mt => K .mt
  | .nils => K .nils
  | .iptr t => K (.iptr t)
  | .ptr b p => K (.ptr b p)
  | .osl b sz => K (.osl b sz)
  | .fn f c => K (.fn f c)
  | .nilf => K .nilf
  | .nilp => K .nilp
  | .nili => K .nili
  | .yld b => K (.yld b)

theorem frc_eq {R : Sort _} (v : SV) (K : SV → R) : frc v K = K v := by cases v <;> rfl

def frcL {R : Sort _} : List SV → (List SV → R) → R
  | [], K => K []
  | v :: r, K => frc v fun v => frcL r fun r => K (v :: r)

theorem frcL_eq {R : Sort _} (l : List SV) (K : List SV → R) : frcL l K = K l := by
  induction l generalizing K with
  | nil => rfl
  | cons v r ih => simp [frcL, frc_eq, ih]

/-- An element at a computed place. -/
@[irreducible] def IdxVC (xs : List SV) (i : Int) (K : SV → Prop) : Prop := ∃ s, 0 ≤ i ∧ xs[i.toNat]? = some s ∧ K s
/-- A sum, brought into its kind's range. -/
@[irreducible] def ArithVC (k : IntKind) (e : Int) (K : Int → Prop) : Prop := ∃ r, k.wrap e = r ∧ K r
/-- A byte at a computed place. -/
@[irreducible] def ByteVC (s : List UInt8) (i : Int) (K : UInt8 → Prop) : Prop := ∃ c, 0 ≤ i ∧ s[i.toNat]? = some c ∧ K c
/-- A side condition. -/
@[irreducible] def SideVC (p : Prop) (K : Prop) : Prop := p ∧ K

/-- A part of a value. -/
def nav (v : SV) : List Step → (SV → Prop) → Prop
  | [], K => frc v K
  | .fld i off :: p, K =>
    match v with
    | .agg fs => match Nat.beq off (szs (fs.take i)) with
      | true => (match fs[i]? with | some s => nav s p K | none => False)
      | false => False
    | _ => False
  | .idx i sz :: p, K =>
    match v with
    | .arr _ sz' xs => match Nat.beq sz sz' with
      | true => IdxVC xs i fun s => nav s p K
      | false => False
    | _ => False

def crosses : List Step → Bool
  | [] => false
  | .fld .. :: p => crosses p
  | .idx .. :: _ => true

/-- The value with another part. -/
def upd (v : SV) (x : SV) : List Step → (SV → Prop) → Prop
  | [], K => match Nat.beq v.sz x.sz with
    | true => frc x K
    | false => False
  | .fld i off :: p, K =>
    match v with
    | .agg fs => match Nat.beq off (szs (fs.take i)) with
      | true => (match fs[i]? with | some s => upd s x p fun s' => frcL (fs.set i s') fun fs' => K (.agg fs') | none => False)
      | false => False
    | _ => False
  | .idx i sz :: p, K =>
    match v with
    | .arr n sz' xs => match Nat.beq sz sz' with
      | true => IdxVC xs i fun s => upd s x p fun s' => K (.arr n sz' (xs.set i s'))
      | false => False
    | _ => False

mutual
/-- A value as it reads once nothing is written any more: names are replaced by what they name; the names are gathered. d: the depth. -/
def frz (h : Heap) : Nat → SV → List Nat → (SV → List Nat → Prop) → Prop
  | 0, _, _, _ => False
  | d + 1, v, ns, K => match v with
    | .ptr b p => match lkB h b with
      | some (.var _ u) => nav u p fun u => frz h d u (b :: ns) fun u ns => K (.iptr u) ns
      | _ => False
    | .osl b sz => match lkB h b with
      | some (.row _ sz' xs) => (match Nat.beq sz sz' with | true => K (.sl sz xs) (b :: ns) | false => False)
      | _ => False
    | .agg fs => frzL h d fs ns fun fs ns => K (.agg fs) ns
    | .tup fs => frzL h d fs ns fun fs ns => K (.tup fs) ns
    | .fn f cs => frzL h d cs ns fun cs ns => K (.fn f cs) ns
    | .yld _ => False
    | v => frc v fun v => K v ns
def frzL (h : Heap) : Nat → List SV → List Nat → (List SV → List Nat → Prop) → Prop
  | 0, _, _, _ => False
  | d + 1, l, ns, K => match l with
    | [] => K [] ns
    | v :: r => frz h d v ns fun v ns => frzL h d r ns fun r ns => K (v :: r) ns
end

/-- A block set anew (CPS, so that the list lies open). -/
def stK {R : Sort _} : Heap → Nat → Blk → (Heap → R) → R
  | [], _, _, K => K []
  | (i, v) :: r, t, b, K => match Nat.beq i t with
    | true => K ((i, b) :: r)
    | false => stK r t b fun r => K ((i, v) :: r)

theorem stK_eq {R : Sort _} (h : Heap) (t : Nat) (b : Blk) (K : Heap → R) : stK h t b K = K (stB h t b) := by
  induction h generalizing K with
  | nil => rfl
  | cons x r ih =>
    obtain ⟨i, v⟩ := x
    simp only [stK, stB]
    cases Nat.beq i t <;> simp [ih]

def Blk.cold : Blk → Blk
  | .var _ v => .var false v
  | .row _ sz xs => .row false sz xs
  | .gho .. => .dead

def iceB : List Nat → Heap → Heap
  | [], h => h
  | b :: ns, h => match lkB h b with
    | some k => iceB ns (stB h b k.cold)
    | none => iceB ns h

/-- The names' blocks are no longer written. -/
def iceK {R : Sort _} : List Nat → Heap → (Heap → R) → R
  | [], h, K => K h
  | b :: ns, h, K => match lkB h b with
    | some (.var _ v) => stK h b (.var false v) fun h => iceK ns h K
    | some (.row _ sz xs) => stK h b (.row false sz xs) fun h => iceK ns h K
    | some (.gho ..) => stK h b .dead fun h => iceK ns h K
    | none => iceK ns h K

theorem iceK_eq {R : Sort _} (ns : List Nat) (h : Heap) (K : Heap → R) : iceK ns h K = K (iceB ns h) := by
  induction ns generalizing h K with
  | nil => rfl
  | cons b ns ih =>
    simp only [iceK, iceB]
    cases lkB h b with
    | none => simp [ih]
    | some k => cases k <;> simp [stK_eq, ih, Blk.cold]

mutual
def SV.kill (b : Nat) : SV → SV
  | .ptr c p => match Nat.beq c b with | true => .any | false => .ptr c p
  | .osl c s => match Nat.beq c b with | true => .any | false => .osl c s
  | .yld c => match Nat.beq c b with | true => .any | false => .yld c
  | .agg fs => .agg (killL b fs)
  | .tup fs => .tup (killL b fs)
  | .fn f fs => .fn f (killL b fs)
  | v => v
def killL (b : Nat) : List SV → List SV
  | [] => []
  | v :: r => v.kill b :: killL b r
end

def killS (b : Nat) : Slots → Slots
  | [] => []
  | (i, v) :: r => (i, v.kill b) :: killS b r
def killH (b : Nat) : Heap → Heap
  | [] => []
  | (i, .var o v) :: r => (i, .var o (v.kill b)) :: killH b r
  | (i, .row o s x) :: r => (i, .row o s x) :: killH b r
  | (i, .gho q s) :: r => (i, .gho q (killS b s)) :: killH b r

def killSK {R : Sort _} (b : Nat) : Slots → (Slots → R) → R
  | [], K => K []
  | (i, v) :: r, K => frc (v.kill b) fun v => killSK b r fun r => K ((i, v) :: r)
def killHK {R : Sort _} (b : Nat) : Heap → (Heap → R) → R
  | [], K => K []
  | (i, .var o v) :: r, K => frc (v.kill b) fun v => killHK b r fun r => K ((i, .var o v) :: r)
  | (i, .row o s x) :: r, K => killHK b r fun r => K ((i, .row o s x) :: r)
  | (i, .gho q s) :: r, K => killSK b s fun s => killHK b r fun r => K ((i, .gho q s) :: r)

theorem killSK_eq {R : Sort _} (b : Nat) (sl : Slots) (K : Slots → R) : killSK b sl K = K (killS b sl) := by
  induction sl generalizing K with
  | nil => rfl
  | cons x r ih => obtain ⟨i, v⟩ := x; simp [killSK, killS, frc_eq, ih]
theorem killHK_eq {R : Sort _} (b : Nat) (h : Heap) (K : Heap → R) : killHK b h K = K (killH b h) := by
  induction h generalizing K with
  | nil => rfl
  | cons x r ih => obtain ⟨i, v⟩ := x; cases v <;> simp [killHK, killH, frc_eq, killSK_eq, ih]

mutual
def SV.scalar : SV → Bool
  | .int .. | .bool _ | .tru | .fls | .str _ => true
  | .tup vs => scalarL vs
  | _ => false
def scalarL : List SV → Bool
  | [] => true
  | v :: r => match v.scalar with | true => scalarL r | false => false
end

/-- What an operation does to the running function's blocks. -/
inductive EA where
  | nil
  | new (k : Blk)
  | set (b : Nat) (k : Blk)
  | app (b : Nat) (k : Blk)

abbrev KE := SV → List Nat → EA → Prop

/-- The contract of a function that only computes: it returns r, and changes nothing that was there. (Stated in Sx3.) -/
def Good (E : Env) (w : World) (X : Nat → Prop) : Prop :=
  (∀ b, X b → b < w.heap.size) ∧ ∀ g t, lk E.gl g = t → (∀ (_ : t = .any), False) → relP w X (.iptr t) nob [.pointer (some ⟨g, 0, none⟩)]

def Callable (P : Program) (f : FuncId) : Prop := ∃ fn, P.funcs[f]? = some fn ∧ fn.body.isSome = true ∧ (fn.name == "runtime.NumGoroutine") = false

def Ret (E : Env) (f : FuncId) (args : List SV) (r : SV) : Prop :=
  Callable E.P f ∧ ∀ (w : World) (X : Nat → Prop) (us : Array Value), Good E w X → relL w X args nob us.toList →
    Calls E.P f us w fun e w' => ∃ u, e = .returned u ∧ Below w.heap.size w w' ∧ rel w' X r nob u

@[irreducible] def CallVC (E : Env) (f : FuncId) (args : List SV) (K : SV → Prop) : Prop := ∃ r, Ret E f args r ∧ K r

def kq : IntKind → IntKind → Bool
  | .i8, .i8 | .i16, .i16 | .i32, .i32 | .i64, .i64 | .u8, .u8 | .u16, .u16 | .u32, .u32 | .u64, .u64 => true
  | _, _ => false
theorem kq_eq {a b : IntKind} (h : kq a b = true) : a = b := by cases a <;> cases b <;> first | rfl | cases h

/-- Comparison of two values that are no structs. -/
def eqS : SV → SV → Option Bool
  | .int k a, .int k' b => match kq k k' with | true => some (decide (a = b)) | false => none
  | .tru, .tru | .fls, .fls => some true
  | .tru, .fls | .fls, .tru => some false
  | .bool a, .tru => some a
  | .bool a, .fls => some (!a)
  | .tru, .bool a => some a
  | .fls, .bool a => some (!a)
  | .bool a, .bool b => some (a == b)
  | .str a, .str b => some (decide (a = b))
  | .nils, .nils => some true
  | .nilf, .nilf => some true
  | .fn .., .nilf | .nilf, .fn .. => some false
  | .nilp, .nilp => some true
  | .ptr .., .nilp | .nilp, .ptr .. | .iptr _, .nilp | .nilp, .iptr _ => some false
  | _, _ => none

def andO (a b : Option Bool) : Option Bool :=
  match a, b with
  | some a, some b => some (a && b)
  | _, _ => none

mutual
/-- Comparison of two values of a type. -/
def eqT (tt : List (Nat × TI)) : Nat → TypeId → SV → SV → Option Bool
  | 0, _, _, _ => none
  | d + 1, T, x, y => match (lkT tt T).d with
    | .strct fs => (match x, y, (lkT tt T).cmp with | .agg xs, .agg ys, true => eqF tt d fs 0 xs ys | _, _, _ => none)
    | .arr n e => (match x, y, (lkT tt T).cmp && Nat.ble 1 n with
      | .arr _ s xs, .arr _ s' ys, true => (match Nat.beq s (lkT tt e).size, Nat.beq s' (lkT tt e).size with
        | true, true => eqR tt d e n xs ys
        | _, _ => none)
      | _, _, _ => none)
    | .int _ => (match x with | .int .. => eqS x y | _ => none)
    | .bool => (match x with | .tru | .fls | .bool _ => eqS x y | _ => none)
    | .str => (match x with | .str _ => eqS x y | _ => none)
    | .ptr _ => (match x with | .nilp | .ptr .. | .iptr _ => eqS x y | _ => none)
    | .sl _ => (match x with | .nils => eqS x y | _ => none)
    | .fn => (match x with | .nilf | .fn .. => eqS x y | _ => none)
    | _ => none
def eqF (tt : List (Nat × TI)) : Nat → List (TypeId × Nat) → Nat → List SV → List SV → Option Bool
  | 0, _, _, _, _ => none
  | d + 1, fs, off, xs, ys => match fs, xs, ys with
    | [], [], [] => some true
    | (T, o) :: fs, x :: xs, y :: ys => (match Nat.beq o off, Nat.beq x.sz (lkT tt T).size, Nat.beq y.sz (lkT tt T).size with
      | true, true, true => andO (eqT tt d T x y) (eqF tt d fs (off + (lkT tt T).size) xs ys)
      | _, _, _ => none)
    | _, _, _ => none
def eqR (tt : List (Nat × TI)) : Nat → TypeId → Nat → List SV → List SV → Option Bool
  | 0, _, _, _, _ => none
  | d + 1, e, n, xs, ys => match n, xs, ys with
    | 0, [], [] => some true
    | n + 1, x :: xs, y :: ys => andO (eqT tt d e x y) (eqR tt d e n xs ys)
    | _, _, _ => none
end

def binX (E : Env) (op : BinOp) (T : TypeId) (x y : SV) (K : SV → Prop) : Prop :=
  match op, x, y with
  | .add, .int k a, .int k' b => match kq k k' with | true => ArithVC k (a + b) fun r => K (.int k r) | false => False
  | .sub, .int k a, .int k' b => match kq k k' with | true => ArithVC k (a - b) fun r => K (.int k r) | false => False
  | .mul, .int k a, .int k' b => match kq k k' with | true => ArithVC k (a * b) fun r => K (.int k r) | false => False
  | .quo, .int k a, .int k' b => match kq k k' with | true => SideVC (b ≠ 0) (ArithVC k (a.tdiv b) fun r => K (.int k r)) | false => False
  | .rem, .int k a, .int k' b => match kq k k' with | true => SideVC (b ≠ 0) (K (.int k (a.tmod b))) | false => False
  | .and, .int k a, .int k' b => match kq k k' with | true => K (.int k (bits .and k a b)) | false => False
  | .or, .int k a, .int k' b => match kq k k' with | true => K (.int k (bits .or k a b)) | false => False
  | .xor, .int k a, .int k' b => match kq k k' with | true => K (.int k (bits .xor k a b)) | false => False
  | .andNot, .int k a, .int k' b => match kq k k' with | true => K (.int k (bits .andNot k a b)) | false => False
  | .shl, .int k a, .int _ b => SideVC (0 ≤ b) (ArithVC k (a * 2 ^ (min b.toNat k.bits)) fun r => K (.int k r))
  | .shr, .int k a, .int _ b => SideVC (0 ≤ b) (K (.int k (a.fdiv (2 ^ (min b.toNat k.bits)))))
  | .lss, .int k a, .int k' b => match kq k k' with | true => K (.bool (decide (a < b))) | false => False
  | .leq, .int k a, .int k' b => match kq k k' with | true => K (.bool (decide (a ≤ b))) | false => False
  | .gtr, .int k a, .int k' b => match kq k k' with | true => K (.bool (decide (b < a))) | false => False
  | .geq, .int k a, .int k' b => match kq k k' with | true => K (.bool (decide (b ≤ a))) | false => False
  | .add, .str s, .str t => SideVC (((s.length + t.length : Nat) : Int) ≤ 9223372036854775807) (K (.str (s ++ t)))
  | .eql, x, y => match eqT E.tt 50 T x y with | some b => K (.bool b) | none => False
  | .neq, x, y => match eqT E.tt 50 T x y with | some b => K (.bool (!b)) | none => False
  | _, _, _ => False

def inOrder : Nat → List (Nat × Operand) → Bool
  | _, [] => true
  | i, (j, _) :: r => match Nat.beq i j with | true => inOrder (i + 1) r | false => false

/-- each part has its field's size -/
def fits (E : Env) : List (TypeId × Nat) → Nat → List SV → Bool
  | [], _, [] => true
  | (T, o) :: fs, off, v :: vs => match Nat.beq o off, Nat.beq v.sz (lkT E.tt T).size, Nat.ble 1 v.sz with
    | true, true, true => fits E fs (off + v.sz) vs
    | _, _, _ => false
  | _, _, _ => false

/-- a slice's bounds -/
def bnds (E : Env) (sl : Slots) (lo hi : Option Operand) (n : Nat) (K : Int → Int → Prop) : Prop :=
  match lo with
  | none => (match hi with
    | none => K 0 n
    | some h => match ev E sl h with
      | .int _ h => SideVC (0 ≤ h ∧ h ≤ n) (K 0 h)
      | _ => False)
  | some l => match ev E sl l with
    | .int _ l => (match hi with
      | none => SideVC (0 ≤ l ∧ l ≤ n) (K l n)
      | some h => match ev E sl h with
        | .int _ h => SideVC (0 ≤ l ∧ l ≤ h ∧ h ≤ n) (K l h)
        | _ => False)
    | _ => False

def memb (x : Nat) : List Nat → Bool
  | [] => false
  | y :: r => match Nat.beq x y with | true => true | false => memb x r

def noTup : List SV → Bool
  | [] => true
  | .tup _ :: _ => false
  | _ :: r => noTup r

/-- an element's zero value is known, and of its size -/
def zeroFits (E : Env) (e : TypeId) : Bool :=
  match (lkT E.tt e).zero with
  | .any => false
  | z => Nat.beq z.sz (lkT E.tt e).size

/-- what a slice holds: its elements; none: a slice without any -/
def rows (h : Heap) (v : SV) (K : Option (Nat × List SV) → Prop) : Prop :=
  match v with
  | .sl sz xs => K (some (sz, xs))
  | .osl b _ => (match lkB h b with
    | some (.row _ sz xs) => K (some (sz, xs))
    | _ => False)
  | .nils | .mt => K none
  | _ => False

/-- a value that may be laid in a variable -/
def solid (v : SV) (K : SV → Prop) : Prop :=
  match v with
  | .any => False
  | .tup _ => False
  | v => frc v K

theorem solid_iff {v : SV} {K : SV → Prop} (h : solid v K) : v ≠ .any ∧ (∀ vs, v ≠ .tup vs) ∧ K v := by
  cases v <;> first | exact h.elim | exact ⟨by simp, by simp, h⟩

/-- parts, laid in their places -/
def fillF (E : Env) (sl : Slots) : List (Nat × Operand) → List SV → (List SV → Prop) → Prop
  | [], vs, K => frcL vs K
  | (i, x) :: r, vs, K => match vs[i]? with
    | some z => solid (ev E sl x) fun v => (match Nat.beq z.sz v.sz with
      | true => fillF E sl r (vs.set i v) K
      | false => False)
    | none => False

/-- elements, all of one size -/
def solids (E : Env) (sl : Slots) (sz : Nat) : List (Nat × Operand) → (List SV → Prop) → Prop
  | [], K => K []
  | (_, x) :: r, K => solid (ev E sl x) fun v => (match Nat.beq v.sz sz with
    | true => solids E sl sz r fun vs => K (v :: vs)
    | false => False)

def storeV (h : Heap) (b : Nat) (v : SV) (p : List Step) (u : SV) (K : KE) : Prop :=
  match crosses p with
  | false => upd v u p fun v => K .any [] (.set b (.var true v))
  | true => frz h 60 u [] fun u ns => (match memb b ns with
    | false => upd v u p fun v => K .any ns (.set b (.var true v))
    | true => False)

def storeR (h : Heap) (b sz : Nat) (xs : List SV) (p : List Step) (u : SV) (K : KE) : Prop :=
  frz h 60 u [] fun u ns => (match memb b ns, p with
    | false, .idx i s :: p => (match Nat.beq s sz with
      | true => IdxVC xs i fun x => upd x u p fun x => K .any ns (.set b (.row true sz (xs.set i x)))
      | false => False)
    | _, _ => False)

def opE (E : Env) (sl : Slots) (h : Heap) (n : Nat) (o : Op) (K : KE) : Prop :=
  match o with
  | .move x | .assign x => frc (ev E sl x) fun v => K v [] .nil
  | .pick c a b => match ev E sl c with
    | .tru => frc (ev E sl a) fun v => K v [] .nil
    | .fls => frc (ev E sl b) fun v => K v [] .nil
    | _ => False
  | .alloc T => solid (lkT E.tt T).zero fun v => K (.ptr n []) [] (.new (.var true v))
  | .box _ x => solid (ev E sl x) fun v => K (.ptr n []) [] (.new (.var true v))
  | .build T ps => match (lkT E.tt T).d, (lkT E.tt T).zero with
    | .strct fs, .agg zs => (match fits E fs 0 zs with
      | true => fillF E sl ps.toList zs fun vs => K (.agg vs) [] .nil
      | false => False)
    | .arr _ e, .arr m' sz zs => (match Nat.beq sz (lkT E.tt e).size, Nat.ble 1 sz with
      | true, true => fillF E sl ps.toList zs fun vs => frzL h 60 vs [] fun vs ns => K (.arr m' sz vs) ns .nil
      | _, _ => False)
    | _, _ => False
  | .buildSlice T len ps => match (lkT E.tt T).d with
    | .sl e => (match Nat.beq len ps.toList.length && inOrder 0 ps.toList, Nat.ble 1 (lkT E.tt e).size, Nat.ble (len * (lkT E.tt e).size) 16777216, (lkT E.tt e).zero with
      | _, _, _, .any => False
      | true, true, true, _ => solids E sl (lkT E.tt e).size ps.toList fun vs => frzL h 60 vs [] fun vs ns => K (.osl n (lkT E.tt e).size) ns (.new (.row true (lkT E.tt e).size vs))
      | false, true, true, z => solid z fun z => (match Nat.beq z.sz (lkT E.tt e).size with
        | true => fillF E sl ps.toList (List.replicate len z) fun vs => frzL h 60 vs [] fun vs ns => K (.osl n (lkT E.tt e).size) ns (.new (.row true (lkT E.tt e).size vs))
        | false => False)
      | _, _, _, _ => False)
    | _ => False
  | .nilCheck x => match ev E sl x with
    | .iptr t => K (.iptr t) [] .nil
    | .ptr b p => K (.ptr b p) [] .nil
    | .fn f c => K (.fn f c) [] .nil
    | _ => False
  | .fieldAddr T x f => match (lkT E.tt T).d with
    | .strct fs => (match fs[f]? with
      | some (T', off) => (match Nat.ble 1 (lkT E.tt T').size with
        | true => (match ev E sl x with
          | .ptr b p => K (.ptr b (p ++ [.fld f off])) [] .nil
          | .iptr t => nav t [.fld f off] fun u => K (.iptr u) [] .nil
          | _ => False)
        | false => False)
      | none => False)
    | _ => False
  | .field T x f => match (lkT E.tt T).d with
    | .strct fs => (match fs[f]? with
      | some (T', off) => nav (ev E sl x) [.fld f off] fun u => (match Nat.beq u.sz (lkT E.tt T').size with
        | true => (match (lkT E.tt T').d, u.isAgg with
          | .other, _ => False
          | .strct _, true | .arr .., true => K u [] .nil
          | .strct _, false | .arr .., false => False
          | _, false => K u [] .nil
          | _, true => False)
        | false => False)
      | none => False)
    | _ => False
  | .load T x => match ev E sl x with
    | .ptr b p => (match lkB h b with
      | some (.var _ v) => nav v p fun u => (match Nat.beq u.sz (lkT E.tt T).size with
        | true => (match (lkT E.tt T).d, u.isAgg with
          | .other, _ => False
          | .strct _, true | .arr .., true => K u [] .nil
          | .strct _, false | .arr .., false => False
          | _, false => K u [] .nil
          | _, true => False)
        | false => False)
      | some (.row _ sz xs) => (match p with
        | [] => False
        | _ :: _ => nav (.arr 0 sz xs) p fun u => (match Nat.beq u.sz (lkT E.tt T).size with
          | true => (match (lkT E.tt T).d, u.isAgg with
            | .other, _ => False
            | .strct _, true | .arr .., true => K u [] .nil
            | .strct _, false | .arr .., false => False
            | _, false => K u [] .nil
            | _, true => False)
          | false => False))
      | _ => False)
    | .iptr t => frc t fun u => (match Nat.beq u.sz (lkT E.tt T).size with
        | true => (match (lkT E.tt T).d, u.isAgg with
          | .other, _ => False
          | .strct _, true | .arr .., true => K u [] .nil
          | .strct _, false | .arr .., false => False
          | _, false => K u [] .nil
          | _, true => False)
        | false => False)
    | _ => False
  | .store T x y => match Nat.ble 1 (lkT E.tt T).size, ev E sl x with
    | true, .ptr b p => (match lkB h b with
      | some (.var true v) => solid (ev E sl y) fun u => (match Nat.beq u.sz (lkT E.tt T).size with
        | true => storeV h b v p u K
        | false => False)
      | some (.row true sz xs) => solid (ev E sl y) fun u => (match Nat.beq u.sz (lkT E.tt T).size with
        | true => storeR h b sz xs p u K
        | false => False)
      | _ => False)
    | _, _ => False
  | .indexAddr T x i => match ev E sl i with
    | .int _ i => (match (lkT E.tt T).d with
      | .sl e => (match ev E sl x with
        | .sl sz xs => (match Nat.beq sz (lkT E.tt e).size, Nat.ble 1 sz with
          | true, true => IdxVC xs i fun u => K (.iptr u) [] .nil
          | _, _ => False)
        | .osl b sz => (match lkB h b, Nat.beq sz (lkT E.tt e).size && Nat.ble 1 sz with
          | some (.row _ _ xs), true => SideVC (0 ≤ i ∧ i < xs.length) (K (.ptr b [.idx i.toNat sz]) [] .nil)
          | _, _ => False)
        | _ => False)
      | .arr m e => (match Nat.ble 1 (lkT E.tt e).size, ev E sl x with
        | true, .ptr b p => SideVC (0 ≤ i ∧ i < m) (K (.ptr b (p ++ [.idx i.toNat (lkT E.tt e).size])) [] .nil)
        | true, .iptr t => SideVC (0 ≤ i ∧ i < m) (nav t [.idx i.toNat (lkT E.tt e).size] fun u => K (.iptr u) [] .nil)
        | _, _ => False)
      | _ => False)
    | _ => False
  | .index T x i => match (lkT E.tt T).d, ev E sl i, ev E sl x with
    | .str, .int _ i, .str s => ByteVC s i fun c => K (.int .u8 c.toNat) [] .nil
    | .arr m e, .int _ i, .arr m' sz xs => (match Nat.beq m m' && Nat.beq sz (lkT E.tt e).size with
      | true => IdxVC xs i fun u => (match Nat.beq u.sz (lkT E.tt e).size with
        | true => (match (lkT E.tt e).d, u.isAgg with
          | .other, _ => False
          | .strct _, true | .arr .., true => K u [] .nil
          | .strct _, false | .arr .., false => False
          | _, false => K u [] .nil
          | _, true => False)
        | false => False)
      | false => False)
    | _, _, _ => False
  | .binOp op T x y _ => binX E op T (ev E sl x) (ev E sl y) fun v => K v [] .nil
  | .unOp .not _ x => match ev E sl x with
    | .bool b => K (.bool (!b)) [] .nil
    | .tru => K .fls [] .nil
    | .fls => K .tru [] .nil
    | _ => False
  | .unOp .neg _ x => match ev E sl x with
    | .int k a => ArithVC k (0 - a) fun r => K (.int k r) [] .nil
    | _ => False
  | .convert S T x => match (lkT E.tt S).d, (lkT E.tt T).d, ev E sl x with
    | .other, _, _ => False
    | _, .int k, .int _ a => ArithVC k a fun r => K (.int k r) [] .nil
    | _, .str, .str s => K (.str s) [] .nil
    | _, _, _ => False
  | .extract x i => match ev E sl x with
    | .tup vs => (match vs[i]? with
      | some v => frc v fun v => K v [] .nil
      | none => False)
    | _ => False
  | .makeFunc (.func f) fst caps => match fst.toList with
    | [] => frcL (caps.toList.map (ev E sl)) fun cs => (match noTup cs with | true => K (.fn f cs) [] .nil | false => False)
    | _ => False
  | .slice T x lo hi mx => match mx with
    | some _ => False
    | none => (match ev E sl x with
      | .str s => (match (lkT E.tt T).d with
        | .str => bnds E sl lo hi s.length fun l h => K (.str ((s.take h.toNat).drop l.toNat)) [] .nil
        | _ => False)
      | .sl sz xs => (match (lkT E.tt T).d with
        | .sl e => (match Nat.beq sz (lkT E.tt e).size && Nat.ble 1 sz with
          | true => bnds E sl lo hi xs.length fun l h => K (.sl sz ((xs.take h.toNat).drop l.toNat)) [] .nil
          | false => False)
        | _ => False)
      | .osl b sz => (match lkB h b with
        | some (.row _ sz' xs) => (match (lkT E.tt T).d with
          | .sl e => (match Nat.beq sz (lkT E.tt e).size && Nat.ble 1 sz && Nat.beq sz sz' with
            | true => bnds E sl lo hi xs.length fun l h => K (.sl sz ((xs.take h.toNat).drop l.toNat)) [b] .nil
            | false => False)
          | _ => False)
        | _ => False)
      | x => (match (lkT E.tt T).d with
        | .arr m e => frz h 60 x [] fun u ns => (match u with
          | .iptr (.arr m' sz xs) => (match Nat.beq m m' && Nat.beq sz (lkT E.tt e).size && Nat.ble 1 sz with
            | true => bnds E sl lo hi m fun l h => K (.sl sz ((xs.take h.toNat).drop l.toNat)) ns .nil
            | false => False)
          | _ => False)
        | _ => False))
  | .makeSlice T l c => match (lkT E.tt T).d, ev E sl l, ev E sl c with
    | .sl e, .int _ a, .int _ b => solid (lkT E.tt e).zero fun z => (match Nat.beq z.sz 1, Nat.beq (lkT E.tt e).size 1 with
      | true, true => SideVC (0 ≤ a ∧ a = b ∧ b ≤ 70368744177664 ∧ b * (lkT E.tt e).bytes ≤ 70368744177664) (K (.osl n 1) [] (.new (.row true 1 (List.replicate a.toNat z))))
      | _, _ => False)
    | _, _, _ => False
  | .call c => match c.callee with
    | .builtin .len => (match c.args.toList, c.argTypes.toList with
      | [x], [T] => (match (lkT E.tt T).d, ev E sl x with
        | .sl _, .sl _ xs => K (.int .i64 xs.length) [] .nil
        | .str, .str xs => K (.int .i64 xs.length) [] .nil
        | .sl _, .nils | .sl _, .mt => K (.int .i64 0) [] .nil
        | .sl _, .osl b _ => (match lkB h b with
          | some (.row _ _ xs) => K (.int .i64 xs.length) [] .nil
          | _ => False)
        | _, _ => False)
      | _, _ => False)
    | .builtin .append => (match c.args.toList, c.argTypes.toList with
      | [x, y], [T, T'] => (match (lkT E.tt T).d with
        | .sl e => rows h (ev E sl y) fun o => (match o with
          | some (sz, ys) => (match Nat.beq sz (lkT E.tt e).size, Nat.ble 1 sz, Nat.beq T T' && zeroFits E e, Nat.ble 1 (lkT E.tt e).bytes with
            | true, true, true, true => (match ev E sl x with
              | .osl b _ => (match lkB h b with
                | some (.row true sz' xs) => (match Nat.beq sz sz' with
                  | true => SideVC ((xs.length + ys.length) * (lkT E.tt e).bytes ≤ 70368744177664) (K (.osl b sz) [] (.app b (.row true sz (xs ++ ys))))
                  | false => False)
                | _ => False)
              | .nils | .mt => SideVC (ys.length * (lkT E.tt e).bytes ≤ 70368744177664) (K (.osl n sz) [] (.new (.row true sz ys)))
              | _ => False)
            | _, _, _, _ => False)
          | none => (match Nat.beq T T' && Nat.ble 1 (lkT E.tt e).size, ev E sl x with
            | true, .osl b s => (match lkB h b with
              | some (.row ..) => K (.osl b s) [] .nil
              | _ => False)
            | true, .sl s xs => K (.sl s xs) [] .nil
            | true, .nils => K .nils [] .nil
            | true, .mt => K .mt [] .nil
            | _, _ => False))
        | _ => False)
      | _, _ => False)
    | .builtin .min => (match c.args.toList with
      | [x, y] => (match ev E sl x, ev E sl y with
        | .int k a, .int k' b => (match kq k k' with | true => K (.int k (min a b)) [] .nil | false => False)
        | _, _ => False)
      | _ => False)
    | .builtin .max => (match c.args.toList with
      | [x, y] => (match ev E sl x, ev E sl y with
        | .int k a, .int k' b => (match kq k k' with | true => K (.int k (max a b)) [] .nil | false => False)
        | _, _ => False)
      | _ => False)
    | .value f => (match ev E sl f with
      | .fn f caps => (match memb f E.idf with
        | true => (match c.args.toList, caps with
          | [x], [] => solid (ev E sl x) fun v => K v [] .nil
          | _, _ => False)
        | false => frcL (c.args.toList.map (ev E sl)) fun as => (match noTup as with
          | true => frzL h 60 as [] fun as ns => frzL h 60 caps ns fun caps ns => CallVC E f (as ++ caps) fun r => frc r fun r => (match ns with
            | [] => K r [] .nil
            | ns => match r.scalar with
              | true => K r [] .nil
              | false => K r ns .nil)
          | false => False))
      | _ => False)
    | _ => False
  | _ => False

def app (v : SV) (ns : List Nat) (a : EA) (d : Option Nat) (sl : Slots) (h : Heap) (n : Nat) (K : Slots → Heap → Prop) : Prop :=
  iceK ns h fun h =>
  match a with
  | .nil => (match d with | some d => K ((d, v) :: sl) h | none => K sl h)
  | .new k => (match d with | some d => K ((d, v) :: sl) ((n, k) :: h) | none => K sl ((n, k) :: h))
  | .set b k => stK h b k fun h => (match d with | some d => K ((d, v) :: sl) h | none => K sl h)
  | .app b k => killSK b sl fun sl => killHK b h fun h => stK h b k fun h => (match d with | some d => K ((d, v) :: sl) h | none => K sl h)

def opX (E : Env) (o : Oper) (sl : Slots) (h : Heap) (n : Nat) (K : Slots → Heap → Prop) : Prop :=
  opE E sl h n o.op fun v ns a => app v ns a o.dst sl h n K

/-- what a slot holds behind an operation that was not wanted -/
abbrev und : SV := .tup []

/-- A guarded operation: is it wanted? An open guard forks. -/
def grd (all : List Oper) (g : Option (Nat × Bool)) (sl : Slots) (Kyes Kno : Slots → Prop) : Prop :=
  match g with
  | none => Kyes sl
  | some (j, want) => match all[j]? with
    | some o => (match o.dst with
      | some d => (match lk sl d with
        | .tru => (match want with | true => Kyes sl | false => Kno sl)
        | .fls => (match want with | true => Kno sl | false => Kyes sl)
        | .bool b => (match want with
          | true => (b = true → Kyes ((d, .tru) :: sl)) ∧ (b = false → Kno ((d, .fls) :: sl))
          | false => (b = false → Kyes ((d, .fls) :: sl)) ∧ (b = true → Kno ((d, .tru) :: sl)))
        | .tup [] => Kno sl
        | _ => False)
      | none => False)
    | none => False

def gopX (E : Env) (all : List Oper) (o : Oper) (sl : Slots) (h : Heap) (n : Nat) (K : Slots → Heap → Prop) : Prop :=
  grd all o.guard sl (fun sl => opX E o sl h n K)
    (fun sl => match o.dst with
      | some d => K ((d, und) :: sl) h
      | none => K sl h)

/-- operations one after the other; n: the name of the first one's block -/
def opsX (E : Env) (all : List Oper) : List Oper → Slots → Heap → Nat → (Slots → Heap → Nat → Prop) → Prop
  | [], sl, h, n, K => K sl h n
  | o :: r, sl, h, n, K => gopX E all o sl h n fun sl h => opsX E all r sl h (n + 1) K

/-- One state says no more than another. -/
def subS (sl : Slots) : Slots → Prop
  | [] => True
  | (t, v) :: r => lk sl t = v ∧ subS sl r
def subH (h : Heap) : Heap → Prop
  | [] => True
  | (b, k) :: r => lkB h b = some k ∧ subH h r

mutual
def SV.undr (n : Nat) : SV → Bool
  | .ptr b _ => Nat.blt b n
  | .osl b _ => Nat.blt b n
  | .yld b => Nat.blt b n
  | .agg fs => undrL n fs
  | .tup fs => undrL n fs
  | .fn _ fs => undrL n fs
  | _ => true
def undrL (n : Nat) : List SV → Bool
  | [] => true
  | v :: r => match v.undr n with | true => undrL n r | false => false
end
def belowS (n : Nat) : Slots → Bool
  | [] => true
  | (_, v) :: r => match v.undr n with | true => belowS n r | false => false
def belowH (n : Nat) : Heap → Bool
  | [] => true
  | (b, .var _ v) :: r => match Nat.blt b n, v.undr n with | true, true => belowH n r | _, _ => false
  | (b, .row ..) :: r => match Nat.blt b n with | true => belowH n r | false => false
  | (b, .gho _ s) :: r => match Nat.blt b n, belowS n s with | true, true => belowH n r | _, _ => false

def Sub (sl' : Slots) (h' : Heap) (n' : Nat) (sl : Slots) (h : Heap) (n : Nat) : Prop :=
  subS sl' sl ∧ subH h' h ∧ n ≤ n' ∧ belowS n sl = true ∧ belowH n h = true

end Go.Sx
