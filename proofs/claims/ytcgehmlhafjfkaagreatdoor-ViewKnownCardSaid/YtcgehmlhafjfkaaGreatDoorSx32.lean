/-
  CLOSED RUNS: the executor as a program that the kernel runs. Generic: no program in sight. An own text.
-/
import Derived.Test.YtcgehmlhafjfkaaGreatDoorSx31
namespace Go.Sx

abbrev Rt := Option SV
/-- values, laid open before they are handed on -/
def frN (n : Nat) (K : Nat → Rt) : Rt := match n with | 0 => K 0 | m + 1 => K (Nat.succ m)
theorem frN_eq (n : Nat) (K : Nat → Rt) : frN n K = K n := by cases n <;> rfl
def frI (i : Int) (K : Int → Rt) : Rt := match i with | .ofNat n => frN n fun n => K (.ofNat n) | .negSucc n => frN n fun n => K (.negSucc n)
theorem frI_eq (i : Int) (K : Int → Rt) : frI i K = K i := by cases i <;> simp only [frI, frN_eq]
def frB (b : Bool) (K : Bool → Rt) : Rt := match b with | true => K true | false => K false
theorem frB_eq (b : Bool) (K : Bool → Rt) : frB b K = K b := by cases b <;> rfl
def frU (u : UInt8) (K : UInt8 → Rt) : Rt := frN u.toNat fun n => K (UInt8.ofNat n)
theorem frU_eq (u : UInt8) (K : UInt8 → Rt) : frU u K = K u := by simp only [frU, frN_eq, UInt8.ofNat_toNat]
def frStr : List UInt8 → (List UInt8 → Rt) → Rt
  | [], K => K []
  | u :: r, K => frU u fun u => frStr r fun r => K (u :: r)
theorem frStr_eq (s : List UInt8) (K : List UInt8 → Rt) : frStr s K = K s := by
  induction s generalizing K with
  | nil => rfl
  | cons u r ih => simp only [frStr, frU_eq, ih]
def frV : List SV → (List SV → Rt) → Rt
  | [], K => K []
  | v :: r, K => frV r fun r => K (v :: r)
theorem frV_eq (s : List SV) (K : List SV → Rt) : frV s K = K s := by
  induction s generalizing K with
  | nil => rfl
  | cons u r ih => simp only [frV, ih]

abbrev KC := SV → List Nat → EA → Rt

def idxC (xs : List SV) (i : Int) (K : SV → Rt) : Rt := match i with
  | .ofNat n => (match xs[n]? with | some s => K s | none => none)
  | .negSucc _ => none
def byteC (s : List UInt8) (i : Int) (K : UInt8 → Rt) : Rt := match i with
  | .ofNat n => (match s[n]? with | some s => K s | none => none)
  | .negSucc _ => none
def inR (k : IntKind) (e : Int) : Bool := match k with
  | .i64 => (match decide (-9223372036854775808 ≤ e) with | true => decide (e ≤ 9223372036854775807) | false => false)
  | .i32 => (match decide (-2147483648 ≤ e) with | true => decide (e ≤ 2147483647) | false => false)
  | .u8 => (match decide (0 ≤ e) with | true => decide (e ≤ 255) | false => false)
  | _ => false
def arithC (k : IntKind) (e : Int) (K : Int → Rt) : Rt := frI e fun e => match inR k e with | true => K e | false => frI (k.wrap e) K
def sideC (p : Prop) [Decidable p] (K : Rt) : Rt := match decide p with | true => K | false => none

theorem idx_c {r : SV} {xs : List SV} {i : Int} {K : SV → Rt} {K' : SV → Prop} (hk : idxC xs i K = some r) (h : ∀ s, K s = some r → K' s) : IdxVC xs i K' := by
  unfold idxC at hk
  split at hk
  · split at hk
    · rename_i e; exact idx_some (Int.natCast_nonneg _) e (h _ hk)
    · cases hk
  · cases hk
theorem byte_c {r : SV} {xs : List UInt8} {i : Int} {K : UInt8 → Rt} {K' : UInt8 → Prop} (hk : byteC xs i K = some r) (h : ∀ s, K s = some r → K' s) : ByteVC xs i K' := by
  unfold byteC at hk
  split at hk
  · split at hk
    · rename_i e; unfold ByteVC; exact ⟨_, Int.natCast_nonneg _, e, h _ hk⟩
    · cases hk
  · cases hk
theorem inR_ok {k : IntKind} {e : Int} (h : inR k e = true) : k.wrap e = e := by
  cases k <;> simp only [inR] at h <;> (try cases h) <;> split at h <;> (try cases h) <;> rename_i h1 <;> rw [decide_eq_true_eq] at h h1 <;> simp only [IntKind.wrap, IntKind.signed, IntKind.bits]
  · have h3 : (2 : Int) ^ 32 = 4294967296 := by decide
    have h4 : (2 : Int) ^ (32 - 1) = 2147483648 := by decide
    simp only [h3, h4, Bool.true_and, decide_eq_true_eq, ge_iff_le]
    split <;> omega
  · have h3 : (2 : Int) ^ 64 = 18446744073709551616 := by decide
    have h4 : (2 : Int) ^ (64 - 1) = 9223372036854775808 := by decide
    simp only [h3, h4, Bool.true_and, decide_eq_true_eq, ge_iff_le]
    split <;> omega
  · have h3 : (2 : Int) ^ 8 = 256 := by decide
    simp only [h3, Bool.false_and, Bool.false_eq_true, if_false]
    omega
theorem arith_c {r : SV} {k : IntKind} {e : Int} {K : Int → Rt} {K' : Int → Prop} (hk : arithC k e K = some r) (h : ∀ s, K s = some r → K' s) : ArithVC k e K' := by
  unfold arithC at hk
  simp only [frI_eq] at hk
  split at hk
  · rename_i e1; exact arith_eq (inR_ok e1) (h _ hk)
  · exact arith_raw (h _ hk)
theorem side_c {r : SV} {p : Prop} [Decidable p] {K : Rt} {K' : Prop} (hk : sideC p K = some r) (h : K = some r → K') : SideVC p K' := by
  unfold sideC at hk
  split at hk
  · rename_i e; exact side (of_decide_eq_true e) (h hk)
  · cases hk

/-- A part of a value. -/
def navC (v : SV) : List Step → (SV → Rt) → Rt
  | [], K => frc v K
  | .fld i off :: p, K =>
    match v with
    | .agg fs => match Nat.beq off (szs (fs.take i)) with
      | true => (match fs[i]? with | some s => navC s p K | none => none)
      | false => none
    | _ => none
  | .idx i sz :: p, K =>
    match v with
    | .arr _ sz' xs => match Nat.beq sz sz' with
      | true => idxC xs i fun s => navC s p K
      | false => none
    | _ => none

/-- The value with another part. -/
def updC (v : SV) (x : SV) : List Step → (SV → Rt) → Rt
  | [], K => match Nat.beq v.sz x.sz with
    | true => frc x K
    | false => none
  | .fld i off :: p, K =>
    match v with
    | .agg fs => match Nat.beq off (szs (fs.take i)) with
      | true => (match fs[i]? with | some s => updC s x p fun s' => frcL (fs.set i s') fun fs' => K (.agg fs') | none => none)
      | false => none
    | _ => none
  | .idx i sz :: p, K =>
    match v with
    | .arr n sz' xs => match Nat.beq sz sz' with
      | true => idxC xs i fun s => updC s x p fun s' => K (.arr n sz' (xs.set i s'))
      | false => none
    | _ => none

mutual
/-- A value as it reads once nothing is written any more: names are replaced by what they name; the names are gathered. d: the depth. -/
def frzC (h : Heap) : Nat → SV → List Nat → (SV → List Nat → Rt) → Rt
  | 0, _, _, _ => none
  | d + 1, v, ns, K => match v with
    | .ptr b p => match lkB h b with
      | some (.var _ u) => navC u p fun u => frzC h d u (b :: ns) fun u ns => K (.iptr u) ns
      | _ => none
    | .osl b sz => match lkB h b with
      | some (.row _ sz' xs) => (match Nat.beq sz sz' with | true => K (.sl sz xs) (b :: ns) | false => none)
      | _ => none
    | .agg fs => frzLC h d fs ns fun fs ns => K (.agg fs) ns
    | .tup fs => frzLC h d fs ns fun fs ns => K (.tup fs) ns
    | .fn f cs => frzLC h d cs ns fun cs ns => K (.fn f cs) ns
    | .yld _ => none
    | v => frc v fun v => K v ns
def frzLC (h : Heap) : Nat → List SV → List Nat → (List SV → List Nat → Rt) → Rt
  | 0, _, _, _ => none
  | d + 1, l, ns, K => match l with
    | [] => K [] ns
    | v :: r => frzC h d v ns fun v ns => frzLC h d r ns fun r ns => K (v :: r) ns
end

def binC (E : Env) (op : BinOp) (T : TypeId) (x y : SV) (K : SV → Rt) : Rt :=
  match op, x, y with
  | .add, .int k a, .int k' b => match kq k k' with | true => arithC k (a + b) fun r => K (.int k r) | false => none
  | .sub, .int k a, .int k' b => match kq k k' with | true => arithC k (a - b) fun r => K (.int k r) | false => none
  | .mul, .int k a, .int k' b => match kq k k' with | true => arithC k (a * b) fun r => K (.int k r) | false => none
  | .quo, .int k a, .int k' b => match kq k k' with | true => sideC (b ≠ 0) (arithC k (a.tdiv b) fun r => K (.int k r)) | false => none
  | .rem, .int k a, .int k' b => match kq k k' with | true => sideC (b ≠ 0) (frI (a.tmod b) fun r => K (.int k r)) | false => none
  | .and, .int k a, .int k' b => match kq k k' with | true => frI (bits .and k a b) fun r => K (.int k r) | false => none
  | .or, .int k a, .int k' b => match kq k k' with | true => frI (bits .or k a b) fun r => K (.int k r) | false => none
  | .xor, .int k a, .int k' b => match kq k k' with | true => frI (bits .xor k a b) fun r => K (.int k r) | false => none
  | .andNot, .int k a, .int k' b => match kq k k' with | true => frI (bits .andNot k a b) fun r => K (.int k r) | false => none
  | .shl, .int k a, .int _ b => sideC (0 ≤ b) (arithC k (a * 2 ^ (min b.toNat k.bits)) fun r => K (.int k r))
  | .shr, .int k a, .int _ b => sideC (0 ≤ b) (frI (a.fdiv (2 ^ (min b.toNat k.bits))) fun r => K (.int k r))
  | .lss, .int k a, .int k' b => match kq k k' with | true => frB (decide (a < b)) fun b => K (.bool b) | false => none
  | .leq, .int k a, .int k' b => match kq k k' with | true => frB (decide (a ≤ b)) fun b => K (.bool b) | false => none
  | .gtr, .int k a, .int k' b => match kq k k' with | true => frB (decide (b < a)) fun b => K (.bool b) | false => none
  | .geq, .int k a, .int k' b => match kq k k' with | true => frB (decide (b ≤ a)) fun b => K (.bool b) | false => none
  | .add, .str s, .str t => sideC (((s.length + t.length : Nat) : Int) ≤ 9223372036854775807) (frStr (s ++ t) fun r => K (.str r))
  | .eql, x, y => match eqT E.tt 50 T x y with | some b => frB b fun b => K (.bool b) | none => none
  | .neq, x, y => match eqT E.tt 50 T x y with | some b => frB (!b) fun b => K (.bool b) | none => none
  | _, _, _ => none

/-- a slice's bounds -/
def bndC (E : Env) (sl : Slots) (lo hi : Option Operand) (n : Nat) (K : Int → Int → Rt) : Rt :=
  match lo with
  | none => (match hi with
    | none => K 0 n
    | some h => match ev E sl h with
      | .int _ h => sideC (0 ≤ h ∧ h ≤ n) (K 0 h)
      | _ => none)
  | some l => match ev E sl l with
    | .int _ l => (match hi with
      | none => sideC (0 ≤ l ∧ l ≤ n) (K l n)
      | some h => match ev E sl h with
        | .int _ h => sideC (0 ≤ l ∧ l ≤ h ∧ h ≤ n) (K l h)
        | _ => none)
    | _ => none

/-- what a slice holds: its elements; none: a slice without any -/
def rowC (h : Heap) (v : SV) (K : Option (Nat × List SV) → Rt) : Rt :=
  match v with
  | .sl sz xs => K (some (sz, xs))
  | .osl b _ => (match lkB h b with
    | some (.row _ sz xs) => K (some (sz, xs))
    | _ => none)
  | .nils | .mt => K none
  | _ => none

/-- a value that may be laid in a variable -/
def solC (v : SV) (K : SV → Rt) : Rt :=
  match v with
  | .any => none
  | .tup _ => none
  | v => frc v K

/-- parts, laid in their places -/
def filC (E : Env) (sl : Slots) : List (Nat × Operand) → List SV → (List SV → Rt) → Rt
  | [], vs, K => frcL vs K
  | (i, x) :: r, vs, K => match vs[i]? with
    | some z => solC (ev E sl x) fun v => (match Nat.beq z.sz v.sz with
      | true => filC E sl r (vs.set i v) K
      | false => none)
    | none => none

/-- elements, all of one size -/
def solsC (E : Env) (sl : Slots) (sz : Nat) : List (Nat × Operand) → (List SV → Rt) → Rt
  | [], K => K []
  | (_, x) :: r, K => solC (ev E sl x) fun v => (match Nat.beq v.sz sz with
    | true => solsC E sl sz r fun vs => K (v :: vs)
    | false => none)

def stoVC (h : Heap) (b : Nat) (v : SV) (p : List Step) (u : SV) (K : KC) : Rt :=
  match crosses p with
  | false => updC v u p fun v => K .any [] (.set b (.var true v))
  | true => frzC h 60 u [] fun u ns => (match memb b ns with
    | false => updC v u p fun v => K .any ns (.set b (.var true v))
    | true => none)

def stoRC (h : Heap) (b sz : Nat) (xs : List SV) (p : List Step) (u : SV) (K : KC) : Rt :=
  frzC h 60 u [] fun u ns => (match memb b ns, p with
    | false, .idx i s :: p => (match Nat.beq s sz with
      | true => idxC xs i fun x => updC x u p fun x => K .any ns (.set b (.row true sz (xs.set i x)))
      | false => none)
    | _, _ => none)

def opC (E : Env) (CR : FuncId → List SV → Rt) (sl : Slots) (h : Heap) (n : Nat) (o : Op) (K : KC) : Rt :=
  match o with
  | .move x | .assign x => frc (ev E sl x) fun v => K v [] .nil
  | .pick c a b => match ev E sl c with
    | .tru => frc (ev E sl a) fun v => K v [] .nil
    | .fls => frc (ev E sl b) fun v => K v [] .nil
    | _ => none
  | .alloc T => solC (lkT E.tt T).zero fun v => K (.ptr n []) [] (.new (.var true v))
  | .box _ x => solC (ev E sl x) fun v => K (.ptr n []) [] (.new (.var true v))
  | .build T ps => match (lkT E.tt T).d, (lkT E.tt T).zero with
    | .strct fs, .agg zs => (match fits E fs 0 zs with
      | true => filC E sl ps.toList zs fun vs => K (.agg vs) [] .nil
      | false => none)
    | .arr _ e, .arr m' sz zs => (match Nat.beq sz (lkT E.tt e).size, Nat.ble 1 sz with
      | true, true => filC E sl ps.toList zs fun vs => frzLC h 60 vs [] fun vs ns => K (.arr m' sz vs) ns .nil
      | _, _ => none)
    | _, _ => none
  | .buildSlice T len ps => match (lkT E.tt T).d with
    | .sl e => (match Nat.beq len ps.toList.length && inOrder 0 ps.toList, Nat.ble 1 (lkT E.tt e).size, Nat.ble (len * (lkT E.tt e).size) 16777216, (lkT E.tt e).zero with
      | _, _, _, .any => none
      | true, true, true, _ => solsC E sl (lkT E.tt e).size ps.toList fun vs => frzLC h 60 vs [] fun vs ns => K (.osl n (lkT E.tt e).size) ns (.new (.row true (lkT E.tt e).size vs))
      | false, true, true, z => solC z fun z => (match Nat.beq z.sz (lkT E.tt e).size with
        | true => filC E sl ps.toList (List.replicate len z) fun vs => frzLC h 60 vs [] fun vs ns => K (.osl n (lkT E.tt e).size) ns (.new (.row true (lkT E.tt e).size vs))
        | false => none)
      | _, _, _, _ => none)
    | _ => none
  | .nilCheck x => match ev E sl x with
    | .iptr t => K (.iptr t) [] .nil
    | .ptr b p => K (.ptr b p) [] .nil
    | .fn f c => K (.fn f c) [] .nil
    | _ => none
  | .fieldAddr T x f => match (lkT E.tt T).d with
    | .strct fs => (match fs[f]? with
      | some (T', off) => (match Nat.ble 1 (lkT E.tt T').size with
        | true => (match ev E sl x with
          | .ptr b p => K (.ptr b (p ++ [.fld f off])) [] .nil
          | .iptr t => navC t [.fld f off] fun u => K (.iptr u) [] .nil
          | _ => none)
        | false => none)
      | none => none)
    | _ => none
  | .field T x f => match (lkT E.tt T).d with
    | .strct fs => (match fs[f]? with
      | some (T', off) => navC (ev E sl x) [.fld f off] fun u => (match Nat.beq u.sz (lkT E.tt T').size with
        | true => (match (lkT E.tt T').d, u.isAgg with
          | .other, _ => none
          | .strct _, true | .arr .., true => K u [] .nil
          | .strct _, false | .arr .., false => none
          | _, false => K u [] .nil
          | _, true => none)
        | false => none)
      | none => none)
    | _ => none
  | .load T x => match ev E sl x with
    | .ptr b p => (match lkB h b with
      | some (.var _ v) => navC v p fun u => (match Nat.beq u.sz (lkT E.tt T).size with
        | true => (match (lkT E.tt T).d, u.isAgg with
          | .other, _ => none
          | .strct _, true | .arr .., true => K u [] .nil
          | .strct _, false | .arr .., false => none
          | _, false => K u [] .nil
          | _, true => none)
        | false => none)
      | some (.row _ sz xs) => (match p with
        | [] => none
        | _ :: _ => navC (.arr 0 sz xs) p fun u => (match Nat.beq u.sz (lkT E.tt T).size with
          | true => (match (lkT E.tt T).d, u.isAgg with
            | .other, _ => none
            | .strct _, true | .arr .., true => K u [] .nil
            | .strct _, false | .arr .., false => none
            | _, false => K u [] .nil
            | _, true => none)
          | false => none))
      | _ => none)
    | .iptr t => frc t fun u => (match Nat.beq u.sz (lkT E.tt T).size with
        | true => (match (lkT E.tt T).d, u.isAgg with
          | .other, _ => none
          | .strct _, true | .arr .., true => K u [] .nil
          | .strct _, false | .arr .., false => none
          | _, false => K u [] .nil
          | _, true => none)
        | false => none)
    | _ => none
  | .store T x y => match Nat.ble 1 (lkT E.tt T).size, ev E sl x with
    | true, .ptr b p => (match lkB h b with
      | some (.var true v) => solC (ev E sl y) fun u => (match Nat.beq u.sz (lkT E.tt T).size with
        | true => stoVC h b v p u K
        | false => none)
      | some (.row true sz xs) => solC (ev E sl y) fun u => (match Nat.beq u.sz (lkT E.tt T).size with
        | true => stoRC h b sz xs p u K
        | false => none)
      | _ => none)
    | _, _ => none
  | .indexAddr T x i => match ev E sl i with
    | .int _ i => (match (lkT E.tt T).d with
      | .sl e => (match ev E sl x with
        | .sl sz xs => (match Nat.beq sz (lkT E.tt e).size, Nat.ble 1 sz with
          | true, true => idxC xs i fun u => K (.iptr u) [] .nil
          | _, _ => none)
        | .osl b sz => (match lkB h b, Nat.beq sz (lkT E.tt e).size && Nat.ble 1 sz with
          | some (.row _ _ xs), true => sideC (0 ≤ i ∧ i < xs.length) (frN i.toNat fun j => K (.ptr b [.idx j sz]) [] .nil)
          | _, _ => none)
        | _ => none)
      | .arr m e => (match Nat.ble 1 (lkT E.tt e).size, ev E sl x with
        | true, .ptr b p => sideC (0 ≤ i ∧ i < m) (frN i.toNat fun j => K (.ptr b (p ++ [.idx j (lkT E.tt e).size])) [] .nil)
        | true, .iptr t => sideC (0 ≤ i ∧ i < m) (navC t [.idx i.toNat (lkT E.tt e).size] fun u => K (.iptr u) [] .nil)
        | _, _ => none)
      | _ => none)
    | _ => none
  | .index T x i => match (lkT E.tt T).d, ev E sl i, ev E sl x with
    | .str, .int _ i, .str s => byteC s i fun c => frI c.toNat fun r => K (.int .u8 r) [] .nil
    | .arr m e, .int _ i, .arr m' sz xs => (match Nat.beq m m' && Nat.beq sz (lkT E.tt e).size with
      | true => idxC xs i fun u => (match Nat.beq u.sz (lkT E.tt e).size with
        | true => (match (lkT E.tt e).d, u.isAgg with
          | .other, _ => none
          | .strct _, true | .arr .., true => K u [] .nil
          | .strct _, false | .arr .., false => none
          | _, false => K u [] .nil
          | _, true => none)
        | false => none)
      | false => none)
    | _, _, _ => none
  | .binOp op T x y _ => binC E op T (ev E sl x) (ev E sl y) fun v => K v [] .nil
  | .unOp .not _ x => match ev E sl x with
    | .bool b => frB (!b) fun b => K (.bool b) [] .nil
    | .tru => K .fls [] .nil
    | .fls => K .tru [] .nil
    | _ => none
  | .unOp .neg _ x => match ev E sl x with
    | .int k a => arithC k (0 - a) fun r => K (.int k r) [] .nil
    | _ => none
  | .convert S T x => match (lkT E.tt S).d, (lkT E.tt T).d, ev E sl x with
    | .other, _, _ => none
    | _, .int k, .int _ a => arithC k a fun r => K (.int k r) [] .nil
    | _, .str, .str s => K (.str s) [] .nil
    | _, _, _ => none
  | .extract x i => match ev E sl x with
    | .tup vs => (match vs[i]? with
      | some v => frc v fun v => K v [] .nil
      | none => none)
    | _ => none
  | .makeFunc (.func f) fst caps => match fst.toList with
    | [] => frcL (caps.toList.map (ev E sl)) fun cs => (match noTup cs with | true => K (.fn f cs) [] .nil | false => none)
    | _ => none
  | .slice T x lo hi mx => match mx with
    | some _ => none
    | none => (match ev E sl x with
      | .str s => (match (lkT E.tt T).d with
        | .str => bndC E sl lo hi s.length fun l h => frStr ((s.take h.toNat).drop l.toNat) fun r => K (.str r) [] .nil
        | _ => none)
      | .sl sz xs => (match (lkT E.tt T).d with
        | .sl e => (match Nat.beq sz (lkT E.tt e).size && Nat.ble 1 sz with
          | true => bndC E sl lo hi xs.length fun l h => frV ((xs.take h.toNat).drop l.toNat) fun r => K (.sl sz r) [] .nil
          | false => none)
        | _ => none)
      | .osl b sz => (match lkB h b with
        | some (.row _ sz' xs) => (match (lkT E.tt T).d with
          | .sl e => (match Nat.beq sz (lkT E.tt e).size && Nat.ble 1 sz && Nat.beq sz sz' with
            | true => bndC E sl lo hi xs.length fun l h => frV ((xs.take h.toNat).drop l.toNat) fun r => K (.sl sz r) [b] .nil
            | false => none)
          | _ => none)
        | _ => none)
      | x => (match (lkT E.tt T).d with
        | .arr m e => frzC h 60 x [] fun u ns => (match u with
          | .iptr (.arr m' sz xs) => (match Nat.beq m m' && Nat.beq sz (lkT E.tt e).size && Nat.ble 1 sz with
            | true => bndC E sl lo hi m fun l h => frV ((xs.take h.toNat).drop l.toNat) fun r => K (.sl sz r) ns .nil
            | false => none)
          | _ => none)
        | _ => none))
  | .makeSlice T l c => match (lkT E.tt T).d, ev E sl l, ev E sl c with
    | .sl e, .int _ a, .int _ b => solC (lkT E.tt e).zero fun z => (match Nat.beq z.sz 1, Nat.beq (lkT E.tt e).size 1 with
      | true, true => sideC (0 ≤ a ∧ a = b ∧ b ≤ 70368744177664 ∧ b * (lkT E.tt e).bytes ≤ 70368744177664) (frV (List.replicate a.toNat z) fun r => K (.osl n 1) [] (.new (.row true 1 r)))
      | _, _ => none)
    | _, _, _ => none
  | .call c => match c.callee with
    | .builtin .len => (match c.args.toList, c.argTypes.toList with
      | [x], [T] => (match (lkT E.tt T).d, ev E sl x with
        | .sl _, .sl _ xs => frI xs.length fun r => K (.int .i64 r) [] .nil
        | .str, .str xs => frI xs.length fun r => K (.int .i64 r) [] .nil
        | .sl _, .nils | .sl _, .mt => K (.int .i64 0) [] .nil
        | .sl _, .osl b _ => (match lkB h b with
          | some (.row _ _ xs) => frI xs.length fun r => K (.int .i64 r) [] .nil
          | _ => none)
        | _, _ => none)
      | _, _ => none)
    | .builtin .append => (match c.args.toList, c.argTypes.toList with
      | [x, y], [T, T'] => (match (lkT E.tt T).d with
        | .sl e => rowC h (ev E sl y) fun o => (match o with
          | some (sz, ys) => (match Nat.beq sz (lkT E.tt e).size, Nat.ble 1 sz, Nat.beq T T' && zeroFits E e, Nat.ble 1 (lkT E.tt e).bytes with
            | true, true, true, true => (match ev E sl x with
              | .osl b _ => (match lkB h b with
                | some (.row true sz' xs) => (match Nat.beq sz sz' with
                  | true => sideC ((xs.length + ys.length) * (lkT E.tt e).bytes ≤ 70368744177664) (frV (xs ++ ys) fun r => K (.osl b sz) [] (.app b (.row true sz r)))
                  | false => none)
                | _ => none)
              | .nils | .mt => sideC (ys.length * (lkT E.tt e).bytes ≤ 70368744177664) (K (.osl n sz) [] (.new (.row true sz ys)))
              | _ => none)
            | _, _, _, _ => none)
          | none => (match Nat.beq T T' && Nat.ble 1 (lkT E.tt e).size, ev E sl x with
            | true, .osl b s => (match lkB h b with
              | some (.row ..) => K (.osl b s) [] .nil
              | _ => none)
            | true, .sl s xs => K (.sl s xs) [] .nil
            | true, .nils => K .nils [] .nil
            | true, .mt => K .mt [] .nil
            | _, _ => none))
        | _ => none)
      | _, _ => none)
    | .builtin .min => (match c.args.toList with
      | [x, y] => (match ev E sl x, ev E sl y with
        | .int k a, .int k' b => (match kq k k' with | true => frI (min a b) fun r => K (.int k r) [] .nil | false => none)
        | _, _ => none)
      | _ => none)
    | .builtin .max => (match c.args.toList with
      | [x, y] => (match ev E sl x, ev E sl y with
        | .int k a, .int k' b => (match kq k k' with | true => frI (max a b) fun r => K (.int k r) [] .nil | false => none)
        | _, _ => none)
      | _ => none)
    | .value f => (match ev E sl f with
      | .fn f caps => (match memb f E.idf with
        | true => (match c.args.toList, caps with
          | [x], [] => solC (ev E sl x) fun v => K v [] .nil
          | _, _ => none)
        | false => frcL (c.args.toList.map (ev E sl)) fun as => (match noTup as with
          | true => frzLC h 60 as [] fun as ns => frzLC h 60 caps ns fun caps ns => (match CR f (as ++ caps) with
            | some r => frc r fun r => (match ns with
              | [] => K r [] .nil
              | ns => match r.scalar with
                | true => K r [] .nil
                | false => K r ns .nil)
            | none => none)
          | false => none))
      | _ => none)
    | _ => none
  | _ => none


end Go.Sx
