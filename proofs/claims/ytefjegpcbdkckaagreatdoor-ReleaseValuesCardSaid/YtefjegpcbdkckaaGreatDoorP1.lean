/-
  THE PLAIN STRUCT TYPES, and their symbolic values. Printed by a program. An own text.
  WHAT THE LIBRARY's BODILESS FUNCTIONS RETURN. An own text.
  DATA AS THEY COME: numbers in their kinds' ranges. Printed by a program. An own text.
  PLAIN FUNCTIONS: what the program computes. Printed by a program. An own text.
  PLAIN LAWS of the library's functions and of words, lattice. An own text.
  PLAIN LAWS: slices.Index, strings.Trim, words.Name. An own text.
  PLAIN LAWS: strings.Trim over ASCII, words.Name. An own text.
  PLAIN LAWS: bits; lattice.named, .of, .bound. An own text.
  PLAIN LAWS: lattice.of, .bound, .Check, .Leq. An own text.
  PLAIN LAWS: lattice.Leq; what an observer sees. An own text.
  PLAIN LAWS: shapes, arrays; arrays and events that are the same. An own text.
  PLAIN LAWS: expr.Name returns. An own text.
-/
import Derived.Test.YtefjegpcbdkckaaGreatDoorA5
import Derived.Lib.Bytealg
namespace Go.Sx.O
structure Tlexer_reader where
  s_ : List UInt8
  at_ : Int
def enc_Tlexer_reader (x : Tlexer_reader) : SV := .agg [SV.str x.s_, (SV.int .i64) x.at_]
theorem nmd_Tlexer_reader {p : Nat → Prop} (x : Tlexer_reader) : (enc_Tlexer_reader x).nmd p := ⟨trivial, trivial, trivial⟩
structure Trelease_flow where
  low_ : Int
  high_ : Int
def enc_Trelease_flow (x : Trelease_flow) : SV := .agg [(SV.int .i64) x.low_, (SV.int .i64) x.high_]
theorem nmd_Trelease_flow {p : Nat → Prop} (x : Trelease_flow) : (enc_Trelease_flow x).nmd p := ⟨trivial, trivial, trivial⟩
structure TLattice where
  Names : List (List UInt8)
  Up : List (Int)
def enc_TLattice (x : TLattice) : SV := .agg [(encSl 1 SV.str) x.Names, (encSl 1 (SV.int .u8)) x.Up]
theorem nmd_TLattice {p : Nat → Prop} (x : TLattice) : (enc_TLattice x).nmd p := ⟨(nmd_rows fun _ => trivial), (nmd_rows fun _ => trivial), trivial⟩
structure TPoRule where
  From : Int
  Goal : Int
  K : Int
def enc_TPoRule (x : TPoRule) : SV := .agg [(SV.int .i64) x.From, (SV.int .i64) x.Goal, (SV.int .i64) x.K]
theorem nmd_TPoRule {p : Nat → Prop} (x : TPoRule) : (enc_TPoRule x).nmd p := ⟨trivial, trivial, trivial, trivial⟩
structure Ttypes_order where
  Lattice : TLattice
  bottom_ : Int
def enc_Ttypes_order (x : Ttypes_order) : SV := .agg [enc_TLattice x.Lattice, (SV.int .i64) x.bottom_]
theorem nmd_Ttypes_order {p : Nat → Prop} (x : Ttypes_order) : (enc_Ttypes_order x).nmd p := ⟨(nmd_TLattice _), trivial, trivial⟩
structure TLxToken where
  Kind : Int
  From : Int
  To : Int
  N : Int
  S : List UInt8
def enc_TLxToken (x : TLxToken) : SV := .agg [(SV.int .i64) x.Kind, (SV.int .i64) x.From, (SV.int .i64) x.To, (SV.int .i64) x.N, SV.str x.S]
theorem nmd_TLxToken {p : Nat → Prop} (x : TLxToken) : (enc_TLxToken x).nmd p := ⟨trivial, trivial, trivial, trivial, trivial, trivial⟩
structure Tlattice_order where
  n_ : Int
  up_ : List (Int)
  down_ : List (Int)
def enc_Tlattice_order (x : Tlattice_order) : SV := .agg [(SV.int .i64) x.n_, (encA 8 1 (SV.int .u8)) x.up_, (encA 8 1 (SV.int .u8)) x.down_]
theorem nmd_Tlattice_order {p : Nat → Prop} (x : Tlattice_order) : (enc_Tlattice_order x).nmd p := ⟨trivial, (nmd_rows fun _ => trivial), (nmd_rows fun _ => trivial), trivial⟩
structure TTyType where
  Kind : Int
  Rank : Int
  Axes : (Int) × (Int)
  Data : Int
def enc_TTyType (x : TTyType) : SV := .agg [(SV.int .i64) x.Kind, (SV.int .i64) x.Rank, (encA2 1 (SV.int .i64)) x.Axes, (SV.int .i64) x.Data]
theorem nmd_TTyType {p : Nat → Prop} (x : TTyType) : (enc_TTyType x).nmd p := ⟨trivial, trivial, ⟨trivial, trivial, trivial⟩, trivial, trivial⟩
structure TArray where
  Kind : Int
  Rank : Int
  Lens : (Int) × (Int)
  Cells : List (Int)
def enc_TArray (x : TArray) : SV := .agg [(SV.int .i64) x.Kind, (SV.int .i64) x.Rank, (encA2 1 (SV.int .i64)) x.Lens, (encSl 1 (SV.int .i64)) x.Cells]
theorem nmd_TArray {p : Nat → Prop} (x : TArray) : (enc_TArray x).nmd p := ⟨trivial, trivial, ⟨trivial, trivial, trivial⟩, (nmd_rows fun _ => trivial), trivial⟩
structure TInVar where
  Name : List UInt8
  Type_ : TTyType
def enc_TInVar (x : TInVar) : SV := .agg [SV.str x.Name, enc_TTyType x.Type_]
theorem nmd_TInVar {p : Nat → Prop} (x : TInVar) : (enc_TInVar x).nmd p := ⟨trivial, (nmd_TTyType _), trivial⟩
structure TWsVar where
  Name : List UInt8
  Value : TArray
def enc_TWsVar (x : TWsVar) : SV := .agg [SV.str x.Name, enc_TArray x.Value]
theorem nmd_TWsVar {p : Nat → Prop} (x : TWsVar) : (enc_TWsVar x).nmd p := ⟨trivial, (nmd_TArray _), trivial⟩
structure TReEntry where
  Site : Int
  Fold : Int
  From : Int
  Goal : Int
  Cells : Int
  Value : (Int) × (Int)
def enc_TReEntry (x : TReEntry) : SV := .agg [(SV.int .i64) x.Site, (SV.int .i64) x.Fold, (SV.int .i64) x.From, (SV.int .i64) x.Goal, (SV.int .i64) x.Cells, (encA2 1 (SV.int .i64)) x.Value]
theorem nmd_TReEntry {p : Nat → Prop} (x : TReEntry) : (enc_TReEntry x).nmd p := ⟨trivial, trivial, trivial, trivial, trivial, ⟨trivial, trivial, trivial⟩, trivial⟩
structure TEvEvent where
  Kind : Int
  Site : Int
  Steps : Int
  Label : Int
  Channel : List UInt8
  Value : TArray
  E : Int
def enc_TEvEvent (x : TEvEvent) : SV := .agg [(SV.int .i64) x.Kind, (SV.int .i64) x.Site, (SV.int .i64) x.Steps, (SV.int .i64) x.Label, SV.str x.Channel, enc_TArray x.Value, (SV.int .i64) x.E]
theorem nmd_TEvEvent {p : Nat → Prop} (x : TEvEvent) : (enc_TEvEvent x).nmd p := ⟨trivial, trivial, trivial, trivial, trivial, (nmd_TArray _), trivial, trivial⟩
structure TPolicy where
  Lattice : TLattice
  Channels : List (Tlexer_reader)
  Vars : List (TInVar)
  Rules : List (TPoRule)
def enc_TPolicy (x : TPolicy) : SV := .agg [enc_TLattice x.Lattice, (encSl 2 enc_Tlexer_reader) x.Channels, (encSl 6 enc_TInVar) x.Vars, (encSl 3 enc_TPoRule) x.Rules]
theorem nmd_TPolicy {p : Nat → Prop} (x : TPolicy) : (enc_TPolicy x).nmd p := ⟨(nmd_TLattice _), (nmd_rows fun _ => (nmd_Tlexer_reader _)), (nmd_rows fun _ => (nmd_TInVar _)), (nmd_rows fun _ => (nmd_TPoRule _)), trivial⟩
structure Tinvigilatorlaw28_Types where
  V : TTyType
  Y : TTyType
  From : Int
  Goal : Int
  PC : Int
  EC : Int
  Lower : Int
  Top : Int
def enc_Tinvigilatorlaw28_Types (x : Tinvigilatorlaw28_Types) : SV := .agg [enc_TTyType x.V, enc_TTyType x.Y, (SV.int .i64) x.From, (SV.int .i64) x.Goal, (SV.int .i64) x.PC, (SV.int .i64) x.EC, (SV.int .i64) x.Lower, (SV.int .i64) x.Top]
theorem nmd_Tinvigilatorlaw28_Types {p : Nat → Prop} (x : Tinvigilatorlaw28_Types) : (enc_Tinvigilatorlaw28_Types x).nmd p := ⟨(nmd_TTyType _), (nmd_TTyType _), trivial, trivial, trivial, trivial, trivial, trivial, trivial⟩
structure TEvTrace where
  Events : List (TEvEvent)
  Log : List (TReEntry)
  Vars : List (TWsVar)
  Steps : Int
def enc_TEvTrace (x : TEvTrace) : SV := .agg [(encSl 11 enc_TEvEvent) x.Events, (encSl 7 enc_TReEntry) x.Log, (encSl 6 enc_TWsVar) x.Vars, (SV.int .i64) x.Steps]
theorem nmd_TEvTrace {p : Nat → Prop} (x : TEvTrace) : (enc_TEvTrace x).nmd p := ⟨(nmd_rows fun _ => (nmd_TEvEvent _)), (nmd_rows fun _ => (nmd_TReEntry _)), (nmd_rows fun _ => (nmd_TWsVar _)), trivial, trivial⟩
end Go.Sx.O
namespace Go.Sx.O
noncomputable def F_internal_stringslite_IndexByte (a0 : List UInt8) (a1 : Int) : Option Int := some (Go.Lib.indexByte a0 a1.toNat.toUInt8)
end Go.Sx.O
namespace Go.Sx.O
open Go
def inK (k : IntKind) (n : Int) : Prop := k.min ≤ n ∧ n ≤ k.max
def allW {α : Type} (W : α → Prop) (l : List α) : Prop := ∀ x ∈ l, W x
def w2 {α : Type} (W : α → Prop) (p : α × α) : Prop := W p.1 ∧ W p.2
def w3 {α : Type} (W : α → Prop) (p : α × α × α) : Prop := W p.1 ∧ W p.2.1 ∧ W p.2.2
def wN {α : Type} (n : Nat) (W : α → Prop) (l : List α) : Prop := l.length = n ∧ ∀ x ∈ l, W x
structure W_Tlexer_reader (x : Tlexer_reader) : Prop where
  s_ : (fun _ => True) x.s_
  at_ : (inK .i64) x.at_
structure W_Trelease_flow (x : Trelease_flow) : Prop where
  low_ : (inK .i64) x.low_
  high_ : (inK .i64) x.high_
structure W_TLattice (x : TLattice) : Prop where
  Names : (allW (fun _ => True)) x.Names
  Up : (allW (inK .u8)) x.Up
structure W_TPoRule (x : TPoRule) : Prop where
  From : (inK .i64) x.From
  Goal : (inK .i64) x.Goal
  K : (inK .i64) x.K
structure W_Ttypes_order (x : Ttypes_order) : Prop where
  Lattice : W_TLattice x.Lattice
  bottom_ : (inK .i64) x.bottom_
structure W_TLxToken (x : TLxToken) : Prop where
  Kind : (inK .i64) x.Kind
  From : (inK .i64) x.From
  To : (inK .i64) x.To
  N : (inK .i64) x.N
  S : (fun _ => True) x.S
structure W_Tlattice_order (x : Tlattice_order) : Prop where
  n_ : (inK .i64) x.n_
  up_ : (wN 8 (inK .u8)) x.up_
  down_ : (wN 8 (inK .u8)) x.down_
structure W_TTyType (x : TTyType) : Prop where
  Kind : (inK .i64) x.Kind
  Rank : (inK .i64) x.Rank
  Axes : (w2 (inK .i64)) x.Axes
  Data : (inK .i64) x.Data
structure W_TArray (x : TArray) : Prop where
  Kind : (inK .i64) x.Kind
  Rank : (inK .i64) x.Rank
  Lens : (w2 (inK .i64)) x.Lens
  Cells : (allW (inK .i64)) x.Cells
structure W_TInVar (x : TInVar) : Prop where
  Name : (fun _ => True) x.Name
  Type_ : W_TTyType x.Type_
structure W_TWsVar (x : TWsVar) : Prop where
  Name : (fun _ => True) x.Name
  Value : W_TArray x.Value
structure W_TReEntry (x : TReEntry) : Prop where
  Site : (inK .i64) x.Site
  Fold : (inK .i64) x.Fold
  From : (inK .i64) x.From
  Goal : (inK .i64) x.Goal
  Cells : (inK .i64) x.Cells
  Value : (w2 (inK .i64)) x.Value
structure W_TEvEvent (x : TEvEvent) : Prop where
  Kind : (inK .i64) x.Kind
  Site : (inK .i64) x.Site
  Steps : (inK .i64) x.Steps
  Label : (inK .i64) x.Label
  Channel : (fun _ => True) x.Channel
  Value : W_TArray x.Value
  E : (inK .i64) x.E
structure W_TPolicy (x : TPolicy) : Prop where
  Lattice : W_TLattice x.Lattice
  Channels : (allW W_Tlexer_reader) x.Channels
  Vars : (allW W_TInVar) x.Vars
  Rules : (allW W_TPoRule) x.Rules
structure W_Tinvigilatorlaw28_Types (x : Tinvigilatorlaw28_Types) : Prop where
  V : W_TTyType x.V
  Y : W_TTyType x.Y
  From : (inK .i64) x.From
  Goal : (inK .i64) x.Goal
  PC : (inK .i64) x.PC
  EC : (inK .i64) x.EC
  Lower : (inK .i64) x.Lower
  Top : (inK .i64) x.Top
structure W_TEvTrace (x : TEvTrace) : Prop where
  Events : (allW W_TEvEvent) x.Events
  Log : (allW W_TReEntry) x.Log
  Vars : (allW W_TWsVar) x.Vars
  Steps : (inK .i64) x.Steps
end Go.Sx.O
namespace Go.Sx.O
noncomputable def F_release_Find (a0 : List UInt8) : Option (Int × Int) :=
 Option.bind (
  cond (decide ([(115 : UInt8), (117 : UInt8), (109 : UInt8)] = a0))
  (some (Sum.inr ((1, 0))))
  (cond (decide ([(99 : UInt8), (111 : UInt8), (117 : UInt8), (110 : UInt8), (116 : UInt8)] = a0))
  (some (Sum.inr ((2, 0))))
  (cond (decide ([(108 : UInt8), (101 : UInt8), (97 : UInt8), (115 : UInt8), (116 : UInt8)] = a0))
  (some (Sum.inr ((3, 0))))
  (cond (decide ([(109 : UInt8), (111 : UInt8), (115 : UInt8), (116 : UInt8)] = a0))
  (some (Sum.inr ((4, 0))))
  (some (Sum.inl (())))))))
  (Sum.elim (fun (s3 : Unit) =>
  some ((0, 4))) some)
noncomputable def F_invigilatorref28_names : Option (List (List UInt8)) :=
 some ([(ByteArray.mk #[]).data.toList, (ByteArray.mk #[115, 117, 109]).data.toList, (ByteArray.mk #[99, 111, 117, 110, 116]).data.toList, (ByteArray.mk #[108, 101, 97, 115, 116]).data.toList, (ByteArray.mk #[109, 111, 115, 116]).data.toList])
noncomputable def F_invigilatorref28_Find (a0 : List UInt8) : Option (Int × Int) :=
 Option.bind (
  lpO (fun (s13 : Int) =>
  cond (decide (s13 < 5))
  (Option.bind (F_invigilatorref28_names) fun x18 =>
  idxO (x18) (s13) fun x19 =>
  cond (decide (x19 = a0))
  (some (Sum.inr (Sum.inr ((s13, 0)))))
  (letO (IntKind.wrap IntKind.i64 (s13 + 1)) fun x21 =>
  some (Sum.inl (x21))))
  (some (Sum.inr (Sum.inl (()))))) (1))
  (Sum.elim (fun (s11 : Unit) =>
  some ((0, 4))) some)
noncomputable def F_release_Name (a0 : Int) : Option (List UInt8 × Int) :=
 cond (decide (a0 < 1))
  (some (((ByteArray.mk #[]).data.toList, 2)))
  (cond (decide (4 < a0))
  (some (((ByteArray.mk #[]).data.toList, 2)))
  (pickO (a0) [
  some (([], 0)),
  some (([(115 : UInt8), (117 : UInt8), (109 : UInt8)], 0)),
  some (([(99 : UInt8), (111 : UInt8), (117 : UInt8), (110 : UInt8), (116 : UInt8)], 0)),
  some (([(108 : UInt8), (101 : UInt8), (97 : UInt8), (115 : UInt8), (116 : UInt8)], 0)),
  some (([(109 : UInt8), (111 : UInt8), (115 : UInt8), (116 : UInt8)], 0))]))
noncomputable def F_invigilatorref28_Name (a0 : Int) : Option (List UInt8 × Int) :=
 cond (decide (a0 < 1))
  (some (((ByteArray.mk #[]).data.toList, 2)))
  (cond (decide (4 < a0))
  (some (((ByteArray.mk #[]).data.toList, 2)))
  (Option.bind (F_invigilatorref28_names) fun x28 =>
  idxO (x28) (a0) fun x29 =>
  some ((x29, 0))))
noncomputable def F_shapes_Check_1 (a0 : Int) : Option (Bool) :=
 some (decide (a0 < 0))
noncomputable def F_slices_IndexFunc___int_int__of_shapes_Check_1 (a0 : List Int) : Option (Int) :=
 Option.bind (
  lpO (fun (s45 : Int) =>
  cond (decide (s45 < (↑(List.length (List.map (SV.int IntKind.i64) a0)) : Int)))
  (idxO (a0) (s45) fun x51 =>
  Option.bind (F_shapes_Check_1 (x51)) fun x52 =>
  cond (x52)
  (some (Sum.inr (Sum.inr (s45))))
  (letO (IntKind.wrap IntKind.i64 (s45 + 1)) fun x54 =>
  some (Sum.inl (x54))))
  (some (Sum.inr (Sum.inl (()))))) (0))
  (Sum.elim (fun (s43 : Unit) =>
  some ((-1 : Int))) some)
noncomputable def F_slices_ContainsFunc___int_int__of_shapes_Check_1 (a0 : List Int) : Option (Bool) :=
 Option.bind (F_slices_IndexFunc___int_int__of_shapes_Check_1 (a0)) fun x55 =>
  some (decide (0 ≤ x55))
noncomputable def F_shapes_Check_2 (a0 : Int) : Option (Bool) :=
 some (!decide (a0 = 0))
noncomputable def F_slices_IndexFunc___int_int__of_shapes_Check_2 (a0 : List Int) : Option (Int) :=
 Option.bind (
  lpO (fun (s60 : Int) =>
  cond (decide (s60 < (↑(List.length (List.map (SV.int IntKind.i64) a0)) : Int)))
  (idxO (a0) (s60) fun x66 =>
  Option.bind (F_shapes_Check_2 (x66)) fun x67 =>
  cond (x67)
  (some (Sum.inr (Sum.inr (s60))))
  (letO (IntKind.wrap IntKind.i64 (s60 + 1)) fun x69 =>
  some (Sum.inl (x69))))
  (some (Sum.inr (Sum.inl (()))))) (0))
  (Sum.elim (fun (s58 : Unit) =>
  some ((-1 : Int))) some)
noncomputable def F_slices_ContainsFunc___int_int__of_shapes_Check_2 (a0 : List Int) : Option (Bool) :=
 Option.bind (F_slices_IndexFunc___int_int__of_shapes_Check_2 (a0)) fun x70 =>
  some (decide (0 ≤ x70))
noncomputable def F_shapes_Check_3 (a0 : Int) : Option (Bool) :=
 some (decide (400 < a0))
noncomputable def F_slices_IndexFunc___int_int__of_shapes_Check_3 (a0 : List Int) : Option (Int) :=
 Option.bind (
  lpO (fun (s75 : Int) =>
  cond (decide (s75 < (↑(List.length (List.map (SV.int IntKind.i64) a0)) : Int)))
  (idxO (a0) (s75) fun x81 =>
  Option.bind (F_shapes_Check_3 (x81)) fun x82 =>
  cond (x82)
  (some (Sum.inr (Sum.inr (s75))))
  (letO (IntKind.wrap IntKind.i64 (s75 + 1)) fun x84 =>
  some (Sum.inl (x84))))
  (some (Sum.inr (Sum.inl (()))))) (0))
  (Sum.elim (fun (s73 : Unit) =>
  some ((-1 : Int))) some)
noncomputable def F_slices_ContainsFunc___int_int__of_shapes_Check_3 (a0 : List Int) : Option (Bool) :=
 Option.bind (F_slices_IndexFunc___int_int__of_shapes_Check_3 (a0)) fun x85 =>
  some (decide (0 ≤ x85))
noncomputable def F_shapes_product (a0 : Int) (a1 : Int × Int) : Option (Int) :=
 cond (decide (a0 = 2))
  (letO (IntKind.wrap IntKind.i64 (1 * a1.snd)) fun x89 =>
  letO (IntKind.wrap IntKind.i64 (x89 * a1.fst)) fun x90 =>
  some (x90))
  (cond (decide (a0 = 1))
  (letO (IntKind.wrap IntKind.i64 (1 * a1.fst)) fun x92 =>
  some (x92))
  (some (1)))
noncomputable def F_shapes_Check (a0 : Int) (a1 : Int × Int) : Option (Int) :=
 cond (decide (a0 < 0))
  (some (7))
  (cond (decide (2 < a0))
  (some (7))
  (sideO ((0 : Int) ≤ a0 ∧ a0 ≤ (↑(2 : Nat) : Int)) (
  sideO ((0 : Int) ≤ a0 ∧ a0 ≤ (↑(2 : Nat) : Int)) (
  Option.bind (F_slices_ContainsFunc___int_int__of_shapes_Check_1 (List.drop (Int.toNat 0) (List.take (Int.toNat a0) [a1.fst, a1.snd]))) fun x56 =>
  cond (x56)
  (some (7))
  (Option.bind (F_slices_ContainsFunc___int_int__of_shapes_Check_2 (List.drop (Int.toNat a0) (List.take (Int.toNat (↑2 : Int)) [a1.fst, a1.snd]))) fun x71 =>
  cond (x71)
  (some (6))
  (Option.bind (F_slices_ContainsFunc___int_int__of_shapes_Check_3 (List.drop (Int.toNat 0) (List.take (Int.toNat a0) [a1.fst, a1.snd]))) fun x86 =>
  cond (x86)
  (some (15))
  (Option.bind (F_shapes_product (a0) (a1)) fun x93 =>
  cond (decide (400 < x93))
  (some (15))
  (some (0)))))))))
noncomputable def F_shapes_Cells (a0 : Int) (a1 : Int × Int) : Option (Int × Int) :=
 Option.bind (F_shapes_Check (a0) (a1)) fun x95 =>
  cond (!decide (x95 = 0))
  (some ((0, x95)))
  (Option.bind (F_shapes_product (a0) (a1)) fun x97 =>
  some ((x97, 0)))
noncomputable def F_unicode_utf8_ValidRune (a0 : Int) : Option (Bool) :=
 cond (decide (0 ≤ a0))
  (cond (decide (a0 < 55296))
  (some (true))
  (cond (decide (57343 < a0))
  (cond (decide (a0 ≤ 1114111))
  (some (true))
  (some (false)))
  (some (false))))
  (cond (decide (57343 < a0))
  (cond (decide (a0 ≤ 1114111))
  (some (true))
  (some (false)))
  (some (false)))
noncomputable def F_arrays_right (a0 : Int) (a1 : Int) : Option (Bool) :=
 cond (decide (a0 = 1))
  (some (true))
  (cond (decide (0 ≤ a1))
  (cond (decide (a1 ≤ 1114111))
  (letO (IntKind.wrap IntKind.i32 a1) fun x108 =>
  Option.bind (F_unicode_utf8_ValidRune (x108)) fun x115 =>
  some (x115))
  (some (false)))
  (some (false)))
noncomputable def F_arrays_Check_1 (a0 : Int) (a1 : TArray) : Option (Bool) :=
 Option.bind (F_arrays_right (a1.Kind) (a0)) fun x116 =>
  some (!x116)
noncomputable def F_slices_IndexFunc___int64_int64__of_arrays_Check_1 (a0 : List Int) (a1 : TArray) : Option (Int) :=
 Option.bind (
  lpO (fun (s103 : Int) =>
  cond (decide (s103 < (↑(List.length (List.map (SV.int IntKind.i64) a0)) : Int)))
  (idxO (a0) (s103) fun x109 =>
  Option.bind (F_arrays_Check_1 (x109) (a1)) fun x110 =>
  cond (x110)
  (some (Sum.inr (Sum.inr (s103))))
  (letO (IntKind.wrap IntKind.i64 (s103 + 1)) fun x112 =>
  some (Sum.inl (x112))))
  (some (Sum.inr (Sum.inl (()))))) (0))
  (Sum.elim (fun (s101 : Unit) =>
  some ((-1 : Int))) some)
noncomputable def F_slices_ContainsFunc___int64_int64__of_arrays_Check_1 (a0 : List Int) (a1 : TArray) : Option (Bool) :=
 Option.bind (F_slices_IndexFunc___int64_int64__of_arrays_Check_1 (a0) (a1)) fun x113 =>
  some (decide (0 ≤ x113))
noncomputable def F_arrays_Check (a0 : TArray) : Option (Int) :=
 cond (!decide (a0.Kind = 1))
  (cond (!decide (a0.Kind = 2))
  (some (2))
  (Option.bind (F_shapes_Cells (a0.Rank) (a0.Lens)) fun x98 =>
  cond (!decide (x98.snd = 0))
  (some (x98.snd))
  (cond (!decide ((↑(List.length (List.map (SV.int IntKind.i64) a0.Cells)) : Int) = x98.fst))
  (some (6))
  (Option.bind (F_slices_ContainsFunc___int64_int64__of_arrays_Check_1 (a0.Cells) (a0)) fun x114 =>
  cond (x114)
  (some (7))
  (some (0))))))
  (Option.bind (F_shapes_Cells (a0.Rank) (a0.Lens)) fun x116 =>
  cond (!decide (x116.snd = 0))
  (some (x116.snd))
  (cond (!decide ((↑(List.length (List.map (SV.int IntKind.i64) a0.Cells)) : Int) = x116.fst))
  (some (6))
  (Option.bind (F_slices_ContainsFunc___int64_int64__of_arrays_Check_1 (a0.Cells) (a0)) fun x119 =>
  cond (x119)
  (some (7))
  (some (0)))))
noncomputable def F_scalars_two_of_20 : Option (Unit) :=
 some (())
noncomputable def F__scalars_number__add (a0 : Int) (a1 : Int) : Option (Int × Int) :=
 letO (IntKind.wrap IntKind.i64 (a0 + a1)) fun x131 =>
  cond (decide (bits BinOp.and IntKind.i64 (bits BinOp.xor IntKind.i64 a0 x131) (bits BinOp.xor IntKind.i64 a1 x131) < 0))
  (some ((0, 12)))
  (some ((x131, 0)))
noncomputable def F_scalars_limit (a0 : Int) (a1 : Int) (a2 : Bool) : Option (Int × Int) :=
 cond (decide (a1 = 0))
  (some ((a0, 0)))
  (cond (a2)
  (some (((-9223372036854775808 : Int), 0)))
  (some ((9223372036854775807, 0))))
noncomputable def F__scalars_number__plus (a0 : Int) (a1 : Int) : Option (Int × Int) :=
 Option.bind (F__scalars_number__add (a0) (a1)) fun x133 =>
  Option.bind (F_scalars_limit (x133.fst) (x133.snd) (decide (a0 < 0))) fun x136 =>
  some (x136)
noncomputable def F_scalars_Two_of_20_0 (a2 : Int) : Option (Int × Int) :=
 Option.bind (F_scalars_two_of_20) fun x130 =>
  Option.bind (F__scalars_number__plus (0) (a2)) fun x137 =>
  some (x137)
noncomputable def F_scalars_Two_of_20 (a1 : Int) (a2 : Int) : Option (Int × Int) :=
 Option.bind (F_scalars_two_of_20) fun x141 =>
  Option.bind (F__scalars_number__plus (a1) (a2)) fun x142 =>
  some (x142)
noncomputable def F_release_total (a0 : List Int) : Option (Int) :=
 Option.bind (
  lpO (fun (s128 : Int × Int) =>
  cond (decide (s128.fst < (↑(List.length (List.map (SV.int IntKind.i64) a0)) : Int)))
  (idxO (a0) (s128.fst) fun x133 =>
  Option.bind (F_scalars_Two_of_20 (s128.snd) (x133)) fun x134 =>
  letO (IntKind.wrap IntKind.i64 (s128.fst + 1)) fun x135 =>
  some (Sum.inl ((x135, x134.fst))))
  (some (Sum.inr (Sum.inl (s128.snd))))) ((0, 0)))
  (Sum.elim (fun (s126 : Int) =>
  some (s126)) some)
noncomputable def F_release_folds_1 (a0 : List Int) : Option (Int) :=
 Option.bind (
  lpO (fun (s139 : Int × Int) =>
  cond (decide (s139.fst < (↑(List.length (List.map (SV.int IntKind.i64) a0)) : Int)))
  (idxO (a0) (s139.fst) fun x144 =>
  cond (!decide (x144 = 0))
  (letO (IntKind.wrap IntKind.i64 (s139.snd + 1)) fun x146 =>
  letO (IntKind.wrap IntKind.i64 (s139.fst + 1)) fun x147 =>
  some (Sum.inl ((x147, x146))))
  (letO (IntKind.wrap IntKind.i64 (s139.fst + 1)) fun x148 =>
  some (Sum.inl ((x148, s139.snd)))))
  (some (Sum.inr (Sum.inl (s139.snd))))) ((0, 0)))
  (Sum.elim (fun (s137 : Int) =>
  some (s137)) some)
noncomputable def F_slices_Min___int64_int64_ (a0 : List Int) : Option (Int) :=
 cond (decide ((↑(List.length (List.map (SV.int IntKind.i64) a0)) : Int) < 1))
  (none)
  (idxO (a0) (0) fun x151 =>
  Option.bind (
  lpO (fun (s154 : Int × Int) =>
  cond (decide (s154.fst < (↑(List.length (List.map (SV.int IntKind.i64) a0)) : Int)))
  (idxO (a0) (s154.fst) fun x158 =>
  letO (IntKind.wrap IntKind.i64 (s154.fst + 1)) fun x159 =>
  some (Sum.inl ((x159, min s154.snd x158))))
  (some (Sum.inr (Sum.inl (s154.snd))))) ((1, x151)))
  (Sum.elim (fun (s152 : Int) =>
  some (s152)) some))
noncomputable def F_release_folds_2 (a0 : List Int) : Option (Int) :=
 Option.bind (F_slices_Min___int64_int64_ (a0)) fun x160 =>
  some (x160)
noncomputable def F_slices_Max___int64_int64_ (a0 : List Int) : Option (Int) :=
 cond (decide ((↑(List.length (List.map (SV.int IntKind.i64) a0)) : Int) < 1))
  (none)
  (idxO (a0) (0) fun x163 =>
  Option.bind (
  lpO (fun (s166 : Int × Int) =>
  cond (decide (s166.fst < (↑(List.length (List.map (SV.int IntKind.i64) a0)) : Int)))
  (idxO (a0) (s166.fst) fun x170 =>
  letO (IntKind.wrap IntKind.i64 (s166.fst + 1)) fun x171 =>
  some (Sum.inl ((x171, max s166.snd x170))))
  (some (Sum.inr (Sum.inl (s166.snd))))) ((1, x163)))
  (Sum.elim (fun (s164 : Int) =>
  some (s164)) some))
noncomputable def F_release_folds_3 (a0 : List Int) : Option (Int) :=
 Option.bind (F_slices_Max___int64_int64_ (a0)) fun x172 =>
  some (x172)
noncomputable def F_release_Value (a0 : Int) (a1 : Int) (a2 : TArray) : Option ((Int × Int) × Int) :=
 Option.bind (F_release_Name (a0)) fun x35 =>
  cond (!decide (x35.snd = 0))
  (some (((0, 0), x35.snd)))
  (cond (decide (a1 < 2))
  (some (((0, 0), 7)))
  (cond (decide (400 < a1))
  (some (((0, 0), 7)))
  (Option.bind (F_arrays_Check (a2)) fun x121 =>
  cond (!decide (x121 = 0))
  (some (((0, 0), x121)))
  (cond (!decide (a2.Kind = 1))
  (some (((0, 0), 21)))
  (cond (!decide (a2.Rank = 1))
  (some (((0, 0), 22)))
  (cond (decide ((↑(List.length (List.map (SV.int IntKind.i64) a2.Cells)) : Int) < a1))
  (some (((0, 0), 0)))
  (pickO (a0) [
  none,
  Option.bind (F_release_total (a2.Cells)) fun x136 =>
  some (((1, x136), 0)),
  Option.bind (F_release_folds_1 (a2.Cells)) fun x149 =>
  some (((1, x149), 0)),
  Option.bind (F_release_folds_2 (a2.Cells)) fun x161 =>
  some (((1, x161), 0)),
  Option.bind (F_release_folds_3 (a2.Cells)) fun x173 =>
  some (((1, x173), 0))])))))))
noncomputable def F_invigilatorref05_Many (a0 : Int) (a1 : Int × Int) : Option (Int) :=
 Option.bind (
  lpO (fun (s207 : Int × Int) =>
  cond (decide (s207.fst < a0))
  (sideO ((0 : Int) ≤ s207.fst ∧ s207.fst < (↑(2 : Nat) : Int)) (
  idxO ([a1.fst, a1.snd]) ((↑(Int.toNat s207.fst) : Int)) fun x211 =>
  letO (IntKind.wrap IntKind.i64 (s207.snd * x211)) fun x212 =>
  letO (IntKind.wrap IntKind.i64 (s207.fst + 1)) fun x213 =>
  some (Sum.inl ((x213, x212)))))
  (some (Sum.inr (Sum.inl (s207.snd))))) ((0, 1)))
  (Sum.elim (fun (s205 : Int) =>
  some (s205)) some)
noncomputable def F_invigilatorref05_Check (a0 : Int) (a1 : Int × Int) : Option (Int) :=
 cond (decide (a0 < 0))
  (some (7))
  (cond (decide (2 < a0))
  (some (7))
  (Option.bind (
  lpO (fun (s185 : Int) =>
  cond (decide (s185 < a0))
  (sideO ((0 : Int) ≤ s185 ∧ s185 < (↑(2 : Nat) : Int)) (
  idxO ([a1.fst, a1.snd]) ((↑(Int.toNat s185) : Int)) fun x189 =>
  cond (decide (x189 < 0))
  (some (Sum.inr (Sum.inr (7))))
  (letO (IntKind.wrap IntKind.i64 (s185 + 1)) fun x191 =>
  some (Sum.inl (x191)))))
  (some (Sum.inr (Sum.inl (()))))) (0))
  (Sum.elim (fun (s183 : Unit) =>
  Option.bind (
  lpO (fun (s194 : Int) =>
  cond (decide (s194 < 2))
  (sideO ((0 : Int) ≤ s194 ∧ s194 < (↑(2 : Nat) : Int)) (
  idxO ([a1.fst, a1.snd]) ((↑(Int.toNat s194) : Int)) fun x200 =>
  cond (!decide (x200 = 0))
  (some (Sum.inr (Sum.inr (6))))
  (letO (IntKind.wrap IntKind.i64 (s194 + 1)) fun x202 =>
  some (Sum.inl (x202)))))
  (some (Sum.inr (Sum.inl (()))))) (a0))
  (Sum.elim (fun (s192 : Unit) =>
  cond (decide (400 < a1.fst))
  (some (15))
  (cond (decide (400 < a1.snd))
  (some (15))
  (Option.bind (F_invigilatorref05_Many (a0) (a1)) fun x214 =>
  cond (decide (400 < x214))
  (some (15))
  (some (0))))) some)) some)))
noncomputable def F_invigilatorref05_Cells (a0 : Int) (a1 : Int × Int) : Option (Int × Int) :=
 Option.bind (F_invigilatorref05_Check (a0) (a1)) fun x216 =>
  cond (!decide (x216 = 0))
  (some ((0, x216)))
  (Option.bind (F_invigilatorref05_Many (a0) (a1)) fun x218 =>
  some ((x218, 0)))
noncomputable def F_invigilatorref06_rune64 (a0 : Int) : Option (Bool) :=
 cond (decide (0 ≤ a0))
  (cond (decide (a0 ≤ 1114111))
  (cond (decide (a0 < 55296))
  (some (true))
  (some (decide (57343 < a0))))
  (some (false)))
  (some (false))
noncomputable def F_invigilatorref06_Check (a0 : TArray) : Option (Int) :=
 cond (!decide (a0.Kind = 1))
  (cond (!decide (a0.Kind = 2))
  (some (2))
  (Option.bind (F_invigilatorref05_Cells (a0.Rank) (a0.Lens)) fun x219 =>
  cond (decide (x219.snd = 0))
  (cond (!decide ((↑(List.length (List.map (SV.int IntKind.i64) a0.Cells)) : Int) = x219.fst))
  (Option.bind (
  lpO (fun (s224 : Unit) =>
  cond (decide (0 < (↑(List.length (List.map (SV.int IntKind.i64) a0.Cells)) : Int)))
  (some (Sum.inr (Sum.inl (()))))
  (some (Sum.inr (Sum.inl (()))))) (()))
  (Sum.elim (fun (s222 : Unit) =>
  some (6)) some))
  (Option.bind (
  lpO (fun (s228 : Int × Int) =>
  cond (decide (s228.fst < (↑(List.length (List.map (SV.int IntKind.i64) a0.Cells)) : Int)))
  (cond (decide (s228.snd = 0))
  (cond (decide (a0.Kind = 2))
  (idxO (a0.Cells) (s228.fst) fun x237 =>
  Option.bind (F_invigilatorref06_rune64 (x237)) fun x238 =>
  cond (!x238)
  (letO (IntKind.wrap IntKind.i64 (s228.fst + 1)) fun x240 =>
  some (Sum.inl ((x240, 7))))
  (letO (IntKind.wrap IntKind.i64 (s228.fst + 1)) fun x241 =>
  some (Sum.inl ((x241, s228.snd)))))
  (letO (IntKind.wrap IntKind.i64 (s228.fst + 1)) fun x242 =>
  some (Sum.inl ((x242, s228.snd)))))
  (some (Sum.inr (Sum.inl (s228.snd)))))
  (some (Sum.inr (Sum.inl (s228.snd))))) ((0, x219.snd)))
  (Sum.elim (fun (s226 : Int) =>
  some (s226)) some)))
  (Option.bind (
  lpO (fun (s245 : Unit) =>
  cond (decide (0 < (↑(List.length (List.map (SV.int IntKind.i64) a0.Cells)) : Int)))
  (some (Sum.inr (Sum.inl (()))))
  (some (Sum.inr (Sum.inl (()))))) (()))
  (Sum.elim (fun (s243 : Unit) =>
  some (x219.snd)) some))))
  (Option.bind (F_invigilatorref05_Cells (a0.Rank) (a0.Lens)) fun x247 =>
  cond (decide (x247.snd = 0))
  (cond (!decide ((↑(List.length (List.map (SV.int IntKind.i64) a0.Cells)) : Int) = x247.fst))
  (Option.bind (
  lpO (fun (s252 : Unit) =>
  cond (decide (0 < (↑(List.length (List.map (SV.int IntKind.i64) a0.Cells)) : Int)))
  (some (Sum.inr (Sum.inl (()))))
  (some (Sum.inr (Sum.inl (()))))) (()))
  (Sum.elim (fun (s250 : Unit) =>
  some (6)) some))
  (Option.bind (
  lpO (fun (s256 : Int × Int) =>
  cond (decide (s256.fst < (↑(List.length (List.map (SV.int IntKind.i64) a0.Cells)) : Int)))
  (cond (decide (s256.snd = 0))
  (cond (decide (a0.Kind = 2))
  (idxO (a0.Cells) (s256.fst) fun x265 =>
  Option.bind (F_invigilatorref06_rune64 (x265)) fun x266 =>
  cond (!x266)
  (letO (IntKind.wrap IntKind.i64 (s256.fst + 1)) fun x268 =>
  some (Sum.inl ((x268, 7))))
  (letO (IntKind.wrap IntKind.i64 (s256.fst + 1)) fun x269 =>
  some (Sum.inl ((x269, s256.snd)))))
  (letO (IntKind.wrap IntKind.i64 (s256.fst + 1)) fun x270 =>
  some (Sum.inl ((x270, s256.snd)))))
  (some (Sum.inr (Sum.inl (s256.snd)))))
  (some (Sum.inr (Sum.inl (s256.snd))))) ((0, x247.snd)))
  (Sum.elim (fun (s254 : Int) =>
  some (s254)) some)))
  (Option.bind (
  lpO (fun (s273 : Unit) =>
  cond (decide (0 < (↑(List.length (List.map (SV.int IntKind.i64) a0.Cells)) : Int)))
  (some (Sum.inr (Sum.inl (()))))
  (some (Sum.inr (Sum.inl (()))))) (()))
  (Sum.elim (fun (s271 : Unit) =>
  some (x247.snd)) some)))
noncomputable def F_invigilatorref28_plus (a0 : Int) (a1 : Int) : Option (Int) :=
 cond (decide (0 < a1))
  (letO (IntKind.wrap IntKind.i64 (9223372036854775807 - a1)) fun x288 =>
  cond (decide (x288 < a0))
  (some (9223372036854775807))
  (cond (decide (a1 < 0))
  (letO (IntKind.wrap IntKind.i64 ((-9223372036854775808 : Int) - a1)) fun x291 =>
  cond (decide (a0 < x291))
  (some ((-9223372036854775808 : Int)))
  (letO (IntKind.wrap IntKind.i64 (a0 + a1)) fun x293 =>
  some (x293)))
  (letO (IntKind.wrap IntKind.i64 (a0 + a1)) fun x294 =>
  some (x294))))
  (cond (decide (a1 < 0))
  (letO (IntKind.wrap IntKind.i64 ((-9223372036854775808 : Int) - a1)) fun x296 =>
  cond (decide (a0 < x296))
  (some ((-9223372036854775808 : Int)))
  (letO (IntKind.wrap IntKind.i64 (a0 + a1)) fun x298 =>
  some (x298)))
  (letO (IntKind.wrap IntKind.i64 (a0 + a1)) fun x299 =>
  some (x299)))
noncomputable def F_invigilatorref28_value (a0 : Int) (a1 : List Int) : Option (Int) :=
 idxO (a1) (0) fun x281 =>
  idxO (a1) (0) fun x282 =>
  Option.bind (
  lpO (fun (s285 : Int × Int × Int × Int × Int) =>
  cond (decide (s285.fst < (↑(List.length (List.map (SV.int IntKind.i64) a1)) : Int)))
  (idxO (a1) (s285.fst) fun x296 =>
  Option.bind (F_invigilatorref28_plus (s285.snd.snd.snd.snd) (x296)) fun x297 =>
  idxO (a1) (s285.fst) fun x298 =>
  cond (!decide (x298 = 0))
  (letO (IntKind.wrap IntKind.i64 (s285.snd.snd.snd.fst + 1)) fun x300 =>
  idxO (a1) (s285.fst) fun x301 =>
  idxO (a1) (s285.fst) fun x302 =>
  letO (IntKind.wrap IntKind.i64 (s285.fst + 1)) fun x303 =>
  some (Sum.inl ((x303, max s285.snd.fst x302, min s285.snd.snd.fst x301, x300, x297))))
  (idxO (a1) (s285.fst) fun x304 =>
  idxO (a1) (s285.fst) fun x305 =>
  letO (IntKind.wrap IntKind.i64 (s285.fst + 1)) fun x306 =>
  some (Sum.inl ((x306, max s285.snd.fst x305, min s285.snd.snd.fst x304, s285.snd.snd.snd.fst, x297)))))
  (some (Sum.inr (Sum.inl (s285.snd))))) ((0, x282, x281, 0, 0)))
  (Sum.elim (fun (s283 : Int × Int × Int × Int) =>
  idxO ([0, s283.snd.snd.snd, s283.snd.snd.fst, s283.snd.fst, s283.fst]) (a0) fun x307 =>
  some (x307)) some)
noncomputable def F_invigilatorref28_Value (a0 : Int) (a1 : Int) (a2 : TArray) : Option ((Int × Int) × Int) :=
 Option.bind (F_invigilatorref28_Name (a0)) fun x175 =>
  cond (decide (x175.snd = 0))
  (cond (decide (a1 < 2))
  (some (((0, 0), 7)))
  (cond (decide (400 < a1))
  (some (((0, 0), 7)))
  (Option.bind (F_invigilatorref06_Check (a2)) fun x275 =>
  cond (decide (x275 = 0))
  (cond (!decide (a2.Kind = 1))
  (some (((0, 0), 21)))
  (cond (!decide (a2.Rank = 1))
  (some (((0, 0), 22)))
  (cond (!decide (x275 = 0))
  (some (((0, 0), x275)))
  (cond (decide ((↑(List.length (List.map (SV.int IntKind.i64) a2.Cells)) : Int) < a1))
  (some (((0, 0), x275)))
  (Option.bind (F_invigilatorref28_value (a0) (a2.Cells)) fun x308 =>
  some (((1, x308), 0)))))))
  (cond (!decide (x275 = 0))
  (some (((0, 0), x275)))
  (cond (decide ((↑(List.length (List.map (SV.int IntKind.i64) a2.Cells)) : Int) < a1))
  (some (((0, 0), x275)))
  (Option.bind (F_invigilatorref28_value (a0) (a2.Cells)) fun x311 =>
  some (((1, x311), 0))))))))
  (cond (!decide (x175.snd = 0))
  (some (((0, 0), x175.snd)))
  (cond (decide ((↑(List.length (List.map (SV.int IntKind.i64) a2.Cells)) : Int) < a1))
  (some (((0, 0), x175.snd)))
  (Option.bind (F_invigilatorref28_value (a0) (a2.Cells)) fun x314 =>
  some (((1, x314), 0)))))
noncomputable def F_invigilatorlaw28_ReleaseValues (a0 : List UInt8) (a1 : Int × Int) (a2 : TArray) : Option (Bool) :=
 cond (decide (100 < (↑(List.length a0) : Int)))
  (some (true))
  (cond (decide (500 < (↑(List.length (List.map (SV.int IntKind.i64) a2.Cells)) : Int)))
  (some (true))
  (Option.bind (F_release_Find (a0)) fun x10 =>
  Option.bind (F_invigilatorref28_Find (a0)) fun x22 =>
  Option.bind (F_release_Name (a1.fst)) fun x25 =>
  Option.bind (F_invigilatorref28_Name (a1.fst)) fun x30 =>
  cond (!decide (x10.fst = x22.fst))
  (some (false))
  (cond (!decide (x10.snd = x22.snd))
  (some (false))
  (cond (!decide (x25.fst = x30.fst))
  (some (false))
  (cond (!decide (x25.snd = x30.snd))
  (some (false))
  (Option.bind (F_release_Value (a1.fst) (a1.snd) (a2)) fun x174 =>
  Option.bind (F_invigilatorref28_Value (a1.fst) (a1.snd) (a2)) fun x315 =>
  cond (decide (x174.fst.fst = x315.fst.fst) && (decide (x174.fst.snd = x315.fst.snd) && true))
  (cond (decide (x174.snd = x315.snd))
  (some (true))
  (some (false)))
  (some (false))))))))
end Go.Sx.O
namespace Go.Sx.O
open Go
theorem find_loop {α τ : Type} {l : List α} (p : α → Bool) {step : Int → Option (Int ⊕ τ)} {d : τ} {g : Int → τ}
    (h1 : ∀ (k : Nat) x, l[k]? = some x → step (k : Int) = if p x then some (.inr (g k)) else some (.inl ((k : Int) + 1)))
    (h2 : step (l.length : Int) = some (.inr d)) :
    lpO step 0 = (match l.findIdx? p with | some i => some (g i) | none => some d) := by
  have key : ∀ j k, j + k = l.length → lpO step (k : Int) = (match (l.drop k).findIdx? p with | some i => some (g ((k + i : Nat) : Int)) | none => some d) := by
    intro j
    induction j with
    | zero =>
      intro k hk
      rw [lpO_eq]
      have : k = l.length := by omega
      subst this
      rw [h2]
      simp
    | succ j ih =>
      intro k hk
      have hlt : k < l.length := by omega
      rw [lpO_eq, h1 k _ (List.getElem?_eq_getElem hlt), List.drop_eq_getElem_cons hlt, List.findIdx?_cons]
      split
      · simp
      · have := ih (k + 1) (by omega)
        simp only [Option.bind_some, Sum.elim_inl]
        push_cast at this
        rw [this]
        cases (l.drop (k + 1)).findIdx? p with
        | none => rfl
        | some i => simp; congr 1; omega
  have := key l.length 0 (by omega)
  simpa using this
end Go.Sx.O
namespace Go.Sx.O
open Go
end Go.Sx.O
namespace Go.Sx.O
open Go
end Go.Sx.O
namespace Go.Sx.O
open Go
end Go.Sx.O
namespace Go.Sx.O
open Go
theorem get_lt {α : Type} {l : List α} {i : Nat} (h : i < l.length) : ∃ x, l[i]? = some x := ⟨_, List.getElem?_eq_getElem h⟩
end Go.Sx.O
namespace Go.Sx.O
open Go
end Go.Sx.O
namespace Go.Sx.O
open Go
theorem any_loop {α : Type} {l : List α} (p : α → Bool) {ε : Type} {step : Int → Option (Int ⊕ (ε ⊕ Int))} {e : ε} {G : Option Int}
    (hG : G = (lpO step 0).bind (Sum.elim (fun _ => some (-1)) some))
    (h1 : ∀ (k : Nat) x, l[k]? = some x → k < l.length → step (k : Int) = if p x then some (.inr (.inr (k : Int))) else some (.inl ((k : Int) + 1)))
    (h2 : step (l.length : Int) = some (.inr (.inl e))) : G.bind (fun x => some (decide (0 ≤ x))) = some (l.any p) := by
  rw [hG, find_loop (l := l) p (d := .inl e) (g := .inr) (fun k x hx => h1 k x hx (by
    rcases Nat.lt_or_ge k l.length with g | g
    · exact g
    · rw [List.getElem?_eq_none g] at hx; cases hx)) h2]
  cases h : l.findIdx? p with
  | none =>
    have := List.findIdx?_eq_none_iff.1 h
    simp only [Option.bind_some, Sum.elim_inl]
    have hn : l.any p = false := by rw [List.any_eq_false]; intro x hx; simp [this x hx]
    rw [hn]; rfl
  | some i =>
    obtain ⟨hi, hp, _⟩ := List.findIdx?_eq_some_iff_getElem.1 h
    have hy : l.any p = true := List.any_eq_true.2 ⟨_, List.getElem_mem hi, hp⟩
    simp [hy]
theorem ContainsFunc1 (l : List Int) (h : l.length ≤ 1000000000) : F_slices_ContainsFunc___int_int__of_shapes_Check_1 l = some (l.any fun x => decide (x < 0)) := by
  unfold F_slices_ContainsFunc___int_int__of_shapes_Check_1 F_slices_IndexFunc___int_int__of_shapes_Check_1
  refine any_loop (l := l) (fun x => decide (x < 0)) (e := ()) rfl (fun k x hx hlt => ?_) (by simp)
  simp only [List.length_map, Int.ofNat_lt, hlt, decide_true, cond_true, idxO, Int.toNat_natCast, hx, Option.bind_some, letO, Int.natCast_nonneg, if_true, F_shapes_Check_1]
  rw [w64 (by omega) (by omega)]
  cases decide (x < 0) <;> rfl
theorem ContainsFunc2 (l : List Int) (h : l.length ≤ 1000000000) : F_slices_ContainsFunc___int_int__of_shapes_Check_2 l = some (l.any fun x => !decide (x = 0)) := by
  unfold F_slices_ContainsFunc___int_int__of_shapes_Check_2 F_slices_IndexFunc___int_int__of_shapes_Check_2
  refine any_loop (l := l) (fun x => !decide (x = 0)) (e := ()) rfl (fun k x hx hlt => ?_) (by simp)
  simp only [List.length_map, Int.ofNat_lt, hlt, decide_true, cond_true, idxO, Int.toNat_natCast, hx, Option.bind_some, letO, Int.natCast_nonneg, if_true, F_shapes_Check_2]
  rw [w64 (by omega) (by omega)]
  cases decide (x = 0) <;> rfl
theorem ContainsFunc3 (l : List Int) (h : l.length ≤ 1000000000) : F_slices_ContainsFunc___int_int__of_shapes_Check_3 l = some (l.any fun x => decide (400 < x)) := by
  unfold F_slices_ContainsFunc___int_int__of_shapes_Check_3 F_slices_IndexFunc___int_int__of_shapes_Check_3
  refine any_loop (l := l) (fun x => decide (400 < x)) (e := ()) rfl (fun k x hx hlt => ?_) (by simp)
  simp only [List.length_map, Int.ofNat_lt, hlt, decide_true, cond_true, idxO, Int.toNat_natCast, hx, Option.bind_some, letO, Int.natCast_nonneg, if_true, F_shapes_Check_3]
  rw [w64 (by omega) (by omega)]
  cases decide (400 < x) <;> rfl
end Go.Sx.O
namespace Go.Sx.O
open Go
end Go.Sx.O
