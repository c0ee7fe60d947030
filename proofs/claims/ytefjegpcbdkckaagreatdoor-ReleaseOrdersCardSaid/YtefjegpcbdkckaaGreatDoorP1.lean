/-
  THE PLAIN STRUCT TYPES, and their symbolic values. Printed by a program. An own text.
  WHAT THE LIBRARY's BODILESS FUNCTIONS RETURN. An own text.
  DATA AS THEY COME: numbers in their kinds' ranges. Printed by a program. An own text.
  PLAIN FUNCTIONS: what the program computes. Printed by a program. An own text.
  PLAIN LAWS of the library's functions and of words, lattice. An own text.
  PLAIN LAWS: slices.Index, strings.Trim, words.Name. An own text.
  PLAIN LAWS: strings.Trim over ASCII, words.Name. An own text.
  PLAIN LAWS: bits; lattice.named, .of, .bound. An own text.
  PLAIN LAWS: lattice.of, .bound, .Check, .Leq. An own text.
  PLAIN LAWS: lattice.Leq; what an observer sees. An own text.
  PLAIN LAWS: shapes, arrays; arrays and events that are the same. An own text.
  PLAIN LAWS: expr.Name returns. An own text.
-/
import Derived.Test.YtefjegpcbdkckaaGreatDoorA5
import Derived.Lib.Bytealg
namespace Go.Sx.O
structure Tlexer_reader where
  s_ : List UInt8
  at_ : Int
def enc_Tlexer_reader (x : Tlexer_reader) : SV := .agg [SV.str x.s_, (SV.int .i64) x.at_]
theorem nmd_Tlexer_reader {p : Nat → Prop} (x : Tlexer_reader) : (enc_Tlexer_reader x).nmd p := ⟨trivial, trivial, trivial⟩
structure Trelease_flow where
  low_ : Int
  high_ : Int
def enc_Trelease_flow (x : Trelease_flow) : SV := .agg [(SV.int .i64) x.low_, (SV.int .i64) x.high_]
theorem nmd_Trelease_flow {p : Nat → Prop} (x : Trelease_flow) : (enc_Trelease_flow x).nmd p := ⟨trivial, trivial, trivial⟩
structure TLattice where
  Names : List (List UInt8)
  Up : List (Int)
def enc_TLattice (x : TLattice) : SV := .agg [(encSl 1 SV.str) x.Names, (encSl 1 (SV.int .u8)) x.Up]
theorem nmd_TLattice {p : Nat → Prop} (x : TLattice) : (enc_TLattice x).nmd p := ⟨(nmd_rows fun _ => trivial), (nmd_rows fun _ => trivial), trivial⟩
structure TPoRule where
  From : Int
  Goal : Int
  K : Int
def enc_TPoRule (x : TPoRule) : SV := .agg [(SV.int .i64) x.From, (SV.int .i64) x.Goal, (SV.int .i64) x.K]
theorem nmd_TPoRule {p : Nat → Prop} (x : TPoRule) : (enc_TPoRule x).nmd p := ⟨trivial, trivial, trivial, trivial⟩
structure Ttypes_order where
  Lattice : TLattice
  bottom_ : Int
def enc_Ttypes_order (x : Ttypes_order) : SV := .agg [enc_TLattice x.Lattice, (SV.int .i64) x.bottom_]
theorem nmd_Ttypes_order {p : Nat → Prop} (x : Ttypes_order) : (enc_Ttypes_order x).nmd p := ⟨(nmd_TLattice _), trivial, trivial⟩
structure TLxToken where
  Kind : Int
  From : Int
  To : Int
  N : Int
  S : List UInt8
def enc_TLxToken (x : TLxToken) : SV := .agg [(SV.int .i64) x.Kind, (SV.int .i64) x.From, (SV.int .i64) x.To, (SV.int .i64) x.N, SV.str x.S]
theorem nmd_TLxToken {p : Nat → Prop} (x : TLxToken) : (enc_TLxToken x).nmd p := ⟨trivial, trivial, trivial, trivial, trivial, trivial⟩
structure Tlattice_order where
  n_ : Int
  up_ : List (Int)
  down_ : List (Int)
def enc_Tlattice_order (x : Tlattice_order) : SV := .agg [(SV.int .i64) x.n_, (encA 8 1 (SV.int .u8)) x.up_, (encA 8 1 (SV.int .u8)) x.down_]
theorem nmd_Tlattice_order {p : Nat → Prop} (x : Tlattice_order) : (enc_Tlattice_order x).nmd p := ⟨trivial, (nmd_rows fun _ => trivial), (nmd_rows fun _ => trivial), trivial⟩
structure TTyType where
  Kind : Int
  Rank : Int
  Axes : (Int) × (Int)
  Data : Int
def enc_TTyType (x : TTyType) : SV := .agg [(SV.int .i64) x.Kind, (SV.int .i64) x.Rank, (encA2 1 (SV.int .i64)) x.Axes, (SV.int .i64) x.Data]
theorem nmd_TTyType {p : Nat → Prop} (x : TTyType) : (enc_TTyType x).nmd p := ⟨trivial, trivial, ⟨trivial, trivial, trivial⟩, trivial, trivial⟩
structure TArray where
  Kind : Int
  Rank : Int
  Lens : (Int) × (Int)
  Cells : List (Int)
def enc_TArray (x : TArray) : SV := .agg [(SV.int .i64) x.Kind, (SV.int .i64) x.Rank, (encA2 1 (SV.int .i64)) x.Lens, (encSl 1 (SV.int .i64)) x.Cells]
theorem nmd_TArray {p : Nat → Prop} (x : TArray) : (enc_TArray x).nmd p := ⟨trivial, trivial, ⟨trivial, trivial, trivial⟩, (nmd_rows fun _ => trivial), trivial⟩
structure TInVar where
  Name : List UInt8
  Type_ : TTyType
def enc_TInVar (x : TInVar) : SV := .agg [SV.str x.Name, enc_TTyType x.Type_]
theorem nmd_TInVar {p : Nat → Prop} (x : TInVar) : (enc_TInVar x).nmd p := ⟨trivial, (nmd_TTyType _), trivial⟩
structure TWsVar where
  Name : List UInt8
  Value : TArray
def enc_TWsVar (x : TWsVar) : SV := .agg [SV.str x.Name, enc_TArray x.Value]
theorem nmd_TWsVar {p : Nat → Prop} (x : TWsVar) : (enc_TWsVar x).nmd p := ⟨trivial, (nmd_TArray _), trivial⟩
structure TReEntry where
  Site : Int
  Fold : Int
  From : Int
  Goal : Int
  Cells : Int
  Value : (Int) × (Int)
def enc_TReEntry (x : TReEntry) : SV := .agg [(SV.int .i64) x.Site, (SV.int .i64) x.Fold, (SV.int .i64) x.From, (SV.int .i64) x.Goal, (SV.int .i64) x.Cells, (encA2 1 (SV.int .i64)) x.Value]
theorem nmd_TReEntry {p : Nat → Prop} (x : TReEntry) : (enc_TReEntry x).nmd p := ⟨trivial, trivial, trivial, trivial, trivial, ⟨trivial, trivial, trivial⟩, trivial⟩
structure TEvEvent where
  Kind : Int
  Site : Int
  Steps : Int
  Label : Int
  Channel : List UInt8
  Value : TArray
  E : Int
def enc_TEvEvent (x : TEvEvent) : SV := .agg [(SV.int .i64) x.Kind, (SV.int .i64) x.Site, (SV.int .i64) x.Steps, (SV.int .i64) x.Label, SV.str x.Channel, enc_TArray x.Value, (SV.int .i64) x.E]
theorem nmd_TEvEvent {p : Nat → Prop} (x : TEvEvent) : (enc_TEvEvent x).nmd p := ⟨trivial, trivial, trivial, trivial, trivial, (nmd_TArray _), trivial, trivial⟩
structure TPolicy where
  Lattice : TLattice
  Channels : List (Tlexer_reader)
  Vars : List (TInVar)
  Rules : List (TPoRule)
def enc_TPolicy (x : TPolicy) : SV := .agg [enc_TLattice x.Lattice, (encSl 2 enc_Tlexer_reader) x.Channels, (encSl 6 enc_TInVar) x.Vars, (encSl 3 enc_TPoRule) x.Rules]
theorem nmd_TPolicy {p : Nat → Prop} (x : TPolicy) : (enc_TPolicy x).nmd p := ⟨(nmd_TLattice _), (nmd_rows fun _ => (nmd_Tlexer_reader _)), (nmd_rows fun _ => (nmd_TInVar _)), (nmd_rows fun _ => (nmd_TPoRule _)), trivial⟩
structure Tinvigilatorlaw28_Types where
  V : TTyType
  Y : TTyType
  From : Int
  Goal : Int
  PC : Int
  EC : Int
  Lower : Int
  Top : Int
def enc_Tinvigilatorlaw28_Types (x : Tinvigilatorlaw28_Types) : SV := .agg [enc_TTyType x.V, enc_TTyType x.Y, (SV.int .i64) x.From, (SV.int .i64) x.Goal, (SV.int .i64) x.PC, (SV.int .i64) x.EC, (SV.int .i64) x.Lower, (SV.int .i64) x.Top]
theorem nmd_Tinvigilatorlaw28_Types {p : Nat → Prop} (x : Tinvigilatorlaw28_Types) : (enc_Tinvigilatorlaw28_Types x).nmd p := ⟨(nmd_TTyType _), (nmd_TTyType _), trivial, trivial, trivial, trivial, trivial, trivial, trivial⟩
structure TEvTrace where
  Events : List (TEvEvent)
  Log : List (TReEntry)
  Vars : List (TWsVar)
  Steps : Int
def enc_TEvTrace (x : TEvTrace) : SV := .agg [(encSl 11 enc_TEvEvent) x.Events, (encSl 7 enc_TReEntry) x.Log, (encSl 6 enc_TWsVar) x.Vars, (SV.int .i64) x.Steps]
theorem nmd_TEvTrace {p : Nat → Prop} (x : TEvTrace) : (enc_TEvTrace x).nmd p := ⟨(nmd_rows fun _ => (nmd_TEvEvent _)), (nmd_rows fun _ => (nmd_TReEntry _)), (nmd_rows fun _ => (nmd_TWsVar _)), trivial, trivial⟩
end Go.Sx.O
namespace Go.Sx.O
noncomputable def F_internal_stringslite_IndexByte (a0 : List UInt8) (a1 : Int) : Option Int := some (Go.Lib.indexByte a0 a1.toNat.toUInt8)
end Go.Sx.O
namespace Go.Sx.O
open Go
def inK (k : IntKind) (n : Int) : Prop := k.min ≤ n ∧ n ≤ k.max
def allW {α : Type} (W : α → Prop) (l : List α) : Prop := ∀ x ∈ l, W x
def w2 {α : Type} (W : α → Prop) (p : α × α) : Prop := W p.1 ∧ W p.2
def w3 {α : Type} (W : α → Prop) (p : α × α × α) : Prop := W p.1 ∧ W p.2.1 ∧ W p.2.2
def wN {α : Type} (n : Nat) (W : α → Prop) (l : List α) : Prop := l.length = n ∧ ∀ x ∈ l, W x
structure W_Tlexer_reader (x : Tlexer_reader) : Prop where
  s_ : (fun _ => True) x.s_
  at_ : (inK .i64) x.at_
structure W_Trelease_flow (x : Trelease_flow) : Prop where
  low_ : (inK .i64) x.low_
  high_ : (inK .i64) x.high_
structure W_TLattice (x : TLattice) : Prop where
  Names : (allW (fun _ => True)) x.Names
  Up : (allW (inK .u8)) x.Up
structure W_TPoRule (x : TPoRule) : Prop where
  From : (inK .i64) x.From
  Goal : (inK .i64) x.Goal
  K : (inK .i64) x.K
structure W_Ttypes_order (x : Ttypes_order) : Prop where
  Lattice : W_TLattice x.Lattice
  bottom_ : (inK .i64) x.bottom_
structure W_TLxToken (x : TLxToken) : Prop where
  Kind : (inK .i64) x.Kind
  From : (inK .i64) x.From
  To : (inK .i64) x.To
  N : (inK .i64) x.N
  S : (fun _ => True) x.S
structure W_Tlattice_order (x : Tlattice_order) : Prop where
  n_ : (inK .i64) x.n_
  up_ : (wN 8 (inK .u8)) x.up_
  down_ : (wN 8 (inK .u8)) x.down_
structure W_TTyType (x : TTyType) : Prop where
  Kind : (inK .i64) x.Kind
  Rank : (inK .i64) x.Rank
  Axes : (w2 (inK .i64)) x.Axes
  Data : (inK .i64) x.Data
structure W_TArray (x : TArray) : Prop where
  Kind : (inK .i64) x.Kind
  Rank : (inK .i64) x.Rank
  Lens : (w2 (inK .i64)) x.Lens
  Cells : (allW (inK .i64)) x.Cells
structure W_TInVar (x : TInVar) : Prop where
  Name : (fun _ => True) x.Name
  Type_ : W_TTyType x.Type_
structure W_TWsVar (x : TWsVar) : Prop where
  Name : (fun _ => True) x.Name
  Value : W_TArray x.Value
structure W_TReEntry (x : TReEntry) : Prop where
  Site : (inK .i64) x.Site
  Fold : (inK .i64) x.Fold
  From : (inK .i64) x.From
  Goal : (inK .i64) x.Goal
  Cells : (inK .i64) x.Cells
  Value : (w2 (inK .i64)) x.Value
structure W_TEvEvent (x : TEvEvent) : Prop where
  Kind : (inK .i64) x.Kind
  Site : (inK .i64) x.Site
  Steps : (inK .i64) x.Steps
  Label : (inK .i64) x.Label
  Channel : (fun _ => True) x.Channel
  Value : W_TArray x.Value
  E : (inK .i64) x.E
structure W_TPolicy (x : TPolicy) : Prop where
  Lattice : W_TLattice x.Lattice
  Channels : (allW W_Tlexer_reader) x.Channels
  Vars : (allW W_TInVar) x.Vars
  Rules : (allW W_TPoRule) x.Rules
structure W_Tinvigilatorlaw28_Types (x : Tinvigilatorlaw28_Types) : Prop where
  V : W_TTyType x.V
  Y : W_TTyType x.Y
  From : (inK .i64) x.From
  Goal : (inK .i64) x.Goal
  PC : (inK .i64) x.PC
  EC : (inK .i64) x.EC
  Lower : (inK .i64) x.Lower
  Top : (inK .i64) x.Top
structure W_TEvTrace (x : TEvTrace) : Prop where
  Events : (allW W_TEvEvent) x.Events
  Log : (allW W_TReEntry) x.Log
  Vars : (allW W_TWsVar) x.Vars
  Steps : (inK .i64) x.Steps
end Go.Sx.O
namespace Go.Sx.O
noncomputable def F_invigilatorlaw28_vector (a0 : List Int) : Option (TArray) :=
 some (TArray.mk 1 1 ((↑(List.length (List.map (SV.int IntKind.i64) a0)) : Int), 0) a0)
noncomputable def F_release_Name (a0 : Int) : Option (List UInt8 × Int) :=
 cond (decide (a0 < 1))
  (some (((ByteArray.mk #[]).data.toList, 2)))
  (cond (decide (4 < a0))
  (some (((ByteArray.mk #[]).data.toList, 2)))
  (pickO (a0) [
  some (([], 0)),
  some (([(115 : UInt8), (117 : UInt8), (109 : UInt8)], 0)),
  some (([(99 : UInt8), (111 : UInt8), (117 : UInt8), (110 : UInt8), (116 : UInt8)], 0)),
  some (([(108 : UInt8), (101 : UInt8), (97 : UInt8), (115 : UInt8), (116 : UInt8)], 0)),
  some (([(109 : UInt8), (111 : UInt8), (115 : UInt8), (116 : UInt8)], 0))]))
noncomputable def F_shapes_Check_1 (a0 : Int) : Option (Bool) :=
 some (decide (a0 < 0))
noncomputable def F_slices_IndexFunc___int_int__of_shapes_Check_1 (a0 : List Int) : Option (Int) :=
 Option.bind (
  lpO (fun (s43 : Int) =>
  cond (decide (s43 < (↑(List.length (List.map (SV.int IntKind.i64) a0)) : Int)))
  (idxO (a0) (s43) fun x49 =>
  Option.bind (F_shapes_Check_1 (x49)) fun x50 =>
  cond (x50)
  (some (Sum.inr (Sum.inr (s43))))
  (letO (IntKind.wrap IntKind.i64 (s43 + 1)) fun x52 =>
  some (Sum.inl (x52))))
  (some (Sum.inr (Sum.inl (()))))) (0))
  (Sum.elim (fun (s41 : Unit) =>
  some ((-1 : Int))) some)
noncomputable def F_slices_ContainsFunc___int_int__of_shapes_Check_1 (a0 : List Int) : Option (Bool) :=
 Option.bind (F_slices_IndexFunc___int_int__of_shapes_Check_1 (a0)) fun x53 =>
  some (decide (0 ≤ x53))
noncomputable def F_shapes_Check_2 (a0 : Int) : Option (Bool) :=
 some (!decide (a0 = 0))
noncomputable def F_slices_IndexFunc___int_int__of_shapes_Check_2 (a0 : List Int) : Option (Int) :=
 Option.bind (
  lpO (fun (s58 : Int) =>
  cond (decide (s58 < (↑(List.length (List.map (SV.int IntKind.i64) a0)) : Int)))
  (idxO (a0) (s58) fun x64 =>
  Option.bind (F_shapes_Check_2 (x64)) fun x65 =>
  cond (x65)
  (some (Sum.inr (Sum.inr (s58))))
  (letO (IntKind.wrap IntKind.i64 (s58 + 1)) fun x67 =>
  some (Sum.inl (x67))))
  (some (Sum.inr (Sum.inl (()))))) (0))
  (Sum.elim (fun (s56 : Unit) =>
  some ((-1 : Int))) some)
noncomputable def F_slices_ContainsFunc___int_int__of_shapes_Check_2 (a0 : List Int) : Option (Bool) :=
 Option.bind (F_slices_IndexFunc___int_int__of_shapes_Check_2 (a0)) fun x68 =>
  some (decide (0 ≤ x68))
noncomputable def F_shapes_Check_3 (a0 : Int) : Option (Bool) :=
 some (decide (400 < a0))
noncomputable def F_slices_IndexFunc___int_int__of_shapes_Check_3 (a0 : List Int) : Option (Int) :=
 Option.bind (
  lpO (fun (s73 : Int) =>
  cond (decide (s73 < (↑(List.length (List.map (SV.int IntKind.i64) a0)) : Int)))
  (idxO (a0) (s73) fun x79 =>
  Option.bind (F_shapes_Check_3 (x79)) fun x80 =>
  cond (x80)
  (some (Sum.inr (Sum.inr (s73))))
  (letO (IntKind.wrap IntKind.i64 (s73 + 1)) fun x82 =>
  some (Sum.inl (x82))))
  (some (Sum.inr (Sum.inl (()))))) (0))
  (Sum.elim (fun (s71 : Unit) =>
  some ((-1 : Int))) some)
noncomputable def F_slices_ContainsFunc___int_int__of_shapes_Check_3 (a0 : List Int) : Option (Bool) :=
 Option.bind (F_slices_IndexFunc___int_int__of_shapes_Check_3 (a0)) fun x83 =>
  some (decide (0 ≤ x83))
noncomputable def F_shapes_product (a0 : Int) (a1 : Int × Int) : Option (Int) :=
 cond (decide (a0 = 2))
  (letO (IntKind.wrap IntKind.i64 (1 * a1.snd)) fun x87 =>
  letO (IntKind.wrap IntKind.i64 (x87 * a1.fst)) fun x88 =>
  some (x88))
  (cond (decide (a0 = 1))
  (letO (IntKind.wrap IntKind.i64 (1 * a1.fst)) fun x90 =>
  some (x90))
  (some (1)))
noncomputable def F_shapes_Check (a0 : Int) (a1 : Int × Int) : Option (Int) :=
 cond (decide (a0 < 0))
  (some (7))
  (cond (decide (2 < a0))
  (some (7))
  (sideO ((0 : Int) ≤ a0 ∧ a0 ≤ (↑(2 : Nat) : Int)) (
  sideO ((0 : Int) ≤ a0 ∧ a0 ≤ (↑(2 : Nat) : Int)) (
  Option.bind (F_slices_ContainsFunc___int_int__of_shapes_Check_1 (List.drop (Int.toNat 0) (List.take (Int.toNat a0) [a1.fst, a1.snd]))) fun x54 =>
  cond (x54)
  (some (7))
  (Option.bind (F_slices_ContainsFunc___int_int__of_shapes_Check_2 (List.drop (Int.toNat a0) (List.take (Int.toNat (↑2 : Int)) [a1.fst, a1.snd]))) fun x69 =>
  cond (x69)
  (some (6))
  (Option.bind (F_slices_ContainsFunc___int_int__of_shapes_Check_3 (List.drop (Int.toNat 0) (List.take (Int.toNat a0) [a1.fst, a1.snd]))) fun x84 =>
  cond (x84)
  (some (15))
  (Option.bind (F_shapes_product (a0) (a1)) fun x91 =>
  cond (decide (400 < x91))
  (some (15))
  (some (0)))))))))
noncomputable def F_shapes_Cells (a0 : Int) (a1 : Int × Int) : Option (Int × Int) :=
 Option.bind (F_shapes_Check (a0) (a1)) fun x93 =>
  cond (!decide (x93 = 0))
  (some ((0, x93)))
  (Option.bind (F_shapes_product (a0) (a1)) fun x95 =>
  some ((x95, 0)))
noncomputable def F_unicode_utf8_ValidRune (a0 : Int) : Option (Bool) :=
 cond (decide (0 ≤ a0))
  (cond (decide (a0 < 55296))
  (some (true))
  (cond (decide (57343 < a0))
  (cond (decide (a0 ≤ 1114111))
  (some (true))
  (some (false)))
  (some (false))))
  (cond (decide (57343 < a0))
  (cond (decide (a0 ≤ 1114111))
  (some (true))
  (some (false)))
  (some (false)))
noncomputable def F_arrays_right (a0 : Int) (a1 : Int) : Option (Bool) :=
 cond (decide (a0 = 1))
  (some (true))
  (cond (decide (0 ≤ a1))
  (cond (decide (a1 ≤ 1114111))
  (letO (IntKind.wrap IntKind.i32 a1) fun x106 =>
  Option.bind (F_unicode_utf8_ValidRune (x106)) fun x113 =>
  some (x113))
  (some (false)))
  (some (false)))
noncomputable def F_arrays_Check_1 (a0 : Int) (a1 : TArray) : Option (Bool) :=
 Option.bind (F_arrays_right (a1.Kind) (a0)) fun x114 =>
  some (!x114)
noncomputable def F_slices_IndexFunc___int64_int64__of_arrays_Check_1 (a0 : List Int) (a1 : TArray) : Option (Int) :=
 Option.bind (
  lpO (fun (s101 : Int) =>
  cond (decide (s101 < (↑(List.length (List.map (SV.int IntKind.i64) a0)) : Int)))
  (idxO (a0) (s101) fun x107 =>
  Option.bind (F_arrays_Check_1 (x107) (a1)) fun x108 =>
  cond (x108)
  (some (Sum.inr (Sum.inr (s101))))
  (letO (IntKind.wrap IntKind.i64 (s101 + 1)) fun x110 =>
  some (Sum.inl (x110))))
  (some (Sum.inr (Sum.inl (()))))) (0))
  (Sum.elim (fun (s99 : Unit) =>
  some ((-1 : Int))) some)
noncomputable def F_slices_ContainsFunc___int64_int64__of_arrays_Check_1 (a0 : List Int) (a1 : TArray) : Option (Bool) :=
 Option.bind (F_slices_IndexFunc___int64_int64__of_arrays_Check_1 (a0) (a1)) fun x111 =>
  some (decide (0 ≤ x111))
noncomputable def F_arrays_Check (a0 : TArray) : Option (Int) :=
 cond (!decide (a0.Kind = 1))
  (cond (!decide (a0.Kind = 2))
  (some (2))
  (Option.bind (F_shapes_Cells (a0.Rank) (a0.Lens)) fun x96 =>
  cond (!decide (x96.snd = 0))
  (some (x96.snd))
  (cond (!decide ((↑(List.length (List.map (SV.int IntKind.i64) a0.Cells)) : Int) = x96.fst))
  (some (6))
  (Option.bind (F_slices_ContainsFunc___int64_int64__of_arrays_Check_1 (a0.Cells) (a0)) fun x112 =>
  cond (x112)
  (some (7))
  (some (0))))))
  (Option.bind (F_shapes_Cells (a0.Rank) (a0.Lens)) fun x114 =>
  cond (!decide (x114.snd = 0))
  (some (x114.snd))
  (cond (!decide ((↑(List.length (List.map (SV.int IntKind.i64) a0.Cells)) : Int) = x114.fst))
  (some (6))
  (Option.bind (F_slices_ContainsFunc___int64_int64__of_arrays_Check_1 (a0.Cells) (a0)) fun x117 =>
  cond (x117)
  (some (7))
  (some (0)))))
noncomputable def F_scalars_two_of_20 : Option (Unit) :=
 some (())
noncomputable def F__scalars_number__add (a0 : Int) (a1 : Int) : Option (Int × Int) :=
 letO (IntKind.wrap IntKind.i64 (a0 + a1)) fun x129 =>
  cond (decide (bits BinOp.and IntKind.i64 (bits BinOp.xor IntKind.i64 a0 x129) (bits BinOp.xor IntKind.i64 a1 x129) < 0))
  (some ((0, 12)))
  (some ((x129, 0)))
noncomputable def F_scalars_limit (a0 : Int) (a1 : Int) (a2 : Bool) : Option (Int × Int) :=
 cond (decide (a1 = 0))
  (some ((a0, 0)))
  (cond (a2)
  (some (((-9223372036854775808 : Int), 0)))
  (some ((9223372036854775807, 0))))
noncomputable def F__scalars_number__plus (a0 : Int) (a1 : Int) : Option (Int × Int) :=
 Option.bind (F__scalars_number__add (a0) (a1)) fun x131 =>
  Option.bind (F_scalars_limit (x131.fst) (x131.snd) (decide (a0 < 0))) fun x134 =>
  some (x134)
noncomputable def F_scalars_Two_of_20_0 (a2 : Int) : Option (Int × Int) :=
 Option.bind (F_scalars_two_of_20) fun x128 =>
  Option.bind (F__scalars_number__plus (0) (a2)) fun x135 =>
  some (x135)
noncomputable def F_scalars_Two_of_20 (a1 : Int) (a2 : Int) : Option (Int × Int) :=
 Option.bind (F_scalars_two_of_20) fun x139 =>
  Option.bind (F__scalars_number__plus (a1) (a2)) fun x140 =>
  some (x140)
noncomputable def F_release_total (a0 : List Int) : Option (Int) :=
 Option.bind (
  lpO (fun (s126 : Int × Int) =>
  cond (decide (s126.fst < (↑(List.length (List.map (SV.int IntKind.i64) a0)) : Int)))
  (idxO (a0) (s126.fst) fun x131 =>
  Option.bind (F_scalars_Two_of_20 (s126.snd) (x131)) fun x132 =>
  letO (IntKind.wrap IntKind.i64 (s126.fst + 1)) fun x133 =>
  some (Sum.inl ((x133, x132.fst))))
  (some (Sum.inr (Sum.inl (s126.snd))))) ((0, 0)))
  (Sum.elim (fun (s124 : Int) =>
  some (s124)) some)
noncomputable def F_release_folds_1 (a0 : List Int) : Option (Int) :=
 Option.bind (
  lpO (fun (s137 : Int × Int) =>
  cond (decide (s137.fst < (↑(List.length (List.map (SV.int IntKind.i64) a0)) : Int)))
  (idxO (a0) (s137.fst) fun x142 =>
  cond (!decide (x142 = 0))
  (letO (IntKind.wrap IntKind.i64 (s137.snd + 1)) fun x144 =>
  letO (IntKind.wrap IntKind.i64 (s137.fst + 1)) fun x145 =>
  some (Sum.inl ((x145, x144))))
  (letO (IntKind.wrap IntKind.i64 (s137.fst + 1)) fun x146 =>
  some (Sum.inl ((x146, s137.snd)))))
  (some (Sum.inr (Sum.inl (s137.snd))))) ((0, 0)))
  (Sum.elim (fun (s135 : Int) =>
  some (s135)) some)
noncomputable def F_slices_Min___int64_int64_ (a0 : List Int) : Option (Int) :=
 cond (decide ((↑(List.length (List.map (SV.int IntKind.i64) a0)) : Int) < 1))
  (none)
  (idxO (a0) (0) fun x149 =>
  Option.bind (
  lpO (fun (s152 : Int × Int) =>
  cond (decide (s152.fst < (↑(List.length (List.map (SV.int IntKind.i64) a0)) : Int)))
  (idxO (a0) (s152.fst) fun x156 =>
  letO (IntKind.wrap IntKind.i64 (s152.fst + 1)) fun x157 =>
  some (Sum.inl ((x157, min s152.snd x156))))
  (some (Sum.inr (Sum.inl (s152.snd))))) ((1, x149)))
  (Sum.elim (fun (s150 : Int) =>
  some (s150)) some))
noncomputable def F_release_folds_2 (a0 : List Int) : Option (Int) :=
 Option.bind (F_slices_Min___int64_int64_ (a0)) fun x158 =>
  some (x158)
noncomputable def F_slices_Max___int64_int64_ (a0 : List Int) : Option (Int) :=
 cond (decide ((↑(List.length (List.map (SV.int IntKind.i64) a0)) : Int) < 1))
  (none)
  (idxO (a0) (0) fun x161 =>
  Option.bind (
  lpO (fun (s164 : Int × Int) =>
  cond (decide (s164.fst < (↑(List.length (List.map (SV.int IntKind.i64) a0)) : Int)))
  (idxO (a0) (s164.fst) fun x168 =>
  letO (IntKind.wrap IntKind.i64 (s164.fst + 1)) fun x169 =>
  some (Sum.inl ((x169, max s164.snd x168))))
  (some (Sum.inr (Sum.inl (s164.snd))))) ((1, x161)))
  (Sum.elim (fun (s162 : Int) =>
  some (s162)) some))
noncomputable def F_release_folds_3 (a0 : List Int) : Option (Int) :=
 Option.bind (F_slices_Max___int64_int64_ (a0)) fun x170 =>
  some (x170)
noncomputable def F_release_Value (a0 : Int) (a1 : Int) (a2 : TArray) : Option ((Int × Int) × Int) :=
 Option.bind (F_release_Name (a0)) fun x33 =>
  cond (!decide (x33.snd = 0))
  (some (((0, 0), x33.snd)))
  (cond (decide (a1 < 2))
  (some (((0, 0), 7)))
  (cond (decide (400 < a1))
  (some (((0, 0), 7)))
  (Option.bind (F_arrays_Check (a2)) fun x119 =>
  cond (!decide (x119 = 0))
  (some (((0, 0), x119)))
  (cond (!decide (a2.Kind = 1))
  (some (((0, 0), 21)))
  (cond (!decide (a2.Rank = 1))
  (some (((0, 0), 22)))
  (cond (decide ((↑(List.length (List.map (SV.int IntKind.i64) a2.Cells)) : Int) < a1))
  (some (((0, 0), 0)))
  (pickO (a0) [
  none,
  Option.bind (F_release_total (a2.Cells)) fun x134 =>
  some (((1, x134), 0)),
  Option.bind (F_release_folds_1 (a2.Cells)) fun x147 =>
  some (((1, x147), 0)),
  Option.bind (F_release_folds_2 (a2.Cells)) fun x159 =>
  some (((1, x159), 0)),
  Option.bind (F_release_folds_3 (a2.Cells)) fun x171 =>
  some (((1, x171), 0))])))))))
noncomputable def F_invigilatorlaw28_ReleaseOrders (a0 : List Int) (a1 : List Int) (a2 : Int) : Option (Bool) :=
 cond (decide (200 < (↑(List.length (List.map (SV.int IntKind.i64) a0)) : Int)))
  (some (true))
  (cond (decide (400 < (↑(List.length (List.map (SV.int IntKind.u8) a1)) : Int)))
  (some (true))
  (cond (decide ((↑(List.length (List.map (SV.int IntKind.i64) a0)) : Int) < 2))
  (some (true))
  (sideO (((0 : Nat) + List.length (List.map (SV.int IntKind.i64) a0)) * (8 : Nat) ≤ (70368744177664 : Nat)) (
  Option.bind (
  lpO (fun (s6 : Int × List Int) =>
  letO (IntKind.wrap IntKind.i64 (s6.fst + 1)) fun x16 =>
  cond (decide (x16 < (↑(List.length (List.map (SV.int IntKind.u8) a1)) : Int)))
  (idxO (a1) (s6.fst) fun x18 =>
  letO (IntKind.wrap IntKind.i64 x18) fun x19 =>
  sideO ((↑(List.length (List.map (SV.int IntKind.i64) s6.snd)) : Int) ≠ (0 : Int)) (
  letO (IntKind.wrap IntKind.i64 (s6.fst + 1)) fun x20 =>
  idxO (a1) (x20) fun x21 =>
  letO (IntKind.wrap IntKind.i64 x21) fun x22 =>
  sideO ((↑(List.length (List.map (SV.int IntKind.i64) s6.snd)) : Int) ≠ (0 : Int)) (
  sideO ((0 : Int) ≤ Int.tmod x22 (↑(List.length (List.map (SV.int IntKind.i64) s6.snd)) : Int) ∧ Int.tmod x22 (↑(List.length (List.map (SV.int IntKind.i64) s6.snd)) : Int) < (↑(List.length (List.map (SV.int IntKind.i64) s6.snd)) : Int)) (
  idxO (s6.snd) ((↑(Int.toNat (Int.tmod x22 (↑(List.length (List.map (SV.int IntKind.i64) s6.snd)) : Int))) : Int)) fun x23 =>
  sideO ((0 : Int) ≤ Int.tmod x19 (↑(List.length (List.map (SV.int IntKind.i64) s6.snd)) : Int) ∧ Int.tmod x19 (↑(List.length (List.map (SV.int IntKind.i64) s6.snd)) : Int) < (↑(List.length (List.map (SV.int IntKind.i64) s6.snd)) : Int)) (
  idxO (s6.snd) ((↑(Int.toNat (Int.tmod x19 (↑(List.length (List.map (SV.int IntKind.i64) s6.snd)) : Int))) : Int)) fun x24 =>
  sideO ((0 : Int) ≤ Int.tmod x19 (↑(List.length (List.map (SV.int IntKind.i64) s6.snd)) : Int) ∧ Int.tmod x19 (↑(List.length (List.map (SV.int IntKind.i64) s6.snd)) : Int) < (↑(List.length (List.map (SV.int IntKind.i64) s6.snd)) : Int)) (
  idxO (s6.snd) ((↑(Int.toNat (Int.tmod x19 (↑(List.length (List.map (SV.int IntKind.i64) s6.snd)) : Int))) : Int)) fun x25 =>
  sideO ((0 : Int) ≤ Int.tmod x22 (↑(List.length (List.map (SV.int IntKind.i64) s6.snd)) : Int) ∧ Int.tmod x22 (↑(List.length (List.map (SV.int IntKind.i64) s6.snd)) : Int) < (↑(List.length (List.set (List.map (SV.int IntKind.i64) s6.snd) (Int.toNat (Int.tmod x19 (↑(List.length (List.map (SV.int IntKind.i64) s6.snd)) : Int))) (SV.int IntKind.i64 x23))) : Int)) (
  idxO (List.set s6.snd (Int.toNat (Int.tmod x19 (↑(List.length (List.map (SV.int IntKind.i64) s6.snd)) : Int))) x23) ((↑(Int.toNat (Int.tmod x22 (↑(List.length (List.map (SV.int IntKind.i64) s6.snd)) : Int))) : Int)) fun x26 =>
  letO (IntKind.wrap IntKind.i64 (s6.fst + 1)) fun x27 =>
  some (Sum.inl ((x27, List.set (List.set s6.snd (Int.toNat (Int.tmod x19 (↑(List.length (List.map (SV.int IntKind.i64) s6.snd)) : Int))) x23) (Int.toNat (Int.tmod x22 (↑(List.length (List.map (SV.int IntKind.i64) s6.snd)) : Int))) x24))))))))))
  (some (Sum.inr (Sum.inl (s6.snd))))) ((0, [] ++ a0)))
  (Sum.elim (fun (s4 : List Int) =>
  sideO (((0 : Nat) + List.length (List.map (SV.int IntKind.i64) a0)) * (8 : Nat) ≤ (70368744177664 : Nat)) (
  sideO ((List.length ([] ++ List.map (SV.int IntKind.i64) a0) + (1 : Nat)) * (8 : Nat) ≤ (70368744177664 : Nat)) (
  Option.bind (
  lpO (fun (s30 : Int) =>
  cond (decide (s30 ≤ 4))
  (Option.bind (F_invigilatorlaw28_vector (a0)) fun x61 =>
  Option.bind (F_release_Value (s30) (2) (x61)) fun x62 =>
  Option.bind (F_invigilatorlaw28_vector (s4)) fun x63 =>
  Option.bind (F_release_Value (s30) (2) (x63)) fun x64 =>
  Option.bind (F_invigilatorlaw28_vector ([] ++ a0 ++ [a2])) fun x65 =>
  Option.bind (F_release_Value (s30) (2) (x65)) fun x66 =>
  cond (!decide (x62.snd = 0))
  (some (Sum.inr (Sum.inr (false))))
  (cond (!decide (x64.snd = 0))
  (some (Sum.inr (Sum.inr (false))))
  (cond (!decide (x66.snd = 0))
  (some (Sum.inr (Sum.inr (false))))
  (cond (!decide (x62.fst.fst = 1))
  (some (Sum.inr (Sum.inr (false))))
  (cond (!decide (x64.fst.fst = 1))
  (some (Sum.inr (Sum.inr (false))))
  (cond (!decide (x66.fst.fst = 1))
  (some (Sum.inr (Sum.inr (false))))
  (cond (decide (s30 = 1))
  (Option.bind (
  lpO (fun (s76 : Int × Bool) =>
  cond (decide (s76.fst < (↑(List.length (List.map (SV.int IntKind.i64) a0)) : Int)))
  (cond (s76.snd)
  (idxO (a0) (s76.fst) fun x83 =>
  cond (decide (x83 ≤ 1099511627776))
  (idxO (a0) (s76.fst) fun x85 =>
  letO (IntKind.wrap IntKind.i64 (s76.fst + 1)) fun x86 =>
  some (Sum.inl ((x86, decide ((-1099511627776 : Int) ≤ x85)))))
  (letO (IntKind.wrap IntKind.i64 (s76.fst + 1)) fun x87 =>
  some (Sum.inl ((x87, false)))))
  (letO (IntKind.wrap IntKind.i64 (s76.fst + 1)) fun x88 =>
  some (Sum.inl ((x88, false)))))
  (some (Sum.inr (Sum.inl (s76.snd))))) ((0, true)))
  (Sum.elim (fun (s74 : Bool) =>
  cond (s74)
  (cond (!(decide (x62.fst.fst = x64.fst.fst) && (decide (x62.fst.snd = x64.fst.snd) && true)))
  (some (Sum.inr (Sum.inr (false))))
  (letO (IntKind.wrap IntKind.i64 (s30 + 1)) fun x91 =>
  some (Sum.inl (x91))))
  (letO (IntKind.wrap IntKind.i64 (s30 + 1)) fun x92 =>
  some (Sum.inl (x92)))) some))
  (cond (decide (s30 = 2))
  (cond (!(decide (x62.fst.fst = x64.fst.fst) && (decide (x62.fst.snd = x64.fst.snd) && true)))
  (some (Sum.inr (Sum.inr (false))))
  (cond (decide (a2 = 0))
  (cond (!(decide (x66.fst.fst = x62.fst.fst) && (decide (x66.fst.snd = x62.fst.snd) && true)))
  (some (Sum.inr (Sum.inr (false))))
  (cond (!decide (a2 = 0))
  (letO (IntKind.wrap IntKind.i64 (x62.fst.snd + 1)) fun x98 =>
  cond (!decide (x66.fst.snd = x98))
  (some (Sum.inr (Sum.inr (false))))
  (letO (IntKind.wrap IntKind.i64 (s30 + 1)) fun x100 =>
  some (Sum.inl (x100))))
  (letO (IntKind.wrap IntKind.i64 (s30 + 1)) fun x101 =>
  some (Sum.inl (x101)))))
  (cond (!decide (a2 = 0))
  (letO (IntKind.wrap IntKind.i64 (x62.fst.snd + 1)) fun x103 =>
  cond (!decide (x66.fst.snd = x103))
  (some (Sum.inr (Sum.inr (false))))
  (letO (IntKind.wrap IntKind.i64 (s30 + 1)) fun x105 =>
  some (Sum.inl (x105))))
  (letO (IntKind.wrap IntKind.i64 (s30 + 1)) fun x106 =>
  some (Sum.inl (x106))))))
  (cond (decide (s30 = 3))
  (cond (!(decide (x62.fst.fst = x64.fst.fst) && (decide (x62.fst.snd = x64.fst.snd) && true)))
  (some (Sum.inr (Sum.inr (false))))
  (cond (!decide (x66.fst.snd = min x62.fst.snd a2))
  (some (Sum.inr (Sum.inr (false))))
  (letO (IntKind.wrap IntKind.i64 (s30 + 1)) fun x110 =>
  some (Sum.inl (x110)))))
  (cond (!(decide (x62.fst.fst = x64.fst.fst) && (decide (x62.fst.snd = x64.fst.snd) && true)))
  (some (Sum.inr (Sum.inr (false))))
  (cond (!decide (x66.fst.snd = max x62.fst.snd a2))
  (some (Sum.inr (Sum.inr (false))))
  (letO (IntKind.wrap IntKind.i64 (s30 + 1)) fun x113 =>
  some (Sum.inl (x113))))))))))))))
  (some (Sum.inr (Sum.inl (()))))) (1))
  (Sum.elim (fun (s28 : Unit) =>
  some (true)) some)))) some)))))
end Go.Sx.O
namespace Go.Sx.O
open Go
theorem find_loop {α τ : Type} {l : List α} (p : α → Bool) {step : Int → Option (Int ⊕ τ)} {d : τ} {g : Int → τ}
    (h1 : ∀ (k : Nat) x, l[k]? = some x → step (k : Int) = if p x then some (.inr (g k)) else some (.inl ((k : Int) + 1)))
    (h2 : step (l.length : Int) = some (.inr d)) :
    lpO step 0 = (match l.findIdx? p with | some i => some (g i) | none => some d) := by
  have key : ∀ j k, j + k = l.length → lpO step (k : Int) = (match (l.drop k).findIdx? p with | some i => some (g ((k + i : Nat) : Int)) | none => some d) := by
    intro j
    induction j with
    | zero =>
      intro k hk
      rw [lpO_eq]
      have : k = l.length := by omega
      subst this
      rw [h2]
      simp
    | succ j ih =>
      intro k hk
      have hlt : k < l.length := by omega
      rw [lpO_eq, h1 k _ (List.getElem?_eq_getElem hlt), List.drop_eq_getElem_cons hlt, List.findIdx?_cons]
      split
      · simp
      · have := ih (k + 1) (by omega)
        simp only [Option.bind_some, Sum.elim_inl]
        push_cast at this
        rw [this]
        cases (l.drop (k + 1)).findIdx? p with
        | none => rfl
        | some i => simp; congr 1; omega
  have := key l.length 0 (by omega)
  simpa using this
end Go.Sx.O
namespace Go.Sx.O
open Go
end Go.Sx.O
namespace Go.Sx.O
open Go
end Go.Sx.O
namespace Go.Sx.O
open Go
end Go.Sx.O
namespace Go.Sx.O
open Go
def U8s (l : List Int) : Prop := ∀ x ∈ l, 0 ≤ x ∧ x < 256
theorem U8s.set {l : List Int} (h : U8s l) {i : Nat} {x : Int} (h0 : 0 ≤ x) (h1 : x < 256) : U8s (l.set i x) := by
  intro y hy
  rcases List.mem_or_eq_of_mem_set hy with g | g
  · exact h y g
  · subst g; exact ⟨h0, h1⟩
theorem get_lt {α : Type} {l : List α} {i : Nat} (h : i < l.length) : ∃ x, l[i]? = some x := ⟨_, List.getElem?_eq_getElem h⟩
end Go.Sx.O
namespace Go.Sx.O
open Go
end Go.Sx.O
namespace Go.Sx.O
open Go
theorem any_loop {α : Type} {l : List α} (p : α → Bool) {ε : Type} {step : Int → Option (Int ⊕ (ε ⊕ Int))} {e : ε} {G : Option Int}
    (hG : G = (lpO step 0).bind (Sum.elim (fun _ => some (-1)) some))
    (h1 : ∀ (k : Nat) x, l[k]? = some x → k < l.length → step (k : Int) = if p x then some (.inr (.inr (k : Int))) else some (.inl ((k : Int) + 1)))
    (h2 : step (l.length : Int) = some (.inr (.inl e))) : G.bind (fun x => some (decide (0 ≤ x))) = some (l.any p) := by
  rw [hG, find_loop (l := l) p (d := .inl e) (g := .inr) (fun k x hx => h1 k x hx (by
    rcases Nat.lt_or_ge k l.length with g | g
    · exact g
    · rw [List.getElem?_eq_none g] at hx; cases hx)) h2]
  cases h : l.findIdx? p with
  | none =>
    have := List.findIdx?_eq_none_iff.1 h
    simp only [Option.bind_some, Sum.elim_inl]
    have hn : l.any p = false := by rw [List.any_eq_false]; intro x hx; simp [this x hx]
    rw [hn]; rfl
  | some i =>
    obtain ⟨hi, hp, _⟩ := List.findIdx?_eq_some_iff_getElem.1 h
    have hy : l.any p = true := List.any_eq_true.2 ⟨_, List.getElem_mem hi, hp⟩
    simp [hy]
theorem ContainsFunc1 (l : List Int) (h : l.length ≤ 1000000000) : F_slices_ContainsFunc___int_int__of_shapes_Check_1 l = some (l.any fun x => decide (x < 0)) := by
  unfold F_slices_ContainsFunc___int_int__of_shapes_Check_1 F_slices_IndexFunc___int_int__of_shapes_Check_1
  refine any_loop (l := l) (fun x => decide (x < 0)) (e := ()) rfl (fun k x hx hlt => ?_) (by simp)
  simp only [List.length_map, Int.ofNat_lt, hlt, decide_true, cond_true, idxO, Int.toNat_natCast, hx, Option.bind_some, letO, Int.natCast_nonneg, if_true, F_shapes_Check_1]
  rw [w64 (by omega) (by omega)]
  cases decide (x < 0) <;> rfl
theorem ContainsFunc2 (l : List Int) (h : l.length ≤ 1000000000) : F_slices_ContainsFunc___int_int__of_shapes_Check_2 l = some (l.any fun x => !decide (x = 0)) := by
  unfold F_slices_ContainsFunc___int_int__of_shapes_Check_2 F_slices_IndexFunc___int_int__of_shapes_Check_2
  refine any_loop (l := l) (fun x => !decide (x = 0)) (e := ()) rfl (fun k x hx hlt => ?_) (by simp)
  simp only [List.length_map, Int.ofNat_lt, hlt, decide_true, cond_true, idxO, Int.toNat_natCast, hx, Option.bind_some, letO, Int.natCast_nonneg, if_true, F_shapes_Check_2]
  rw [w64 (by omega) (by omega)]
  cases decide (x = 0) <;> rfl
theorem ContainsFunc3 (l : List Int) (h : l.length ≤ 1000000000) : F_slices_ContainsFunc___int_int__of_shapes_Check_3 l = some (l.any fun x => decide (400 < x)) := by
  unfold F_slices_ContainsFunc___int_int__of_shapes_Check_3 F_slices_IndexFunc___int_int__of_shapes_Check_3
  refine any_loop (l := l) (fun x => decide (400 < x)) (e := ()) rfl (fun k x hx hlt => ?_) (by simp)
  simp only [List.length_map, Int.ofNat_lt, hlt, decide_true, cond_true, idxO, Int.toNat_natCast, hx, Option.bind_some, letO, Int.natCast_nonneg, if_true, F_shapes_Check_3]
  rw [w64 (by omega) (by omega)]
  cases decide (400 < x) <;> rfl
end Go.Sx.O
namespace Go.Sx.O
open Go
end Go.Sx.O
