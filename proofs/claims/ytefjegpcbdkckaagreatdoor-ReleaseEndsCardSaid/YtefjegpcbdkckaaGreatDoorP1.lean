/-
  THE PLAIN STRUCT TYPES, and their symbolic values. Printed by a program. An own text.
  WHAT THE LIBRARY's BODILESS FUNCTIONS RETURN. An own text.
  DATA AS THEY COME: numbers in their kinds' ranges. Printed by a program. An own text.
  PLAIN FUNCTIONS: what the program computes. Printed by a program. An own text.
  PLAIN LAWS of the library's functions and of words, lattice. An own text.
  PLAIN LAWS: slices.Index, strings.Trim, words.Name. An own text.
  PLAIN LAWS: strings.Trim over ASCII, words.Name. An own text.
  PLAIN LAWS: bits; lattice.named, .of, .bound. An own text.
  PLAIN LAWS: lattice.of, .bound, .Check, .Leq. An own text.
  PLAIN LAWS: lattice.Leq; what an observer sees. An own text.
  PLAIN LAWS: shapes, arrays; arrays and events that are the same. An own text.
  PLAIN LAWS: expr.Name returns. An own text.
-/
import Derived.Test.YtefjegpcbdkckaaGreatDoorA5
import Derived.Lib.Bytealg
namespace Go.Sx.O
structure Tlexer_reader where
  s_ : List UInt8
  at_ : Int
def enc_Tlexer_reader (x : Tlexer_reader) : SV := .agg [SV.str x.s_, (SV.int .i64) x.at_]
theorem nmd_Tlexer_reader {p : Nat → Prop} (x : Tlexer_reader) : (enc_Tlexer_reader x).nmd p := ⟨trivial, trivial, trivial⟩
structure Trelease_flow where
  low_ : Int
  high_ : Int
def enc_Trelease_flow (x : Trelease_flow) : SV := .agg [(SV.int .i64) x.low_, (SV.int .i64) x.high_]
theorem nmd_Trelease_flow {p : Nat → Prop} (x : Trelease_flow) : (enc_Trelease_flow x).nmd p := ⟨trivial, trivial, trivial⟩
structure TLattice where
  Names : List (List UInt8)
  Up : List (Int)
def enc_TLattice (x : TLattice) : SV := .agg [(encSl 1 SV.str) x.Names, (encSl 1 (SV.int .u8)) x.Up]
theorem nmd_TLattice {p : Nat → Prop} (x : TLattice) : (enc_TLattice x).nmd p := ⟨(nmd_rows fun _ => trivial), (nmd_rows fun _ => trivial), trivial⟩
structure TPoRule where
  From : Int
  Goal : Int
  K : Int
def enc_TPoRule (x : TPoRule) : SV := .agg [(SV.int .i64) x.From, (SV.int .i64) x.Goal, (SV.int .i64) x.K]
theorem nmd_TPoRule {p : Nat → Prop} (x : TPoRule) : (enc_TPoRule x).nmd p := ⟨trivial, trivial, trivial, trivial⟩
structure Ttypes_order where
  Lattice : TLattice
  bottom_ : Int
def enc_Ttypes_order (x : Ttypes_order) : SV := .agg [enc_TLattice x.Lattice, (SV.int .i64) x.bottom_]
theorem nmd_Ttypes_order {p : Nat → Prop} (x : Ttypes_order) : (enc_Ttypes_order x).nmd p := ⟨(nmd_TLattice _), trivial, trivial⟩
structure TLxToken where
  Kind : Int
  From : Int
  To : Int
  N : Int
  S : List UInt8
def enc_TLxToken (x : TLxToken) : SV := .agg [(SV.int .i64) x.Kind, (SV.int .i64) x.From, (SV.int .i64) x.To, (SV.int .i64) x.N, SV.str x.S]
theorem nmd_TLxToken {p : Nat → Prop} (x : TLxToken) : (enc_TLxToken x).nmd p := ⟨trivial, trivial, trivial, trivial, trivial, trivial⟩
structure Tlattice_order where
  n_ : Int
  up_ : List (Int)
  down_ : List (Int)
def enc_Tlattice_order (x : Tlattice_order) : SV := .agg [(SV.int .i64) x.n_, (encA 8 1 (SV.int .u8)) x.up_, (encA 8 1 (SV.int .u8)) x.down_]
theorem nmd_Tlattice_order {p : Nat → Prop} (x : Tlattice_order) : (enc_Tlattice_order x).nmd p := ⟨trivial, (nmd_rows fun _ => trivial), (nmd_rows fun _ => trivial), trivial⟩
structure TTyType where
  Kind : Int
  Rank : Int
  Axes : (Int) × (Int)
  Data : Int
def enc_TTyType (x : TTyType) : SV := .agg [(SV.int .i64) x.Kind, (SV.int .i64) x.Rank, (encA2 1 (SV.int .i64)) x.Axes, (SV.int .i64) x.Data]
theorem nmd_TTyType {p : Nat → Prop} (x : TTyType) : (enc_TTyType x).nmd p := ⟨trivial, trivial, ⟨trivial, trivial, trivial⟩, trivial, trivial⟩
structure TArray where
  Kind : Int
  Rank : Int
  Lens : (Int) × (Int)
  Cells : List (Int)
def enc_TArray (x : TArray) : SV := .agg [(SV.int .i64) x.Kind, (SV.int .i64) x.Rank, (encA2 1 (SV.int .i64)) x.Lens, (encSl 1 (SV.int .i64)) x.Cells]
theorem nmd_TArray {p : Nat → Prop} (x : TArray) : (enc_TArray x).nmd p := ⟨trivial, trivial, ⟨trivial, trivial, trivial⟩, (nmd_rows fun _ => trivial), trivial⟩
structure TInVar where
  Name : List UInt8
  Type_ : TTyType
def enc_TInVar (x : TInVar) : SV := .agg [SV.str x.Name, enc_TTyType x.Type_]
theorem nmd_TInVar {p : Nat → Prop} (x : TInVar) : (enc_TInVar x).nmd p := ⟨trivial, (nmd_TTyType _), trivial⟩
structure TWsVar where
  Name : List UInt8
  Value : TArray
def enc_TWsVar (x : TWsVar) : SV := .agg [SV.str x.Name, enc_TArray x.Value]
theorem nmd_TWsVar {p : Nat → Prop} (x : TWsVar) : (enc_TWsVar x).nmd p := ⟨trivial, (nmd_TArray _), trivial⟩
structure TReEntry where
  Site : Int
  Fold : Int
  From : Int
  Goal : Int
  Cells : Int
  Value : (Int) × (Int)
def enc_TReEntry (x : TReEntry) : SV := .agg [(SV.int .i64) x.Site, (SV.int .i64) x.Fold, (SV.int .i64) x.From, (SV.int .i64) x.Goal, (SV.int .i64) x.Cells, (encA2 1 (SV.int .i64)) x.Value]
theorem nmd_TReEntry {p : Nat → Prop} (x : TReEntry) : (enc_TReEntry x).nmd p := ⟨trivial, trivial, trivial, trivial, trivial, ⟨trivial, trivial, trivial⟩, trivial⟩
structure TEvEvent where
  Kind : Int
  Site : Int
  Steps : Int
  Label : Int
  Channel : List UInt8
  Value : TArray
  E : Int
def enc_TEvEvent (x : TEvEvent) : SV := .agg [(SV.int .i64) x.Kind, (SV.int .i64) x.Site, (SV.int .i64) x.Steps, (SV.int .i64) x.Label, SV.str x.Channel, enc_TArray x.Value, (SV.int .i64) x.E]
theorem nmd_TEvEvent {p : Nat → Prop} (x : TEvEvent) : (enc_TEvEvent x).nmd p := ⟨trivial, trivial, trivial, trivial, trivial, (nmd_TArray _), trivial, trivial⟩
structure TPolicy where
  Lattice : TLattice
  Channels : List (Tlexer_reader)
  Vars : List (TInVar)
  Rules : List (TPoRule)
def enc_TPolicy (x : TPolicy) : SV := .agg [enc_TLattice x.Lattice, (encSl 2 enc_Tlexer_reader) x.Channels, (encSl 6 enc_TInVar) x.Vars, (encSl 3 enc_TPoRule) x.Rules]
theorem nmd_TPolicy {p : Nat → Prop} (x : TPolicy) : (enc_TPolicy x).nmd p := ⟨(nmd_TLattice _), (nmd_rows fun _ => (nmd_Tlexer_reader _)), (nmd_rows fun _ => (nmd_TInVar _)), (nmd_rows fun _ => (nmd_TPoRule _)), trivial⟩
structure Tinvigilatorlaw28_Types where
  V : TTyType
  Y : TTyType
  From : Int
  Goal : Int
  PC : Int
  EC : Int
  Lower : Int
  Top : Int
def enc_Tinvigilatorlaw28_Types (x : Tinvigilatorlaw28_Types) : SV := .agg [enc_TTyType x.V, enc_TTyType x.Y, (SV.int .i64) x.From, (SV.int .i64) x.Goal, (SV.int .i64) x.PC, (SV.int .i64) x.EC, (SV.int .i64) x.Lower, (SV.int .i64) x.Top]
theorem nmd_Tinvigilatorlaw28_Types {p : Nat → Prop} (x : Tinvigilatorlaw28_Types) : (enc_Tinvigilatorlaw28_Types x).nmd p := ⟨(nmd_TTyType _), (nmd_TTyType _), trivial, trivial, trivial, trivial, trivial, trivial, trivial⟩
structure TEvTrace where
  Events : List (TEvEvent)
  Log : List (TReEntry)
  Vars : List (TWsVar)
  Steps : Int
def enc_TEvTrace (x : TEvTrace) : SV := .agg [(encSl 11 enc_TEvEvent) x.Events, (encSl 7 enc_TReEntry) x.Log, (encSl 6 enc_TWsVar) x.Vars, (SV.int .i64) x.Steps]
theorem nmd_TEvTrace {p : Nat → Prop} (x : TEvTrace) : (enc_TEvTrace x).nmd p := ⟨(nmd_rows fun _ => (nmd_TEvEvent _)), (nmd_rows fun _ => (nmd_TReEntry _)), (nmd_rows fun _ => (nmd_TWsVar _)), trivial, trivial⟩
end Go.Sx.O
namespace Go.Sx.O
noncomputable def F_internal_stringslite_IndexByte (a0 : List UInt8) (a1 : Int) : Option Int := some (Go.Lib.indexByte a0 a1.toNat.toUInt8)
end Go.Sx.O
namespace Go.Sx.O
open Go
def inK (k : IntKind) (n : Int) : Prop := k.min ≤ n ∧ n ≤ k.max
def allW {α : Type} (W : α → Prop) (l : List α) : Prop := ∀ x ∈ l, W x
def w2 {α : Type} (W : α → Prop) (p : α × α) : Prop := W p.1 ∧ W p.2
def w3 {α : Type} (W : α → Prop) (p : α × α × α) : Prop := W p.1 ∧ W p.2.1 ∧ W p.2.2
def wN {α : Type} (n : Nat) (W : α → Prop) (l : List α) : Prop := l.length = n ∧ ∀ x ∈ l, W x
structure W_Tlexer_reader (x : Tlexer_reader) : Prop where
  s_ : (fun _ => True) x.s_
  at_ : (inK .i64) x.at_
structure W_Trelease_flow (x : Trelease_flow) : Prop where
  low_ : (inK .i64) x.low_
  high_ : (inK .i64) x.high_
structure W_TLattice (x : TLattice) : Prop where
  Names : (allW (fun _ => True)) x.Names
  Up : (allW (inK .u8)) x.Up
structure W_TPoRule (x : TPoRule) : Prop where
  From : (inK .i64) x.From
  Goal : (inK .i64) x.Goal
  K : (inK .i64) x.K
structure W_Ttypes_order (x : Ttypes_order) : Prop where
  Lattice : W_TLattice x.Lattice
  bottom_ : (inK .i64) x.bottom_
structure W_TLxToken (x : TLxToken) : Prop where
  Kind : (inK .i64) x.Kind
  From : (inK .i64) x.From
  To : (inK .i64) x.To
  N : (inK .i64) x.N
  S : (fun _ => True) x.S
structure W_Tlattice_order (x : Tlattice_order) : Prop where
  n_ : (inK .i64) x.n_
  up_ : (wN 8 (inK .u8)) x.up_
  down_ : (wN 8 (inK .u8)) x.down_
structure W_TTyType (x : TTyType) : Prop where
  Kind : (inK .i64) x.Kind
  Rank : (inK .i64) x.Rank
  Axes : (w2 (inK .i64)) x.Axes
  Data : (inK .i64) x.Data
structure W_TArray (x : TArray) : Prop where
  Kind : (inK .i64) x.Kind
  Rank : (inK .i64) x.Rank
  Lens : (w2 (inK .i64)) x.Lens
  Cells : (allW (inK .i64)) x.Cells
structure W_TInVar (x : TInVar) : Prop where
  Name : (fun _ => True) x.Name
  Type_ : W_TTyType x.Type_
structure W_TWsVar (x : TWsVar) : Prop where
  Name : (fun _ => True) x.Name
  Value : W_TArray x.Value
structure W_TReEntry (x : TReEntry) : Prop where
  Site : (inK .i64) x.Site
  Fold : (inK .i64) x.Fold
  From : (inK .i64) x.From
  Goal : (inK .i64) x.Goal
  Cells : (inK .i64) x.Cells
  Value : (w2 (inK .i64)) x.Value
structure W_TEvEvent (x : TEvEvent) : Prop where
  Kind : (inK .i64) x.Kind
  Site : (inK .i64) x.Site
  Steps : (inK .i64) x.Steps
  Label : (inK .i64) x.Label
  Channel : (fun _ => True) x.Channel
  Value : W_TArray x.Value
  E : (inK .i64) x.E
structure W_TPolicy (x : TPolicy) : Prop where
  Lattice : W_TLattice x.Lattice
  Channels : (allW W_Tlexer_reader) x.Channels
  Vars : (allW W_TInVar) x.Vars
  Rules : (allW W_TPoRule) x.Rules
structure W_Tinvigilatorlaw28_Types (x : Tinvigilatorlaw28_Types) : Prop where
  V : W_TTyType x.V
  Y : W_TTyType x.Y
  From : (inK .i64) x.From
  Goal : (inK .i64) x.Goal
  PC : (inK .i64) x.PC
  EC : (inK .i64) x.EC
  Lower : (inK .i64) x.Lower
  Top : (inK .i64) x.Top
structure W_TEvTrace (x : TEvTrace) : Prop where
  Events : (allW W_TEvEvent) x.Events
  Log : (allW W_TReEntry) x.Log
  Vars : (allW W_TWsVar) x.Vars
  Steps : (inK .i64) x.Steps
end Go.Sx.O
namespace Go.Sx.O
noncomputable def F_invigilatorlaw28_vector (a0 : List Int) : Option (TArray) :=
 some (TArray.mk 1 1 ((↑(List.length (List.map (SV.int IntKind.i64) a0)) : Int), 0) a0)
noncomputable def F_release_Name (a0 : Int) : Option (List UInt8 × Int) :=
 cond (decide (a0 < 1))
  (some (((ByteArray.mk #[]).data.toList, 2)))
  (cond (decide (4 < a0))
  (some (((ByteArray.mk #[]).data.toList, 2)))
  (pickO (a0) [
  some (([], 0)),
  some (([(115 : UInt8), (117 : UInt8), (109 : UInt8)], 0)),
  some (([(99 : UInt8), (111 : UInt8), (117 : UInt8), (110 : UInt8), (116 : UInt8)], 0)),
  some (([(108 : UInt8), (101 : UInt8), (97 : UInt8), (115 : UInt8), (116 : UInt8)], 0)),
  some (([(109 : UInt8), (111 : UInt8), (115 : UInt8), (116 : UInt8)], 0))]))
noncomputable def F_shapes_Check_1 (a0 : Int) : Option (Bool) :=
 some (decide (a0 < 0))
noncomputable def F_slices_IndexFunc___int_int__of_shapes_Check_1 (a0 : List Int) : Option (Int) :=
 Option.bind (
  lpO (fun (s36 : Int) =>
  cond (decide (s36 < (↑(List.length (List.map (SV.int IntKind.i64) a0)) : Int)))
  (idxO (a0) (s36) fun x42 =>
  Option.bind (F_shapes_Check_1 (x42)) fun x43 =>
  cond (x43)
  (some (Sum.inr (Sum.inr (s36))))
  (letO (IntKind.wrap IntKind.i64 (s36 + 1)) fun x45 =>
  some (Sum.inl (x45))))
  (some (Sum.inr (Sum.inl (()))))) (0))
  (Sum.elim (fun (s34 : Unit) =>
  some ((-1 : Int))) some)
noncomputable def F_slices_ContainsFunc___int_int__of_shapes_Check_1 (a0 : List Int) : Option (Bool) :=
 Option.bind (F_slices_IndexFunc___int_int__of_shapes_Check_1 (a0)) fun x46 =>
  some (decide (0 ≤ x46))
noncomputable def F_shapes_Check_2 (a0 : Int) : Option (Bool) :=
 some (!decide (a0 = 0))
noncomputable def F_slices_IndexFunc___int_int__of_shapes_Check_2 (a0 : List Int) : Option (Int) :=
 Option.bind (
  lpO (fun (s51 : Int) =>
  cond (decide (s51 < (↑(List.length (List.map (SV.int IntKind.i64) a0)) : Int)))
  (idxO (a0) (s51) fun x57 =>
  Option.bind (F_shapes_Check_2 (x57)) fun x58 =>
  cond (x58)
  (some (Sum.inr (Sum.inr (s51))))
  (letO (IntKind.wrap IntKind.i64 (s51 + 1)) fun x60 =>
  some (Sum.inl (x60))))
  (some (Sum.inr (Sum.inl (()))))) (0))
  (Sum.elim (fun (s49 : Unit) =>
  some ((-1 : Int))) some)
noncomputable def F_slices_ContainsFunc___int_int__of_shapes_Check_2 (a0 : List Int) : Option (Bool) :=
 Option.bind (F_slices_IndexFunc___int_int__of_shapes_Check_2 (a0)) fun x61 =>
  some (decide (0 ≤ x61))
noncomputable def F_shapes_Check_3 (a0 : Int) : Option (Bool) :=
 some (decide (400 < a0))
noncomputable def F_slices_IndexFunc___int_int__of_shapes_Check_3 (a0 : List Int) : Option (Int) :=
 Option.bind (
  lpO (fun (s66 : Int) =>
  cond (decide (s66 < (↑(List.length (List.map (SV.int IntKind.i64) a0)) : Int)))
  (idxO (a0) (s66) fun x72 =>
  Option.bind (F_shapes_Check_3 (x72)) fun x73 =>
  cond (x73)
  (some (Sum.inr (Sum.inr (s66))))
  (letO (IntKind.wrap IntKind.i64 (s66 + 1)) fun x75 =>
  some (Sum.inl (x75))))
  (some (Sum.inr (Sum.inl (()))))) (0))
  (Sum.elim (fun (s64 : Unit) =>
  some ((-1 : Int))) some)
noncomputable def F_slices_ContainsFunc___int_int__of_shapes_Check_3 (a0 : List Int) : Option (Bool) :=
 Option.bind (F_slices_IndexFunc___int_int__of_shapes_Check_3 (a0)) fun x76 =>
  some (decide (0 ≤ x76))
noncomputable def F_shapes_product (a0 : Int) (a1 : Int × Int) : Option (Int) :=
 cond (decide (a0 = 2))
  (letO (IntKind.wrap IntKind.i64 (1 * a1.snd)) fun x80 =>
  letO (IntKind.wrap IntKind.i64 (x80 * a1.fst)) fun x81 =>
  some (x81))
  (cond (decide (a0 = 1))
  (letO (IntKind.wrap IntKind.i64 (1 * a1.fst)) fun x83 =>
  some (x83))
  (some (1)))
noncomputable def F_shapes_Check (a0 : Int) (a1 : Int × Int) : Option (Int) :=
 cond (decide (a0 < 0))
  (some (7))
  (cond (decide (2 < a0))
  (some (7))
  (sideO ((0 : Int) ≤ a0 ∧ a0 ≤ (↑(2 : Nat) : Int)) (
  sideO ((0 : Int) ≤ a0 ∧ a0 ≤ (↑(2 : Nat) : Int)) (
  Option.bind (F_slices_ContainsFunc___int_int__of_shapes_Check_1 (List.drop (Int.toNat 0) (List.take (Int.toNat a0) [a1.fst, a1.snd]))) fun x47 =>
  cond (x47)
  (some (7))
  (Option.bind (F_slices_ContainsFunc___int_int__of_shapes_Check_2 (List.drop (Int.toNat a0) (List.take (Int.toNat (↑2 : Int)) [a1.fst, a1.snd]))) fun x62 =>
  cond (x62)
  (some (6))
  (Option.bind (F_slices_ContainsFunc___int_int__of_shapes_Check_3 (List.drop (Int.toNat 0) (List.take (Int.toNat a0) [a1.fst, a1.snd]))) fun x77 =>
  cond (x77)
  (some (15))
  (Option.bind (F_shapes_product (a0) (a1)) fun x84 =>
  cond (decide (400 < x84))
  (some (15))
  (some (0)))))))))
noncomputable def F_shapes_Cells (a0 : Int) (a1 : Int × Int) : Option (Int × Int) :=
 Option.bind (F_shapes_Check (a0) (a1)) fun x86 =>
  cond (!decide (x86 = 0))
  (some ((0, x86)))
  (Option.bind (F_shapes_product (a0) (a1)) fun x88 =>
  some ((x88, 0)))
noncomputable def F_unicode_utf8_ValidRune (a0 : Int) : Option (Bool) :=
 cond (decide (0 ≤ a0))
  (cond (decide (a0 < 55296))
  (some (true))
  (cond (decide (57343 < a0))
  (cond (decide (a0 ≤ 1114111))
  (some (true))
  (some (false)))
  (some (false))))
  (cond (decide (57343 < a0))
  (cond (decide (a0 ≤ 1114111))
  (some (true))
  (some (false)))
  (some (false)))
noncomputable def F_arrays_right (a0 : Int) (a1 : Int) : Option (Bool) :=
 cond (decide (a0 = 1))
  (some (true))
  (cond (decide (0 ≤ a1))
  (cond (decide (a1 ≤ 1114111))
  (letO (IntKind.wrap IntKind.i32 a1) fun x99 =>
  Option.bind (F_unicode_utf8_ValidRune (x99)) fun x106 =>
  some (x106))
  (some (false)))
  (some (false)))
noncomputable def F_arrays_Check_1 (a0 : Int) (a1 : TArray) : Option (Bool) :=
 Option.bind (F_arrays_right (a1.Kind) (a0)) fun x107 =>
  some (!x107)
noncomputable def F_slices_IndexFunc___int64_int64__of_arrays_Check_1 (a0 : List Int) (a1 : TArray) : Option (Int) :=
 Option.bind (
  lpO (fun (s94 : Int) =>
  cond (decide (s94 < (↑(List.length (List.map (SV.int IntKind.i64) a0)) : Int)))
  (idxO (a0) (s94) fun x100 =>
  Option.bind (F_arrays_Check_1 (x100) (a1)) fun x101 =>
  cond (x101)
  (some (Sum.inr (Sum.inr (s94))))
  (letO (IntKind.wrap IntKind.i64 (s94 + 1)) fun x103 =>
  some (Sum.inl (x103))))
  (some (Sum.inr (Sum.inl (()))))) (0))
  (Sum.elim (fun (s92 : Unit) =>
  some ((-1 : Int))) some)
noncomputable def F_slices_ContainsFunc___int64_int64__of_arrays_Check_1 (a0 : List Int) (a1 : TArray) : Option (Bool) :=
 Option.bind (F_slices_IndexFunc___int64_int64__of_arrays_Check_1 (a0) (a1)) fun x104 =>
  some (decide (0 ≤ x104))
noncomputable def F_arrays_Check (a0 : TArray) : Option (Int) :=
 cond (!decide (a0.Kind = 1))
  (cond (!decide (a0.Kind = 2))
  (some (2))
  (Option.bind (F_shapes_Cells (a0.Rank) (a0.Lens)) fun x89 =>
  cond (!decide (x89.snd = 0))
  (some (x89.snd))
  (cond (!decide ((↑(List.length (List.map (SV.int IntKind.i64) a0.Cells)) : Int) = x89.fst))
  (some (6))
  (Option.bind (F_slices_ContainsFunc___int64_int64__of_arrays_Check_1 (a0.Cells) (a0)) fun x105 =>
  cond (x105)
  (some (7))
  (some (0))))))
  (Option.bind (F_shapes_Cells (a0.Rank) (a0.Lens)) fun x107 =>
  cond (!decide (x107.snd = 0))
  (some (x107.snd))
  (cond (!decide ((↑(List.length (List.map (SV.int IntKind.i64) a0.Cells)) : Int) = x107.fst))
  (some (6))
  (Option.bind (F_slices_ContainsFunc___int64_int64__of_arrays_Check_1 (a0.Cells) (a0)) fun x110 =>
  cond (x110)
  (some (7))
  (some (0)))))
noncomputable def F_scalars_two_of_20 : Option (Unit) :=
 some (())
noncomputable def F__scalars_number__add (a0 : Int) (a1 : Int) : Option (Int × Int) :=
 letO (IntKind.wrap IntKind.i64 (a0 + a1)) fun x122 =>
  cond (decide (bits BinOp.and IntKind.i64 (bits BinOp.xor IntKind.i64 a0 x122) (bits BinOp.xor IntKind.i64 a1 x122) < 0))
  (some ((0, 12)))
  (some ((x122, 0)))
noncomputable def F_scalars_limit (a0 : Int) (a1 : Int) (a2 : Bool) : Option (Int × Int) :=
 cond (decide (a1 = 0))
  (some ((a0, 0)))
  (cond (a2)
  (some (((-9223372036854775808 : Int), 0)))
  (some ((9223372036854775807, 0))))
noncomputable def F__scalars_number__plus (a0 : Int) (a1 : Int) : Option (Int × Int) :=
 Option.bind (F__scalars_number__add (a0) (a1)) fun x124 =>
  Option.bind (F_scalars_limit (x124.fst) (x124.snd) (decide (a0 < 0))) fun x127 =>
  some (x127)
noncomputable def F_scalars_Two_of_20_0 (a2 : Int) : Option (Int × Int) :=
 Option.bind (F_scalars_two_of_20) fun x121 =>
  Option.bind (F__scalars_number__plus (0) (a2)) fun x128 =>
  some (x128)
noncomputable def F_scalars_Two_of_20 (a1 : Int) (a2 : Int) : Option (Int × Int) :=
 Option.bind (F_scalars_two_of_20) fun x132 =>
  Option.bind (F__scalars_number__plus (a1) (a2)) fun x133 =>
  some (x133)
noncomputable def F_release_total (a0 : List Int) : Option (Int) :=
 Option.bind (
  lpO (fun (s119 : Int × Int) =>
  cond (decide (s119.fst < (↑(List.length (List.map (SV.int IntKind.i64) a0)) : Int)))
  (idxO (a0) (s119.fst) fun x124 =>
  Option.bind (F_scalars_Two_of_20 (s119.snd) (x124)) fun x125 =>
  letO (IntKind.wrap IntKind.i64 (s119.fst + 1)) fun x126 =>
  some (Sum.inl ((x126, x125.fst))))
  (some (Sum.inr (Sum.inl (s119.snd))))) ((0, 0)))
  (Sum.elim (fun (s117 : Int) =>
  some (s117)) some)
noncomputable def F_release_folds_1 (a0 : List Int) : Option (Int) :=
 Option.bind (
  lpO (fun (s130 : Int × Int) =>
  cond (decide (s130.fst < (↑(List.length (List.map (SV.int IntKind.i64) a0)) : Int)))
  (idxO (a0) (s130.fst) fun x135 =>
  cond (!decide (x135 = 0))
  (letO (IntKind.wrap IntKind.i64 (s130.snd + 1)) fun x137 =>
  letO (IntKind.wrap IntKind.i64 (s130.fst + 1)) fun x138 =>
  some (Sum.inl ((x138, x137))))
  (letO (IntKind.wrap IntKind.i64 (s130.fst + 1)) fun x139 =>
  some (Sum.inl ((x139, s130.snd)))))
  (some (Sum.inr (Sum.inl (s130.snd))))) ((0, 0)))
  (Sum.elim (fun (s128 : Int) =>
  some (s128)) some)
noncomputable def F_slices_Min___int64_int64_ (a0 : List Int) : Option (Int) :=
 cond (decide ((↑(List.length (List.map (SV.int IntKind.i64) a0)) : Int) < 1))
  (none)
  (idxO (a0) (0) fun x142 =>
  Option.bind (
  lpO (fun (s145 : Int × Int) =>
  cond (decide (s145.fst < (↑(List.length (List.map (SV.int IntKind.i64) a0)) : Int)))
  (idxO (a0) (s145.fst) fun x149 =>
  letO (IntKind.wrap IntKind.i64 (s145.fst + 1)) fun x150 =>
  some (Sum.inl ((x150, min s145.snd x149))))
  (some (Sum.inr (Sum.inl (s145.snd))))) ((1, x142)))
  (Sum.elim (fun (s143 : Int) =>
  some (s143)) some))
noncomputable def F_release_folds_2 (a0 : List Int) : Option (Int) :=
 Option.bind (F_slices_Min___int64_int64_ (a0)) fun x151 =>
  some (x151)
noncomputable def F_slices_Max___int64_int64_ (a0 : List Int) : Option (Int) :=
 cond (decide ((↑(List.length (List.map (SV.int IntKind.i64) a0)) : Int) < 1))
  (none)
  (idxO (a0) (0) fun x154 =>
  Option.bind (
  lpO (fun (s157 : Int × Int) =>
  cond (decide (s157.fst < (↑(List.length (List.map (SV.int IntKind.i64) a0)) : Int)))
  (idxO (a0) (s157.fst) fun x161 =>
  letO (IntKind.wrap IntKind.i64 (s157.fst + 1)) fun x162 =>
  some (Sum.inl ((x162, max s157.snd x161))))
  (some (Sum.inr (Sum.inl (s157.snd))))) ((1, x154)))
  (Sum.elim (fun (s155 : Int) =>
  some (s155)) some))
noncomputable def F_release_folds_3 (a0 : List Int) : Option (Int) :=
 Option.bind (F_slices_Max___int64_int64_ (a0)) fun x163 =>
  some (x163)
noncomputable def F_release_Value (a0 : Int) (a1 : Int) (a2 : TArray) : Option ((Int × Int) × Int) :=
 Option.bind (F_release_Name (a0)) fun x26 =>
  cond (!decide (x26.snd = 0))
  (some (((0, 0), x26.snd)))
  (cond (decide (a1 < 2))
  (some (((0, 0), 7)))
  (cond (decide (400 < a1))
  (some (((0, 0), 7)))
  (Option.bind (F_arrays_Check (a2)) fun x112 =>
  cond (!decide (x112 = 0))
  (some (((0, 0), x112)))
  (cond (!decide (a2.Kind = 1))
  (some (((0, 0), 21)))
  (cond (!decide (a2.Rank = 1))
  (some (((0, 0), 22)))
  (cond (decide ((↑(List.length (List.map (SV.int IntKind.i64) a2.Cells)) : Int) < a1))
  (some (((0, 0), 0)))
  (pickO (a0) [
  none,
  Option.bind (F_release_total (a2.Cells)) fun x127 =>
  some (((1, x127), 0)),
  Option.bind (F_release_folds_1 (a2.Cells)) fun x140 =>
  some (((1, x140), 0)),
  Option.bind (F_release_folds_2 (a2.Cells)) fun x152 =>
  some (((1, x152), 0)),
  Option.bind (F_release_folds_3 (a2.Cells)) fun x164 =>
  some (((1, x164), 0))])))))))
noncomputable def F_invigilatorlaw28_ReleaseEnds (a0 : List Int) (a1 : Int) : Option (Bool) :=
 cond (decide (100 < (↑(List.length (List.map (SV.int IntKind.i64) a0)) : Int)))
  (some (true))
  (cond (decide ((↑(List.length (List.map (SV.int IntKind.i64) a0)) : Int) < 2))
  (some (true))
  (Option.bind (
  lpO (fun (s5 : Int × Bool × Int) =>
  cond (decide (s5.fst < (↑(List.length (List.map (SV.int IntKind.i64) a0)) : Int)))
  (idxO (a0) (s5.fst) fun x14 =>
  cond (decide (x14 < 0))
  (some (Sum.inr (Sum.inr (true))))
  (idxO (a0) (s5.fst) fun x16 =>
  letO (IntKind.wrap IntKind.i64 (9223372036854775807 - s5.snd.snd)) fun x17 =>
  cond (decide (x17 < x16))
  (letO (IntKind.wrap IntKind.i64 (s5.fst + 1)) fun x19 =>
  some (Sum.inl ((x19, true, 9223372036854775807))))
  (idxO (a0) (s5.fst) fun x20 =>
  letO (IntKind.wrap IntKind.i64 (s5.snd.snd + x20)) fun x21 =>
  letO (IntKind.wrap IntKind.i64 (s5.fst + 1)) fun x22 =>
  some (Sum.inl ((x22, s5.snd.fst, x21))))))
  (some (Sum.inr (Sum.inl (s5.snd))))) ((0, false, 0)))
  (Sum.elim (fun (s3 : Bool × Int) =>
  Option.bind (F_invigilatorlaw28_vector (a0)) fun x23 =>
  Option.bind (F_release_Value (1) (2) (x23)) fun x165 =>
  sideO (((0 : Nat) + List.length (List.map (SV.int IntKind.i64) a0)) * (8 : Nat) ≤ (70368744177664 : Nat)) (
  sideO ((List.length ([] ++ List.map (SV.int IntKind.i64) a0) + (1 : Nat)) * (8 : Nat) ≤ (70368744177664 : Nat)) (
  Option.bind (F_invigilatorlaw28_vector ([] ++ a0 ++ [a1])) fun x166 =>
  Option.bind (F_release_Value (1) (2) (x166)) fun x167 =>
  cond (!decide (x165.snd = 0))
  (some (false))
  (cond (!decide (x167.snd = 0))
  (some (false))
  (cond (!(decide (x165.fst.fst = 1) && (decide (x165.fst.snd = s3.snd) && true)))
  (some (false))
  (cond (s3.fst)
  (cond (!decide (x165.fst.snd = 9223372036854775807))
  (some (false))
  (cond (decide (a1 ≤ 0))
  (letO (IntKind.wrap IntKind.i64 (s3.snd + a1)) fun x174 =>
  cond (decide (x167.fst.snd = x174))
  (some (true))
  (some (false)))
  (cond (decide (x167.fst.snd = 9223372036854775807))
  (cond (decide (s3.snd ≤ x167.fst.snd))
  (some (true))
  (some (false)))
  (letO (IntKind.wrap IntKind.i64 (s3.snd + a1)) fun x178 =>
  cond (decide (x167.fst.snd = x178))
  (cond (decide (s3.snd ≤ x167.fst.snd))
  (some (true))
  (some (false)))
  (some (false))))))
  (cond (decide (a1 ≤ 0))
  (letO (IntKind.wrap IntKind.i64 (s3.snd + a1)) fun x182 =>
  cond (decide (x167.fst.snd = x182))
  (some (true))
  (some (false)))
  (cond (decide (x167.fst.snd = 9223372036854775807))
  (cond (decide (s3.snd ≤ x167.fst.snd))
  (some (true))
  (some (false)))
  (letO (IntKind.wrap IntKind.i64 (s3.snd + a1)) fun x186 =>
  cond (decide (x167.fst.snd = x186))
  (cond (decide (s3.snd ≤ x167.fst.snd))
  (some (true))
  (some (false)))
  (some (false))))))))))) some)))
end Go.Sx.O
namespace Go.Sx.O
open Go
theorem find_loop {α τ : Type} {l : List α} (p : α → Bool) {step : Int → Option (Int ⊕ τ)} {d : τ} {g : Int → τ}
    (h1 : ∀ (k : Nat) x, l[k]? = some x → step (k : Int) = if p x then some (.inr (g k)) else some (.inl ((k : Int) + 1)))
    (h2 : step (l.length : Int) = some (.inr d)) :
    lpO step 0 = (match l.findIdx? p with | some i => some (g i) | none => some d) := by
  have key : ∀ j k, j + k = l.length → lpO step (k : Int) = (match (l.drop k).findIdx? p with | some i => some (g ((k + i : Nat) : Int)) | none => some d) := by
    intro j
    induction j with
    | zero =>
      intro k hk
      rw [lpO_eq]
      have : k = l.length := by omega
      subst this
      rw [h2]
      simp
    | succ j ih =>
      intro k hk
      have hlt : k < l.length := by omega
      rw [lpO_eq, h1 k _ (List.getElem?_eq_getElem hlt), List.drop_eq_getElem_cons hlt, List.findIdx?_cons]
      split
      · simp
      · have := ih (k + 1) (by omega)
        simp only [Option.bind_some, Sum.elim_inl]
        push_cast at this
        rw [this]
        cases (l.drop (k + 1)).findIdx? p with
        | none => rfl
        | some i => simp; congr 1; omega
  have := key l.length 0 (by omega)
  simpa using this
end Go.Sx.O
namespace Go.Sx.O
open Go
end Go.Sx.O
namespace Go.Sx.O
open Go
end Go.Sx.O
namespace Go.Sx.O
open Go
end Go.Sx.O
namespace Go.Sx.O
open Go
theorem get_lt {α : Type} {l : List α} {i : Nat} (h : i < l.length) : ∃ x, l[i]? = some x := ⟨_, List.getElem?_eq_getElem h⟩
end Go.Sx.O
namespace Go.Sx.O
open Go
end Go.Sx.O
namespace Go.Sx.O
open Go
theorem any_loop {α : Type} {l : List α} (p : α → Bool) {ε : Type} {step : Int → Option (Int ⊕ (ε ⊕ Int))} {e : ε} {G : Option Int}
    (hG : G = (lpO step 0).bind (Sum.elim (fun _ => some (-1)) some))
    (h1 : ∀ (k : Nat) x, l[k]? = some x → k < l.length → step (k : Int) = if p x then some (.inr (.inr (k : Int))) else some (.inl ((k : Int) + 1)))
    (h2 : step (l.length : Int) = some (.inr (.inl e))) : G.bind (fun x => some (decide (0 ≤ x))) = some (l.any p) := by
  rw [hG, find_loop (l := l) p (d := .inl e) (g := .inr) (fun k x hx => h1 k x hx (by
    rcases Nat.lt_or_ge k l.length with g | g
    · exact g
    · rw [List.getElem?_eq_none g] at hx; cases hx)) h2]
  cases h : l.findIdx? p with
  | none =>
    have := List.findIdx?_eq_none_iff.1 h
    simp only [Option.bind_some, Sum.elim_inl]
    have hn : l.any p = false := by rw [List.any_eq_false]; intro x hx; simp [this x hx]
    rw [hn]; rfl
  | some i =>
    obtain ⟨hi, hp, _⟩ := List.findIdx?_eq_some_iff_getElem.1 h
    have hy : l.any p = true := List.any_eq_true.2 ⟨_, List.getElem_mem hi, hp⟩
    simp [hy]
theorem ContainsFunc1 (l : List Int) (h : l.length ≤ 1000000000) : F_slices_ContainsFunc___int_int__of_shapes_Check_1 l = some (l.any fun x => decide (x < 0)) := by
  unfold F_slices_ContainsFunc___int_int__of_shapes_Check_1 F_slices_IndexFunc___int_int__of_shapes_Check_1
  refine any_loop (l := l) (fun x => decide (x < 0)) (e := ()) rfl (fun k x hx hlt => ?_) (by simp)
  simp only [List.length_map, Int.ofNat_lt, hlt, decide_true, cond_true, idxO, Int.toNat_natCast, hx, Option.bind_some, letO, Int.natCast_nonneg, if_true, F_shapes_Check_1]
  rw [w64 (by omega) (by omega)]
  cases decide (x < 0) <;> rfl
theorem ContainsFunc2 (l : List Int) (h : l.length ≤ 1000000000) : F_slices_ContainsFunc___int_int__of_shapes_Check_2 l = some (l.any fun x => !decide (x = 0)) := by
  unfold F_slices_ContainsFunc___int_int__of_shapes_Check_2 F_slices_IndexFunc___int_int__of_shapes_Check_2
  refine any_loop (l := l) (fun x => !decide (x = 0)) (e := ()) rfl (fun k x hx hlt => ?_) (by simp)
  simp only [List.length_map, Int.ofNat_lt, hlt, decide_true, cond_true, idxO, Int.toNat_natCast, hx, Option.bind_some, letO, Int.natCast_nonneg, if_true, F_shapes_Check_2]
  rw [w64 (by omega) (by omega)]
  cases decide (x = 0) <;> rfl
theorem ContainsFunc3 (l : List Int) (h : l.length ≤ 1000000000) : F_slices_ContainsFunc___int_int__of_shapes_Check_3 l = some (l.any fun x => decide (400 < x)) := by
  unfold F_slices_ContainsFunc___int_int__of_shapes_Check_3 F_slices_IndexFunc___int_int__of_shapes_Check_3
  refine any_loop (l := l) (fun x => decide (400 < x)) (e := ()) rfl (fun k x hx hlt => ?_) (by simp)
  simp only [List.length_map, Int.ofNat_lt, hlt, decide_true, cond_true, idxO, Int.toNat_natCast, hx, Option.bind_some, letO, Int.natCast_nonneg, if_true, F_shapes_Check_3]
  rw [w64 (by omega) (by omega)]
  cases decide (400 < x) <;> rfl
end Go.Sx.O
namespace Go.Sx.O
open Go
end Go.Sx.O
