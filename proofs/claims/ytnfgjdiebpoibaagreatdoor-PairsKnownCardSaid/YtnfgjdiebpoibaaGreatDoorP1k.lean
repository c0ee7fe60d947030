/-
  THE PLAIN STRUCT TYPES, and their symbolic values. Printed by a program. An own text.
  WHAT THE LIBRARY's BODILESS FUNCTIONS RETURN. An own text.
  DATA AS THEY COME: numbers in their kinds' ranges. Printed by a program. An own text.
-/
import Derived.Test.YtnfgjdiebpoibaaGreatDoorA6k
import Derived.Lib.Bytealg
namespace Go.Sx.O
structure Tlexer_reader where
  s_ : List UInt8
  at_ : Int
def enc_Tlexer_reader (x : Tlexer_reader) : SV := .agg [SV.str x.s_, (SV.int .i64) x.at_]
theorem nmd_Tlexer_reader {p : Nat → Prop} (x : Tlexer_reader) : (enc_Tlexer_reader x).nmd p := ⟨trivial, trivial, trivial⟩
structure Trelease_flow where
  low_ : Int
  high_ : Int
def enc_Trelease_flow (x : Trelease_flow) : SV := .agg [(SV.int .i64) x.low_, (SV.int .i64) x.high_]
theorem nmd_Trelease_flow {p : Nat → Prop} (x : Trelease_flow) : (enc_Trelease_flow x).nmd p := ⟨trivial, trivial, trivial⟩
structure TLattice where
  Names : List (List UInt8)
  Up : List (Int)
def enc_TLattice (x : TLattice) : SV := .agg [(encSl 1 SV.str) x.Names, (encSl 1 (SV.int .u8)) x.Up]
theorem nmd_TLattice {p : Nat → Prop} (x : TLattice) : (enc_TLattice x).nmd p := ⟨(nmd_rows fun _ => trivial), (nmd_rows fun _ => trivial), trivial⟩
structure TPoRule where
  From : Int
  Goal : Int
  K : Int
def enc_TPoRule (x : TPoRule) : SV := .agg [(SV.int .i64) x.From, (SV.int .i64) x.Goal, (SV.int .i64) x.K]
theorem nmd_TPoRule {p : Nat → Prop} (x : TPoRule) : (enc_TPoRule x).nmd p := ⟨trivial, trivial, trivial, trivial⟩
structure Ttypes_order where
  Lattice : TLattice
  bottom_ : Int
def enc_Ttypes_order (x : Ttypes_order) : SV := .agg [enc_TLattice x.Lattice, (SV.int .i64) x.bottom_]
theorem nmd_Ttypes_order {p : Nat → Prop} (x : Ttypes_order) : (enc_Ttypes_order x).nmd p := ⟨(nmd_TLattice _), trivial, trivial⟩
structure TLxToken where
  Kind : Int
  From : Int
  To : Int
  N : Int
  S : List UInt8
def enc_TLxToken (x : TLxToken) : SV := .agg [(SV.int .i64) x.Kind, (SV.int .i64) x.From, (SV.int .i64) x.To, (SV.int .i64) x.N, SV.str x.S]
theorem nmd_TLxToken {p : Nat → Prop} (x : TLxToken) : (enc_TLxToken x).nmd p := ⟨trivial, trivial, trivial, trivial, trivial, trivial⟩
structure Tlattice_order where
  n_ : Int
  up_ : List (Int)
  down_ : List (Int)
def enc_Tlattice_order (x : Tlattice_order) : SV := .agg [(SV.int .i64) x.n_, (encA 8 1 (SV.int .u8)) x.up_, (encA 8 1 (SV.int .u8)) x.down_]
theorem nmd_Tlattice_order {p : Nat → Prop} (x : Tlattice_order) : (enc_Tlattice_order x).nmd p := ⟨trivial, (nmd_rows fun _ => trivial), (nmd_rows fun _ => trivial), trivial⟩
structure TTyType where
  Kind : Int
  Rank : Int
  Axes : (Int) × (Int)
  Data : Int
def enc_TTyType (x : TTyType) : SV := .agg [(SV.int .i64) x.Kind, (SV.int .i64) x.Rank, (encA2 1 (SV.int .i64)) x.Axes, (SV.int .i64) x.Data]
theorem nmd_TTyType {p : Nat → Prop} (x : TTyType) : (enc_TTyType x).nmd p := ⟨trivial, trivial, ⟨trivial, trivial, trivial⟩, trivial, trivial⟩
structure TArray where
  Kind : Int
  Rank : Int
  Lens : (Int) × (Int)
  Cells : List (Int)
def enc_TArray (x : TArray) : SV := .agg [(SV.int .i64) x.Kind, (SV.int .i64) x.Rank, (encA2 1 (SV.int .i64)) x.Lens, (encSl 1 (SV.int .i64)) x.Cells]
theorem nmd_TArray {p : Nat → Prop} (x : TArray) : (enc_TArray x).nmd p := ⟨trivial, trivial, ⟨trivial, trivial, trivial⟩, (nmd_rows fun _ => trivial), trivial⟩
structure TInVar where
  Name : List UInt8
  Type_ : TTyType
def enc_TInVar (x : TInVar) : SV := .agg [SV.str x.Name, enc_TTyType x.Type_]
theorem nmd_TInVar {p : Nat → Prop} (x : TInVar) : (enc_TInVar x).nmd p := ⟨trivial, (nmd_TTyType _), trivial⟩
structure TWsVar where
  Name : List UInt8
  Value : TArray
def enc_TWsVar (x : TWsVar) : SV := .agg [SV.str x.Name, enc_TArray x.Value]
theorem nmd_TWsVar {p : Nat → Prop} (x : TWsVar) : (enc_TWsVar x).nmd p := ⟨trivial, (nmd_TArray _), trivial⟩
structure TReEntry where
  Site : Int
  Fold : Int
  From : Int
  Goal : Int
  Cells : Int
  Value : (Int) × (Int)
def enc_TReEntry (x : TReEntry) : SV := .agg [(SV.int .i64) x.Site, (SV.int .i64) x.Fold, (SV.int .i64) x.From, (SV.int .i64) x.Goal, (SV.int .i64) x.Cells, (encA2 1 (SV.int .i64)) x.Value]
theorem nmd_TReEntry {p : Nat → Prop} (x : TReEntry) : (enc_TReEntry x).nmd p := ⟨trivial, trivial, trivial, trivial, trivial, ⟨trivial, trivial, trivial⟩, trivial⟩
structure TEvEvent where
  Kind : Int
  Site : Int
  Steps : Int
  Label : Int
  Channel : List UInt8
  Value : TArray
  E : Int
def enc_TEvEvent (x : TEvEvent) : SV := .agg [(SV.int .i64) x.Kind, (SV.int .i64) x.Site, (SV.int .i64) x.Steps, (SV.int .i64) x.Label, SV.str x.Channel, enc_TArray x.Value, (SV.int .i64) x.E]
theorem nmd_TEvEvent {p : Nat → Prop} (x : TEvEvent) : (enc_TEvEvent x).nmd p := ⟨trivial, trivial, trivial, trivial, trivial, (nmd_TArray _), trivial, trivial⟩
structure TPolicy where
  Lattice : TLattice
  Channels : List (Tlexer_reader)
  Vars : List (TInVar)
  Rules : List (TPoRule)
def enc_TPolicy (x : TPolicy) : SV := .agg [enc_TLattice x.Lattice, (encSl 2 enc_Tlexer_reader) x.Channels, (encSl 6 enc_TInVar) x.Vars, (encSl 3 enc_TPoRule) x.Rules]
theorem nmd_TPolicy {p : Nat → Prop} (x : TPolicy) : (enc_TPolicy x).nmd p := ⟨(nmd_TLattice _), (nmd_rows fun _ => (nmd_Tlexer_reader _)), (nmd_rows fun _ => (nmd_TInVar _)), (nmd_rows fun _ => (nmd_TPoRule _)), trivial⟩
structure Tinvigilatorlaw28_Types where
  V : TTyType
  Y : TTyType
  From : Int
  Goal : Int
  PC : Int
  EC : Int
  Lower : Int
  Top : Int
def enc_Tinvigilatorlaw28_Types (x : Tinvigilatorlaw28_Types) : SV := .agg [enc_TTyType x.V, enc_TTyType x.Y, (SV.int .i64) x.From, (SV.int .i64) x.Goal, (SV.int .i64) x.PC, (SV.int .i64) x.EC, (SV.int .i64) x.Lower, (SV.int .i64) x.Top]
theorem nmd_Tinvigilatorlaw28_Types {p : Nat → Prop} (x : Tinvigilatorlaw28_Types) : (enc_Tinvigilatorlaw28_Types x).nmd p := ⟨(nmd_TTyType _), (nmd_TTyType _), trivial, trivial, trivial, trivial, trivial, trivial, trivial⟩
structure TEvTrace where
  Events : List (TEvEvent)
  Log : List (TReEntry)
  Vars : List (TWsVar)
  Steps : Int
def enc_TEvTrace (x : TEvTrace) : SV := .agg [(encSl 11 enc_TEvEvent) x.Events, (encSl 7 enc_TReEntry) x.Log, (encSl 6 enc_TWsVar) x.Vars, (SV.int .i64) x.Steps]
theorem nmd_TEvTrace {p : Nat → Prop} (x : TEvTrace) : (enc_TEvTrace x).nmd p := ⟨(nmd_rows fun _ => (nmd_TEvEvent _)), (nmd_rows fun _ => (nmd_TReEntry _)), (nmd_rows fun _ => (nmd_TWsVar _)), trivial, trivial⟩
end Go.Sx.O
namespace Go.Sx.O
noncomputable def F_internal_stringslite_IndexByte (a0 : List UInt8) (a1 : Int) : Option Int := some (Go.Lib.indexByte a0 a1.toNat.toUInt8)
def lenT : List Int := [0, 1, 2, 2, 3, 3, 3, 3, 4, 4, 4, 4, 4]
noncomputable def F_math_bits_Len (a0 : Int) : Option Int := if 0 ≤ a0 then lenT[a0.toNat]? else none
end Go.Sx.O
namespace Go.Sx.O
open Go
def inK (k : IntKind) (n : Int) : Prop := k.min ≤ n ∧ n ≤ k.max
def allW {α : Type} (W : α → Prop) (l : List α) : Prop := ∀ x ∈ l, W x
def allN {α : Type} (W : α → Prop) (l : List α) : Prop := (∀ x ∈ l, W x) ∧ l.length ≤ 9223372036854775807
def w2 {α : Type} (W : α → Prop) (p : α × α) : Prop := W p.1 ∧ W p.2
def w3 {α : Type} (W : α → Prop) (p : α × α × α) : Prop := W p.1 ∧ W p.2.1 ∧ W p.2.2
def wN {α : Type} (n : Nat) (W : α → Prop) (l : List α) : Prop := l.length = n ∧ ∀ x ∈ l, W x
structure W_Tlexer_reader (x : Tlexer_reader) : Prop where
  s_ : (fun _ => True) x.s_
  at_ : (inK .i64) x.at_
structure W_Trelease_flow (x : Trelease_flow) : Prop where
  low_ : (inK .i64) x.low_
  high_ : (inK .i64) x.high_
structure W_TLattice (x : TLattice) : Prop where
  Names : (allW (fun _ => True)) x.Names
  Up : (allW (inK .u8)) x.Up
structure W_TPoRule (x : TPoRule) : Prop where
  From : (inK .i64) x.From
  Goal : (inK .i64) x.Goal
  K : (inK .i64) x.K
structure W_Ttypes_order (x : Ttypes_order) : Prop where
  Lattice : W_TLattice x.Lattice
  bottom_ : (inK .i64) x.bottom_
structure W_TLxToken (x : TLxToken) : Prop where
  Kind : (inK .i64) x.Kind
  From : (inK .i64) x.From
  To : (inK .i64) x.To
  N : (inK .i64) x.N
  S : (fun _ => True) x.S
structure W_Tlattice_order (x : Tlattice_order) : Prop where
  n_ : (inK .i64) x.n_
  up_ : (wN 8 (inK .u8)) x.up_
  down_ : (wN 8 (inK .u8)) x.down_
structure W_TTyType (x : TTyType) : Prop where
  Kind : (inK .i64) x.Kind
  Rank : (inK .i64) x.Rank
  Axes : (w2 (inK .i64)) x.Axes
  Data : (inK .i64) x.Data
structure W_TArray (x : TArray) : Prop where
  Kind : (inK .i64) x.Kind
  Rank : (inK .i64) x.Rank
  Lens : (w2 (inK .i64)) x.Lens
  Cells : (allW (inK .i64)) x.Cells
structure W_TInVar (x : TInVar) : Prop where
  Name : (fun _ => True) x.Name
  Type_ : W_TTyType x.Type_
structure W_TWsVar (x : TWsVar) : Prop where
  Name : (fun _ => True) x.Name
  Value : W_TArray x.Value
structure W_TReEntry (x : TReEntry) : Prop where
  Site : (inK .i64) x.Site
  Fold : (inK .i64) x.Fold
  From : (inK .i64) x.From
  Goal : (inK .i64) x.Goal
  Cells : (inK .i64) x.Cells
  Value : (w2 (inK .i64)) x.Value
structure W_TEvEvent (x : TEvEvent) : Prop where
  Kind : (inK .i64) x.Kind
  Site : (inK .i64) x.Site
  Steps : (inK .i64) x.Steps
  Label : (inK .i64) x.Label
  Channel : (fun _ => True) x.Channel
  Value : W_TArray x.Value
  E : (inK .i64) x.E
structure W_TPolicy (x : TPolicy) : Prop where
  Lattice : W_TLattice x.Lattice
  Channels : (allW W_Tlexer_reader) x.Channels
  Vars : (allW W_TInVar) x.Vars
  Rules : (allW W_TPoRule) x.Rules
structure W_Tinvigilatorlaw28_Types (x : Tinvigilatorlaw28_Types) : Prop where
  V : W_TTyType x.V
  Y : W_TTyType x.Y
  From : (inK .i64) x.From
  Goal : (inK .i64) x.Goal
  PC : (inK .i64) x.PC
  EC : (inK .i64) x.EC
  Lower : (inK .i64) x.Lower
  Top : (inK .i64) x.Top
structure W_TEvTrace (x : TEvTrace) : Prop where
  Events : (allW W_TEvEvent) x.Events
  Log : (allW W_TReEntry) x.Log
  Vars : (allW W_TWsVar) x.Vars
  Steps : (inK .i64) x.Steps
end Go.Sx.O
