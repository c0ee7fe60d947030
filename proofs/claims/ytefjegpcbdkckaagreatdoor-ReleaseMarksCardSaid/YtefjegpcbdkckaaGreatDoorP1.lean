/-
  THE PLAIN STRUCT TYPES, and their symbolic values. Printed by a program. An own text.
  WHAT THE LIBRARY's BODILESS FUNCTIONS RETURN. An own text.
  DATA AS THEY COME: numbers in their kinds' ranges. Printed by a program. An own text.
  PLAIN FUNCTIONS: what the program computes. Printed by a program. An own text.
  PLAIN LAWS of the library's functions and of words, lattice. An own text.
  PLAIN LAWS: slices.Index, strings.Trim, words.Name. An own text.
  PLAIN LAWS: strings.Trim over ASCII, words.Name. An own text.
  PLAIN LAWS: bits; lattice.named, .of, .bound. An own text.
  PLAIN LAWS: lattice.of, .bound, .Check, .Leq. An own text.
  PLAIN LAWS: lattice.Leq; what an observer sees. An own text.
  PLAIN LAWS: shapes, arrays; arrays and events that are the same. An own text.
  PLAIN LAWS: expr.Name returns. An own text.
-/
import Derived.Test.YtefjegpcbdkckaaGreatDoorA5
import Derived.Lib.Bytealg
namespace Go.Sx.O
structure TR where
 s_ : List UInt8
 at_ : Int
def enc_TR (x : TR) : SV := .agg [SV.str x.s_, (SV.int .i64) x.at_]
theorem nmd_TR {p : Nat → Prop} (x : TR) : (enc_TR x).nmd p := ⟨trivial, trivial, trivial⟩
structure TF where
 low_ : Int
 high_ : Int
def enc_TF (x : TF) : SV := .agg [(SV.int .i64) x.low_, (SV.int .i64) x.high_]
theorem nmd_TF {p : Nat → Prop} (x : TF) : (enc_TF x).nmd p := ⟨trivial, trivial, trivial⟩
structure TL where
 Names : List (List UInt8)
 Up : List (Int)
def enc_TL (x : TL) : SV := .agg [(encSl 1 SV.str) x.Names, (encSl 1 (SV.int .u8)) x.Up]
theorem nmd_TL {p : Nat → Prop} (x : TL) : (enc_TL x).nmd p := ⟨(nmd_rows fun _ => trivial), (nmd_rows fun _ => trivial), trivial⟩
structure TU where
 From : Int
 Goal : Int
 K : Int
def enc_TU (x : TU) : SV := .agg [(SV.int .i64) x.From, (SV.int .i64) x.Goal, (SV.int .i64) x.K]
theorem nmd_TU {p : Nat → Prop} (x : TU) : (enc_TU x).nmd p := ⟨trivial, trivial, trivial, trivial⟩
structure TG where
 Lattice : TL
 bottom_ : Int
def enc_TG (x : TG) : SV := .agg [enc_TL x.Lattice, (SV.int .i64) x.bottom_]
theorem nmd_TG {p : Nat → Prop} (x : TG) : (enc_TG x).nmd p := ⟨(nmd_TL _), trivial, trivial⟩
structure TK where
 Kind : Int
 From : Int
 To : Int
 N : Int
 S : List UInt8
def enc_TK (x : TK) : SV := .agg [(SV.int .i64) x.Kind, (SV.int .i64) x.From, (SV.int .i64) x.To, (SV.int .i64) x.N, SV.str x.S]
theorem nmd_TK {p : Nat → Prop} (x : TK) : (enc_TK x).nmd p := ⟨trivial, trivial, trivial, trivial, trivial, trivial⟩
structure Tlattice_order where
 n_ : Int
 up_ : List (Int)
 down_ : List (Int)
def enc_Tlattice_order (x : Tlattice_order) : SV := .agg [(SV.int .i64) x.n_, (encA 8 1 (SV.int .u8)) x.up_, (encA 8 1 (SV.int .u8)) x.down_]
theorem nmd_Tlattice_order {p : Nat → Prop} (x : Tlattice_order) : (enc_Tlattice_order x).nmd p := ⟨trivial, (nmd_rows fun _ => trivial), (nmd_rows fun _ => trivial), trivial⟩
structure TY where
 Kind : Int
 Rank : Int
 Axes : (Int) × (Int)
 Data : Int
def enc_TY (x : TY) : SV := .agg [(SV.int .i64) x.Kind, (SV.int .i64) x.Rank, (encA2 1 (SV.int .i64)) x.Axes, (SV.int .i64) x.Data]
theorem nmd_TY {p : Nat → Prop} (x : TY) : (enc_TY x).nmd p := ⟨trivial, trivial, ⟨trivial, trivial, trivial⟩, trivial, trivial⟩
structure TA where
 Kind : Int
 Rank : Int
 Lens : (Int) × (Int)
 Cells : List (Int)
def enc_TA (x : TA) : SV := .agg [(SV.int .i64) x.Kind, (SV.int .i64) x.Rank, (encA2 1 (SV.int .i64)) x.Lens, (encSl 1 (SV.int .i64)) x.Cells]
theorem nmd_TA {p : Nat → Prop} (x : TA) : (enc_TA x).nmd p := ⟨trivial, trivial, ⟨trivial, trivial, trivial⟩, (nmd_rows fun _ => trivial), trivial⟩
structure TV where
 Name : List UInt8
 Type_ : TY
def enc_TV (x : TV) : SV := .agg [SV.str x.Name, enc_TY x.Type_]
theorem nmd_TV {p : Nat → Prop} (x : TV) : (enc_TV x).nmd p := ⟨trivial, (nmd_TY _), trivial⟩
structure TW where
 Name : List UInt8
 Value : TA
def enc_TW (x : TW) : SV := .agg [SV.str x.Name, enc_TA x.Value]
theorem nmd_TW {p : Nat → Prop} (x : TW) : (enc_TW x).nmd p := ⟨trivial, (nmd_TA _), trivial⟩
structure TE where
 Site : Int
 Fold : Int
 From : Int
 Goal : Int
 Cells : Int
 Value : (Int) × (Int)
def enc_TE (x : TE) : SV := .agg [(SV.int .i64) x.Site, (SV.int .i64) x.Fold, (SV.int .i64) x.From, (SV.int .i64) x.Goal, (SV.int .i64) x.Cells, (encA2 1 (SV.int .i64)) x.Value]
theorem nmd_TE {p : Nat → Prop} (x : TE) : (enc_TE x).nmd p := ⟨trivial, trivial, trivial, trivial, trivial, ⟨trivial, trivial, trivial⟩, trivial⟩
structure TB where
 Kind : Int
 Site : Int
 Steps : Int
 Label : Int
 Channel : List UInt8
 Value : TA
 E : Int
def enc_TB (x : TB) : SV := .agg [(SV.int .i64) x.Kind, (SV.int .i64) x.Site, (SV.int .i64) x.Steps, (SV.int .i64) x.Label, SV.str x.Channel, enc_TA x.Value, (SV.int .i64) x.E]
theorem nmd_TB {p : Nat → Prop} (x : TB) : (enc_TB x).nmd p := ⟨trivial, trivial, trivial, trivial, trivial, (nmd_TA _), trivial, trivial⟩
structure TP where
 Lattice : TL
 Channels : List (TR)
 Vars : List (TV)
 Rules : List (TU)
def enc_TP (x : TP) : SV := .agg [enc_TL x.Lattice, (encSl 2 enc_TR) x.Channels, (encSl 6 enc_TV) x.Vars, (encSl 3 enc_TU) x.Rules]
theorem nmd_TP {p : Nat → Prop} (x : TP) : (enc_TP x).nmd p := ⟨(nmd_TL _), (nmd_rows fun _ => (nmd_TR _)), (nmd_rows fun _ => (nmd_TV _)), (nmd_rows fun _ => (nmd_TU _)), trivial⟩
structure Tinvigilatorlaw28_Types where
 V : TY
 Y : TY
 From : Int
 Goal : Int
 PC : Int
 EC : Int
 Lower : Int
 Top : Int
def enc_Tinvigilatorlaw28_Types (x : Tinvigilatorlaw28_Types) : SV := .agg [enc_TY x.V, enc_TY x.Y, (SV.int .i64) x.From, (SV.int .i64) x.Goal, (SV.int .i64) x.PC, (SV.int .i64) x.EC, (SV.int .i64) x.Lower, (SV.int .i64) x.Top]
theorem nmd_Tinvigilatorlaw28_Types {p : Nat → Prop} (x : Tinvigilatorlaw28_Types) : (enc_Tinvigilatorlaw28_Types x).nmd p := ⟨(nmd_TY _), (nmd_TY _), trivial, trivial, trivial, trivial, trivial, trivial, trivial⟩
structure TC where
 Events : List (TB)
 Log : List (TE)
 Vars : List (TW)
 Steps : Int
def enc_TC (x : TC) : SV := .agg [(encSl 11 enc_TB) x.Events, (encSl 7 enc_TE) x.Log, (encSl 6 enc_TW) x.Vars, (SV.int .i64) x.Steps]
theorem nmd_TC {p : Nat → Prop} (x : TC) : (enc_TC x).nmd p := ⟨(nmd_rows fun _ => (nmd_TB _)), (nmd_rows fun _ => (nmd_TE _)), (nmd_rows fun _ => (nmd_TW _)), trivial, trivial⟩
end Go.Sx.O
namespace Go.Sx.O
noncomputable def F_internal_stringslite_IndexByte (a0 : List UInt8) (a1 : Int) : Option Int := some (Go.Lib.indexByte a0 a1.toNat.toUInt8)
end Go.Sx.O
namespace Go.Sx.O
open Go
def inK (k : IntKind) (n : Int) : Prop := k.min ≤ n ∧ n ≤ k.max
def allW {α : Type} (W : α → Prop) (l : List α) : Prop := ∀ x ∈ l, W x
def w2 {α : Type} (W : α → Prop) (p : α × α) : Prop := W p.1 ∧ W p.2
def w3 {α : Type} (W : α → Prop) (p : α × α × α) : Prop := W p.1 ∧ W p.2.1 ∧ W p.2.2
def wN {α : Type} (n : Nat) (W : α → Prop) (l : List α) : Prop := l.length = n ∧ ∀ x ∈ l, W x
structure W_TR (x : TR) : Prop where
 s_ : (fun _ => True) x.s_
 at_ : (inK .i64) x.at_
structure W_TF (x : TF) : Prop where
 low_ : (inK .i64) x.low_
 high_ : (inK .i64) x.high_
structure W_TL (x : TL) : Prop where
 Names : (allW (fun _ => True)) x.Names
 Up : (allW (inK .u8)) x.Up
structure W_TU (x : TU) : Prop where
 From : (inK .i64) x.From
 Goal : (inK .i64) x.Goal
 K : (inK .i64) x.K
structure W_TG (x : TG) : Prop where
 Lattice : W_TL x.Lattice
 bottom_ : (inK .i64) x.bottom_
structure W_TK (x : TK) : Prop where
 Kind : (inK .i64) x.Kind
 From : (inK .i64) x.From
 To : (inK .i64) x.To
 N : (inK .i64) x.N
 S : (fun _ => True) x.S
structure W_Tlattice_order (x : Tlattice_order) : Prop where
 n_ : (inK .i64) x.n_
 up_ : (wN 8 (inK .u8)) x.up_
 down_ : (wN 8 (inK .u8)) x.down_
structure W_TY (x : TY) : Prop where
 Kind : (inK .i64) x.Kind
 Rank : (inK .i64) x.Rank
 Axes : (w2 (inK .i64)) x.Axes
 Data : (inK .i64) x.Data
structure W_TA (x : TA) : Prop where
 Kind : (inK .i64) x.Kind
 Rank : (inK .i64) x.Rank
 Lens : (w2 (inK .i64)) x.Lens
 Cells : (allW (inK .i64)) x.Cells
structure W_TV (x : TV) : Prop where
 Name : (fun _ => True) x.Name
 Type_ : W_TY x.Type_
structure W_TW (x : TW) : Prop where
 Name : (fun _ => True) x.Name
 Value : W_TA x.Value
structure W_TE (x : TE) : Prop where
 Site : (inK .i64) x.Site
 Fold : (inK .i64) x.Fold
 From : (inK .i64) x.From
 Goal : (inK .i64) x.Goal
 Cells : (inK .i64) x.Cells
 Value : (w2 (inK .i64)) x.Value
structure W_TB (x : TB) : Prop where
 Kind : (inK .i64) x.Kind
 Site : (inK .i64) x.Site
 Steps : (inK .i64) x.Steps
 Label : (inK .i64) x.Label
 Channel : (fun _ => True) x.Channel
 Value : W_TA x.Value
 E : (inK .i64) x.E
structure W_TP (x : TP) : Prop where
 Lattice : W_TL x.Lattice
 Channels : (allW W_TR) x.Channels
 Vars : (allW W_TV) x.Vars
 Rules : (allW W_TU) x.Rules
structure W_Tinvigilatorlaw28_Types (x : Tinvigilatorlaw28_Types) : Prop where
 V : W_TY x.V
 Y : W_TY x.Y
 From : (inK .i64) x.From
 Goal : (inK .i64) x.Goal
 PC : (inK .i64) x.PC
 EC : (inK .i64) x.EC
 Lower : (inK .i64) x.Lower
 Top : (inK .i64) x.Top
structure W_TC (x : TC) : Prop where
 Events : (allW W_TB) x.Events
 Log : (allW W_TE) x.Log
 Vars : (allW W_TW) x.Vars
 Steps : (inK .i64) x.Steps
end Go.Sx.O
namespace Go.Sx.O
noncomputable def Fz0 (a0 : List (List UInt8)) : Option (Bool) :=
 Option.bind (
 lpO (fun (s25 : Int) =>
 cond (decide (s25 < (↑(List.length (List.map SV.str a0)) : Int)))
 (cond (decide (s25 < 20))
 (idxO a0 s25 fun x31 =>
 cond (decide (100 < (↑(List.length x31) : Int)))
 (some (.inr (.inr (true))))
 (letO (IntKind.wrap .i64 (s25 + 1)) fun x33 =>
 some (.inl x33)))
 (some (.inr (.inl ()))))
 (some (.inr (.inl ())))) (0))
 (Sum.elim (fun (s23 : Unit) =>
 some (decide (12 < (↑(List.length (List.map SV.str a0)) : Int)))) some)
noncomputable def Fz1 (a0 : TL) : Option (Bool) :=
 (Fz0 (a0.Names)).bind fun x34 =>
 cond x34
 (some (true))
 (some (decide (12 < (↑(List.length (List.map (SV.int .u8) a0.Up)) : Int))))
noncomputable def Fz2 (a0 : TP) : Option (Bool) :=
 Option.bind (
 lpO (fun (s3 : Int) =>
 cond (decide (s3 < (↑(List.length (List.map enc_TR a0.Channels)) : Int)))
 (cond (decide (s3 < 25))
 (idxO (a0.Channels) s3 fun x9 =>
 cond (decide (100 < (↑(List.length x9.s_) : Int)))
 (some (.inr (.inr (true))))
 (letO (IntKind.wrap .i64 (s3 + 1)) fun x11 =>
 some (.inl x11)))
 (some (.inr (.inl ()))))
 (some (.inr (.inl ())))) (0))
 (Sum.elim (fun (s1 : Unit) =>
 Option.bind (
 lpO (fun (s14 : Int) =>
 cond (decide (s14 < (↑(List.length (List.map enc_TV a0.Vars)) : Int)))
 (cond (decide (s14 < 45))
 (idxO (a0.Vars) s14 fun x20 =>
 cond (decide (100 < (↑(List.length x20.Name) : Int)))
 (some (.inr (.inr (true))))
 (letO (IntKind.wrap .i64 (s14 + 1)) fun x22 =>
 some (.inl x22)))
 (some (.inr (.inl ()))))
 (some (.inr (.inl ())))) (0))
 (Sum.elim (fun (s12 : Unit) =>
 (Fz1 (a0.Lattice)).bind fun x36 =>
 cond x36
 (some (true))
 (cond (decide (20 < (↑(List.length (List.map enc_TR a0.Channels)) : Int)))
 (some (true))
 (cond (decide (40 < (↑(List.length (List.map enc_TV a0.Vars)) : Int)))
 (some (true))
 (some (decide (70 < (↑(List.length (List.map enc_TU a0.Rules)) : Int))))))) some)) some)
noncomputable def Fz3 (a0 : List UInt8) (a1 : Int) : Option (List UInt8) :=
 Option.bind (
 lpO (fun (s65 : List UInt8) =>
 cond (decide (0 < (↑(List.length s65) : Int)))
 (letO (IntKind.wrap .i64 ((↑(List.length s65) : Int) - 1)) fun x72 =>
 idxO s65 x72 fun x73 =>
 cond (decide ((↑(UInt8.toNat x73) : Int) = a1))
 (letO (IntKind.wrap .i64 ((↑(List.length s65) : Int) - 1)) fun x75 =>
 sideO (0 ≤ x75 ∧ x75 ≤ (↑(List.length s65) : Int)) (
 some (.inl (List.drop (Int.toNat 0) (List.take (Int.toNat x75) s65)))))
 (some (.inr (.inl s65))))
 (some (.inr (.inl s65)))) a0)
 (Sum.elim (fun (s63 : List UInt8) =>
 some s63) some)
noncomputable def Fz4 (a0 : List UInt8) (a1 : Int) : Option (List UInt8) :=
 Option.bind (
 lpO (fun (s80 : List UInt8) =>
 cond (decide (0 < (↑(List.length s80) : Int)))
 (idxO s80 (0) fun x85 =>
 cond (decide ((↑(UInt8.toNat x85) : Int) = a1))
 (sideO ((0 : Int) ≤ (1 : Int) ∧ (1 : Int) ≤ (↑(List.length s80) : Int)) (
 some (.inl (List.drop (Int.toNat 1) (List.take (Int.toNat (↑(List.length s80) : Int)) s80)))))
 (some (.inr (.inl s80))))
 (some (.inr (.inl s80)))) a0)
 (Sum.elim (fun (s78 : List UInt8) =>
 some s78) some)
noncomputable def Fz5 (a0 : List UInt8) : Option (List Bool × Bool) :=
 Option.bind (
 lpO (fun (s90 : Int × List Bool) =>
 cond (decide (s90.fst < (↑(List.length a0) : Int)))
 (idxO a0 (s90.fst) fun x96 =>
 cond (decide (128 ≤ (↑(UInt8.toNat x96) : Int)))
 (some (.inr (.inr ((s90.snd, false)))))
 (sideO ((0 : Int) ≤ (↑(UInt8.toNat x96) : Int) ∧ (↑(UInt8.toNat x96) : Int) < (↑(256 : Nat) : Int)) (
 idxO (s90.snd) ((↑(Int.toNat (↑(UInt8.toNat x96) : Int)) : Int)) fun x98 =>
 letO (IntKind.wrap .i64 (s90.fst + 1)) fun x99 =>
 some (.inl ((x99, List.set s90.snd (Int.toNat (↑(UInt8.toNat x96) : Int)) true))))))
 (some (.inr (.inl (s90.snd))))) ((0, List.replicate 256 false)))
 (Sum.elim (fun (s88 : List Bool) =>
 some ((s88, true))) some)
noncomputable def Fz6 (a0 : List Bool) (a1 : Int) : Option (Bool) :=
 sideO (0 ≤ a1 ∧ a1 < (↑(256 : Nat) : Int)) (
 idxO a0 ((↑(Int.toNat a1) : Int)) fun x107 =>
 some x107)
noncomputable def Fz7 (a0 : List UInt8) (a1 : List Bool) : Option (List UInt8) :=
 Option.bind (
 lpO (fun (s104 : List UInt8) =>
 cond (decide (0 < (↑(List.length s104) : Int)))
 (letO (IntKind.wrap .i64 ((↑(List.length s104) : Int) - 1)) fun x112 =>
 idxO s104 x112 fun x113 =>
 (Fz6 a1 ((↑(UInt8.toNat x113) : Int))).bind fun x114 =>
 cond (!x114)
 (some (.inr (.inl s104)))
 (letO (IntKind.wrap .i64 ((↑(List.length s104) : Int) - 1)) fun x116 =>
 sideO (0 ≤ x116 ∧ x116 ≤ (↑(List.length s104) : Int)) (
 some (.inl (List.drop (Int.toNat 0) (List.take (Int.toNat x116) s104))))))
 (some (.inr (.inl s104)))) a0)
 (Sum.elim (fun (s102 : List UInt8) =>
 some s102) some)
noncomputable def Fz8 (a0 : List UInt8) (a1 : List Bool) : Option (List UInt8) :=
 Option.bind (
 lpO (fun (s120 : List UInt8) =>
 cond (decide (0 < (↑(List.length s120) : Int)))
 (idxO s120 (0) fun x126 =>
 (Fz6 a1 ((↑(UInt8.toNat x126) : Int))).bind fun x127 =>
 cond (!x127)
 (some (.inr (.inl s120)))
 (sideO ((0 : Int) ≤ (1 : Int) ∧ (1 : Int) ≤ (↑(List.length s120) : Int)) (
 some (.inl (List.drop (Int.toNat 1) (List.take (Int.toNat (↑(List.length s120) : Int)) s120))))))
 (some (.inr (.inl s120)))) a0)
 (Sum.elim (fun (s118 : List UInt8) =>
 some s118) some)
noncomputable def Fz9 (a0 : Int) : Option (Bool) :=
 some (!decide (bits BinOp.and IntKind.u8 a0 192 = 128))
noncomputable def Fz10 (a0 : List UInt8) : Option (Int × Int) :=
 cond (decide ((↑(List.length a0) : Int) < 1))
 (some ((65533, 0)))
 (idxO a0 (0) fun x164 =>
 none)
noncomputable def Fz11 (a0 : List UInt8) : Option (Int × Int) :=
 cond (!decide (a0 = (ByteArray.mk #[]).data.toList))
 (idxO a0 (0) fun x159 =>
 cond (decide ((↑(UInt8.toNat x159) : Int) < 128))
 (idxO a0 (0) fun x161 =>
 letO (IntKind.wrap .i32 (↑(UInt8.toNat x161) : Int)) fun x162 =>
 some ((x162, 1)))
 ((Fz10 a0).bind fun x165 =>
 some x165))
 ((Fz10 a0).bind fun x166 =>
 some x166)
noncomputable def Fz12 (a0 : List UInt8) : Option (Int × Int) :=
 cond (decide ((↑(List.length a0) : Int) = 0))
 (some ((65533, 0)))
 (letO (IntKind.wrap .i64 ((↑(List.length a0) : Int) - 1)) fun x138 =>
 idxO a0 x138 fun x139 =>
 letO (IntKind.wrap .i32 (↑(UInt8.toNat x139) : Int)) fun x140 =>
 cond (decide (x140 < 128))
 (some ((x140, 1)))
 (letO (IntKind.wrap .i64 ((↑(List.length a0) : Int) - 4)) fun x142 =>
 letO (IntKind.wrap .i64 (x138 - 1)) fun x143 =>
 Option.bind (
 lpO (fun (s146 : Int) =>
 cond (decide (max x142 0 ≤ s146))
 (idxO a0 s146 fun x153 =>
 (Fz9 ((↑(UInt8.toNat x153) : Int))).bind fun x154 =>
 cond x154
 (some (.inr (.inl s146)))
 (letO (IntKind.wrap .i64 (s146 - 1)) fun x156 =>
 some (.inl x156)))
 (some (.inr (.inl s146)))) x143)
 (Sum.elim (fun (s144 : Int) =>
 cond (decide (s144 < 0))
 (sideO ((0 : Int) ≤ (0 : Int) ∧ (0 : Int) ≤ (↑(List.length a0) : Int) ∧ (↑(List.length a0) : Int) ≤ (↑(List.length a0) : Int)) (
 (Fz11 (List.drop (Int.toNat 0) (List.take (Int.toNat (↑(List.length a0) : Int)) a0))).bind fun x167 =>
 letO (IntKind.wrap .i64 (0 + x167.snd)) fun x168 =>
 cond (!decide (x168 = (↑(List.length a0) : Int)))
 (some ((65533, 1)))
 (some x167)))
 (sideO (0 ≤ s144 ∧ s144 ≤ (↑(List.length a0) : Int) ∧ (↑(List.length a0) : Int) ≤ (↑(List.length a0) : Int)) (
 (Fz11 (List.drop (Int.toNat s144) (List.take (Int.toNat (↑(List.length a0) : Int)) a0))).bind fun x170 =>
 letO (IntKind.wrap .i64 (s144 + x170.snd)) fun x171 =>
 cond (!decide (x171 = (↑(List.length a0) : Int)))
 (some ((65533, 1)))
 (some x170)))) some)))
noncomputable def Fz13 (a0 : List UInt8) (a1 : Int) : Option (Int) :=
 (F_internal_stringslite_IndexByte a0 a1).bind fun x177 =>
 some x177
noncomputable def Fz14 (a0 : Int) : Option (Bool) :=
 cond (decide (0 ≤ a0))
 (cond (decide (a0 < 55296))
 (some (true))
 (cond (decide (57343 < a0))
 (cond (decide (a0 ≤ 1114111))
 (some (true))
 (some (false)))
 (some (false))))
 (cond (decide (57343 < a0))
 (cond (decide (a0 ≤ 1114111))
 (some (true))
 (some (false)))
 (some (false)))
noncomputable def Fz15 (a0 : List UInt8) (a1 : Int) : Option (Int) :=
 cond (decide (0 ≤ a1))
 (cond (decide (a1 < 128))
 (letO (IntKind.wrap .u8 a1) fun x176 =>
 (Fz13 a0 x176).bind fun x178 =>
 some x178)
 (cond (decide (a1 = 65533))
 (none)
 ((Fz14 a1).bind fun x186 =>
 cond (!x186)
 (some ((-1 : Int)))
 (letO (IntKind.wrap .i64 ((↑(List.length (Utf8.encode a1).data.toList) : Int) - 1)) fun x188 =>
 Option.bind (
 lpO (fun (s191 : Unit) =>
 cond (decide (x188 < (↑(List.length a0) : Int)))
 (idxO a0 x188 fun x193 =>
 idxO ((Utf8.encode a1).data.toList) x188 fun x194 =>
 cond (!decide ((↑(UInt8.toNat x193) : Int) = (↑(UInt8.toNat x194) : Int)))
 (letO (IntKind.wrap .i64 (x188 + 1)) fun x196 =>
 sideO (0 ≤ x196 ∧ x196 ≤ (↑(List.length a0) : Int)) (
 idxO ((Utf8.encode a1).data.toList) x188 fun x197 =>
 (Fz13 (List.drop (Int.toNat x196) (List.take (Int.toNat (↑(List.length a0) : Int)) a0)) ((↑(UInt8.toNat x197) : Int))).bind fun x198 =>
 cond (decide (x198 < 0))
 (some (.inr (.inr ((-1 : Int)))))
 (letO (IntKind.wrap .i64 (x198 + 1)) fun x200 =>
 letO (IntKind.wrap .i64 (x188 + x200)) fun x201 =>
 Option.bind (
 lpO (fun (s204 : Int) =>
 cond (decide (s204 < (↑(List.length (Utf8.encode a1).data.toList) : Int)))
 (letO (IntKind.wrap .i64 (x201 - s204)) fun x212 =>
 idxO a0 x212 fun x213 =>
 letO (IntKind.wrap .i64 (x188 - s204)) fun x214 =>
 idxO ((Utf8.encode a1).data.toList) x214 fun x215 =>
 cond (!decide ((↑(UInt8.toNat x213) : Int) = (↑(UInt8.toNat x215) : Int)))
 (none)
 (letO (IntKind.wrap .i64 (s204 + 1)) fun x217 =>
 some (.inl x217)))
 (some (.inr (.inl ())))) (1))
 (Sum.elim (fun (s202 : Unit) =>
 letO (IntKind.wrap .i64 (x201 - x188)) fun x218 =>
 some (.inr (.inr x218))) some))))
 (Option.bind (
 lpO (fun (s221 : Int) =>
 cond (decide (s221 < (↑(List.length (Utf8.encode a1).data.toList) : Int)))
 (letO (IntKind.wrap .i64 (x188 - s221)) fun x229 =>
 idxO a0 x229 fun x230 =>
 letO (IntKind.wrap .i64 (x188 - s221)) fun x231 =>
 idxO ((Utf8.encode a1).data.toList) x231 fun x232 =>
 cond (!decide ((↑(UInt8.toNat x230) : Int) = (↑(UInt8.toNat x232) : Int)))
 (none)
 (letO (IntKind.wrap .i64 (s221 + 1)) fun x234 =>
 some (.inl x234)))
 (some (.inr (.inl ())))) (1))
 (Sum.elim (fun (s219 : Unit) =>
 letO (IntKind.wrap .i64 (x188 - x188)) fun x235 =>
 some (.inr (.inr x235))) some)))
 (some (.inr (.inl ())))) (()))
 (Sum.elim (fun (s189 : Unit) =>
 some ((-1 : Int))) some)))))
 (cond (decide (a1 = 65533))
 (none)
 ((Fz14 a1).bind fun x237 =>
 cond (!x237)
 (some ((-1 : Int)))
 (letO (IntKind.wrap .i64 ((↑(List.length (Utf8.encode a1).data.toList) : Int) - 1)) fun x239 =>
 Option.bind (
 lpO (fun (s242 : Unit) =>
 cond (decide (x239 < (↑(List.length a0) : Int)))
 (idxO a0 x239 fun x244 =>
 idxO ((Utf8.encode a1).data.toList) x239 fun x245 =>
 cond (!decide ((↑(UInt8.toNat x244) : Int) = (↑(UInt8.toNat x245) : Int)))
 (letO (IntKind.wrap .i64 (x239 + 1)) fun x247 =>
 sideO (0 ≤ x247 ∧ x247 ≤ (↑(List.length a0) : Int)) (
 idxO ((Utf8.encode a1).data.toList) x239 fun x248 =>
 (Fz13 (List.drop (Int.toNat x247) (List.take (Int.toNat (↑(List.length a0) : Int)) a0)) ((↑(UInt8.toNat x248) : Int))).bind fun x249 =>
 cond (decide (x249 < 0))
 (some (.inr (.inr ((-1 : Int)))))
 (letO (IntKind.wrap .i64 (x249 + 1)) fun x251 =>
 letO (IntKind.wrap .i64 (x239 + x251)) fun x252 =>
 Option.bind (
 lpO (fun (s255 : Int) =>
 cond (decide (s255 < (↑(List.length (Utf8.encode a1).data.toList) : Int)))
 (letO (IntKind.wrap .i64 (x252 - s255)) fun x263 =>
 idxO a0 x263 fun x264 =>
 letO (IntKind.wrap .i64 (x239 - s255)) fun x265 =>
 idxO ((Utf8.encode a1).data.toList) x265 fun x266 =>
 cond (!decide ((↑(UInt8.toNat x264) : Int) = (↑(UInt8.toNat x266) : Int)))
 (none)
 (letO (IntKind.wrap .i64 (s255 + 1)) fun x268 =>
 some (.inl x268)))
 (some (.inr (.inl ())))) (1))
 (Sum.elim (fun (s253 : Unit) =>
 letO (IntKind.wrap .i64 (x252 - x239)) fun x269 =>
 some (.inr (.inr x269))) some))))
 (Option.bind (
 lpO (fun (s272 : Int) =>
 cond (decide (s272 < (↑(List.length (Utf8.encode a1).data.toList) : Int)))
 (letO (IntKind.wrap .i64 (x239 - s272)) fun x280 =>
 idxO a0 x280 fun x281 =>
 letO (IntKind.wrap .i64 (x239 - s272)) fun x282 =>
 idxO ((Utf8.encode a1).data.toList) x282 fun x283 =>
 cond (!decide ((↑(UInt8.toNat x281) : Int) = (↑(UInt8.toNat x283) : Int)))
 (none)
 (letO (IntKind.wrap .i64 (s272 + 1)) fun x285 =>
 some (.inl x285)))
 (some (.inr (.inl ())))) (1))
 (Sum.elim (fun (s270 : Unit) =>
 letO (IntKind.wrap .i64 (x239 - x239)) fun x286 =>
 some (.inr (.inr x286))) some)))
 (some (.inr (.inl ())))) (()))
 (Sum.elim (fun (s240 : Unit) =>
 some ((-1 : Int))) some))))
noncomputable def Fz16 (a0 : List UInt8) (a1 : Int) : Option (Bool) :=
 (Fz15 a0 a1).bind fun x287 =>
 some (decide (0 ≤ x287))
noncomputable def Fz17 (a0 : List UInt8) (a1 : List UInt8) : Option (List UInt8) :=
 Option.bind (
 lpO (fun (s132 : List UInt8) =>
 cond (decide (0 < (↑(List.length s132) : Int)))
 (letO (IntKind.wrap .i64 ((↑(List.length s132) : Int) - 1)) fun x146 =>
 idxO s132 x146 fun x147 =>
 letO (IntKind.wrap .i32 (↑(UInt8.toNat x147) : Int)) fun x148 =>
 cond (decide (128 ≤ x148))
 ((Fz12 s132).bind fun x150 =>
 (Fz16 a1 (x150.fst)).bind fun x151 =>
 cond (!x151)
 (some (.inr (.inl s132)))
 (letO (IntKind.wrap .i64 ((↑(List.length s132) : Int) - x150.snd)) fun x153 =>
 sideO (0 ≤ x153 ∧ x153 ≤ (↑(List.length s132) : Int)) (
 some (.inl (List.drop (Int.toNat 0) (List.take (Int.toNat x153) s132))))))
 ((Fz16 a1 x148).bind fun x154 =>
 cond (!x154)
 (some (.inr (.inl s132)))
 (letO (IntKind.wrap .i64 ((↑(List.length s132) : Int) - 1)) fun x156 =>
 sideO (0 ≤ x156 ∧ x156 ≤ (↑(List.length s132) : Int)) (
 some (.inl (List.drop (Int.toNat 0) (List.take (Int.toNat x156) s132)))))))
 (some (.inr (.inl s132)))) a0)
 (Sum.elim (fun (s130 : List UInt8) =>
 some s130) some)
noncomputable def Fz18 (a0 : List UInt8) (a1 : List UInt8) : Option (List UInt8) :=
 Option.bind (
 lpO (fun (s160 : List UInt8) =>
 cond (decide (0 < (↑(List.length s160) : Int)))
 ((Fz11 s160).bind fun x166 =>
 (Fz16 a1 (x166.fst)).bind fun x167 =>
 cond (!x167)
 (some (.inr (.inl s160)))
 (sideO (0 ≤ x166.snd ∧ x166.snd ≤ (↑(List.length s160) : Int)) (
 some (.inl (List.drop (Int.toNat x166.snd) (List.take (Int.toNat (↑(List.length s160) : Int)) s160))))))
 (some (.inr (.inl s160)))) a0)
 (Sum.elim (fun (s158 : List UInt8) =>
 some s158) some)
noncomputable def Fz19 (a0 : List UInt8) (a1 : List UInt8) : Option (List UInt8) :=
 cond (decide (a0 = (ByteArray.mk #[]).data.toList))
 (some a0)
 (cond (decide (a1 = (ByteArray.mk #[]).data.toList))
 (some a0)
 (cond (decide ((↑(List.length a1) : Int) = 1))
 (idxO a1 (0) fun x60 =>
 cond (decide ((↑(UInt8.toNat x60) : Int) < 128))
 (idxO a1 (0) fun x62 =>
 (Fz3 a0 ((↑(UInt8.toNat x62) : Int))).bind fun x76 =>
 idxO a1 (0) fun x77 =>
 (Fz4 x76 ((↑(UInt8.toNat x77) : Int))).bind fun x87 =>
 some x87)
 ((Fz5 a1).bind fun x100 =>
 cond (x100.snd)
 ((Fz7 a0 (x100.fst)).bind fun x117 =>
 (Fz8 x117 (x100.fst)).bind fun x129 =>
 some x129)
 ((Fz17 a0 a1).bind fun x157 =>
 (Fz18 x157 a1).bind fun x169 =>
 some x169)))
 ((Fz5 a1).bind fun x170 =>
 cond (x170.snd)
 ((Fz7 a0 (x170.fst)).bind fun x172 =>
 (Fz8 x172 (x170.fst)).bind fun x173 =>
 some x173)
 ((Fz17 a0 a1).bind fun x174 =>
 (Fz18 x174 a1).bind fun x175 =>
 some x175))))
noncomputable def Fz20 (a0 : List UInt8) : Option (Bool) :=
 cond (decide (a0 = (ByteArray.mk #[]).data.toList))
 (some (false))
 (cond (decide (16 < (↑(List.length a0) : Int)))
 (some (false))
 (idxO a0 (0) fun x53 =>
 cond (decide ((↑(UInt8.toNat x53) : Int) < 97))
 (some (false))
 (idxO a0 (0) fun x55 =>
 cond (decide (122 < (↑(UInt8.toNat x55) : Int)))
 (some (false))
 ((Fz19 a0 ((ByteArray.mk #[97, 98, 99, 100, 101, 102, 103, 104, 105, 106, 107, 108, 109, 110, 111, 112, 113, 114, 115, 116, 117, 118, 119, 120, 121, 122, 48, 49, 50, 51, 52, 53, 54, 55, 56, 57, 45]).data.toList)).bind fun x176 =>
 some (decide (x176 = (ByteArray.mk #[]).data.toList))))))
noncomputable def Fz21 (a0 : List (List UInt8)) (a1 : List UInt8) : Option (Int) :=
 Option.bind (
 lpO (fun (s181 : Int) =>
 cond (decide (s181 < (↑(List.length (List.map SV.str a0)) : Int)))
 (idxO a0 s181 fun x186 =>
 cond (decide (a1 = x186))
 (some (.inr (.inr s181)))
 (letO (IntKind.wrap .i64 (s181 + 1)) fun x188 =>
 some (.inl x188)))
 (some (.inr (.inl ())))) (0))
 (Sum.elim (fun (s179 : Unit) =>
 some ((-1 : Int))) some)
noncomputable def Fz22 (a0 : List (List UInt8)) (a1 : List UInt8) : Option (Bool) :=
 (Fz21 a0 a1).bind fun x189 =>
 some (decide (0 ≤ x189))
noncomputable def Fz23 (a0 : List (List UInt8)) : Option (Int × Int) :=
 cond (decide ((↑(List.length (List.map SV.str a0)) : Int) < 1))
 (some (((-1 : Int), 3)))
 (cond (decide (8 < (↑(List.length (List.map SV.str a0)) : Int)))
 (some (((-1 : Int), 3)))
 (Option.bind (
 lpO (fun (s49 : Int) =>
 cond (decide (s49 < (↑(List.length (List.map SV.str a0)) : Int)))
 (idxO a0 s49 fun x57 =>
 (Fz20 x57).bind fun x58 =>
 cond (!x58)
 (some (.inr (.inr ((s49, 6)))))
 (sideO (0 ≤ s49 ∧ s49 ≤ (↑(List.length (List.map SV.str a0)) : Int)) (
 (Fz22 (List.drop (Int.toNat 0) (List.take (Int.toNat s49) a0)) x57).bind fun x60 =>
 cond x60
 (some (.inr (.inr ((s49, 8)))))
 (letO (IntKind.wrap .i64 (s49 + 1)) fun x62 =>
 some (.inl x62)))))
 (some (.inr (.inl ())))) (0))
 (Sum.elim (fun (s47 : Unit) =>
 some ((0, 0))) some)))
noncomputable def Fz24 (a0 : Int) : Option (Int) :=
 idxO ((ByteArray.mk (List.toArray (List.append (List.append [(0 : UInt8), (1 : UInt8), (2 : UInt8), (2 : UInt8), (3 : UInt8), (3 : UInt8), (3 : UInt8), (3 : UInt8), (4 : UInt8), (4 : UInt8), (4 : UInt8), (4 : UInt8), (4 : UInt8), (4 : UInt8), (4 : UInt8), (4 : UInt8), (5 : UInt8), (5 : UInt8), (5 : UInt8), (5 : UInt8), (5 : UInt8), (5 : UInt8), (5 : UInt8), (5 : UInt8), (5 : UInt8), (5 : UInt8), (5 : UInt8), (5 : UInt8), (5 : UInt8), (5 : UInt8), (5 : UInt8), (5 : UInt8), (6 : UInt8), (6 : UInt8), (6 : UInt8), (6 : UInt8), (6 : UInt8), (6 : UInt8), (6 : UInt8), (6 : UInt8), (6 : UInt8), (6 : UInt8), (6 : UInt8), (6 : UInt8), (6 : UInt8), (6 : UInt8), (6 : UInt8), (6 : UInt8), (6 : UInt8), (6 : UInt8), (6 : UInt8), (6 : UInt8), (6 : UInt8), (6 : UInt8), (6 : UInt8), (6 : UInt8), (6 : UInt8), (6 : UInt8), (6 : UInt8), (6 : UInt8), (6 : UInt8), (6 : UInt8), (6 : UInt8), (6 : UInt8)] [(7 : UInt8), (7 : UInt8), (7 : UInt8), (7 : UInt8), (7 : UInt8), (7 : UInt8), (7 : UInt8), (7 : UInt8), (7 : UInt8), (7 : UInt8), (7 : UInt8), (7 : UInt8), (7 : UInt8), (7 : UInt8), (7 : UInt8), (7 : UInt8), (7 : UInt8), (7 : UInt8), (7 : UInt8), (7 : UInt8), (7 : UInt8), (7 : UInt8), (7 : UInt8), (7 : UInt8), (7 : UInt8), (7 : UInt8), (7 : UInt8), (7 : UInt8), (7 : UInt8), (7 : UInt8), (7 : UInt8), (7 : UInt8), (7 : UInt8), (7 : UInt8), (7 : UInt8), (7 : UInt8), (7 : UInt8), (7 : UInt8), (7 : UInt8), (7 : UInt8), (7 : UInt8), (7 : UInt8), (7 : UInt8), (7 : UInt8), (7 : UInt8), (7 : UInt8), (7 : UInt8), (7 : UInt8), (7 : UInt8), (7 : UInt8), (7 : UInt8), (7 : UInt8), (7 : UInt8), (7 : UInt8), (7 : UInt8), (7 : UInt8), (7 : UInt8), (7 : UInt8), (7 : UInt8), (7 : UInt8), (7 : UInt8), (7 : UInt8), (7 : UInt8), (7 : UInt8)]) (List.append [(8 : UInt8), (8 : UInt8), (8 : UInt8), (8 : UInt8), (8 : UInt8), (8 : UInt8), (8 : UInt8), (8 : UInt8), (8 : UInt8), (8 : UInt8), (8 : UInt8), (8 : UInt8), (8 : UInt8), (8 : UInt8), (8 : UInt8), (8 : UInt8), (8 : UInt8), (8 : UInt8), (8 : UInt8), (8 : UInt8), (8 : UInt8), (8 : UInt8), (8 : UInt8), (8 : UInt8), (8 : UInt8), (8 : UInt8), (8 : UInt8), (8 : UInt8), (8 : UInt8), (8 : UInt8), (8 : UInt8), (8 : UInt8), (8 : UInt8), (8 : UInt8), (8 : UInt8), (8 : UInt8), (8 : UInt8), (8 : UInt8), (8 : UInt8), (8 : UInt8), (8 : UInt8), (8 : UInt8), (8 : UInt8), (8 : UInt8), (8 : UInt8), (8 : UInt8), (8 : UInt8), (8 : UInt8), (8 : UInt8), (8 : UInt8), (8 : UInt8), (8 : UInt8), (8 : UInt8), (8 : UInt8), (8 : UInt8), (8 : UInt8), (8 : UInt8), (8 : UInt8), (8 : UInt8), (8 : UInt8), (8 : UInt8), (8 : UInt8), (8 : UInt8), (8 : UInt8)] [(8 : UInt8), (8 : UInt8), (8 : UInt8), (8 : UInt8), (8 : UInt8), (8 : UInt8), (8 : UInt8), (8 : UInt8), (8 : UInt8), (8 : UInt8), (8 : UInt8), (8 : UInt8), (8 : UInt8), (8 : UInt8), (8 : UInt8), (8 : UInt8), (8 : UInt8), (8 : UInt8), (8 : UInt8), (8 : UInt8), (8 : UInt8), (8 : UInt8), (8 : UInt8), (8 : UInt8), (8 : UInt8), (8 : UInt8), (8 : UInt8), (8 : UInt8), (8 : UInt8), (8 : UInt8), (8 : UInt8), (8 : UInt8), (8 : UInt8), (8 : UInt8), (8 : UInt8), (8 : UInt8), (8 : UInt8), (8 : UInt8), (8 : UInt8), (8 : UInt8), (8 : UInt8), (8 : UInt8), (8 : UInt8), (8 : UInt8), (8 : UInt8), (8 : UInt8), (8 : UInt8), (8 : UInt8), (8 : UInt8), (8 : UInt8), (8 : UInt8), (8 : UInt8), (8 : UInt8), (8 : UInt8), (8 : UInt8), (8 : UInt8), (8 : UInt8), (8 : UInt8), (8 : UInt8), (8 : UInt8), (8 : UInt8), (8 : UInt8), (8 : UInt8), (8 : UInt8)])))).data.toList) a0 fun x72 =>
 letO (IntKind.wrap .i64 (↑(UInt8.toNat x72) : Int)) fun x73 =>
 some x73
noncomputable def Fz25 (a0 : TL) : Option (Tlattice_order) :=
 Option.bind (
 lpO (fun (s145 : Int × List Int × List Int) =>
 cond (decide (s145.fst < (↑(List.length (List.map (SV.int .u8) a0.Up)) : Int)))
 (idxO (a0.Up) (s145.fst) fun x159 =>
 sideO (0 ≤ s145.fst ∧ s145.fst < (↑(8 : Nat) : Int)) (
 idxO (s145.snd.fst) ((↑(Int.toNat s145.fst) : Int)) fun x160 =>
 Option.bind (
 lpO (fun (s163 : Int × List Int) =>
 cond (decide (s163.fst < (↑(List.length (List.map SV.str a0.Names)) : Int)))
 (sideO (0 ≤ s163.fst ∧ s163.fst < (↑(8 : Nat) : Int)) (
 idxO (s163.snd) ((↑(Int.toNat s163.fst) : Int)) fun x169 =>
 sideO (0 ≤ s163.fst) (
 sideO (0 ≤ s145.fst) (
 letO (IntKind.wrap .u8 (bits BinOp.and IntKind.u8 (Int.fdiv x159 (2 ^ min (Int.toNat s163.fst) (IntKind.bits IntKind.u8))) 1 * 2 ^ min (Int.toNat s145.fst) (IntKind.bits IntKind.u8))) fun x170 =>
 sideO (0 ≤ s163.fst ∧ s163.fst < (↑(8 : Nat) : Int)) (
 idxO (s163.snd) ((↑(Int.toNat s163.fst) : Int)) fun x171 =>
 letO (IntKind.wrap .i64 (s163.fst + 1)) fun x172 =>
 some (.inl ((x172, List.set s163.snd (Int.toNat s163.fst) (bits BinOp.or IntKind.u8 x169 x170)))))))))
 (some (.inr (.inl (s163.snd))))) ((0, s145.snd.snd)))
 (Sum.elim (fun (s161 : List Int) =>
 letO (IntKind.wrap .i64 (s145.fst + 1)) fun x173 =>
 some (.inl ((x173, List.set s145.snd.fst (Int.toNat s145.fst) x159, s161)))) some)))
 (some (.inr (.inl (s145.snd))))) ((0, [0, 0, 0, 0, 0, 0, 0, 0], [0, 0, 0, 0, 0, 0, 0, 0])))
 (Sum.elim (fun (s143 : List Int × List Int) =>
 some (Tlattice_order.mk (↑(List.length (List.map SV.str a0.Names)) : Int) s143.fst s143.snd)) some)
noncomputable def Fz26 (a0 : List Int) (a1 : Int) (a2 : Int) (a3 : Int) : Option (Int) :=
 sideO (0 ≤ a2 ∧ a2 < (↑(8 : Nat) : Int)) (
 idxO a0 ((↑(Int.toNat a2) : Int)) fun x180 =>
 sideO (0 ≤ a3 ∧ a3 < (↑(8 : Nat) : Int)) (
 idxO a0 ((↑(Int.toNat a3) : Int)) fun x181 =>
 Option.bind (
 lpO (fun (s184 : Int) =>
 cond (decide (s184 < a1))
 (sideO (0 ≤ s184) (
 cond (decide (bits BinOp.and IntKind.u8 (Int.fdiv (bits BinOp.and IntKind.u8 x180 x181) (2 ^ min (Int.toNat s184) (IntKind.bits IntKind.u8))) 1 = 1))
 (sideO (0 ≤ s184 ∧ s184 < (↑(8 : Nat) : Int)) (
 idxO a0 ((↑(Int.toNat s184) : Int)) fun x191 =>
 cond (decide (x191 = bits BinOp.and IntKind.u8 x180 x181))
 (some (.inr (.inr s184)))
 (letO (IntKind.wrap .i64 (s184 + 1)) fun x193 =>
 some (.inl x193))))
 (letO (IntKind.wrap .i64 (s184 + 1)) fun x194 =>
 some (.inl x194))))
 (some (.inr (.inl ())))) (0))
 (Sum.elim (fun (s182 : Unit) =>
 some ((-1 : Int))) some)))
noncomputable def Fz27 (a0 : List Int) (a1 : Int) (a2 : Int) (a3 : Int) : Option (Int) :=
 sideO (0 ≤ a2 ∧ a2 < (↑(8 : Nat) : Int)) (
 idxO a0 ((↑(Int.toNat a2) : Int)) fun x197 =>
 sideO (0 ≤ a3 ∧ a3 < (↑(8 : Nat) : Int)) (
 idxO a0 ((↑(Int.toNat a3) : Int)) fun x198 =>
 Option.bind (
 lpO (fun (s201 : Int) =>
 cond (decide (s201 < a1))
 (sideO (0 ≤ s201) (
 cond (decide (bits BinOp.and IntKind.u8 (Int.fdiv (bits BinOp.and IntKind.u8 x197 x198) (2 ^ min (Int.toNat s201) (IntKind.bits IntKind.u8))) 1 = 1))
 (sideO (0 ≤ s201 ∧ s201 < (↑(8 : Nat) : Int)) (
 idxO a0 ((↑(Int.toNat s201) : Int)) fun x208 =>
 cond (decide (x208 = bits BinOp.and IntKind.u8 x197 x198))
 (some (.inr (.inr s201)))
 (letO (IntKind.wrap .i64 (s201 + 1)) fun x210 =>
 some (.inl x210))))
 (letO (IntKind.wrap .i64 (s201 + 1)) fun x211 =>
 some (.inl x211))))
 (some (.inr (.inl ())))) (0))
 (Sum.elim (fun (s199 : Unit) =>
 some ((-1 : Int))) some)))
noncomputable def Fz28 (a0 : TL) : Option (Int × Int) :=
 (Fz23 (a0.Names)).bind fun x63 =>
 cond (!decide (x63.snd = 0))
 (some x63)
 (cond (!decide ((↑(List.length (List.map (SV.int .u8) a0.Up)) : Int) = (↑(List.length (List.map SV.str a0.Names)) : Int)))
 (some (((-1 : Int), 6)))
 (sideO ((0 : Int) ≤ (↑(List.length (List.map SV.str a0.Names)) : Int)) (
 letO (IntKind.wrap .u8 (1 * 2 ^ min (Int.toNat (↑(List.length (List.map SV.str a0.Names)) : Int)) (IntKind.bits IntKind.u8))) fun x66 =>
 letO (IntKind.wrap .u8 (x66 - 1)) fun x67 =>
 Option.bind (
 lpO (fun (s70 : Int) =>
 cond (decide (s70 < (↑(List.length (List.map (SV.int .u8) a0.Up)) : Int)))
 (idxO (a0.Up) s70 fun x100 =>
 (Fz24 x100).bind fun x101 =>
 cond (decide ((↑(List.length (List.map SV.str a0.Names)) : Int) < x101))
 (some (.inr (.inr ((s70, 6)))))
 (sideO (0 ≤ s70) (
 cond (decide (bits BinOp.and IntKind.u8 (Int.fdiv x100 (2 ^ min (Int.toNat s70) (IntKind.bits IntKind.u8))) 1 = 0))
 (some (.inr (.inr ((s70, 6)))))
 (Option.bind (
 lpO (fun (s106 : Int) =>
 cond (decide (s106 < (↑(List.length (List.map (SV.int .u8) a0.Up)) : Int)))
 (idxO (a0.Up) s106 fun x124 =>
 sideO (0 ≤ s106) (
 cond (decide (bits BinOp.and IntKind.u8 (Int.fdiv x100 (2 ^ min (Int.toNat s106) (IntKind.bits IntKind.u8))) 1 = 0))
 (letO (IntKind.wrap .i64 ((↑(List.length (List.map SV.str a0.Names)) : Int) - 1)) fun x126 =>
 cond (decide (s106 = x126))
 (letO (IntKind.wrap .i64 (s70 + 1)) fun x128 =>
 some (.inr (.inr (.inl x128))))
 (letO (IntKind.wrap .i64 (s106 + 1)) fun x129 =>
 some (.inl x129)))
 (cond (!decide (s106 = s70))
 (sideO (0 ≤ s70) (
 cond (decide (bits BinOp.and IntKind.u8 (Int.fdiv x124 (2 ^ min (Int.toNat s70) (IntKind.bits IntKind.u8))) 1 = 1))
 (some (.inr (.inr (.inr (.inr ((s70, 6)))))))
 (cond (!decide (bits BinOp.andNot IntKind.u8 (bits BinOp.and IntKind.u8 x124 x67) x100 = 0))
 (some (.inr (.inr (.inr (.inr ((s70, 6)))))))
 (letO (IntKind.wrap .i64 ((↑(List.length (List.map SV.str a0.Names)) : Int) - 1)) fun x133 =>
 cond (decide (s106 = x133))
 (letO (IntKind.wrap .i64 (s70 + 1)) fun x135 =>
 some (.inr (.inr (.inl x135))))
 (letO (IntKind.wrap .i64 (s106 + 1)) fun x136 =>
 some (.inl x136))))))
 (cond (!decide (bits BinOp.andNot IntKind.u8 (bits BinOp.and IntKind.u8 x124 x67) x100 = 0))
 (some (.inr (.inr (.inr (.inr ((s70, 6)))))))
 (letO (IntKind.wrap .i64 ((↑(List.length (List.map SV.str a0.Names)) : Int) - 1)) fun x138 =>
 cond (decide (s106 = x138))
 (letO (IntKind.wrap .i64 (s70 + 1)) fun x140 =>
 some (.inr (.inr (.inl x140))))
 (letO (IntKind.wrap .i64 (s106 + 1)) fun x141 =>
 some (.inl x141)))))))
 (some (.inr (.inl ())))) (0))
 (Sum.elim (fun (s104 : Unit) =>
 letO (IntKind.wrap .i64 (s70 + 1)) fun x142 =>
 some (.inl x142)) some)))))
 (some (.inr (.inl ())))) (0))
 (Sum.elim (fun (s68 : Unit) =>
 (Fz25 a0).bind fun x174 =>
 Option.bind (
 lpO (fun (s177 : Int) =>
 cond (decide (s177 < (↑(List.length (List.map SV.str a0.Names)) : Int)))
 (Option.bind (
 lpO (fun (s195 : Int) =>
 cond (decide (s195 < (↑(List.length (List.map SV.str a0.Names)) : Int)))
 ((Fz26 (x174.up_) ((↑(List.length (List.map SV.str a0.Names)) : Int)) s177 s195).bind fun x202 =>
 cond (decide (x202 < 0))
 (some (.inr (.inr (.inr (.inr ((s177, 4)))))))
 ((Fz27 (x174.down_) ((↑(List.length (List.map SV.str a0.Names)) : Int)) s177 s195).bind fun x204 =>
 cond (decide (x204 < 0))
 (some (.inr (.inr (.inr (.inr ((s177, 4)))))))
 (letO (IntKind.wrap .i64 (s195 + 1)) fun x206 =>
 some (.inl x206))))
 (some (.inr (.inl ())))) (0))
 (Sum.elim (fun (s193 : Unit) =>
 letO (IntKind.wrap .i64 (s177 + 1)) fun x207 =>
 some (.inl x207)) some))
 (some (.inr (.inl ())))) (0))
 (Sum.elim (fun (s175 : Unit) =>
 some ((0, 0))) some)) some))))
noncomputable def Fz29 (a0 : TP) : Option (Int × Int) :=
 (Fz28 (a0.Lattice)).bind fun x208 =>
 some x208
noncomputable def Fz30 (a0 : List UInt8) : Option (Int × Int) :=
 Option.bind (
 cond (decide ([(110 : UInt8), (101 : UInt8), (103 : UInt8)] = a0))
 (some (.inr ((1, 0))))
 (cond (decide ([(97 : UInt8), (98 : UInt8), (115 : UInt8)] = a0))
 (some (.inr ((2, 0))))
 (cond (decide ([(110 : UInt8), (111 : UInt8), (116 : UInt8)] = a0))
 (some (.inr ((3, 0))))
 (cond (decide ([(115 : UInt8), (104 : UInt8), (97 : UInt8), (112 : UInt8), (101 : UInt8)] = a0))
 (some (.inr ((4, 0))))
 (cond (decide ([(114 : UInt8), (97 : UInt8), (118 : UInt8), (101 : UInt8), (108 : UInt8)] = a0))
 (some (.inr ((5, 0))))
 (cond (decide ([(114 : UInt8), (101 : UInt8), (118 : UInt8), (101 : UInt8), (114 : UInt8), (115 : UInt8), (101 : UInt8)] = a0))
 (some (.inr ((6, 0))))
 (cond (decide ([(102 : UInt8), (108 : UInt8), (105 : UInt8), (112 : UInt8)] = a0))
 (some (.inr ((7, 0))))
 (cond (decide ([(105 : UInt8), (111 : UInt8), (116 : UInt8), (97 : UInt8)] = a0))
 (some (.inr ((8, 0))))
 (cond (decide ([(115 : UInt8), (117 : UInt8), (109 : UInt8)] = a0))
 (some (.inr ((9, 0))))
 (cond (decide ([(108 : UInt8), (101 : UInt8), (97 : UInt8), (115 : UInt8), (116 : UInt8)] = a0))
 (some (.inr ((10, 0))))
 (cond (decide ([(109 : UInt8), (111 : UInt8), (115 : UInt8), (116 : UInt8)] = a0))
 (some (.inr ((11, 0))))
 (cond (decide ([(99 : UInt8), (111 : UInt8), (117 : UInt8), (110 : UInt8), (116 : UInt8)] = a0))
 (some (.inr ((12, 0))))
 (cond (decide ([(115 : UInt8), (99 : UInt8), (97 : UInt8), (110 : UInt8)] = a0))
 (some (.inr ((13, 0))))
 (cond (decide ([(103 : UInt8), (114 : UInt8), (97 : UInt8), (100 : UInt8), (101 : UInt8)] = a0))
 (some (.inr ((14, 0))))
 (cond (decide ([(97 : UInt8), (100 : UInt8), (100 : UInt8)] = a0))
 (some (.inr ((15, 0))))
 (cond (decide ([(115 : UInt8), (117 : UInt8), (98 : UInt8)] = a0))
 (some (.inr ((16, 0))))
 (cond (decide ([(109 : UInt8), (117 : UInt8), (108 : UInt8)] = a0))
 (some (.inr ((17, 0))))
 (cond (decide ([(100 : UInt8), (105 : UInt8), (118 : UInt8)] = a0))
 (some (.inr ((18, 0))))
 (cond (decide ([(109 : UInt8), (111 : UInt8), (100 : UInt8)] = a0))
 (some (.inr ((19, 0))))
 (cond (decide ([(112 : UInt8), (108 : UInt8), (117 : UInt8), (115 : UInt8)] = a0))
 (some (.inr ((20, 0))))
 (cond (decide ([(109 : UInt8), (105 : UInt8), (110 : UInt8), (117 : UInt8), (115 : UInt8)] = a0))
 (some (.inr ((21, 0))))
 (cond (decide ([(116 : UInt8), (105 : UInt8), (109 : UInt8), (101 : UInt8), (115 : UInt8)] = a0))
 (some (.inr ((22, 0))))
 (cond (decide ([(101 : UInt8), (113 : UInt8)] = a0))
 (some (.inr ((23, 0))))
 (cond (decide ([(110 : UInt8), (101 : UInt8)] = a0))
 (some (.inr ((24, 0))))
 (cond (decide ([(108 : UInt8), (116 : UInt8)] = a0))
 (some (.inr ((25, 0))))
 (cond (decide ([(108 : UInt8), (101 : UInt8)] = a0))
 (some (.inr ((26, 0))))
 (cond (decide ([(103 : UInt8), (116 : UInt8)] = a0))
 (some (.inr ((27, 0))))
 (cond (decide ([(103 : UInt8), (101 : UInt8)] = a0))
 (some (.inr ((28, 0))))
 (cond (decide ([(97 : UInt8), (110 : UInt8), (100 : UInt8)] = a0))
 (some (.inr ((29, 0))))
 (cond (decide ([(111 : UInt8), (114 : UInt8)] = a0))
 (some (.inr ((30, 0))))
 (cond (decide ([(109 : UInt8), (105 : UInt8), (110 : UInt8)] = a0))
 (some (.inr ((31, 0))))
 (cond (decide ([(109 : UInt8), (97 : UInt8), (120 : UInt8)] = a0))
 (some (.inr ((32, 0))))
 (cond (decide ([(116 : UInt8), (97 : UInt8), (107 : UInt8), (101 : UInt8)] = a0))
 (some (.inr ((33, 0))))
 (cond (decide ([(100 : UInt8), (114 : UInt8), (111 : UInt8), (112 : UInt8)] = a0))
 (some (.inr ((34, 0))))
 (cond (decide ([(102 : UInt8), (105 : UInt8), (108 : UInt8), (108 : UInt8)] = a0))
 (some (.inr ((35, 0))))
 (cond (decide ([(103 : UInt8), (114 : UInt8), (105 : UInt8), (100 : UInt8)] = a0))
 (some (.inr ((36, 0))))
 (cond (decide ([(99 : UInt8), (97 : UInt8), (116 : UInt8)] = a0))
 (some (.inr ((37, 0))))
 (cond (decide ([(97 : UInt8), (116 : UInt8)] = a0))
 (some (.inr ((38, 0))))
 (cond (decide ([(105 : UInt8), (110 : UInt8)] = a0))
 (some (.inr ((39, 0))))
 (cond (decide ([(112 : UInt8), (105 : UInt8), (99 : UInt8), (107 : UInt8)] = a0))
 (some (.inr ((40, 0))))
 (some (.inl ()))))))))))))))))))))))))))))))))))))))))))
 (Sum.elim (fun (s227 : Unit) =>
 some ((0, 4))) some)
noncomputable def Fz31 (a0 : Int) : Option (Bool) :=
 letO (IntKind.wrap .i32 a0) fun x286 =>
 letO (IntKind.wrap .i64 x286) fun x287 =>
 cond (decide (a0 = x287))
 (letO (IntKind.wrap .i32 a0) fun x289 =>
 (Fz14 x289).bind fun x290 =>
 some x290)
 (some (false))
noncomputable def Fz32 : Option (List (List UInt8)) :=
 some ([[], (ByteArray.mk #[32]).data.toList, (ByteArray.mk #[10]).data.toList, (ByteArray.mk #[40, 91]).data.toList, (ByteArray.mk #[41, 93]).data.toList, (ByteArray.mk #[34]).data.toList, [], (ByteArray.mk #[45]).data.toList, [], (ByteArray.mk #[60, 61]).data.toList])
noncomputable def Fz33 (a0 : Int) : Option (Int × Int) :=
 (Fz31 a0).bind fun x291 =>
 cond (!x291)
 (some ((0, 7)))
 (cond (decide (48 ≤ a0))
 (cond (decide (a0 ≤ 57))
 (some ((6, 0)))
 (cond (decide (97 ≤ a0))
 (cond (decide (a0 ≤ 122))
 (some ((8, 0)))
 ((Fz32).bind fun x297 =>
 Option.bind (
 lpO (fun (s300 : Int) =>
 cond (decide (s300 < 10))
 (idxO x297 s300 fun x306 =>
 letO (IntKind.wrap .i32 a0) fun x307 =>
 (Fz16 x306 x307).bind fun x308 =>
 cond x308
 (some (.inr (.inr ((s300, 0)))))
 (letO (IntKind.wrap .i64 (s300 + 1)) fun x310 =>
 some (.inl x310)))
 (some (.inr (.inl ())))) (0))
 (Sum.elim (fun (s298 : Unit) =>
 some ((10, 0))) some)))
 ((Fz32).bind fun x311 =>
 Option.bind (
 lpO (fun (s314 : Int) =>
 cond (decide (s314 < 10))
 (idxO x311 s314 fun x320 =>
 letO (IntKind.wrap .i32 a0) fun x321 =>
 (Fz16 x320 x321).bind fun x322 =>
 cond x322
 (some (.inr (.inr ((s314, 0)))))
 (letO (IntKind.wrap .i64 (s314 + 1)) fun x324 =>
 some (.inl x324)))
 (some (.inr (.inl ())))) (0))
 (Sum.elim (fun (s312 : Unit) =>
 some ((10, 0))) some))))
 (cond (decide (97 ≤ a0))
 (cond (decide (a0 ≤ 122))
 (some ((8, 0)))
 ((Fz32).bind fun x327 =>
 Option.bind (
 lpO (fun (s330 : Int) =>
 cond (decide (s330 < 10))
 (idxO x327 s330 fun x336 =>
 letO (IntKind.wrap .i32 a0) fun x337 =>
 (Fz16 x336 x337).bind fun x338 =>
 cond x338
 (some (.inr (.inr ((s330, 0)))))
 (letO (IntKind.wrap .i64 (s330 + 1)) fun x340 =>
 some (.inl x340)))
 (some (.inr (.inl ())))) (0))
 (Sum.elim (fun (s328 : Unit) =>
 some ((10, 0))) some)))
 ((Fz32).bind fun x341 =>
 Option.bind (
 lpO (fun (s344 : Int) =>
 cond (decide (s344 < 10))
 (idxO x341 s344 fun x350 =>
 letO (IntKind.wrap .i32 a0) fun x351 =>
 (Fz16 x350 x351).bind fun x352 =>
 cond x352
 (some (.inr (.inr ((s344, 0)))))
 (letO (IntKind.wrap .i64 (s344 + 1)) fun x354 =>
 some (.inl x354)))
 (some (.inr (.inl ())))) (0))
 (Sum.elim (fun (s342 : Unit) =>
 some ((10, 0))) some))))
noncomputable def Fz34 (a0 : List UInt8) : Option (Int) :=
 idxO a0 (0) fun x399 =>
 letO (IntKind.wrap .u64 (↑(UInt8.toNat x399) : Int)) fun x400 =>
 idxO a0 (1) fun x401 =>
 letO (IntKind.wrap .u64 (↑(UInt8.toNat x401) : Int)) fun x402 =>
 letO (IntKind.wrap .u64 (x402 * 2 ^ min (Int.toNat 8) (IntKind.bits IntKind.u64))) fun x403 =>
 idxO a0 (2) fun x404 =>
 letO (IntKind.wrap .u64 (↑(UInt8.toNat x404) : Int)) fun x405 =>
 letO (IntKind.wrap .u64 (x405 * 2 ^ min (Int.toNat 16) (IntKind.bits IntKind.u64))) fun x406 =>
 idxO a0 (3) fun x407 =>
 letO (IntKind.wrap .u64 (↑(UInt8.toNat x407) : Int)) fun x408 =>
 letO (IntKind.wrap .u64 (x408 * 2 ^ min (Int.toNat 24) (IntKind.bits IntKind.u64))) fun x409 =>
 idxO a0 (4) fun x410 =>
 letO (IntKind.wrap .u64 (↑(UInt8.toNat x410) : Int)) fun x411 =>
 letO (IntKind.wrap .u64 (x411 * 2 ^ min (Int.toNat 32) (IntKind.bits IntKind.u64))) fun x412 =>
 idxO a0 (5) fun x413 =>
 letO (IntKind.wrap .u64 (↑(UInt8.toNat x413) : Int)) fun x414 =>
 letO (IntKind.wrap .u64 (x414 * 2 ^ min (Int.toNat 40) (IntKind.bits IntKind.u64))) fun x415 =>
 idxO a0 (6) fun x416 =>
 letO (IntKind.wrap .u64 (↑(UInt8.toNat x416) : Int)) fun x417 =>
 letO (IntKind.wrap .u64 (x417 * 2 ^ min (Int.toNat 48) (IntKind.bits IntKind.u64))) fun x418 =>
 idxO a0 (7) fun x419 =>
 letO (IntKind.wrap .u64 (↑(UInt8.toNat x419) : Int)) fun x420 =>
 letO (IntKind.wrap .u64 (x420 * 2 ^ min (Int.toNat 56) (IntKind.bits IntKind.u64))) fun x421 =>
 some (bits BinOp.or IntKind.u64 (bits BinOp.or IntKind.u64 (bits BinOp.or IntKind.u64 (bits BinOp.or IntKind.u64 (bits BinOp.or IntKind.u64 (bits BinOp.or IntKind.u64 (bits BinOp.or IntKind.u64 x400 x403) x406) x409) x412) x415) x418) x421)
noncomputable def Fz35 (a0 : List UInt8) : Option (Bool) :=
 Option.bind (
 lpO (fun (s395 : List UInt8) =>
 cond (decide (0 < (↑(List.length s395) : Int)))
 (idxO s395 (0) fun x422 =>
 cond (decide ((↑(UInt8.toNat x422) : Int) < 128))
 (sideO ((0 : Int) ≤ (1 : Int) ∧ (1 : Int) ≤ (↑(List.length s395) : Int)) (
 cond (decide (8 < (↑(List.length (List.drop (Int.toNat 1) (List.take (Int.toNat (↑(List.length s395) : Int)) s395))) : Int)))
 ((Fz34 (List.drop (Int.toNat 1) (List.take (Int.toNat (↑(List.length s395) : Int)) s395))).bind fun x425 =>
 cond (decide (bits BinOp.and IntKind.u64 x425 9259542123273814144 = 0))
 (sideO ((0 : Int) ≤ (8 : Int) ∧ (8 : Int) ≤ (↑(List.length (List.drop (Int.toNat (1 : Int)) (List.take (Int.toNat (↑(List.length s395) : Int)) s395))) : Int)) (
 cond (decide (16 < (↑(List.length (List.drop (Int.toNat 8) (List.take (Int.toNat (↑(List.length (List.drop (Int.toNat 1) (List.take (Int.toNat (↑(List.length s395) : Int)) s395))) : Int)) (List.drop (Int.toNat 1) (List.take (Int.toNat (↑(List.length s395) : Int)) s395))))) : Int)))
 ((Fz34 (List.drop (Int.toNat 8) (List.take (Int.toNat (↑(List.length (List.drop (Int.toNat 1) (List.take (Int.toNat (↑(List.length s395) : Int)) s395))) : Int)) (List.drop (Int.toNat 1) (List.take (Int.toNat (↑(List.length s395) : Int)) s395))))).bind fun x428 =>
 sideO ((0 : Int) ≤ (8 : Int) ∧ (8 : Int) ≤ (↑(List.length (List.drop (Int.toNat (8 : Int)) (List.take (Int.toNat (↑(List.length (List.drop (Int.toNat (1 : Int)) (List.take (Int.toNat (↑(List.length s395) : Int)) s395))) : Int)) (List.drop (Int.toNat (1 : Int)) (List.take (Int.toNat (↑(List.length s395) : Int)) s395))))) : Int)) (
 (Fz34 (List.drop (Int.toNat 8) (List.take (Int.toNat (↑(List.length (List.drop (Int.toNat 8) (List.take (Int.toNat (↑(List.length (List.drop (Int.toNat 1) (List.take (Int.toNat (↑(List.length s395) : Int)) s395))) : Int)) (List.drop (Int.toNat 1) (List.take (Int.toNat (↑(List.length s395) : Int)) s395))))) : Int)) (List.drop (Int.toNat 8) (List.take (Int.toNat (↑(List.length (List.drop (Int.toNat 1) (List.take (Int.toNat (↑(List.length s395) : Int)) s395))) : Int)) (List.drop (Int.toNat 1) (List.take (Int.toNat (↑(List.length s395) : Int)) s395))))))).bind fun x429 =>
 cond (decide (bits BinOp.and IntKind.u64 (bits BinOp.or IntKind.u64 x428 x429) 9259542123273814144 = 0))
 (sideO ((0 : Int) ≤ (16 : Int) ∧ (16 : Int) ≤ (↑(List.length (List.drop (Int.toNat (8 : Int)) (List.take (Int.toNat (↑(List.length (List.drop (Int.toNat (1 : Int)) (List.take (Int.toNat (↑(List.length s395) : Int)) s395))) : Int)) (List.drop (Int.toNat (1 : Int)) (List.take (Int.toNat (↑(List.length s395) : Int)) s395))))) : Int)) (
 Option.bind (
 lpO (fun (s433 : List UInt8) =>
 cond (decide (32 < (↑(List.length s433) : Int)))
 ((Fz34 s433).bind fun x441 =>
 sideO ((0 : Int) ≤ (8 : Int) ∧ (8 : Int) ≤ (↑(List.length s433) : Int)) (
 (Fz34 (List.drop (Int.toNat 8) (List.take (Int.toNat (↑(List.length s433) : Int)) s433))).bind fun x442 =>
 sideO ((0 : Int) ≤ (16 : Int) ∧ (16 : Int) ≤ (↑(List.length s433) : Int)) (
 (Fz34 (List.drop (Int.toNat 16) (List.take (Int.toNat (↑(List.length s433) : Int)) s433))).bind fun x443 =>
 sideO ((0 : Int) ≤ (24 : Int) ∧ (24 : Int) ≤ (↑(List.length s433) : Int)) (
 (Fz34 (List.drop (Int.toNat 24) (List.take (Int.toNat (↑(List.length s433) : Int)) s433))).bind fun x444 =>
 cond (decide (bits BinOp.and IntKind.u64 (bits BinOp.or IntKind.u64 (bits BinOp.or IntKind.u64 x441 x442) (bits BinOp.or IntKind.u64 x443 x444)) 9259542123273814144 = 0))
 (sideO ((0 : Int) ≤ (32 : Int) ∧ (32 : Int) ≤ (↑(List.length s433) : Int)) (
 some (.inl (List.drop (Int.toNat 32) (List.take (Int.toNat (↑(List.length s433) : Int)) s433)))))
 (some (.inr (.inl s433)))))))
 (some (.inr (.inl s433)))) (List.drop (Int.toNat 16) (List.take (Int.toNat (↑(List.length (List.drop (Int.toNat 8) (List.take (Int.toNat (↑(List.length (List.drop (Int.toNat 1) (List.take (Int.toNat (↑(List.length s395) : Int)) s395))) : Int)) (List.drop (Int.toNat 1) (List.take (Int.toNat (↑(List.length s395) : Int)) s395))))) : Int)) (List.drop (Int.toNat 8) (List.take (Int.toNat (↑(List.length (List.drop (Int.toNat 1) (List.take (Int.toNat (↑(List.length s395) : Int)) s395))) : Int)) (List.drop (Int.toNat 1) (List.take (Int.toNat (↑(List.length s395) : Int)) s395)))))))
 (Sum.elim (fun (s431 : List UInt8) =>
 some (.inl s431)) some)))
 (some (.inl (List.drop (Int.toNat 8) (List.take (Int.toNat (↑(List.length (List.drop (Int.toNat 1) (List.take (Int.toNat (↑(List.length s395) : Int)) s395))) : Int)) (List.drop (Int.toNat 1) (List.take (Int.toNat (↑(List.length s395) : Int)) s395))))))))
 (some (.inl (List.drop (Int.toNat 8) (List.take (Int.toNat (↑(List.length (List.drop (Int.toNat 1) (List.take (Int.toNat (↑(List.length s395) : Int)) s395))) : Int)) (List.drop (Int.toNat 1) (List.take (Int.toNat (↑(List.length s395) : Int)) s395))))))))
 (some (.inl (List.drop (Int.toNat 1) (List.take (Int.toNat (↑(List.length s395) : Int)) s395)))))
 (some (.inl (List.drop (Int.toNat 1) (List.take (Int.toNat (↑(List.length s395) : Int)) s395))))))
 (none))
 (some (.inr (.inl ())))) a0)
 (Sum.elim (fun (s393 : Unit) =>
 some (true)) some)
noncomputable def Fz36 (a0 : TK) : Option (Int) :=
 Option.bind (
 cond (decide (a0.Kind = 1))
 (some (.inl ((0, a0.S))))
 (cond (decide (a0.Kind = 3))
 (some (.inl ((0, a0.S))))
 (cond (decide (a0.Kind = 2))
 (some (.inl ((a0.N, []))))
 (some (.inl ((0, [])))))))
 (Sum.elim (fun (s272 : Int × List UInt8) =>
 cond (decide (a0.Kind < 1))
 (some (2))
 (cond (decide (9 < a0.Kind))
 (some (2))
 (cond (!(decide (a0.Kind = a0.Kind) && (decide (a0.From = a0.From) && (decide (a0.To = a0.To) && (decide (a0.N = s272.fst) && (decide (a0.S = s272.snd) && true))))))
 (some (2))
 (Option.bind (
 cond (decide (a0.Kind = 1))
 (cond (decide ((↑(List.length a0.S) : Int) ≤ 0))
 (some (.inr (6)))
 (idxO (a0.S) (0) fun x285 =>
 letO (IntKind.wrap .i64 (↑(UInt8.toNat x285) : Int)) fun x286 =>
 (Fz33 x286).bind fun x287 =>
 cond (!decide (x287.fst = 8))
 (some (.inr (6)))
 (idxO (a0.S) (0) fun x291 =>
 letO (IntKind.wrap .i64 (↑(UInt8.toNat x291) : Int)) fun x292 =>
 (Fz33 x292).bind fun x293 =>
 Option.bind (
 lpO (fun (s296 : Int × Int) =>
 cond (decide (s296.fst = 8))
 (letO (IntKind.wrap .i64 (s296.snd + 1)) fun x310 =>
 cond (decide ((↑(List.length a0.S) : Int) ≤ x310))
 (some (.inl ((10, x310))))
 (idxO (a0.S) x310 fun x313 =>
 letO (IntKind.wrap .i64 (↑(UInt8.toNat x313) : Int)) fun x314 =>
 (Fz33 x314).bind fun x315 =>
 some (.inl ((x315.fst, x310)))))
 (cond (decide (s296.fst = 6))
 (letO (IntKind.wrap .i64 (s296.snd + 1)) fun x317 =>
 cond (decide ((↑(List.length a0.S) : Int) ≤ x317))
 (some (.inl ((10, x317))))
 (idxO (a0.S) x317 fun x320 =>
 letO (IntKind.wrap .i64 (↑(UInt8.toNat x320) : Int)) fun x321 =>
 (Fz33 x321).bind fun x322 =>
 some (.inl ((x322.fst, x317)))))
 (some (.inr (.inl ((decide (s296.fst = 6), s296))))))) ((x293.fst, 0)))
 (Sum.elim (fun (s294 : Bool × Int × Int) =>
 sideO ((0 : Int) ≤ (0 : Int) ∧ 0 ≤ s294.snd.snd ∧ s294.snd.snd ≤ (↑(List.length a0.S) : Int)) (
 cond (!decide (List.drop (Int.toNat 0) (List.take (Int.toNat s294.snd.snd) a0.S) = a0.S))
 (some (.inr (6)))
 (some (.inl (16))))) some))))
 (cond (decide (a0.Kind = 3))
 ((Fz35 (a0.S)).bind fun x325 =>
 cond (!x325)
 (some (.inr (6)))
 (some (.inl (2000))))
 (some (.inl (0)))))
 (Sum.elim (fun (s280 : Int) =>
 cond (decide (s280 < (↑(List.length a0.S) : Int)))
 (some (3))
 (some (0))) some))))) some)
noncomputable def Fz37 (a0 : List UInt8) : Option (Bool) :=
 cond (decide (a0 = (ByteArray.mk #[118, 97, 114]).data.toList))
 (some (false))
 (cond (decide (a0 = (ByteArray.mk #[100, 101, 102]).data.toList))
 (some (false))
 (cond (decide (a0 = (ByteArray.mk #[111, 117, 116]).data.toList))
 (some (false))
 (cond (decide (a0 = (ByteArray.mk #[105, 102]).data.toList))
 (some (false))
 (cond (decide (a0 = (ByteArray.mk #[101, 108, 115, 101]).data.toList))
 (some (false))
 (cond (decide (a0 = (ByteArray.mk #[119, 104, 105, 108, 101]).data.toList))
 (some (false))
 (cond (decide (a0 = (ByteArray.mk #[101, 110, 100]).data.toList))
 (some (false))
 (cond (decide (a0 = (ByteArray.mk #[114, 101, 108, 101, 97, 115, 101]).data.toList))
 (some (false))
 (cond (decide (a0 = (ByteArray.mk #[105, 110, 116]).data.toList))
 (some (false))
 (cond (decide (a0 = (ByteArray.mk #[99, 104, 97, 114]).data.toList))
 (some (false))
 ((Fz30 a0).bind fun x270 =>
 cond (decide (x270.snd = 0))
 (some (false))
 ((Fz36 (TK.mk 1 0 0 0 a0)).bind fun x328 =>
 some (decide (x328 = 0)))))))))))))
noncomputable def Fz38 (a0 : TL) (a1 : Int) : Option (Bool) :=
 cond (decide (0 ≤ a1))
 (some (decide (a1 < (↑(List.length (List.map SV.str a0.Names)) : Int))))
 (some (false))
noncomputable def Fz39 (a0 : TP) : Option (Int × Int) :=
 cond (decide (16 < (↑(List.length (List.map enc_TR a0.Channels)) : Int)))
 (some (((-1 : Int), 3)))
 (Option.bind (
 lpO (fun (s214 : Int × List (List UInt8)) =>
 cond (decide (s214.fst < (↑(List.length (List.map enc_TR a0.Channels)) : Int)))
 (idxO (a0.Channels) (s214.fst) fun x223 =>
 (Fz37 (x223.s_)).bind fun x225 =>
 cond (!x225)
 (some (.inr (.inr ((s214.fst, 24)))))
 (cond (inL (x223.s_) (s214.snd))
 (some (.inr (.inr ((s214.fst, 8)))))
 (cond (inL (x223.s_) (s214.snd))
 ((Fz38 (a0.Lattice) (x223.at_)).bind fun x233 =>
 cond (!x233)
 (some (.inr (.inr ((s214.fst, 7)))))
 (letO (IntKind.wrap .i64 (s214.fst + 1)) fun x235 =>
 some (.inl ((x235, s214.snd)))))
 ((Fz38 (a0.Lattice) (x223.at_)).bind fun x236 =>
 cond (!x236)
 (some (.inr (.inr ((s214.fst, 7)))))
 (letO (IntKind.wrap .i64 (s214.fst + 1)) fun x238 =>
 some (.inl ((x238, s214.snd ++ [x223.s_]))))))))
 (some (.inr (.inl ())))) ((0, [])))
 (Sum.elim (fun (s212 : Unit) =>
 some ((0, 0))) some))
noncomputable def Fz40 (a0 : TL) (a1 : List Int) : Option (Int) :=
 (Fz28 a0).bind fun x249 =>
 cond (!decide (x249.snd = 0))
 (some (x249.snd))
 (Option.bind (
 lpO (fun (s253 : Int) =>
 cond (decide (s253 < (↑(List.length (List.map (SV.int .i64) a1)) : Int)))
 (idxO a1 s253 fun x259 =>
 cond (decide (x259 < 0))
 (some (.inr (.inr (7))))
 (cond (decide ((↑(List.length (List.map SV.str a0.Names)) : Int) ≤ x259))
 (some (.inr (.inr (7))))
 (letO (IntKind.wrap .i64 (s253 + 1)) fun x262 =>
 some (.inl x262))))
 (some (.inr (.inl ())))) (0))
 (Sum.elim (fun (s251 : Unit) =>
 some (0)) some))
noncomputable def Fz41 (a0 : Int) : Option (Int) :=
 idxO ((ByteArray.mk (List.toArray (List.append (List.append [(0 : UInt8), (1 : UInt8), (1 : UInt8), (2 : UInt8), (1 : UInt8), (2 : UInt8), (2 : UInt8), (3 : UInt8), (1 : UInt8), (2 : UInt8), (2 : UInt8), (3 : UInt8), (2 : UInt8), (3 : UInt8), (3 : UInt8), (4 : UInt8), (1 : UInt8), (2 : UInt8), (2 : UInt8), (3 : UInt8), (2 : UInt8), (3 : UInt8), (3 : UInt8), (4 : UInt8), (2 : UInt8), (3 : UInt8), (3 : UInt8), (4 : UInt8), (3 : UInt8), (4 : UInt8), (4 : UInt8), (5 : UInt8), (1 : UInt8), (2 : UInt8), (2 : UInt8), (3 : UInt8), (2 : UInt8), (3 : UInt8), (3 : UInt8), (4 : UInt8), (2 : UInt8), (3 : UInt8), (3 : UInt8), (4 : UInt8), (3 : UInt8), (4 : UInt8), (4 : UInt8), (5 : UInt8), (2 : UInt8), (3 : UInt8), (3 : UInt8), (4 : UInt8), (3 : UInt8), (4 : UInt8), (4 : UInt8), (5 : UInt8), (3 : UInt8), (4 : UInt8), (4 : UInt8), (5 : UInt8), (4 : UInt8), (5 : UInt8), (5 : UInt8), (6 : UInt8)] [(1 : UInt8), (2 : UInt8), (2 : UInt8), (3 : UInt8), (2 : UInt8), (3 : UInt8), (3 : UInt8), (4 : UInt8), (2 : UInt8), (3 : UInt8), (3 : UInt8), (4 : UInt8), (3 : UInt8), (4 : UInt8), (4 : UInt8), (5 : UInt8), (2 : UInt8), (3 : UInt8), (3 : UInt8), (4 : UInt8), (3 : UInt8), (4 : UInt8), (4 : UInt8), (5 : UInt8), (3 : UInt8), (4 : UInt8), (4 : UInt8), (5 : UInt8), (4 : UInt8), (5 : UInt8), (5 : UInt8), (6 : UInt8), (2 : UInt8), (3 : UInt8), (3 : UInt8), (4 : UInt8), (3 : UInt8), (4 : UInt8), (4 : UInt8), (5 : UInt8), (3 : UInt8), (4 : UInt8), (4 : UInt8), (5 : UInt8), (4 : UInt8), (5 : UInt8), (5 : UInt8), (6 : UInt8), (3 : UInt8), (4 : UInt8), (4 : UInt8), (5 : UInt8), (4 : UInt8), (5 : UInt8), (5 : UInt8), (6 : UInt8), (4 : UInt8), (5 : UInt8), (5 : UInt8), (6 : UInt8), (5 : UInt8), (6 : UInt8), (6 : UInt8), (7 : UInt8)]) (List.append [(1 : UInt8), (2 : UInt8), (2 : UInt8), (3 : UInt8), (2 : UInt8), (3 : UInt8), (3 : UInt8), (4 : UInt8), (2 : UInt8), (3 : UInt8), (3 : UInt8), (4 : UInt8), (3 : UInt8), (4 : UInt8), (4 : UInt8), (5 : UInt8), (2 : UInt8), (3 : UInt8), (3 : UInt8), (4 : UInt8), (3 : UInt8), (4 : UInt8), (4 : UInt8), (5 : UInt8), (3 : UInt8), (4 : UInt8), (4 : UInt8), (5 : UInt8), (4 : UInt8), (5 : UInt8), (5 : UInt8), (6 : UInt8), (2 : UInt8), (3 : UInt8), (3 : UInt8), (4 : UInt8), (3 : UInt8), (4 : UInt8), (4 : UInt8), (5 : UInt8), (3 : UInt8), (4 : UInt8), (4 : UInt8), (5 : UInt8), (4 : UInt8), (5 : UInt8), (5 : UInt8), (6 : UInt8), (3 : UInt8), (4 : UInt8), (4 : UInt8), (5 : UInt8), (4 : UInt8), (5 : UInt8), (5 : UInt8), (6 : UInt8), (4 : UInt8), (5 : UInt8), (5 : UInt8), (6 : UInt8), (5 : UInt8), (6 : UInt8), (6 : UInt8), (7 : UInt8)] [(2 : UInt8), (3 : UInt8), (3 : UInt8), (4 : UInt8), (3 : UInt8), (4 : UInt8), (4 : UInt8), (5 : UInt8), (3 : UInt8), (4 : UInt8), (4 : UInt8), (5 : UInt8), (4 : UInt8), (5 : UInt8), (5 : UInt8), (6 : UInt8), (3 : UInt8), (4 : UInt8), (4 : UInt8), (5 : UInt8), (4 : UInt8), (5 : UInt8), (5 : UInt8), (6 : UInt8), (4 : UInt8), (5 : UInt8), (5 : UInt8), (6 : UInt8), (5 : UInt8), (6 : UInt8), (6 : UInt8), (7 : UInt8), (3 : UInt8), (4 : UInt8), (4 : UInt8), (5 : UInt8), (4 : UInt8), (5 : UInt8), (5 : UInt8), (6 : UInt8), (4 : UInt8), (5 : UInt8), (5 : UInt8), (6 : UInt8), (5 : UInt8), (6 : UInt8), (6 : UInt8), (7 : UInt8), (4 : UInt8), (5 : UInt8), (5 : UInt8), (6 : UInt8), (5 : UInt8), (6 : UInt8), (6 : UInt8), (7 : UInt8), (5 : UInt8), (6 : UInt8), (6 : UInt8), (7 : UInt8), (6 : UInt8), (7 : UInt8), (7 : UInt8), (8 : UInt8)])))).data.toList) a0 fun x271 =>
 letO (IntKind.wrap .i64 (↑(UInt8.toNat x271) : Int)) fun x272 =>
 some x272
noncomputable def Fz42 (a0 : List Int) (a1 : Int) : Option (Int) :=
 Option.bind (
 lpO (fun (s268 : Int) =>
 letO (IntKind.wrap .i64 (a1 - 1)) fun x274 =>
 cond (decide (s268 < x274))
 (sideO (0 ≤ s268 ∧ s268 < (↑(8 : Nat) : Int)) (
 idxO a0 ((↑(Int.toNat s268) : Int)) fun x276 =>
 (Fz41 x276).bind fun x277 =>
 cond (decide (x277 < a1))
 (letO (IntKind.wrap .i64 (s268 + 1)) fun x279 =>
 some (.inl x279))
 (some (.inr (.inl s268)))))
 (some (.inr (.inl s268)))) (0))
 (Sum.elim (fun (s266 : Int) =>
 some s266) some)
noncomputable def Fz43 (a0 : TL) : Option (Int × Int) :=
 (Fz40 a0 ([])).bind fun x263 =>
 cond (!decide (x263 = 0))
 (some ((0, x263)))
 ((Fz25 a0).bind fun x265 =>
 (Fz42 (x265.up_) (x265.n_)).bind fun x280 =>
 some ((x280, 0)))
noncomputable def Fz44 (a0 : TL) (a1 : List Int) : Option (Int × Int) :=
 (Fz28 a0).bind fun x303 =>
 cond (!decide (x303.snd = 0))
 (some (((-1 : Int), x303.snd)))
 (cond (decide (64 < (↑(List.length (List.map (SV.int .i64) a1)) : Int)))
 (some (((-1 : Int), 3)))
 (Option.bind (
 lpO (fun (s308 : Int) =>
 cond (decide (s308 < (↑(List.length (List.map (SV.int .i64) a1)) : Int)))
 (idxO a1 s308 fun x314 =>
 cond (decide (x314 < 0))
 (some (.inr (.inr ((s308, 7)))))
 (cond (decide ((↑(List.length (List.map SV.str a0.Names)) : Int) ≤ x314))
 (some (.inr (.inr ((s308, 7)))))
 (letO (IntKind.wrap .i64 (s308 + 1)) fun x317 =>
 some (.inl x317))))
 (some (.inr (.inl ())))) (0))
 (Sum.elim (fun (s306 : Unit) =>
 some ((0, 0))) some)))
noncomputable def Fz45 (a0 : TL) (a1 : Int) (a2 : Int) : Option (Bool) :=
 idxO (a0.Up) a1 fun x326 =>
 sideO (0 ≤ a2) (
 some (decide (bits BinOp.and IntKind.u8 (Int.fdiv x326 (2 ^ min (Int.toNat a2) (IntKind.bits IntKind.u8))) 1 = 1)))
noncomputable def Fz46 (a0 : Int) (a1 : TL) (a2 : Int) : Option (Bool) :=
 (Fz45 a1 a0 a2).bind fun x327 =>
 some (!x327)
noncomputable def Fz47 (a0 : List Int) (a1 : TL × Int) : Option (Int) :=
 Option.bind (
 lpO (fun (s324 : Int) =>
 cond (decide (s324 < (↑(List.length (List.map (SV.int .i64) a0)) : Int)))
 (idxO a0 s324 fun x330 =>
 (Fz46 x330 (a1.fst) (a1.snd)).bind fun x331 =>
 cond x331
 (some (.inr (.inr s324)))
 (letO (IntKind.wrap .i64 (s324 + 1)) fun x333 =>
 some (.inl x333)))
 (some (.inr (.inl ())))) (0))
 (Sum.elim (fun (s322 : Unit) =>
 some ((-1 : Int))) some)
noncomputable def Fz48 (a0 : TL) (a1 : List Int) (a2 : Int) : Option (Int × Int) :=
 (Fz44 a0 a1).bind fun x318 =>
 cond (!decide (x318.snd = 0))
 (some x318)
 (cond (decide (a2 < 0))
 (some (((-1 : Int), 7)))
 (cond (decide ((↑(List.length (List.map SV.str a0.Names)) : Int) ≤ a2))
 (some (((-1 : Int), 7)))
 ((Fz47 a1 ((a0, a2))).bind fun x334 =>
 cond (decide (0 ≤ x334))
 (some ((x334, 25)))
 (some ((0, 0))))))
noncomputable def Fz49 (a0 : TL) (a1 : TY) : Option (Int) :=
 (Fz43 a0).bind fun x281 =>
 cond (!decide (x281.snd = 0))
 (some (x281.snd))
 (cond (!decide (a1.Kind = 1))
 (cond (!decide (a1.Kind = 2))
 (some (7))
 (cond (decide (a1.Rank < 0))
 (some (7))
 (cond (decide (2 < a1.Rank))
 (some (7))
 ((Fz38 a0 (a1.Axes.fst)).bind fun x287 =>
 cond (!x287)
 (some (7))
 ((Fz38 a0 (a1.Axes.snd)).bind fun x289 =>
 cond (!x289)
 (some (7))
 ((Fz38 a0 (a1.Data)).bind fun x291 =>
 cond (!x291)
 (some (7))
 (sideO (0 ≤ a1.Rank ∧ a1.Rank ≤ (↑(2 : Nat) : Int)) (
 Option.bind (
 lpO (fun (s295 : Int) =>
 cond (decide (s295 < (↑(List.length (List.drop (Int.toNat a1.Rank) (List.take (Int.toNat (↑(2 : Nat) : Int)) [SV.int .i64 a1.Axes.fst, SV.int .i64 a1.Axes.snd]))) : Int)))
 (idxO (List.drop (Int.toNat a1.Rank) (List.take (Int.toNat (↑(2 : Nat) : Int)) [a1.Axes.fst, a1.Axes.snd])) s295 fun x300 =>
 cond (!decide (x300 = x281.fst))
 (some (.inr (.inr (6))))
 (letO (IntKind.wrap .i64 (s295 + 1)) fun x302 =>
 some (.inl x302)))
 (some (.inr (.inl ())))) (0))
 (Sum.elim (fun (s293 : Unit) =>
 sideO (0 ≤ a1.Rank ∧ a1.Rank ≤ (↑(2 : Nat) : Int)) (
 (Fz48 a0 (List.drop (Int.toNat 0) (List.take (Int.toNat a1.Rank) [a1.Axes.fst, a1.Axes.snd])) (a1.Data)).bind fun x336 =>
 cond (!decide (x336.snd = 0))
 (some (x336.snd))
 (some (0)))) some)))))))))
 (cond (decide (a1.Rank < 0))
 (some (7))
 (cond (decide (2 < a1.Rank))
 (some (7))
 ((Fz38 a0 (a1.Axes.fst)).bind fun x340 =>
 cond (!x340)
 (some (7))
 ((Fz38 a0 (a1.Axes.snd)).bind fun x342 =>
 cond (!x342)
 (some (7))
 ((Fz38 a0 (a1.Data)).bind fun x344 =>
 cond (!x344)
 (some (7))
 (sideO (0 ≤ a1.Rank ∧ a1.Rank ≤ (↑(2 : Nat) : Int)) (
 Option.bind (
 lpO (fun (s348 : Int) =>
 cond (decide (s348 < (↑(List.length (List.drop (Int.toNat a1.Rank) (List.take (Int.toNat (↑(2 : Nat) : Int)) [SV.int .i64 a1.Axes.fst, SV.int .i64 a1.Axes.snd]))) : Int)))
 (idxO (List.drop (Int.toNat a1.Rank) (List.take (Int.toNat (↑(2 : Nat) : Int)) [a1.Axes.fst, a1.Axes.snd])) s348 fun x353 =>
 cond (!decide (x353 = x281.fst))
 (some (.inr (.inr (6))))
 (letO (IntKind.wrap .i64 (s348 + 1)) fun x355 =>
 some (.inl x355)))
 (some (.inr (.inl ())))) (0))
 (Sum.elim (fun (s346 : Unit) =>
 sideO (0 ≤ a1.Rank ∧ a1.Rank ≤ (↑(2 : Nat) : Int)) (
 (Fz48 a0 (List.drop (Int.toNat 0) (List.take (Int.toNat a1.Rank) [a1.Axes.fst, a1.Axes.snd])) (a1.Data)).bind fun x356 =>
 cond (!decide (x356.snd = 0))
 (some (x356.snd))
 (some (0)))) some)))))))))
noncomputable def Fz50 (a0 : TP) : Option (Int × Int) :=
 cond (decide (32 < (↑(List.length (List.map enc_TV a0.Vars)) : Int)))
 (some (((-1 : Int), 3)))
 (Option.bind (
 lpO (fun (s244 : Int × List (List UInt8)) =>
 cond (decide (s244.fst < (↑(List.length (List.map enc_TV a0.Vars)) : Int)))
 (idxO (a0.Vars) (s244.fst) fun x253 =>
 (Fz37 (x253.Name)).bind fun x255 =>
 cond (!x255)
 (some (.inr (.inr ((s244.fst, 24)))))
 (cond (inL (x253.Name) (s244.snd))
 (some (.inr (.inr ((s244.fst, 8)))))
 (cond (inL (x253.Name) (s244.snd))
 ((Fz49 (a0.Lattice) (x253.Type_)).bind fun x263 =>
 cond (!decide (x263 = 0))
 (some (.inr (.inr ((s244.fst, x263)))))
 (letO (IntKind.wrap .i64 (s244.fst + 1)) fun x265 =>
 some (.inl ((x265, s244.snd)))))
 ((Fz49 (a0.Lattice) (x253.Type_)).bind fun x266 =>
 cond (!decide (x266 = 0))
 (some (.inr (.inr ((s244.fst, x266)))))
 (letO (IntKind.wrap .i64 (s244.fst + 1)) fun x268 =>
 some (.inl ((x268, s244.snd ++ [x253.Name]))))))))
 (some (.inr (.inl ())))) ((0, [])))
 (Sum.elim (fun (s242 : Unit) =>
 some ((0, 0))) some))
noncomputable def Fz51 (a0 : TP) : Option (Int × Int) :=
 cond (decide (64 < (↑(List.length (List.map enc_TU a0.Rules)) : Int)))
 (some (((-1 : Int), 3)))
 (Option.bind (
 lpO (fun (s274 : Int × List (Int × Int)) =>
 cond (decide (s274.fst < (↑(List.length (List.map enc_TU a0.Rules)) : Int)))
 (idxO (a0.Rules) (s274.fst) fun x287 =>
 (Fz38 (a0.Lattice) (x287.From)).bind fun x288 =>
 cond (!x288)
 (some (.inr (.inr ((s274.fst, 7)))))
 ((Fz38 (a0.Lattice) (x287.Goal)).bind fun x290 =>
 cond (!x290)
 (some (.inr (.inr ((s274.fst, 7)))))
 (cond (decide (x287.From = x287.Goal))
 (some (.inr (.inr ((s274.fst, 25)))))
 (idxO (a0.Lattice.Up) (x287.Goal) fun x293 =>
 sideO (0 ≤ x287.From) (
 cond (decide (bits BinOp.and IntKind.u8 (Int.fdiv x293 (2 ^ min (Int.toNat x287.From) (IntKind.bits IntKind.u8))) 1 = 0))
 (some (.inr (.inr ((s274.fst, 25)))))
 (cond (inL ((x287.From, x287.Goal)) (s274.snd))
 (some (.inr (.inr ((s274.fst, 8)))))
 (cond (decide (x287.K < 2))
 (some (.inr (.inr ((s274.fst, 3)))))
 (cond (decide (400 < x287.K))
 (some (.inr (.inr ((s274.fst, 3)))))
 (cond (inL ((x287.From, x287.Goal)) (s274.snd))
 (letO (IntKind.wrap .i64 (s274.fst + 1)) fun x303 =>
 some (.inl ((x303, s274.snd))))
 (letO (IntKind.wrap .i64 (s274.fst + 1)) fun x304 =>
 some (.inl ((x304, s274.snd ++ [(x287.From, x287.Goal)])))))))))))))
 (some (.inr (.inl ())))) ((0, [])))
 (Sum.elim (fun (s272 : Unit) =>
 some ((0, 0))) some))
noncomputable def Fz52 (a0 : TP) : Option (Int × Int × Int) :=
 Option.bind (
 (Fz29 a0).bind fun x46 =>
 cond (!decide (x46.snd = 0))
 (some (.inl ((1, x46.snd, x46.fst))))
 ((Fz39 a0).bind fun x48 =>
 cond (!decide (x48.snd = 0))
 (some (.inl ((2, x48.snd, x48.fst))))
 ((Fz50 a0).bind fun x50 =>
 cond (!decide (x50.snd = 0))
 (some (.inl ((3, x50.snd, x50.fst))))
 ((Fz51 a0).bind fun x52 =>
 cond (!decide (x52.snd = 0))
 (some (.inl ((4, x52.snd, x52.fst))))
 (some (.inl ((0, x52.snd, x52.fst))))))))
 (Sum.elim (fun (s43 : Int × Int × Int) =>
 some ((s43.fst, s43.snd.snd, s43.snd.fst))) some)
noncomputable def Fz53 (a0 : Int) : Option (List UInt8 × Int) :=
 cond (decide (a0 < 1))
 (some (((ByteArray.mk #[]).data.toList, 2)))
 (cond (decide (4 < a0))
 (some (((ByteArray.mk #[]).data.toList, 2)))
 (pickO a0 [
 some (([], 0)),
 some (([(115 : UInt8), (117 : UInt8), (109 : UInt8)], 0)),
 some (([(99 : UInt8), (111 : UInt8), (117 : UInt8), (110 : UInt8), (116 : UInt8)], 0)),
 some (([(108 : UInt8), (101 : UInt8), (97 : UInt8), (115 : UInt8), (116 : UInt8)], 0)),
 some (([(109 : UInt8), (111 : UInt8), (115 : UInt8), (116 : UInt8)], 0))]))
noncomputable def Fz54 (a0 : TP) (a1 : Int) (a2 : Int) : Option (Int × Int) :=
 (Fz52 a0).bind fun x60 =>
 cond (!decide (x60.snd.snd = 0))
 (some ((0, x60.snd.snd)))
 ((Fz38 (a0.Lattice) a1).bind fun x62 =>
 cond (!x62)
 (some ((0, 7)))
 ((Fz38 (a0.Lattice) a2).bind fun x64 =>
 cond (!x64)
 (some ((0, 7)))
 (Option.bind (
 lpO (fun (s68 : Int) =>
 cond (decide (s68 < (↑(List.length (List.map enc_TU a0.Rules)) : Int)))
 (idxO (a0.Rules) s68 fun x74 =>
 cond (decide (x74.From = a1))
 (cond (decide (x74.Goal = a2))
 (some (.inr (.inr ((x74.K, 0)))))
 (letO (IntKind.wrap .i64 (s68 + 1)) fun x77 =>
 some (.inl x77)))
 (letO (IntKind.wrap .i64 (s68 + 1)) fun x78 =>
 some (.inl x78)))
 (some (.inr (.inl ())))) (0))
 (Sum.elim (fun (s66 : Unit) =>
 some ((0, 4))) some))))
noncomputable def Fz55 (a0 : Int) : Option (Bool) :=
 some (decide (a0 < 0))
noncomputable def Fz56 (a0 : List Int) : Option (Int) :=
 Option.bind (
 lpO (fun (s91 : Int) =>
 cond (decide (s91 < (↑(List.length (List.map (SV.int .i64) a0)) : Int)))
 (idxO a0 s91 fun x97 =>
 (Fz55 x97).bind fun x98 =>
 cond x98
 (some (.inr (.inr s91)))
 (letO (IntKind.wrap .i64 (s91 + 1)) fun x100 =>
 some (.inl x100)))
 (some (.inr (.inl ())))) (0))
 (Sum.elim (fun (s89 : Unit) =>
 some ((-1 : Int))) some)
noncomputable def Fz57 (a0 : List Int) : Option (Bool) :=
 (Fz56 a0).bind fun x101 =>
 some (decide (0 ≤ x101))
noncomputable def Fz58 (a0 : Int) : Option (Bool) :=
 some (!decide (a0 = 0))
noncomputable def Fz59 (a0 : List Int) : Option (Int) :=
 Option.bind (
 lpO (fun (s106 : Int) =>
 cond (decide (s106 < (↑(List.length (List.map (SV.int .i64) a0)) : Int)))
 (idxO a0 s106 fun x112 =>
 (Fz58 x112).bind fun x113 =>
 cond x113
 (some (.inr (.inr s106)))
 (letO (IntKind.wrap .i64 (s106 + 1)) fun x115 =>
 some (.inl x115)))
 (some (.inr (.inl ())))) (0))
 (Sum.elim (fun (s104 : Unit) =>
 some ((-1 : Int))) some)
noncomputable def Fz60 (a0 : List Int) : Option (Bool) :=
 (Fz59 a0).bind fun x116 =>
 some (decide (0 ≤ x116))
noncomputable def Fz61 (a0 : Int) : Option (Bool) :=
 some (decide (400 < a0))
noncomputable def Fz62 (a0 : List Int) : Option (Int) :=
 Option.bind (
 lpO (fun (s121 : Int) =>
 cond (decide (s121 < (↑(List.length (List.map (SV.int .i64) a0)) : Int)))
 (idxO a0 s121 fun x127 =>
 (Fz61 x127).bind fun x128 =>
 cond x128
 (some (.inr (.inr s121)))
 (letO (IntKind.wrap .i64 (s121 + 1)) fun x130 =>
 some (.inl x130)))
 (some (.inr (.inl ())))) (0))
 (Sum.elim (fun (s119 : Unit) =>
 some ((-1 : Int))) some)
noncomputable def Fz63 (a0 : List Int) : Option (Bool) :=
 (Fz62 a0).bind fun x131 =>
 some (decide (0 ≤ x131))
noncomputable def Fz64 (a0 : Int) (a1 : Int × Int) : Option (Int) :=
 cond (decide (a0 = 2))
 (letO (IntKind.wrap .i64 (1 * a1.snd)) fun x135 =>
 letO (IntKind.wrap .i64 (x135 * a1.fst)) fun x136 =>
 some x136)
 (cond (decide (a0 = 1))
 (letO (IntKind.wrap .i64 (1 * a1.fst)) fun x138 =>
 some x138)
 (some (1)))
noncomputable def Fz65 (a0 : Int) (a1 : Int × Int) : Option (Int) :=
 cond (decide (a0 < 0))
 (some (7))
 (cond (decide (2 < a0))
 (some (7))
 (sideO (0 ≤ a0 ∧ a0 ≤ (↑(2 : Nat) : Int)) (
 sideO (0 ≤ a0 ∧ a0 ≤ (↑(2 : Nat) : Int)) (
 (Fz57 (List.drop (Int.toNat 0) (List.take (Int.toNat a0) [a1.fst, a1.snd]))).bind fun x102 =>
 cond x102
 (some (7))
 ((Fz60 (List.drop (Int.toNat a0) (List.take (Int.toNat (↑(2 : Nat) : Int)) [a1.fst, a1.snd]))).bind fun x117 =>
 cond x117
 (some (6))
 ((Fz63 (List.drop (Int.toNat 0) (List.take (Int.toNat a0) [a1.fst, a1.snd]))).bind fun x132 =>
 cond x132
 (some (15))
 ((Fz64 a0 a1).bind fun x139 =>
 cond (decide (400 < x139))
 (some (15))
 (some (0)))))))))
noncomputable def Fz66 (a0 : Int) (a1 : Int × Int) : Option (Int × Int) :=
 (Fz65 a0 a1).bind fun x141 =>
 cond (!decide (x141 = 0))
 (some ((0, x141)))
 ((Fz64 a0 a1).bind fun x143 =>
 some ((x143, 0)))
noncomputable def Fz67 (a0 : Int) (a1 : Int) : Option (Bool) :=
 cond (decide (a0 = 1))
 (some (true))
 (cond (decide (0 ≤ a1))
 (cond (decide (a1 ≤ 1114111))
 (letO (IntKind.wrap .i32 a1) fun x154 =>
 (Fz14 x154).bind fun x155 =>
 some x155)
 (some (false)))
 (some (false)))
noncomputable def Fz68 (a0 : Int) (a1 : TA) : Option (Bool) :=
 (Fz67 (a1.Kind) a0).bind fun x156 =>
 some (!x156)
noncomputable def Fz69 (a0 : List Int) (a1 : TA) : Option (Int) :=
 Option.bind (
 lpO (fun (s149 : Int) =>
 cond (decide (s149 < (↑(List.length (List.map (SV.int .i64) a0)) : Int)))
 (idxO a0 s149 fun x155 =>
 (Fz68 x155 a1).bind fun x156 =>
 cond x156
 (some (.inr (.inr s149)))
 (letO (IntKind.wrap .i64 (s149 + 1)) fun x158 =>
 some (.inl x158)))
 (some (.inr (.inl ())))) (0))
 (Sum.elim (fun (s147 : Unit) =>
 some ((-1 : Int))) some)
noncomputable def Fz70 (a0 : List Int) (a1 : TA) : Option (Bool) :=
 (Fz69 a0 a1).bind fun x159 =>
 some (decide (0 ≤ x159))
noncomputable def Fz71 (a0 : TA) : Option (Int) :=
 cond (!decide (a0.Kind = 1))
 (cond (!decide (a0.Kind = 2))
 (some (2))
 ((Fz66 (a0.Rank) (a0.Lens)).bind fun x144 =>
 cond (!decide (x144.snd = 0))
 (some (x144.snd))
 (cond (!decide ((↑(List.length (List.map (SV.int .i64) a0.Cells)) : Int) = x144.fst))
 (some (6))
 ((Fz70 (a0.Cells) a0).bind fun x160 =>
 cond x160
 (some (7))
 (some (0))))))
 ((Fz66 (a0.Rank) (a0.Lens)).bind fun x162 =>
 cond (!decide (x162.snd = 0))
 (some (x162.snd))
 (cond (!decide ((↑(List.length (List.map (SV.int .i64) a0.Cells)) : Int) = x162.fst))
 (some (6))
 ((Fz70 (a0.Cells) a0).bind fun x165 =>
 cond x165
 (some (7))
 (some (0)))))
noncomputable def Fz72 : Option (Unit) :=
 some (())
noncomputable def Fz73 (a0 : Int) (a1 : Int) : Option (Int × Int) :=
 letO (IntKind.wrap .i64 (a0 + a1)) fun x177 =>
 cond (decide (bits BinOp.and IntKind.i64 (bits BinOp.xor IntKind.i64 a0 x177) (bits BinOp.xor IntKind.i64 a1 x177) < 0))
 (some ((0, 12)))
 (some ((x177, 0)))
noncomputable def Fz74 (a0 : Int) (a1 : Int) (a2 : Bool) : Option (Int × Int) :=
 cond (decide (a1 = 0))
 (some ((a0, 0)))
 (cond a2
 (some (((-9223372036854775808 : Int), 0)))
 (some ((9223372036854775807, 0))))
noncomputable def Fz75 (a0 : Int) (a1 : Int) : Option (Int × Int) :=
 (Fz73 a0 a1).bind fun x179 =>
 (Fz74 (x179.fst) (x179.snd) (decide (a0 < 0))).bind fun x182 =>
 some x182
noncomputable def Fz76 (a2 : Int) : Option (Int × Int) :=
 (Fz72).bind fun x176 =>
 (Fz75 (0) a2).bind fun x183 =>
 some x183
noncomputable def Fz77 (a1 : Int) (a2 : Int) : Option (Int × Int) :=
 (Fz72).bind fun x187 =>
 (Fz75 a1 a2).bind fun x188 =>
 some x188
noncomputable def Fz78 (a0 : List Int) : Option (Int) :=
 Option.bind (
 lpO (fun (s174 : Int × Int) =>
 cond (decide (s174.fst < (↑(List.length (List.map (SV.int .i64) a0)) : Int)))
 (idxO a0 (s174.fst) fun x179 =>
 (Fz77 (s174.snd) x179).bind fun x180 =>
 letO (IntKind.wrap .i64 (s174.fst + 1)) fun x181 =>
 some (.inl ((x181, x180.fst))))
 (some (.inr (.inl (s174.snd))))) ((0, 0)))
 (Sum.elim (fun (s172 : Int) =>
 some s172) some)
noncomputable def Fz79 (a0 : List Int) : Option (Int) :=
 Option.bind (
 lpO (fun (s185 : Int × Int) =>
 cond (decide (s185.fst < (↑(List.length (List.map (SV.int .i64) a0)) : Int)))
 (idxO a0 (s185.fst) fun x190 =>
 cond (!decide (x190 = 0))
 (letO (IntKind.wrap .i64 (s185.snd + 1)) fun x192 =>
 letO (IntKind.wrap .i64 (s185.fst + 1)) fun x193 =>
 some (.inl ((x193, x192))))
 (letO (IntKind.wrap .i64 (s185.fst + 1)) fun x194 =>
 some (.inl ((x194, s185.snd)))))
 (some (.inr (.inl (s185.snd))))) ((0, 0)))
 (Sum.elim (fun (s183 : Int) =>
 some s183) some)
noncomputable def Fz80 (a0 : List Int) : Option (Int) :=
 cond (decide ((↑(List.length (List.map (SV.int .i64) a0)) : Int) < 1))
 (none)
 (idxO a0 (0) fun x197 =>
 Option.bind (
 lpO (fun (s200 : Int × Int) =>
 cond (decide (s200.fst < (↑(List.length (List.map (SV.int .i64) a0)) : Int)))
 (idxO a0 (s200.fst) fun x204 =>
 letO (IntKind.wrap .i64 (s200.fst + 1)) fun x205 =>
 some (.inl ((x205, min s200.snd x204))))
 (some (.inr (.inl (s200.snd))))) ((1, x197)))
 (Sum.elim (fun (s198 : Int) =>
 some s198) some))
noncomputable def Fz81 (a0 : List Int) : Option (Int) :=
 (Fz80 a0).bind fun x206 =>
 some x206
noncomputable def Fz82 (a0 : List Int) : Option (Int) :=
 cond (decide ((↑(List.length (List.map (SV.int .i64) a0)) : Int) < 1))
 (none)
 (idxO a0 (0) fun x209 =>
 Option.bind (
 lpO (fun (s212 : Int × Int) =>
 cond (decide (s212.fst < (↑(List.length (List.map (SV.int .i64) a0)) : Int)))
 (idxO a0 (s212.fst) fun x216 =>
 letO (IntKind.wrap .i64 (s212.fst + 1)) fun x217 =>
 some (.inl ((x217, max s212.snd x216))))
 (some (.inr (.inl (s212.snd))))) ((1, x209)))
 (Sum.elim (fun (s210 : Int) =>
 some s210) some))
noncomputable def Fz83 (a0 : List Int) : Option (Int) :=
 (Fz82 a0).bind fun x218 =>
 some x218
noncomputable def Fz84 (a0 : Int) (a1 : Int) (a2 : TA) : Option ((Int × Int) × Int) :=
 (Fz53 a0).bind fun x81 =>
 cond (!decide (x81.snd = 0))
 (some (((0, 0), x81.snd)))
 (cond (decide (a1 < 2))
 (some (((0, 0), 7)))
 (cond (decide (400 < a1))
 (some (((0, 0), 7)))
 ((Fz71 a2).bind fun x167 =>
 cond (!decide (x167 = 0))
 (some (((0, 0), x167)))
 (cond (!decide (a2.Kind = 1))
 (some (((0, 0), 21)))
 (cond (!decide (a2.Rank = 1))
 (some (((0, 0), 22)))
 (cond (decide ((↑(List.length (List.map (SV.int .i64) a2.Cells)) : Int) < a1))
 (some (((0, 0), 0)))
 (pickO a0 [
 none,
 (Fz78 (a2.Cells)).bind fun x182 =>
 some (((1, x182), 0)),
 (Fz79 (a2.Cells)).bind fun x195 =>
 some (((1, x195), 0)),
 (Fz81 (a2.Cells)).bind fun x207 =>
 some (((1, x207), 0)),
 (Fz83 (a2.Cells)).bind fun x219 =>
 some (((1, x219), 0))])))))))
noncomputable def Fz85 (a0 : Int) (a1 : List Int) : Option (TA × Int) :=
 cond (decide (400 < (↑(List.length (List.map (SV.int .i64) a1)) : Int)))
 (some ((TA.mk 0 0 (0, 0) [], 15)))
 (Option.bind (
 lpO (fun (s225 : Int × List Int) =>
 cond (decide (s225.fst < (↑(List.length (List.map (SV.int .i64) a1)) : Int)))
 (idxO a1 (s225.fst) fun x231 =>
 sideO ((List.length (List.map (SV.int .i64) s225.snd) + (1 : Nat)) * (8 : Nat) ≤ (70368744177664 : Nat)) (
 letO (IntKind.wrap .i64 (s225.fst + 1)) fun x232 =>
 some (.inl ((x232, s225.snd ++ [x231])))))
 (some (.inr (.inl (s225.snd))))) ((0, [])))
 (Sum.elim (fun (s223 : List Int) =>
 some ((TA.mk a0 1 ((↑(List.length (List.map (SV.int .i64) a1)) : Int), 0) s223, 0))) some))
noncomputable def Fz86 (a0 : List Int) : Option (TA × Int) :=
 (Fz85 (1) a0).bind fun x233 =>
 some x233
noncomputable def Fz87 (a0 : TP) (a1 : Int) (a2 : Int) (a3 : Int) (a4 : TA) : Option (TA × TE × Int) :=
 (Fz52 a0).bind fun x54 =>
 cond (!decide (x54.snd.snd = 0))
 (some ((TA.mk 0 0 (0, 0) [], TE.mk 0 0 0 0 0 (0, 0), x54.snd.snd)))
 ((Fz53 a1).bind fun x58 =>
 cond (!decide (x58.snd = 0))
 (some ((TA.mk 0 0 (0, 0) [], TE.mk 0 0 0 0 0 (0, 0), x58.snd)))
 ((Fz54 a0 a2 a3).bind fun x79 =>
 cond (!decide (x79.snd = 0))
 (some ((TA.mk 0 0 (0, 0) [], TE.mk 0 0 0 0 0 (0, 0), x79.snd)))
 ((Fz84 a1 (x79.fst) a4).bind fun x220 =>
 cond (!decide (x220.snd = 0))
 (some ((TA.mk 0 0 (0, 0) [], TE.mk 0 0 0 0 0 (0, 0), x220.snd)))
 ((Fz86 (List.drop (Int.toNat 0) (List.take (Int.toNat (↑(2 : Nat) : Int)) [x220.fst.fst, x220.fst.snd]))).bind fun x234 =>
 cond (!decide (x234.snd = 0))
 (some ((TA.mk 0 0 (0, 0) [], TE.mk 0 0 0 0 0 (0, 0), x234.snd)))
 (some ((x234.fst, TE.mk 0 a1 a2 a3 (↑(List.length (List.map (SV.int .i64) a4.Cells)) : Int) x220.fst, 0)))))))
noncomputable def Fz88 (a0 : Int) : Option (Bool) :=
 cond (decide (97 ≤ a0))
 (some (decide (a0 ≤ 122)))
 (some (false))
noncomputable def Fz89 (a0 : Int) : Option (Bool) :=
 cond (decide (48 ≤ a0))
 (some (decide (a0 ≤ 57)))
 (some (false))
noncomputable def Fz90 (a0 : List UInt8) : Option (Bool) :=
 cond (decide ((↑(List.length a0) : Int) < 1))
 (some (false))
 (cond (decide (16 < (↑(List.length a0) : Int)))
 (some (false))
 (idxO a0 (0) fun x248 =>
 (Fz88 ((↑(UInt8.toNat x248) : Int))).bind fun x250 =>
 cond (!x250)
 (some (false))
 (Option.bind (
 lpO (fun (s254 : Int) =>
 cond (decide (s254 < (↑(List.length a0) : Int)))
 (idxO a0 s254 fun x265 =>
 (Fz88 ((↑(UInt8.toNat x265) : Int))).bind fun x266 =>
 cond (!x266)
 (idxO a0 s254 fun x268 =>
 (Fz89 ((↑(UInt8.toNat x268) : Int))).bind fun x269 =>
 cond (!x269)
 (idxO a0 s254 fun x271 =>
 cond (!decide ((↑(UInt8.toNat x271) : Int) = 45))
 (some (.inr (.inr (false))))
 (letO (IntKind.wrap .i64 (s254 + 1)) fun x273 =>
 some (.inl x273)))
 (letO (IntKind.wrap .i64 (s254 + 1)) fun x274 =>
 some (.inl x274)))
 (letO (IntKind.wrap .i64 (s254 + 1)) fun x275 =>
 some (.inl x275)))
 (some (.inr (.inl ())))) (0))
 (Sum.elim (fun (s252 : Unit) =>
 some (true)) some))))
noncomputable def Fz91 (a0 : List (List UInt8)) : Option (Int × Int) :=
 cond (decide ((↑(List.length (List.map SV.str a0)) : Int) < 1))
 (some (((-1 : Int), 3)))
 (cond (decide (8 < (↑(List.length (List.map SV.str a0)) : Int)))
 (some (((-1 : Int), 3)))
 (Option.bind (
 lpO (fun (s244 : Int) =>
 cond (decide (s244 < (↑(List.length (List.map SV.str a0)) : Int)))
 (idxO a0 s244 fun x253 =>
 (Fz90 x253).bind fun x254 =>
 cond (!x254)
 (some (.inr (.inr ((s244, 6)))))
 (Option.bind (
 lpO (fun (s258 : Int) =>
 cond (decide (s258 < s244))
 (idxO a0 s258 fun x264 =>
 idxO a0 s244 fun x265 =>
 cond (decide (x264 = x265))
 (some (.inr (.inr (.inr (.inr ((s244, 8)))))))
 (letO (IntKind.wrap .i64 (s258 + 1)) fun x267 =>
 some (.inl x267)))
 (some (.inr (.inl ())))) (0))
 (Sum.elim (fun (s256 : Unit) =>
 letO (IntKind.wrap .i64 (s244 + 1)) fun x268 =>
 some (.inl x268)) some)))
 (some (.inr (.inl ())))) (0))
 (Sum.elim (fun (s242 : Unit) =>
 some ((0, 0))) some)))
noncomputable def Fz92 (a0 : TL) (a1 : Int) (a2 : Int) : Option (Bool) :=
 cond (decide (0 ≤ a1))
 (cond (decide (a1 < (↑(List.length (List.map (SV.int .u8) a0.Up)) : Int)))
 (cond (decide (0 ≤ a2))
 (idxO (a0.Up) a1 fun x281 =>
 sideO (0 ≤ a2) (
 some (decide (Int.tmod (Int.fdiv x281 (2 ^ min (Int.toNat a2) (IntKind.bits IntKind.u8))) 2 = 1))))
 (some (false)))
 (some (false)))
 (some (false))
noncomputable def Fz93 (a0 : TL) (a1 : Int) : Option (Bool) :=
 idxO (a0.Up) a1 fun x275 =>
 letO (IntKind.wrap .i64 x275) fun x276 =>
 sideO ((0 : Int) ≤ (↑(List.length (List.map SV.str a0.Names)) : Int)) (
 cond (decide (0 < Int.fdiv x276 (2 ^ min (Int.toNat (↑(List.length (List.map SV.str a0.Names)) : Int)) (IntKind.bits IntKind.i64))))
 (some (false))
 ((Fz92 a0 a1 a1).bind fun x282 =>
 cond (!x282)
 (some (false))
 (Option.bind (
 lpO (fun (s286 : Int) =>
 cond (decide (s286 < (↑(List.length (List.map SV.str a0.Names)) : Int)))
 ((Fz92 a0 a1 s286).bind fun x300 =>
 cond (!x300)
 (letO (IntKind.wrap .i64 (s286 + 1)) fun x302 =>
 some (.inl x302))
 (idxO (a0.Up) s286 fun x303 =>
 letO (IntKind.wrap .i64 x303) fun x304 =>
 sideO ((0 : Int) ≤ (↑(List.length (List.map SV.str a0.Names)) : Int)) (
 letO (IntKind.wrap .i64 (1 * 2 ^ min (Int.toNat (↑(List.length (List.map SV.str a0.Names)) : Int)) (IntKind.bits IntKind.i64))) fun x305 =>
 letO (IntKind.wrap .i64 (x305 - 1)) fun x306 =>
 cond (!decide (s286 = a1))
 ((Fz92 a0 s286 a1).bind fun x308 =>
 cond x308
 (some (.inr (.inr (false))))
 (cond (!decide (bits BinOp.and IntKind.i64 (bits BinOp.and IntKind.i64 x304 x306) x276 = bits BinOp.and IntKind.i64 x304 x306))
 (some (.inr (.inr (false))))
 (letO (IntKind.wrap .i64 (s286 + 1)) fun x311 =>
 some (.inl x311))))
 (cond (!decide (bits BinOp.and IntKind.i64 (bits BinOp.and IntKind.i64 x304 x306) x276 = bits BinOp.and IntKind.i64 x304 x306))
 (some (.inr (.inr (false))))
 (letO (IntKind.wrap .i64 (s286 + 1)) fun x313 =>
 some (.inl x313))))))
 (some (.inr (.inl ())))) (0))
 (Sum.elim (fun (s284 : Unit) =>
 some (true)) some))))
noncomputable def Fz94 (a0 : TL) : Option (List Int) :=
 sideO ((0 : Int) ≤ (↑(List.length (List.map SV.str a0.Names)) : Int) ∧ (↑(List.length (List.map SV.str a0.Names)) : Int) = (↑(List.length (List.map SV.str a0.Names)) : Int) ∧ (↑(List.length (List.map SV.str a0.Names)) : Int) ≤ (70368744177664 : Int) ∧ (↑(List.length (List.map SV.str a0.Names)) : Int) * (↑(1 : Nat) : Int) ≤ (70368744177664 : Int)) (
 Option.bind (
 lpO (fun (s284 : Int × List Int) =>
 cond (decide (s284.fst < (↑(List.length (List.map SV.str a0.Names)) : Int)))
 (Option.bind (
 lpO (fun (s303 : Int × List Int) =>
 cond (decide (s303.fst < (↑(List.length (List.map SV.str a0.Names)) : Int)))
 ((Fz92 a0 (s284.fst) (s303.fst)).bind fun x311 =>
 cond x311
 (sideO (0 ≤ s303.fst ∧ s303.fst < (↑(List.length (List.map (SV.int .u8) s303.snd)) : Int)) (
 idxO (s303.snd) ((↑(Int.toNat s303.fst) : Int)) fun x313 =>
 sideO (0 ≤ s284.fst) (
 letO (IntKind.wrap .u8 (1 * 2 ^ min (Int.toNat s284.fst) (IntKind.bits IntKind.u8))) fun x314 =>
 sideO (0 ≤ s303.fst ∧ s303.fst < (↑(List.length (List.map (SV.int .u8) s303.snd)) : Int)) (
 idxO (s303.snd) ((↑(Int.toNat s303.fst) : Int)) fun x315 =>
 letO (IntKind.wrap .i64 (s303.fst + 1)) fun x316 =>
 some (.inl ((x316, List.set s303.snd (Int.toNat s303.fst) (bits BinOp.or IntKind.u8 x313 x314))))))))
 (letO (IntKind.wrap .i64 (s303.fst + 1)) fun x317 =>
 some (.inl ((x317, s303.snd)))))
 (some (.inr (.inl (s303.snd))))) ((0, s284.snd)))
 (Sum.elim (fun (s301 : List Int) =>
 letO (IntKind.wrap .i64 (s284.fst + 1)) fun x318 =>
 some (.inl ((x318, s301)))) some))
 (some (.inr (.inl (s284.snd))))) ((0, List.replicate (Int.toNat (↑(List.length (List.map SV.str a0.Names)) : Int)) 0)))
 (Sum.elim (fun (s282 : List Int) =>
 some s282) some))
noncomputable def Fz95 (a0 : List Int) (a1 : Int) (a2 : Int) : Option (Int) :=
 idxO a0 a1 fun x325 =>
 idxO a0 a2 fun x326 =>
 Option.bind (
 lpO (fun (s329 : Int) =>
 cond (decide (s329 < (↑(List.length (List.map (SV.int .u8) a0)) : Int)))
 (idxO a0 s329 fun x334 =>
 cond (decide (x334 = bits BinOp.and IntKind.u8 x325 x326))
 (some (.inr (.inr s329)))
 (letO (IntKind.wrap .i64 (s329 + 1)) fun x336 =>
 some (.inl x336)))
 (some (.inr (.inl ())))) (0))
 (Sum.elim (fun (s327 : Unit) =>
 some ((-1 : Int))) some)
noncomputable def Fz96 (a0 : TL) : Option (Int × Int) :=
 (Fz91 (a0.Names)).bind fun x269 =>
 cond (!decide (x269.snd = 0))
 (some x269)
 (cond (!decide ((↑(List.length (List.map (SV.int .u8) a0.Up)) : Int) = (↑(List.length (List.map SV.str a0.Names)) : Int)))
 (some (((-1 : Int), 6)))
 (Option.bind (
 lpO (fun (s274 : Int) =>
 cond (decide (s274 < (↑(List.length (List.map SV.str a0.Names)) : Int)))
 ((Fz93 a0 s274).bind fun x279 =>
 cond (!x279)
 (some (.inr (.inr ((s274, 6)))))
 (letO (IntKind.wrap .i64 (s274 + 1)) fun x281 =>
 some (.inl x281)))
 (some (.inr (.inl ())))) (0))
 (Sum.elim (fun (s272 : Unit) =>
 (Fz94 a0).bind fun x319 =>
 Option.bind (
 lpO (fun (s322 : Int) =>
 cond (decide (s322 < (↑(List.length (List.map SV.str a0.Names)) : Int)))
 (Option.bind (
 lpO (fun (s340 : Int) =>
 cond (decide (s340 < (↑(List.length (List.map SV.str a0.Names)) : Int)))
 ((Fz95 (a0.Up) s322 s340).bind fun x347 =>
 cond (decide (x347 < 0))
 (some (.inr (.inr (.inr (.inr ((s322, 4)))))))
 ((Fz95 x319 s322 s340).bind fun x349 =>
 cond (decide (x349 < 0))
 (some (.inr (.inr (.inr (.inr ((s322, 4)))))))
 (letO (IntKind.wrap .i64 (s340 + 1)) fun x351 =>
 some (.inl x351))))
 (some (.inr (.inl ())))) (0))
 (Sum.elim (fun (s338 : Unit) =>
 letO (IntKind.wrap .i64 (s322 + 1)) fun x352 =>
 some (.inl x352)) some))
 (some (.inr (.inl ())))) (0))
 (Sum.elim (fun (s320 : Unit) =>
 some ((0, 0))) some)) some)))
noncomputable def Fz97 : Option (List (List UInt8)) :=
 some ([(ByteArray.mk #[110, 101, 103]).data.toList, (ByteArray.mk #[97, 98, 115]).data.toList, (ByteArray.mk #[110, 111, 116]).data.toList, (ByteArray.mk #[115, 104, 97, 112, 101]).data.toList, (ByteArray.mk #[114, 97, 118, 101, 108]).data.toList, (ByteArray.mk #[114, 101, 118, 101, 114, 115, 101]).data.toList, (ByteArray.mk #[102, 108, 105, 112]).data.toList, (ByteArray.mk #[105, 111, 116, 97]).data.toList, (ByteArray.mk #[115, 117, 109]).data.toList, (ByteArray.mk #[108, 101, 97, 115, 116]).data.toList, (ByteArray.mk #[109, 111, 115, 116]).data.toList, (ByteArray.mk #[99, 111, 117, 110, 116]).data.toList, (ByteArray.mk #[115, 99, 97, 110]).data.toList, (ByteArray.mk #[103, 114, 97, 100, 101]).data.toList, (ByteArray.mk #[97, 100, 100]).data.toList, (ByteArray.mk #[115, 117, 98]).data.toList, (ByteArray.mk #[109, 117, 108]).data.toList, (ByteArray.mk #[100, 105, 118]).data.toList, (ByteArray.mk #[109, 111, 100]).data.toList, (ByteArray.mk #[112, 108, 117, 115]).data.toList, (ByteArray.mk #[109, 105, 110, 117, 115]).data.toList, (ByteArray.mk #[116, 105, 109, 101, 115]).data.toList, (ByteArray.mk #[101, 113]).data.toList, (ByteArray.mk #[110, 101]).data.toList, (ByteArray.mk #[108, 116]).data.toList, (ByteArray.mk #[108, 101]).data.toList, (ByteArray.mk #[103, 116]).data.toList, (ByteArray.mk #[103, 101]).data.toList, (ByteArray.mk #[97, 110, 100]).data.toList, (ByteArray.mk #[111, 114]).data.toList, (ByteArray.mk #[109, 105, 110]).data.toList, (ByteArray.mk #[109, 97, 120]).data.toList, (ByteArray.mk #[116, 97, 107, 101]).data.toList, (ByteArray.mk #[100, 114, 111, 112]).data.toList, (ByteArray.mk #[102, 105, 108, 108]).data.toList, (ByteArray.mk #[103, 114, 105, 100]).data.toList, (ByteArray.mk #[99, 97, 116]).data.toList, (ByteArray.mk #[97, 116]).data.toList, (ByteArray.mk #[105, 110]).data.toList, (ByteArray.mk #[112, 105, 99, 107]).data.toList])
noncomputable def Fz98 (a0 : List UInt8) : Option (Int × Int) :=
 (Fz97).bind fun x360 =>
 Option.bind (
 lpO (fun (s363 : Int) =>
 cond (decide (s363 < (↑(List.length (List.map SV.str x360)) : Int)))
 (idxO x360 s363 fun x368 =>
 cond (decide (x368 = a0))
 (letO (IntKind.wrap .i64 (s363 + 1)) fun x370 =>
 some (.inr (.inr ((x370, 0)))))
 (letO (IntKind.wrap .i64 (s363 + 1)) fun x371 =>
 some (.inl x371)))
 (some (.inr (.inl ())))) (0))
 (Sum.elim (fun (s361 : Unit) =>
 some ((0, 4))) some)
noncomputable def Fz99 (a0 : Int) : Option (Bool) :=
 cond (decide (97 ≤ a0))
 (some (decide (a0 ≤ 122)))
 (some (false))
noncomputable def Fz100 (a0 : Int) : Option (Bool) :=
 cond (decide (48 ≤ a0))
 (some (decide (a0 ≤ 57)))
 (some (false))
noncomputable def Fz101 (a0 : List UInt8) : Option (Bool) :=
 cond (decide (a0 = (ByteArray.mk #[]).data.toList))
 (some (false))
 (idxO a0 (0) fun x382 =>
 (Fz99 ((↑(UInt8.toNat x382) : Int))).bind fun x384 =>
 cond (!x384)
 (some (false))
 (Option.bind (
 lpO (fun (s388 : Int) =>
 cond (decide (s388 < (↑(List.length a0) : Int)))
 (idxO a0 s388 fun x397 =>
 (Fz99 ((↑(UInt8.toNat x397) : Int))).bind fun x398 =>
 cond (!x398)
 (idxO a0 s388 fun x400 =>
 (Fz100 ((↑(UInt8.toNat x400) : Int))).bind fun x401 =>
 cond (!x401)
 (some (.inr (.inr (false))))
 (letO (IntKind.wrap .i64 (s388 + 1)) fun x403 =>
 some (.inl x403)))
 (letO (IntKind.wrap .i64 (s388 + 1)) fun x404 =>
 some (.inl x404)))
 (some (.inr (.inl ())))) (0))
 (Sum.elim (fun (s386 : Unit) =>
 some (true)) some)))
noncomputable def Fz102 (a0 : List UInt8) : Option (List Int × Bool) :=
 Option.bind (
 lpO (fun (s411 : Unit) =>
 cond (decide (0 < (↑(List.length a0) : Int)))
 (none)
 (some (.inr (.inl ())))) (()))
 (Sum.elim (fun (s409 : Unit) =>
 some (([], true))) some)
noncomputable def Fz103 (a0 : TK) : Option (Int) :=
 cond (decide (a0.Kind < 1))
 (some (2))
 (cond (decide (9 < a0.Kind))
 (some (2))
 (cond (!decide (a0.Kind = 2))
 (cond (!decide (a0.N = 0))
 (some (2))
 (cond (!decide (a0.Kind = 1))
 (cond (!decide (a0.Kind = 3))
 (cond (!decide (a0.S = (ByteArray.mk #[]).data.toList))
 (some (2))
 (cond (decide (a0.Kind = 1))
 ((Fz101 (a0.S)).bind fun x405 =>
 cond (!x405)
 (some (6))
 (cond (decide (16 < (↑(List.length a0.S) : Int)))
 (some (3))
 (some (0))))
 (cond (decide (a0.Kind = 3))
 ((Fz102 (a0.S)).bind fun x413 =>
 cond (!x413.snd)
 (some (6))
 (cond (decide (2000 < (↑(List.length a0.S) : Int)))
 (some (3))
 (some (0))))
 (some (0)))))
 (cond (decide (a0.Kind = 1))
 ((Fz101 (a0.S)).bind fun x417 =>
 cond (!x417)
 (some (6))
 (cond (decide (16 < (↑(List.length a0.S) : Int)))
 (some (3))
 (some (0))))
 (cond (decide (a0.Kind = 3))
 ((Fz102 (a0.S)).bind fun x421 =>
 cond (!x421.snd)
 (some (6))
 (cond (decide (2000 < (↑(List.length a0.S) : Int)))
 (some (3))
 (some (0))))
 (some (0)))))
 (cond (decide (a0.Kind = 1))
 ((Fz101 (a0.S)).bind fun x425 =>
 cond (!x425)
 (some (6))
 (cond (decide (16 < (↑(List.length a0.S) : Int)))
 (some (3))
 (some (0))))
 (cond (decide (a0.Kind = 3))
 ((Fz102 (a0.S)).bind fun x429 =>
 cond (!x429.snd)
 (some (6))
 (cond (decide (2000 < (↑(List.length a0.S) : Int)))
 (some (3))
 (some (0))))
 (some (0))))))
 (cond (!decide (a0.Kind = 1))
 (cond (!decide (a0.Kind = 3))
 (cond (!decide (a0.S = (ByteArray.mk #[]).data.toList))
 (some (2))
 (cond (decide (a0.Kind = 1))
 ((Fz101 (a0.S)).bind fun x436 =>
 cond (!x436)
 (some (6))
 (cond (decide (16 < (↑(List.length a0.S) : Int)))
 (some (3))
 (some (0))))
 (cond (decide (a0.Kind = 3))
 ((Fz102 (a0.S)).bind fun x440 =>
 cond (!x440.snd)
 (some (6))
 (cond (decide (2000 < (↑(List.length a0.S) : Int)))
 (some (3))
 (some (0))))
 (some (0)))))
 (cond (decide (a0.Kind = 1))
 ((Fz101 (a0.S)).bind fun x444 =>
 cond (!x444)
 (some (6))
 (cond (decide (16 < (↑(List.length a0.S) : Int)))
 (some (3))
 (some (0))))
 (cond (decide (a0.Kind = 3))
 ((Fz102 (a0.S)).bind fun x448 =>
 cond (!x448.snd)
 (some (6))
 (cond (decide (2000 < (↑(List.length a0.S) : Int)))
 (some (3))
 (some (0))))
 (some (0)))))
 (cond (decide (a0.Kind = 1))
 ((Fz101 (a0.S)).bind fun x452 =>
 cond (!x452)
 (some (6))
 (cond (decide (16 < (↑(List.length a0.S) : Int)))
 (some (3))
 (some (0))))
 (cond (decide (a0.Kind = 3))
 ((Fz102 (a0.S)).bind fun x456 =>
 cond (!x456.snd)
 (some (6))
 (cond (decide (2000 < (↑(List.length a0.S) : Int)))
 (some (3))
 (some (0))))
 (some (0)))))))
noncomputable def Fz104 (a0 : List UInt8) : Option (Bool) :=
 Option.bind (
 lpO (fun (s464 : Int) =>
 cond (decide (s464 < (↑(10 : Nat) : Int)))
 (sideO (0 ≤ s464 ∧ s464 < (↑(10 : Nat) : Int)) (
 idxO ([(ByteArray.mk #[118, 97, 114]).data.toList, (ByteArray.mk #[100, 101, 102]).data.toList, (ByteArray.mk #[111, 117, 116]).data.toList, (ByteArray.mk #[105, 102]).data.toList, (ByteArray.mk #[101, 108, 115, 101]).data.toList, (ByteArray.mk #[119, 104, 105, 108, 101]).data.toList, (ByteArray.mk #[101, 110, 100]).data.toList, (ByteArray.mk #[114, 101, 108, 101, 97, 115, 101]).data.toList, (ByteArray.mk #[105, 110, 116]).data.toList, (ByteArray.mk #[99, 104, 97, 114]).data.toList]) ((↑(Int.toNat s464) : Int)) fun x467 =>
 cond (decide (x467 = a0))
 (some (.inr (.inr (true))))
 (letO (IntKind.wrap .i64 (s464 + 1)) fun x469 =>
 some (.inl x469))))
 (some (.inr (.inl ())))) (0))
 (Sum.elim (fun (s462 : Unit) =>
 some (false)) some)
noncomputable def Fz105 (a0 : List UInt8) : Option (Bool) :=
 (Fz98 a0).bind fun x372 =>
 (Fz103 (TK.mk 1 0 0 0 a0)).bind fun x459 =>
 cond (decide (x459 = 0))
 (cond (!decide (x372.snd = 0))
 ((Fz104 a0).bind fun x470 =>
 some (!x470))
 (some (false)))
 (some (false))
noncomputable def Fz106 (a0 : List UInt8) (a1 : List (List UInt8)) : Option (Int) :=
 (Fz105 a0).bind fun x471 =>
 cond (!x471)
 (some (24))
 (Option.bind (
 lpO (fun (s475 : Int) =>
 cond (decide (s475 < (↑(List.length (List.map SV.str a1)) : Int)))
 (idxO a1 s475 fun x480 =>
 cond (decide (x480 = a0))
 (some (.inr (.inr (8))))
 (letO (IntKind.wrap .i64 (s475 + 1)) fun x482 =>
 some (.inl x482)))
 (some (.inr (.inl ())))) (0))
 (Sum.elim (fun (s473 : Unit) =>
 some (0)) some))
noncomputable def Fz107 (a0 : TL) (a1 : Int) : Option (Bool) :=
 cond (decide (0 ≤ a1))
 (some (decide (a1 < (↑(List.length (List.map SV.str a0.Names)) : Int))))
 (some (false))
noncomputable def Fz108 (a0 : TP) : Option (Int × Int) :=
 cond (decide (16 < (↑(List.length (List.map enc_TR a0.Channels)) : Int)))
 (some (((-1 : Int), 3)))
 (Option.bind (
 lpO (fun (s358 : Int × List (List UInt8)) =>
 cond (decide (s358.fst < (↑(List.length (List.map enc_TR a0.Channels)) : Int)))
 (idxO (a0.Channels) (s358.fst) fun x371 =>
 (Fz106 (x371.s_) (s358.snd)).bind fun x372 =>
 cond (decide (x372 = 0))
 (idxO (a0.Channels) (s358.fst) fun x374 =>
 (Fz107 (a0.Lattice) (x374.at_)).bind fun x375 =>
 cond (!x375)
 (some (.inr (.inr ((s358.fst, 7)))))
 (cond (!decide (x372 = 0))
 (some (.inr (.inr ((s358.fst, x372)))))
 (idxO (a0.Channels) (s358.fst) fun x378 =>
 sideO ((List.length (List.map SV.str s358.snd) + (1 : Nat)) * (16 : Nat) ≤ (70368744177664 : Nat)) (
 letO (IntKind.wrap .i64 (s358.fst + 1)) fun x379 =>
 some (.inl ((x379, s358.snd ++ [x378.s_])))))))
 (cond (!decide (x372 = 0))
 (some (.inr (.inr ((s358.fst, x372)))))
 (idxO (a0.Channels) (s358.fst) fun x381 =>
 sideO ((List.length (List.map SV.str s358.snd) + (1 : Nat)) * (16 : Nat) ≤ (70368744177664 : Nat)) (
 letO (IntKind.wrap .i64 (s358.fst + 1)) fun x382 =>
 some (.inl ((x382, s358.snd ++ [x381.s_])))))))
 (some (.inr (.inl ())))) ((0, [])))
 (Sum.elim (fun (s356 : Unit) =>
 some ((0, 0))) some))
noncomputable def Fz109 (a0 : TL) (a1 : Int) (a2 : Int) : Option (Int) :=
 (Fz96 a0).bind fun x405 =>
 cond (decide (x405.snd = 0))
 (cond (decide (a1 < 0))
 (some (7))
 (cond (decide ((↑(List.length (List.map SV.str a0.Names)) : Int) ≤ a1))
 (some (7))
 (cond (decide (a2 < 0))
 (some (7))
 (cond (decide ((↑(List.length (List.map SV.str a0.Names)) : Int) ≤ a2))
 (some (7))
 (some (x405.snd))))))
 (some (x405.snd))
noncomputable def Fz110 (a0 : TL) : Option (Int × Int) :=
 (Fz109 a0 (0) (0)).bind fun x411 =>
 cond (!decide (x411 = 0))
 (some ((0, x411)))
 ((Fz94 a0).bind fun x413 =>
 Option.bind (
 lpO (fun (s416 : Int × Int) =>
 cond (decide (s416.fst < (↑(List.length (List.map SV.str a0.Names)) : Int)))
 ((Fz95 x413 (s416.fst) (s416.snd)).bind fun x420 =>
 letO (IntKind.wrap .i64 (s416.fst + 1)) fun x421 =>
 some (.inl ((x421, x420))))
 (some (.inr (.inl (s416.snd))))) ((0, 0)))
 (Sum.elim (fun (s414 : Int) =>
 some ((s414, 0))) some))
noncomputable def Fz111 (a0 : TL) (a1 : TY) : Option (Int) :=
 (Fz96 a0).bind fun x393 =>
 cond (!decide (x393.snd = 0))
 (some (x393.snd))
 (cond (!decide (a1.Kind = 1))
 (cond (!decide (a1.Kind = 2))
 (some (7))
 (cond (decide (a1.Rank < 0))
 (some (7))
 (cond (decide (2 < a1.Rank))
 (some (7))
 ((Fz107 a0 (a1.Axes.fst)).bind fun x399 =>
 cond (!x399)
 (some (7))
 ((Fz107 a0 (a1.Axes.snd)).bind fun x401 =>
 cond (!x401)
 (some (7))
 ((Fz107 a0 (a1.Data)).bind fun x403 =>
 cond (!x403)
 (some (7))
 ((Fz110 a0).bind fun x422 =>
 Option.bind (
 lpO (fun (s425 : Int) =>
 cond (decide (s425 < 2))
 (sideO (0 ≤ s425 ∧ s425 < (↑(2 : Nat) : Int)) (
 idxO ([a1.Axes.fst, a1.Axes.snd]) ((↑(Int.toNat s425) : Int)) fun x431 =>
 cond (!decide (x431 = x422.fst))
 (some (.inr (.inr (6))))
 (letO (IntKind.wrap .i64 (s425 + 1)) fun x433 =>
 some (.inl x433))))
 (some (.inr (.inl ())))) (a1.Rank))
 (Sum.elim (fun (s423 : Unit) =>
 Option.bind (
 lpO (fun (s436 : Int) =>
 cond (decide (s436 < a1.Rank))
 (sideO (0 ≤ s436 ∧ s436 < (↑(2 : Nat) : Int)) (
 idxO ([a1.Axes.fst, a1.Axes.snd]) ((↑(Int.toNat s436) : Int)) fun x441 =>
 (Fz92 a0 x441 (a1.Data)).bind fun x442 =>
 cond (!x442)
 (some (.inr (.inr (25))))
 (letO (IntKind.wrap .i64 (s436 + 1)) fun x444 =>
 some (.inl x444))))
 (some (.inr (.inl ())))) (0))
 (Sum.elim (fun (s434 : Unit) =>
 some (0)) some)) some))))))))
 (cond (decide (a1.Rank < 0))
 (some (7))
 (cond (decide (2 < a1.Rank))
 (some (7))
 ((Fz107 a0 (a1.Axes.fst)).bind fun x447 =>
 cond (!x447)
 (some (7))
 ((Fz107 a0 (a1.Axes.snd)).bind fun x449 =>
 cond (!x449)
 (some (7))
 ((Fz107 a0 (a1.Data)).bind fun x451 =>
 cond (!x451)
 (some (7))
 ((Fz110 a0).bind fun x453 =>
 Option.bind (
 lpO (fun (s456 : Int) =>
 cond (decide (s456 < 2))
 (sideO (0 ≤ s456 ∧ s456 < (↑(2 : Nat) : Int)) (
 idxO ([a1.Axes.fst, a1.Axes.snd]) ((↑(Int.toNat s456) : Int)) fun x462 =>
 cond (!decide (x462 = x453.fst))
 (some (.inr (.inr (6))))
 (letO (IntKind.wrap .i64 (s456 + 1)) fun x464 =>
 some (.inl x464))))
 (some (.inr (.inl ())))) (a1.Rank))
 (Sum.elim (fun (s454 : Unit) =>
 Option.bind (
 lpO (fun (s467 : Int) =>
 cond (decide (s467 < a1.Rank))
 (sideO (0 ≤ s467 ∧ s467 < (↑(2 : Nat) : Int)) (
 idxO ([a1.Axes.fst, a1.Axes.snd]) ((↑(Int.toNat s467) : Int)) fun x472 =>
 (Fz92 a0 x472 (a1.Data)).bind fun x473 =>
 cond (!x473)
 (some (.inr (.inr (25))))
 (letO (IntKind.wrap .i64 (s467 + 1)) fun x475 =>
 some (.inl x475))))
 (some (.inr (.inl ())))) (0))
 (Sum.elim (fun (s465 : Unit) =>
 some (0)) some)) some))))))))
noncomputable def Fz112 (a0 : TP) : Option (Int × Int) :=
 cond (decide (32 < (↑(List.length (List.map enc_TV a0.Vars)) : Int)))
 (some (((-1 : Int), 3)))
 (Option.bind (
 lpO (fun (s388 : Int × List (List UInt8)) =>
 cond (decide (s388.fst < (↑(List.length (List.map enc_TV a0.Vars)) : Int)))
 (idxO (a0.Vars) (s388.fst) fun x400 =>
 (Fz106 (x400.Name) (s388.snd)).bind fun x401 =>
 cond (decide (x401 = 0))
 (idxO (a0.Vars) (s388.fst) fun x403 =>
 (Fz111 (a0.Lattice) (x403.Type_)).bind fun x404 =>
 cond (!decide (x404 = 0))
 (some (.inr (.inr ((s388.fst, x404)))))
 (idxO (a0.Vars) (s388.fst) fun x406 =>
 sideO ((List.length (List.map SV.str s388.snd) + (1 : Nat)) * (16 : Nat) ≤ (70368744177664 : Nat)) (
 letO (IntKind.wrap .i64 (s388.fst + 1)) fun x407 =>
 some (.inl ((x407, s388.snd ++ [x406.Name]))))))
 (cond (!decide (x401 = 0))
 (some (.inr (.inr ((s388.fst, x401)))))
 (idxO (a0.Vars) (s388.fst) fun x409 =>
 sideO ((List.length (List.map SV.str s388.snd) + (1 : Nat)) * (16 : Nat) ≤ (70368744177664 : Nat)) (
 letO (IntKind.wrap .i64 (s388.fst + 1)) fun x410 =>
 some (.inl ((x410, s388.snd ++ [x409.Name])))))))
 (some (.inr (.inl ())))) ((0, [])))
 (Sum.elim (fun (s386 : Unit) =>
 some ((0, 0))) some))
noncomputable def Fz113 (a0 : TP) : Option (Int × Int) :=
 cond (decide (64 < (↑(List.length (List.map enc_TU a0.Rules)) : Int)))
 (some (((-1 : Int), 3)))
 (Option.bind (
 lpO (fun (s416 : Int) =>
 cond (decide (s416 < (↑(List.length (List.map enc_TU a0.Rules)) : Int)))
 (idxO (a0.Rules) s416 fun x432 =>
 (Fz107 (a0.Lattice) (x432.From)).bind fun x433 =>
 cond (!x433)
 (some (.inr (.inr ((s416, 7)))))
 ((Fz107 (a0.Lattice) (x432.Goal)).bind fun x435 =>
 cond (!x435)
 (some (.inr (.inr ((s416, 7)))))
 (cond (decide (x432.From = x432.Goal))
 (some (.inr (.inr ((s416, 25)))))
 ((Fz92 (a0.Lattice) (x432.Goal) (x432.From)).bind fun x438 =>
 cond (!x438)
 (some (.inr (.inr ((s416, 25)))))
 (Option.bind (
 lpO (fun (s442 : Int) =>
 cond (decide (s442 < s416))
 (idxO (a0.Rules) s442 fun x449 =>
 cond (decide (x449.From = x432.From))
 (idxO (a0.Rules) s442 fun x451 =>
 cond (decide (x451.Goal = x432.Goal))
 (some (.inr (.inr (.inr (.inr ((s416, 8)))))))
 (letO (IntKind.wrap .i64 (s442 + 1)) fun x453 =>
 some (.inl x453)))
 (letO (IntKind.wrap .i64 (s442 + 1)) fun x454 =>
 some (.inl x454)))
 (some (.inr (.inl ())))) (0))
 (Sum.elim (fun (s440 : Unit) =>
 cond (decide (x432.K < 2))
 (some (.inr (.inr ((s416, 3)))))
 (cond (decide (400 < x432.K))
 (some (.inr (.inr ((s416, 3)))))
 (letO (IntKind.wrap .i64 (s416 + 1)) fun x457 =>
 some (.inl x457)))) some))))))
 (some (.inr (.inl ())))) (0))
 (Sum.elim (fun (s414 : Unit) =>
 some ((0, 0))) some))
noncomputable def Fz114 (a0 : TP) : Option (Int × Int × Int) :=
 (Fz96 (a0.Lattice)).bind fun x353 =>
 cond (!decide (x353.snd = 0))
 (some ((1, x353)))
 ((Fz108 a0).bind fun x383 =>
 cond (!decide (x383.snd = 0))
 (some ((2, x383)))
 ((Fz112 a0).bind fun x411 =>
 cond (!decide (x411.snd = 0))
 (some ((3, x411)))
 ((Fz113 a0).bind fun x458 =>
 cond (!decide (x458.snd = 0))
 (some ((4, x458)))
 (some ((0, 0, 0))))))
noncomputable def Fz115 (a0 : TP) (a1 : Int) (a2 : Int) : Option (Int × Int) :=
 (Fz114 a0).bind fun x460 =>
 cond (decide (x460.snd.snd = 0))
 ((Fz107 (a0.Lattice) a1).bind fun x462 =>
 cond (!x462)
 (some ((0, 7)))
 ((Fz107 (a0.Lattice) a2).bind fun x464 =>
 cond (!x464)
 (some ((0, 7)))
 (cond (!decide (x460.snd.snd = 0))
 (some ((0, x460.snd.snd)))
 (Option.bind (
 lpO (fun (s469 : Int) =>
 cond (decide (s469 < (↑(List.length (List.map enc_TU a0.Rules)) : Int)))
 (idxO (a0.Rules) s469 fun x477 =>
 cond (decide (x477.From = a1))
 (idxO (a0.Rules) s469 fun x479 =>
 cond (decide (x479.Goal = a2))
 (idxO (a0.Rules) s469 fun x481 =>
 some (.inr (.inr ((x481.K, 0)))))
 (letO (IntKind.wrap .i64 (s469 + 1)) fun x482 =>
 some (.inl x482)))
 (letO (IntKind.wrap .i64 (s469 + 1)) fun x483 =>
 some (.inl x483)))
 (some (.inr (.inl ())))) (0))
 (Sum.elim (fun (s467 : Unit) =>
 some ((0, 4))) some)))))
 (cond (!decide (x460.snd.snd = 0))
 (some ((0, x460.snd.snd)))
 (Option.bind (
 lpO (fun (s487 : Int) =>
 cond (decide (s487 < (↑(List.length (List.map enc_TU a0.Rules)) : Int)))
 (idxO (a0.Rules) s487 fun x495 =>
 cond (decide (x495.From = a1))
 (idxO (a0.Rules) s487 fun x497 =>
 cond (decide (x497.Goal = a2))
 (idxO (a0.Rules) s487 fun x499 =>
 some (.inr (.inr ((x499.K, 0)))))
 (letO (IntKind.wrap .i64 (s487 + 1)) fun x500 =>
 some (.inl x500)))
 (letO (IntKind.wrap .i64 (s487 + 1)) fun x501 =>
 some (.inl x501)))
 (some (.inr (.inl ())))) (0))
 (Sum.elim (fun (s485 : Unit) =>
 some ((0, 4))) some)))
noncomputable def Fz116 (a0 : TE) (a1 : Int) : Option (Bool) :=
 cond (decide (a0.Cells < a1))
 (some (decide (a0.Value.fst = 0) && (decide (a0.Value.snd = 0) && true)))
 (cond (!decide (a0.Value.fst = 1))
 (some (false))
 (cond (!decide (a0.Fold = 2))
 (some (true))
 (cond (decide (0 ≤ a0.Value.snd))
 (some (decide (a0.Value.snd ≤ a0.Cells)))
 (some (false)))))
noncomputable def Fz117 (a0 : TP) (a1 : TE) : Option (Int) :=
 (Fz52 a0).bind fun x504 =>
 cond (!decide (x504.snd.snd = 0))
 (some (x504.snd.snd))
 ((Fz53 (a1.Fold)).bind fun x506 =>
 cond (!decide (x506.snd = 0))
 (some (x506.snd))
 ((Fz54 a0 (a1.From) (a1.Goal)).bind fun x508 =>
 cond (decide (a1.Site < 0))
 (some (7))
 (cond (decide (1000000000 < a1.Site))
 (some (7))
 (cond (decide (a1.Cells < 0))
 (some (7))
 (cond (decide (400 < a1.Cells))
 (some (7))
 (cond (!decide (x508.snd = 0))
 (some (x508.snd))
 ((Fz116 a1 (x508.fst)).bind fun x518 =>
 cond (!x518)
 (some (6))
 (some (0)))))))))
noncomputable def Fz118 (a0 : Int) (a1 : Int × Int) : Option (Int) :=
 Option.bind (
 lpO (fun (s550 : Int × Int) =>
 cond (decide (s550.fst < a0))
 (sideO (0 ≤ s550.fst ∧ s550.fst < (↑(2 : Nat) : Int)) (
 idxO ([a1.fst, a1.snd]) ((↑(Int.toNat s550.fst) : Int)) fun x554 =>
 letO (IntKind.wrap .i64 (s550.snd * x554)) fun x555 =>
 letO (IntKind.wrap .i64 (s550.fst + 1)) fun x556 =>
 some (.inl ((x556, x555)))))
 (some (.inr (.inl (s550.snd))))) ((0, 1)))
 (Sum.elim (fun (s548 : Int) =>
 some s548) some)
noncomputable def Fz119 (a0 : Int) (a1 : Int × Int) : Option (Int) :=
 cond (decide (a0 < 0))
 (some (7))
 (cond (decide (2 < a0))
 (some (7))
 (Option.bind (
 lpO (fun (s528 : Int) =>
 cond (decide (s528 < a0))
 (sideO (0 ≤ s528 ∧ s528 < (↑(2 : Nat) : Int)) (
 idxO ([a1.fst, a1.snd]) ((↑(Int.toNat s528) : Int)) fun x532 =>
 cond (decide (x532 < 0))
 (some (.inr (.inr (7))))
 (letO (IntKind.wrap .i64 (s528 + 1)) fun x534 =>
 some (.inl x534))))
 (some (.inr (.inl ())))) (0))
 (Sum.elim (fun (s526 : Unit) =>
 Option.bind (
 lpO (fun (s537 : Int) =>
 cond (decide (s537 < 2))
 (sideO (0 ≤ s537 ∧ s537 < (↑(2 : Nat) : Int)) (
 idxO ([a1.fst, a1.snd]) ((↑(Int.toNat s537) : Int)) fun x543 =>
 cond (!decide (x543 = 0))
 (some (.inr (.inr (6))))
 (letO (IntKind.wrap .i64 (s537 + 1)) fun x545 =>
 some (.inl x545))))
 (some (.inr (.inl ())))) a0)
 (Sum.elim (fun (s535 : Unit) =>
 cond (decide (400 < a1.fst))
 (some (15))
 (cond (decide (400 < a1.snd))
 (some (15))
 ((Fz118 a0 a1).bind fun x557 =>
 cond (decide (400 < x557))
 (some (15))
 (some (0))))) some)) some)))
noncomputable def Fz120 (a0 : Int) (a1 : Int × Int) : Option (Int × Int) :=
 (Fz119 a0 a1).bind fun x559 =>
 cond (!decide (x559 = 0))
 (some ((0, x559)))
 ((Fz118 a0 a1).bind fun x561 =>
 some ((x561, 0)))
noncomputable def Fz121 (a0 : Int) : Option (Bool) :=
 cond (decide (0 ≤ a0))
 (cond (decide (a0 ≤ 1114111))
 (cond (decide (a0 < 55296))
 (some (true))
 (some (decide (57343 < a0))))
 (some (false)))
 (some (false))
noncomputable def Fz122 (a0 : TA) : Option (Int) :=
 cond (!decide (a0.Kind = 1))
 (cond (!decide (a0.Kind = 2))
 (some (2))
 ((Fz120 (a0.Rank) (a0.Lens)).bind fun x562 =>
 cond (decide (x562.snd = 0))
 (cond (!decide ((↑(List.length (List.map (SV.int .i64) a0.Cells)) : Int) = x562.fst))
 (Option.bind (
 lpO (fun (s567 : Unit) =>
 cond (decide (0 < (↑(List.length (List.map (SV.int .i64) a0.Cells)) : Int)))
 (some (.inr (.inl ())))
 (some (.inr (.inl ())))) (()))
 (Sum.elim (fun (s565 : Unit) =>
 some (6)) some))
 (Option.bind (
 lpO (fun (s571 : Int × Int) =>
 cond (decide (s571.fst < (↑(List.length (List.map (SV.int .i64) a0.Cells)) : Int)))
 (cond (decide (s571.snd = 0))
 (cond (decide (a0.Kind = 2))
 (idxO (a0.Cells) (s571.fst) fun x580 =>
 (Fz121 x580).bind fun x581 =>
 cond (!x581)
 (letO (IntKind.wrap .i64 (s571.fst + 1)) fun x583 =>
 some (.inl ((x583, 7))))
 (letO (IntKind.wrap .i64 (s571.fst + 1)) fun x584 =>
 some (.inl ((x584, s571.snd)))))
 (letO (IntKind.wrap .i64 (s571.fst + 1)) fun x585 =>
 some (.inl ((x585, s571.snd)))))
 (some (.inr (.inl (s571.snd)))))
 (some (.inr (.inl (s571.snd))))) ((0, x562.snd)))
 (Sum.elim (fun (s569 : Int) =>
 some s569) some)))
 (Option.bind (
 lpO (fun (s588 : Unit) =>
 cond (decide (0 < (↑(List.length (List.map (SV.int .i64) a0.Cells)) : Int)))
 (some (.inr (.inl ())))
 (some (.inr (.inl ())))) (()))
 (Sum.elim (fun (s586 : Unit) =>
 some (x562.snd)) some))))
 ((Fz120 (a0.Rank) (a0.Lens)).bind fun x590 =>
 cond (decide (x590.snd = 0))
 (cond (!decide ((↑(List.length (List.map (SV.int .i64) a0.Cells)) : Int) = x590.fst))
 (Option.bind (
 lpO (fun (s595 : Unit) =>
 cond (decide (0 < (↑(List.length (List.map (SV.int .i64) a0.Cells)) : Int)))
 (some (.inr (.inl ())))
 (some (.inr (.inl ())))) (()))
 (Sum.elim (fun (s593 : Unit) =>
 some (6)) some))
 (Option.bind (
 lpO (fun (s599 : Int × Int) =>
 cond (decide (s599.fst < (↑(List.length (List.map (SV.int .i64) a0.Cells)) : Int)))
 (cond (decide (s599.snd = 0))
 (cond (decide (a0.Kind = 2))
 (idxO (a0.Cells) (s599.fst) fun x608 =>
 (Fz121 x608).bind fun x609 =>
 cond (!x609)
 (letO (IntKind.wrap .i64 (s599.fst + 1)) fun x611 =>
 some (.inl ((x611, 7))))
 (letO (IntKind.wrap .i64 (s599.fst + 1)) fun x612 =>
 some (.inl ((x612, s599.snd)))))
 (letO (IntKind.wrap .i64 (s599.fst + 1)) fun x613 =>
 some (.inl ((x613, s599.snd)))))
 (some (.inr (.inl (s599.snd)))))
 (some (.inr (.inl (s599.snd))))) ((0, x590.snd)))
 (Sum.elim (fun (s597 : Int) =>
 some s597) some)))
 (Option.bind (
 lpO (fun (s616 : Unit) =>
 cond (decide (0 < (↑(List.length (List.map (SV.int .i64) a0.Cells)) : Int)))
 (some (.inr (.inl ())))
 (some (.inr (.inl ())))) (()))
 (Sum.elim (fun (s614 : Unit) =>
 some (x590.snd)) some)))
noncomputable def Fz123 (a0 : List Int) (a1 : Int) : Option (Bool) :=
 Option.bind (
 lpO (fun (s711 : Int × Int) =>
 cond (decide (s711.fst < (↑(List.length (List.map (SV.int .i64) a0)) : Int)))
 (idxO a0 (s711.fst) fun x720 =>
 cond (decide (1099511627776 < x720))
 (some (.inr (.inr (true))))
 (idxO a0 (s711.fst) fun x722 =>
 cond (decide (x722 < (-1099511627776 : Int)))
 (some (.inr (.inr (true))))
 (idxO a0 (s711.fst) fun x724 =>
 letO (IntKind.wrap .i64 (s711.snd + x724)) fun x725 =>
 letO (IntKind.wrap .i64 (s711.fst + 1)) fun x726 =>
 some (.inl ((x726, x725))))))
 (some (.inr (.inl (s711.snd))))) ((0, 0)))
 (Sum.elim (fun (s709 : Int) =>
 some (decide (s709 = a1))) some)
noncomputable def Fz124 (a0 : TP) (a1 : Int × Int × Int) (a2 : TA) : Option (Bool) :=
 (Fz2 a0).bind fun x40 =>
 cond x40
 (some (true))
 (cond (decide (500 < (↑(List.length (List.map (SV.int .i64) a2.Cells)) : Int)))
 (some (true))
 ((Fz87 a0 (a1.fst) (a1.snd.fst) (a1.snd.snd) a2).bind fun x236 =>
 cond (!decide (x236.snd.snd = 0))
 (cond (decide (x236.snd.fst.Site = 0) && (decide (x236.snd.fst.Fold = 0) && (decide (x236.snd.fst.From = 0) && (decide (x236.snd.fst.Goal = 0) && (decide (x236.snd.fst.Cells = 0) && (decide (x236.snd.fst.Value.fst = 0) && (decide (x236.snd.fst.Value.snd = 0) && true) && true))))))
 (cond (decide ((↑(List.length (List.map (SV.int .i64) x236.fst.Cells)) : Int) = 0))
 (some (true))
 (some (false)))
 (some (false)))
 ((Fz115 a0 (a1.snd.fst) (a1.snd.snd)).bind fun x502 =>
 cond (!decide (x502.snd = 0))
 (some (false))
 ((Fz117 a0 (x236.snd.fst)).bind fun x520 =>
 cond (!decide (x520 = 0))
 (some (false))
 ((Fz122 (x236.fst)).bind fun x618 =>
 cond (!decide (x618 = 0))
 (some (false))
 (cond (!decide (x236.fst.Kind = 1))
 (some (false))
 (cond (!decide (x236.fst.Rank = 1))
 (some (false))
 (cond (!decide ((↑(List.length (List.map (SV.int .i64) x236.fst.Cells)) : Int) = 2))
 (some (false))
 (idxO (x236.fst.Cells) (0) fun x623 =>
 idxO (x236.fst.Cells) (1) fun x624 =>
 cond (!(decide (x236.snd.fst.Value.fst = x623) && (decide (x236.snd.fst.Value.snd = x624) && true)))
 (some (false))
 (cond (!decide (x236.snd.fst.Cells = (↑(List.length (List.map (SV.int .i64) a2.Cells)) : Int)))
 (some (false))
 (cond (!decide (x236.snd.fst.Fold = a1.fst))
 (some (false))
 (cond (!decide (x236.snd.fst.From = a1.snd.fst))
 (some (false))
 (cond (!decide (x236.snd.fst.Goal = a1.snd.snd))
 (some (false))
 (cond (decide ((↑(List.length (List.map (SV.int .i64) a2.Cells)) : Int) < x502.fst))
 (cond (decide (x236.snd.fst.Value.fst = 0) && (decide (x236.snd.fst.Value.snd = 0) && true))
 (some (true))
 (some (false)))
 (cond (!decide (x236.snd.fst.Value.fst = 1))
 (some (false))
 (Option.bind (
 lpO (fun (s635 : Int × Int × Int × Int × Int) =>
 cond (decide (s635.fst < (↑(List.length (List.map (SV.int .i64) a2.Cells)) : Int)))
 (idxO (a2.Cells) (s635.fst) fun x654 =>
 cond (decide (x654 < x236.snd.fst.Value.snd))
 (letO (IntKind.wrap .i64 (s635.snd.snd.snd.snd + 1)) fun x656 =>
 cond (decide (x654 = x236.snd.fst.Value.snd))
 (letO (IntKind.wrap .i64 (s635.snd.snd.snd.fst + 1)) fun x658 =>
 cond (decide (x236.snd.fst.Value.snd < x654))
 (letO (IntKind.wrap .i64 (s635.snd.snd.fst + 1)) fun x660 =>
 cond (!decide (x654 = 0))
 (letO (IntKind.wrap .i64 (s635.snd.fst + 1)) fun x662 =>
 letO (IntKind.wrap .i64 (s635.fst + 1)) fun x663 =>
 some (.inl ((x663, x662, x660, x658, x656))))
 (letO (IntKind.wrap .i64 (s635.fst + 1)) fun x664 =>
 some (.inl ((x664, s635.snd.fst, x660, x658, x656)))))
 (cond (!decide (x654 = 0))
 (letO (IntKind.wrap .i64 (s635.snd.fst + 1)) fun x666 =>
 letO (IntKind.wrap .i64 (s635.fst + 1)) fun x667 =>
 some (.inl ((x667, x666, s635.snd.snd.fst, x658, x656))))
 (letO (IntKind.wrap .i64 (s635.fst + 1)) fun x668 =>
 some (.inl ((x668, s635.snd.fst, s635.snd.snd.fst, x658, x656))))))
 (cond (decide (x236.snd.fst.Value.snd < x654))
 (letO (IntKind.wrap .i64 (s635.snd.snd.fst + 1)) fun x670 =>
 cond (!decide (x654 = 0))
 (letO (IntKind.wrap .i64 (s635.snd.fst + 1)) fun x672 =>
 letO (IntKind.wrap .i64 (s635.fst + 1)) fun x673 =>
 some (.inl ((x673, x672, x670, s635.snd.snd.snd.fst, x656))))
 (letO (IntKind.wrap .i64 (s635.fst + 1)) fun x674 =>
 some (.inl ((x674, s635.snd.fst, x670, s635.snd.snd.snd.fst, x656)))))
 (cond (!decide (x654 = 0))
 (letO (IntKind.wrap .i64 (s635.snd.fst + 1)) fun x676 =>
 letO (IntKind.wrap .i64 (s635.fst + 1)) fun x677 =>
 some (.inl ((x677, x676, s635.snd.snd.fst, s635.snd.snd.snd.fst, x656))))
 (letO (IntKind.wrap .i64 (s635.fst + 1)) fun x678 =>
 some (.inl ((x678, s635.snd.fst, s635.snd.snd.fst, s635.snd.snd.snd.fst, x656)))))))
 (cond (decide (x654 = x236.snd.fst.Value.snd))
 (letO (IntKind.wrap .i64 (s635.snd.snd.snd.fst + 1)) fun x680 =>
 cond (decide (x236.snd.fst.Value.snd < x654))
 (letO (IntKind.wrap .i64 (s635.snd.snd.fst + 1)) fun x682 =>
 cond (!decide (x654 = 0))
 (letO (IntKind.wrap .i64 (s635.snd.fst + 1)) fun x684 =>
 letO (IntKind.wrap .i64 (s635.fst + 1)) fun x685 =>
 some (.inl ((x685, x684, x682, x680, s635.snd.snd.snd.snd))))
 (letO (IntKind.wrap .i64 (s635.fst + 1)) fun x686 =>
 some (.inl ((x686, s635.snd.fst, x682, x680, s635.snd.snd.snd.snd)))))
 (cond (!decide (x654 = 0))
 (letO (IntKind.wrap .i64 (s635.snd.fst + 1)) fun x688 =>
 letO (IntKind.wrap .i64 (s635.fst + 1)) fun x689 =>
 some (.inl ((x689, x688, s635.snd.snd.fst, x680, s635.snd.snd.snd.snd))))
 (letO (IntKind.wrap .i64 (s635.fst + 1)) fun x690 =>
 some (.inl ((x690, s635.snd.fst, s635.snd.snd.fst, x680, s635.snd.snd.snd.snd))))))
 (cond (decide (x236.snd.fst.Value.snd < x654))
 (letO (IntKind.wrap .i64 (s635.snd.snd.fst + 1)) fun x692 =>
 cond (!decide (x654 = 0))
 (letO (IntKind.wrap .i64 (s635.snd.fst + 1)) fun x694 =>
 letO (IntKind.wrap .i64 (s635.fst + 1)) fun x695 =>
 some (.inl ((x695, x694, x692, s635.snd.snd.snd))))
 (letO (IntKind.wrap .i64 (s635.fst + 1)) fun x696 =>
 some (.inl ((x696, s635.snd.fst, x692, s635.snd.snd.snd)))))
 (cond (!decide (x654 = 0))
 (letO (IntKind.wrap .i64 (s635.snd.fst + 1)) fun x698 =>
 letO (IntKind.wrap .i64 (s635.fst + 1)) fun x699 =>
 some (.inl ((x699, x698, s635.snd.snd))))
 (letO (IntKind.wrap .i64 (s635.fst + 1)) fun x700 =>
 some (.inl ((x700, s635.snd))))))))
 (some (.inr (.inl (s635.snd))))) ((0, 0, 0, 0, 0)))
 (Sum.elim (fun (s633 : Int × Int × Int × Int) =>
 cond (decide (x236.snd.fst.Fold = 2))
 (cond (decide (x236.snd.fst.Value.snd = s633.fst))
 (some (true))
 (some (false)))
 (cond (decide (x236.snd.fst.Fold = 3))
 (cond (decide (s633.snd.snd.snd = 0))
 (cond (decide (0 < s633.snd.snd.fst))
 (some (true))
 (some (false)))
 (some (false)))
 (cond (decide (x236.snd.fst.Fold = 4))
 (cond (decide (s633.snd.fst = 0))
 (cond (decide (0 < s633.snd.snd.fst))
 (some (true))
 (some (false)))
 (some (false)))
 ((Fz123 (a2.Cells) (x236.snd.fst.Value.snd)).bind fun x727 =>
 cond x727
 (some (true))
 (some (false)))))) some)))))))))))))))))
end Go.Sx.O
namespace Go.Sx.O
open Go
theorem find_loop {α τ : Type} {l : List α} (p : α → Bool) {step : Int → Option (Int ⊕ τ)} {d : τ} {g : Int → τ}
 (h1 : ∀ (k : Nat) x, l[k]? = some x → step (k : Int) = if p x then some (.inr (g k)) else some (.inl ((k : Int) + 1)))
 (h2 : step (l.length : Int) = some (.inr d)) :
 lpO step 0 = (match l.findIdx? p with | some i => some (g i) | none => some d) := by
 have key : ∀ j k, j + k = l.length → lpO step (k : Int) = (match (l.drop k).findIdx? p with | some i => some (g ((k + i : Nat) : Int)) | none => some d) := by
  intro j
  induction j with
  | zero =>
    intro k hk
    rw [lpO_eq]
    have : k = l.length := by omega
    subst this
    rw [h2]
    simp
  | succ j ih =>
    intro k hk
    have hlt : k < l.length := by omega
    rw [lpO_eq, h1 k _ (List.getElem?_eq_getElem hlt), List.drop_eq_getElem_cons hlt, List.findIdx?_cons]
    split
    · simp
    · have := ih (k + 1) (by omega)
      simp only [Option.bind_some, Sum.elim_inl]
      push_cast at this
      rw [this]
      cases (l.drop (k + 1)).findIdx? p with
      | none => rfl
      | some i => simp; congr 1; omega
 have := key l.length 0 (by omega)
 simpa using this
end Go.Sx.O
namespace Go.Sx.O
open Go
theorem dropWhile_nil {α : Type} {p : α → Bool} : ∀ {l : List α}, l.dropWhile p = [] ↔ ∀ x ∈ l, p x = true
 | [] => by simp
 | a :: l => by
   rw [List.dropWhile_cons]
   cases h : p a with
   | true => simp [h, dropWhile_nil (l := l)]
   | false => simp [h]
theorem Index_strings_spec (l : List (List UInt8)) (s : List UInt8) (hl : l.length ≤ 1000000000) :
 Fz21 l s = some (match l.findIdx? (fun x => decide (s = x)) with | some i => (i : Int) | none => -1) := by
 unfold Fz21
 rw [find_loop (l := l) (fun x => decide (s = x)) (d := .inl ()) (g := .inr) ?_ ?_]
 · cases l.findIdx? (fun x => decide (s = x)) <;> rfl
 · intro k x hx
   have hlt : k < l.length := by
    by_cases h : k < l.length
    · exact h
    · rw [List.getElem?_eq_none (by omega)] at hx; cases hx
   simp only [List.length_map, Int.ofNat_lt, hlt, decide_true, cond_true, idxO, Int.toNat_natCast, hx, Option.bind_some, letO, Int.natCast_nonneg, if_true]
   rw [w64 (by omega) (by omega)]
   cases decide (s = x) <;> rfl
 · simp
theorem Contains_strings_spec (l : List (List UInt8)) (s : List UInt8) (hl : l.length ≤ 1000000000) :
 Fz22 l s = some (decide (s ∈ l)) := by
 unfold Fz22
 rw [Index_strings_spec l s hl]
 cases h : l.findIdx? (fun x => decide (s = x)) with
 | none =>
   have := List.findIdx?_eq_none_iff.1 h
   simp only [Option.bind_some]
   congr 1
   have hn : s ∉ l := fun hm => by have := this s hm; simp at this
   simp [hn]
 | some i =>
   have := List.findIdx?_eq_some_iff_getElem.1 h
   obtain ⟨hi, h1, _⟩ := this
   have hm : s ∈ l := by
    have e : s = l[i] := by simpa using h1
    rw [e]; exact List.getElem_mem hi
   simp [hm]
def inSet (set : List Bool) (c : UInt8) : Bool := set.getD c.toNat false
theorem contains_spec (set : List Bool) (c : UInt8) (h : set.length = 256) : Fz6 set (c.toNat : Int) = some (inSet set c) := by
 unfold Fz6
 have hc : c.toNat < 256 := c.toNat_lt
 have h2 : set[c.toNat]? = some (set[c.toNat]'(by omega)) := List.getElem?_eq_getElem _
 have h3 : (c.toNat : Int) < 256 := by omega
 simp [sideO, idxO, inSet, h2, h3]
def trimR (p : UInt8 → Bool) (s : List UInt8) : List UInt8 := (s.reverse.dropWhile p).reverse
theorem trimR_all {p : UInt8 → Bool} {s : List UInt8} : (trimR p s).dropWhile p = [] ↔ ∀ c ∈ s, p c = true := by
 unfold trimR
 constructor
 · intro h c hc
   have h1 : ∀ c ∈ (s.reverse.dropWhile p).reverse, p c = true := dropWhile_nil.1 h
   have h2 : s.reverse.dropWhile p = [] := by
    cases e : s.reverse.dropWhile p with
    | nil => rfl
    | cons a r =>
      have := List.head?_dropWhile_not p s.reverse
      rw [e] at this
      simp at this
      rw [e] at h1
      rw [h1 a (by simp)] at this
      cases this
   exact dropWhile_nil.1 h2 c (by simpa using hc)
 · intro h
   have : s.reverse.dropWhile p = [] := dropWhile_nil.2 fun c hc => h c (by simpa using hc)
   rw [this]; rfl
theorem trimRightASCII_spec (s : List UInt8) (set : List Bool) (h : set.length = 256) (hs : s.length ≤ 1000000000) : Fz7 s set = some (trimR (inSet set) s) := by
 unfold Fz7
 apply Tot.eq
 simp only [tot_bind]
 refine Tot.loop (fun s => s.length) (fun r => r.length ≤ 1000000000 ∧ trimR (inSet set) r = trimR (inSet set) s) ?_ ⟨hs, rfl⟩
 rintro r ⟨hr, he⟩
 simp only [tot_some, tot_cond, tot_let, tot_idx, tot_side, tot_bind, Sum.elim_inl, Sum.elim_inr, decide_eq_true_eq, decide_eq_false_iff_not]
 refine ⟨fun h1 => ?_, fun h1 => ?_⟩
 · have h0 : r ≠ [] := by rintro rfl; simp at h1
   rw [w64 (by omega) (by omega)]
   have e1 : ((r.length : Int) - 1).toNat = r.length - 1 := by omega
   rw [e1]
   refine ⟨by omega, _, List.getElem?_eq_getElem (by omega), ?_⟩
   rw [contains_spec set _ h]
   simp only [tot_some, Bool.not_eq_true', Bool.not_eq_false']
   have hr2 : r = r.dropLast ++ [r[r.length - 1]'(by omega)] := by
    rw [← List.getLast_eq_getElem h0]; exact (List.dropLast_concat_getLast h0).symm
   refine ⟨fun h2 => ?_, fun h2 => ⟨⟨by omega, by omega⟩, ⟨by simp; omega, ?_⟩, by simp; omega⟩⟩
   · rw [← he]
     unfold trimR
     rw [hr2]
     simp [h2]
   · rw [← he]
     simp only [Int.toNat_zero, List.drop_zero]
     rw [← List.dropLast_eq_take]
     conv => rhs; rw [hr2]
     unfold trimR
     simp [h2]
 · have h0 : r = [] := List.length_eq_zero_iff.1 (by omega)
   rw [← he, h0]; rfl
theorem trimLeftASCII_spec (s : List UInt8) (set : List Bool) (h : set.length = 256) (hs : s.length ≤ 1000000000) : Fz8 s set = some (s.dropWhile (inSet set)) := by
 unfold Fz8
 apply Tot.eq
 simp only [tot_bind]
 refine Tot.loop (fun s => s.length) (fun r => r.length ≤ 1000000000 ∧ r.dropWhile (inSet set) = s.dropWhile (inSet set)) ?_ ⟨hs, rfl⟩
 rintro r ⟨hr, he⟩
 simp only [tot_some, tot_cond, tot_let, tot_idx, tot_side, tot_bind, Sum.elim_inl, Sum.elim_inr, decide_eq_true_eq, decide_eq_false_iff_not]
 cases r with
 | nil => simp [← he]
 | cons a r =>
   refine ⟨fun h1 => ⟨by omega, a, rfl, ?_⟩, fun h1 => absurd h1 (by simp)⟩
   rw [contains_spec set _ h]
   simp only [tot_some, Bool.not_eq_true', Bool.not_eq_false']
   refine ⟨fun h2 => ?_, fun h2 => ⟨by simp; omega, ⟨?_, ?_⟩, ?_⟩⟩
   · rw [← he]; simp [h2]
   · simp at hr ⊢; omega
   · rw [← he]; simp [h2]
   · simp
end Go.Sx.O
namespace Go.Sx.O
open Go
theorem inSet_set {set : List Bool} {c d : UInt8} (h : set.length = 256) : inSet (set.set c.toNat true) d = (decide (d = c) || inSet set d) := by
 have hc : c.toNat < 256 := c.toNat_lt
 unfold inSet
 rw [List.getD_eq_getElem?_getD, List.getD_eq_getElem?_getD, List.getElem?_set]
 by_cases e : c.toNat = d.toNat
 · have : d = c := (UInt8.toNat_inj.1 e).symm
   subst this
   simp [h, hc]
 · have : d ≠ c := fun e' => e (by rw [e'])
   simp [e, this]
theorem makeASCIISet_spec (cs : List UInt8) (h : ∀ c ∈ cs, c.toNat < 128) (hs : cs.length ≤ 1000000000) : Tot (Fz5 cs) fun r => r.2 = true ∧ r.1.length = 256 ∧ ∀ d, inSet r.1 d = decide (d ∈ cs) := by
 unfold Fz5
 simp only [tot_bind]
 refine Tot.count cs.length (fun k s => s.1 = (k : Int) ∧ s.2.length = 256 ∧ ∀ d, inSet s.2 d = decide (d ∈ cs.take k)) ?_ ⟨rfl, List.length_replicate, fun d => ?_⟩
 · rintro k ⟨i, set⟩ hk ⟨h0, h1, h2⟩
   simp only at h0 h1 h2
   subst h0
   simp only [tot_some, tot_cond, tot_let, tot_idx, tot_side, Sum.elim_inl, Sum.elim_inr, decide_eq_true_eq, decide_eq_false_iff_not, Int.toNat_natCast]
   refine ⟨fun hlt => ⟨by omega, _, List.getElem?_eq_getElem (by omega), fun h3 => ?_, fun h3 => ?_⟩, fun hlt => ?_⟩
   · have := h cs[k] (List.getElem_mem _)
     omega
   · have hc : cs[k].toNat < 256 := (cs[k]'(by omega)).toNat_lt
     refine ⟨⟨by omega, by omega⟩, by omega, _, List.getElem?_eq_getElem (by omega), ?_⟩
     rw [w64 (by omega) (by omega)]
     refine ⟨by omega, by omega, by simpa using h1, fun d => ?_⟩
     have hm : d ∈ cs.take (k + 1) ↔ d ∈ cs.take k ∨ d = cs[k] := by
      rw [List.take_add_one, List.getElem?_eq_getElem (by omega), List.mem_append]
      simp
     rw [inSet_set h1, h2, Bool.eq_iff_iff]
     simp only [Bool.or_eq_true, decide_eq_true_eq, hm]
     exact or_comm
   · refine ⟨trivial, h1, fun d => ?_⟩
     rw [h2, List.take_of_length_le (by omega)]
 · unfold inSet
   rw [List.getD_eq_getElem?_getD, List.getElem?_replicate]
   split <;> simp
theorem Trim_spec (s cs : List UInt8) (h : ∀ c ∈ cs, c.toNat < 128) (h1 : 2 ≤ cs.length) (hs : cs.length ≤ 1000000000) (hl : s.length ≤ 1000000000) :
 Fz19 s cs = some ((trimR (fun c => decide (c ∈ cs)) s).dropWhile (fun c => decide (c ∈ cs))) := by
 unfold Fz19
 have e0 : (ByteArray.mk #[]).data.toList = [] := rfl
 simp only [e0]
 cases s with
 | nil => simp [trimR]
 | cons a r =>
   have e1 : decide (a :: r = []) = false := by simp
   have e2 : decide (cs = []) = false := by cases cs <;> simp at h1 ⊢
   have e3 : decide ((cs.length : Int) = 1) = false := by simp; omega
   simp only [e1, e2, e3, cond_false]
   obtain ⟨x, hx, hx1, hx2, hx3⟩ := makeASCIISet_spec cs h hs
   have e4 : inSet x.1 = fun c => decide (c ∈ cs) := funext hx3
   rw [hx]
   simp only [Option.bind_some, hx1, cond_true]
   rw [trimRightASCII_spec _ _ hx2 hl]
   simp only [Option.bind_some]
   rw [trimLeftASCII_spec _ _ hx2 (by
    refine Nat.le_trans ?_ hl
    unfold trimR
    rw [List.length_reverse]
    refine Nat.le_trans (List.dropWhile_sublist _).length_le (by simp))]
   rw [e4]
   rfl
def wordSet : List UInt8 := [97, 98, 99, 100, 101, 102, 103, 104, 105, 106, 107, 108, 109, 110, 111, 112, 113, 114, 115, 116, 117, 118, 119, 120, 121, 122, 48, 49, 50, 51, 52, 53, 54, 55, 56, 57, 45]
def wname (s : List UInt8) : Bool := decide (s.length ≤ 16) && (match s with | [] => false | c :: _ => decide (97 ≤ c.toNat) && decide (c.toNat ≤ 122)) && s.all fun c => decide (c ∈ wordSet)
theorem Name_spec (s : List UInt8) (hl : s.length ≤ 1000000000) : Fz20 s = some (wname s) := by
 unfold Fz20
 have e0 : (ByteArray.mk #[]).data.toList = [] := rfl
 simp only [e0]
 rw [Trim_spec s _ (by decide) (by decide) (by decide) hl]
 cases s with
 | nil => rfl
 | cons a r =>
   have e1 : decide (a :: r = []) = false := by simp
   simp only [e1, cond_false, Option.bind_some]
   have e5 : idxO (a :: r) 0 = fun f => (f a : Option Bool) := rfl
   simp only [e5]
   unfold wname
   by_cases h1 : (16 : Int) < ((a :: r).length : Int)
   · have : ¬ (a :: r).length ≤ 16 := by omega
     simp only [h1, decide_true, cond_true, this, decide_false, Bool.false_and]
   · have h1' : (a :: r).length ≤ 16 := by omega
     simp only [h1, decide_false, cond_false, h1', decide_true, Bool.true_and]
     by_cases h2 : (a.toNat : Int) < 97
     · have : ¬ 97 ≤ a.toNat := by omega
       simp only [h2, decide_true, cond_true, this, decide_false, Bool.false_and]
     · have h2' : 97 ≤ a.toNat := by omega
       simp only [h2, decide_false, cond_false, h2', decide_true, Bool.true_and]
       by_cases h3 : (122 : Int) < (a.toNat : Int)
       · have : ¬ a.toNat ≤ 122 := by omega
         simp only [h3, decide_true, cond_true, this, decide_false, Bool.false_and]
       · have h3' : a.toNat ≤ 122 := by omega
         simp only [h3, decide_false, cond_false, h3', decide_true, Bool.true_and]
         congr 1
         rw [Bool.eq_iff_iff, decide_eq_true_eq, trimR_all, List.all_eq_true]
         rfl
end Go.Sx.O
namespace Go.Sx.O
open Go
theorem bit_at : ∀ u : Fin 256, ∀ b : Fin 9, bits .and .u8 (Int.fdiv (u.val : Int) (2 ^ min b.val (IntKind.bits .u8))) 1 = if Nat.testBit u b then 1 else 0 := by decide +kernel
theorem bitAt {u : Int} {b : Nat} (h0 : 0 ≤ u) (h1 : u < 256) (hb : b ≤ 8) : bits .and .u8 (Int.fdiv u (2 ^ min b (IntKind.bits .u8))) 1 = if u.toNat.testBit b then 1 else 0 := by
 have := bit_at ⟨u.toNat, by omega⟩ ⟨b, by omega⟩
 simp only at this
 rw [Int.toNat_of_nonneg h0] at this
 exact this
theorem ofInt_u8 {u : Int} (h0 : 0 ≤ u) : BitVec.ofInt 8 u = BitVec.ofNat 8 u.toNat := by
 conv => lhs; rw [← Int.toNat_of_nonneg h0]
 exact BitVec.ofInt_natCast 8 u.toNat
theorem wrap_u8 {n : Nat} (h : n < 256) : IntKind.wrap .u8 (n : Int) = n := by
 simp only [IntKind.wrap, IntKind.signed, IntKind.bits, Bool.false_and]
 have h3 : (2 : Int) ^ 8 = 256 := by decide
 simp only [h3]
 have : (n : Int) % 256 = n := by omega
 simp [this]
theorem bits_and {a b : Int} (ha : 0 ≤ a) (ha' : a < 256) (hb : 0 ≤ b) (hb' : b < 256) : bits .and .u8 a b = ((a.toNat &&& b.toNat : Nat) : Int) := by
 have e : bits .and .u8 a b = IntKind.wrap .u8 ((BitVec.ofInt 8 a &&& BitVec.ofInt 8 b).toNat : Int) := rfl
 rw [e, ofInt_u8 ha, ofInt_u8 hb]
 rw [wrap_u8 (BitVec.isLt _)]
 rw [BitVec.toNat_and, BitVec.toNat_ofNat, BitVec.toNat_ofNat, Nat.mod_eq_of_lt (by omega), Nat.mod_eq_of_lt (by omega)]
theorem bits_or {a b : Int} (ha : 0 ≤ a) (ha' : a < 256) (hb : 0 ≤ b) (hb' : b < 256) : bits .or .u8 a b = ((a.toNat ||| b.toNat : Nat) : Int) := by
 have e : bits .or .u8 a b = IntKind.wrap .u8 ((BitVec.ofInt 8 a ||| BitVec.ofInt 8 b).toNat : Int) := rfl
 rw [e, ofInt_u8 ha, ofInt_u8 hb]
 rw [wrap_u8 (BitVec.isLt _)]
 rw [BitVec.toNat_or, BitVec.toNat_ofNat, BitVec.toNat_ofNat, Nat.mod_eq_of_lt (by omega), Nat.mod_eq_of_lt (by omega)]
theorem bits_andNot {a b : Int} (ha : 0 ≤ a) (ha' : a < 256) (hb : 0 ≤ b) (hb' : b < 256) : bits .andNot .u8 a b = 0 ↔ ∀ i, a.toNat.testBit i = true → b.toNat.testBit i = true := by
 have e : bits .andNot .u8 a b = IntKind.wrap .u8 ((BitVec.ofInt 8 a &&& ~~~BitVec.ofInt 8 b).toNat : Int) := rfl
 rw [e, ofInt_u8 ha, ofInt_u8 hb]
 rw [wrap_u8 (BitVec.isLt _)]
 have hbit : ∀ i, (BitVec.ofNat 8 a.toNat &&& ~~~BitVec.ofNat 8 b.toNat).getLsbD i = (decide (i < 8) && a.toNat.testBit i && !(b.toNat.testBit i)) := by
  intro i
  rw [BitVec.getLsbD_and, BitVec.getLsbD_not, BitVec.getLsbD_ofNat, BitVec.getLsbD_ofNat]
  cases decide (i < 8) <;> simp
 have h8 : ∀ i, a.toNat.testBit i = true → i < 8 := by
  intro i hi
  rcases Nat.lt_or_ge i 8 with g | g
  · exact g
  · rw [Nat.testBit_lt_two_pow (Nat.lt_of_lt_of_le (show a.toNat < 2 ^ 8 by omega) (Nat.pow_le_pow_right (by omega) g))] at hi
    cases hi
 constructor
 · intro h i hi
   have h0 : (BitVec.ofNat 8 a.toNat &&& ~~~BitVec.ofNat 8 b.toNat).toNat = 0 := Int.ofNat_eq_zero.1 h
   have h1 := hbit i
   rw [← BitVec.testBit_toNat, h0, Nat.zero_testBit] at h1
   have := h8 i hi
   simp [this, hi] at h1
   exact h1
 · intro h
   have h1 : (BitVec.ofNat 8 a.toNat &&& ~~~BitVec.ofNat 8 b.toNat).toNat = 0 := by
    apply Nat.eq_of_testBit_eq
    intro i
    rw [BitVec.testBit_toNat, hbit i, Nat.zero_testBit]
    cases hi : a.toNat.testBit i with
    | false => simp
    | true => simp [h i hi]
   rw [h1]; rfl
theorem and_lt {a b : Nat} (h : a < 256) : a &&& b < 256 := Nat.lt_of_le_of_lt Nat.and_le_left h
theorem or_lt {a b : Nat} (h : a < 256) (k : b < 256) : a ||| b < 256 := Nat.or_lt_two_pow (n := 8) h k
theorem named_total (ns : List (List UInt8)) (h : ns.length ≤ 20) (hn : ∀ s ∈ ns, s.length ≤ 1000) : Tot (Fz23 ns) fun r => r.2 = 0 → 1 ≤ ns.length ∧ ns.length ≤ 8 := by
 unfold Fz23
 simp only [tot_cond, tot_some, tot_bind, List.length_map, decide_eq_true_eq, decide_eq_false_iff_not]
 refine ⟨fun _ h => absurd h (by decide), fun h1 => ⟨fun _ h => absurd h (by decide), fun h2 => ?_⟩⟩
 refine Tot.count ns.length (fun k s => s = (k : Int)) ?_ rfl
 rintro k _ hk rfl
 simp only [tot_some, tot_cond, tot_let, tot_idx, tot_side, tot_bind, Sum.elim_inl, Sum.elim_inr, decide_eq_true_eq, decide_eq_false_iff_not, Int.toNat_natCast]
 refine ⟨fun hlt => ⟨by omega, _, List.getElem?_eq_getElem (by omega), ?_⟩, fun hlt => fun _ => by omega⟩
 rw [Name_spec _ (by have := hn ns[k] (List.getElem_mem _); omega), tot_some]
 refine ⟨fun _ h => absurd h (by decide), fun _ => ⟨⟨by omega, by omega⟩, ?_⟩⟩
 rw [Contains_strings_spec _ _ (by simp; omega), tot_some]
 refine ⟨fun _ h => absurd h (by decide), fun _ => ?_⟩
 rw [w64 (by omega) (by omega)]
 exact ⟨by omega, by omega⟩
end Go.Sx.O
namespace Go.Sx.O
open Go
def U8s (l : List Int) : Prop := ∀ x ∈ l, 0 ≤ x ∧ x < 256
theorem U8s.get {l : List Int} (h : U8s l) {i : Nat} {x : Int} (hx : l[i]? = some x) : 0 ≤ x ∧ x < 256 := h x (List.mem_of_getElem? hx)
theorem U8s.set {l : List Int} (h : U8s l) {i : Nat} {x : Int} (h0 : 0 ≤ x) (h1 : x < 256) : U8s (l.set i x) := by
 intro y hy
 rcases List.mem_or_eq_of_mem_set hy with g | g
 · exact h y g
 · subst g; exact ⟨h0, h1⟩
theorem mod_u8 {e : Int} : 0 ≤ IntKind.wrap .u8 e ∧ IntKind.wrap .u8 e < 256 := by
 simp only [IntKind.wrap, IntKind.signed, IntKind.bits, Bool.false_and]
 have h3 : (2 : Int) ^ 8 = 256 := by decide
 simp only [h3]
 refine ⟨?_, ?_⟩ <;> simp <;> omega
theorem orU {a b : Int} (ha : 0 ≤ a) (ha' : a < 256) (hb : 0 ≤ b) (hb' : b < 256) : 0 ≤ bits .or .u8 a b ∧ bits .or .u8 a b < 256 := by
 rw [bits_or ha ha' hb hb']
 have := or_lt (a := a.toNat) (b := b.toNat) (by omega) (by omega)
 omega
theorem get_lt {α : Type} {l : List α} {i : Nat} (h : i < l.length) : ∃ x, l[i]? = some x := ⟨_, List.getElem?_eq_getElem h⟩
theorem of_total (l : TL) (hu : U8s l.Up) (hn : l.Names.length ≤ 8) (hl : l.Up.length ≤ 8) :
 Tot (Fz25 l) fun o => o.n_ = l.Names.length ∧ o.up_.length = 8 ∧ o.down_.length = 8 ∧ U8s o.up_ ∧ U8s o.down_ := by
 unfold Fz25
 simp only [tot_bind, List.length_map]
 refine Tot.count l.Up.length (fun k s => s.1 = (k : Int) ∧ s.2.1.length = 8 ∧ s.2.2.length = 8 ∧ U8s s.2.1 ∧ U8s s.2.2) ?_ ⟨rfl, rfl, rfl, by intro x hx; simp at hx; omega, by intro x hx; simp at hx; omega⟩
 rintro k ⟨i, up, down⟩ hk ⟨h0, h1, h2, h3, h4⟩
 simp only at h0 h1 h2 h3 h4
 subst h0
 simp only [tot_some, tot_cond, tot_let, tot_idx, tot_side, tot_bind, Sum.elim_inl, Sum.elim_inr, decide_eq_true_eq, decide_eq_false_iff_not, Int.toNat_natCast]
 refine ⟨fun hlt => ?_, fun hlt => ⟨trivial, h1, h2, h3, h4⟩⟩
 obtain ⟨x, hx⟩ := get_lt (l := l.Up) (i := k) (by omega)
 obtain ⟨y, hy⟩ := get_lt (l := up) (i := k) (by omega)
 refine ⟨by omega, x, hx, ⟨by omega, by omega⟩, by omega, y, hy, ?_⟩
 have hx' := hu.get hx
 refine Tot.count l.Names.length (fun j s => s.1 = (j : Int) ∧ s.2.length = 8 ∧ U8s s.2) ?_ ⟨rfl, h2, h4⟩
 rintro j ⟨i', d⟩ hj ⟨g0, g1, g2⟩
 simp only at g0 g1 g2
 subst g0
 simp only [tot_some, tot_cond, tot_let, tot_idx, tot_side, tot_bind, Sum.elim_inl, Sum.elim_inr, decide_eq_true_eq, decide_eq_false_iff_not, Int.toNat_natCast]
 refine ⟨fun hlt' => ?_, fun _ => ?_⟩
 · obtain ⟨z, hz⟩ := get_lt (l := d) (i := j) (by omega)
   have hz' := g2.get hz
   rw [w64 (by omega) (by omega)]
   refine ⟨⟨by omega, by omega⟩, by omega, z, hz, by omega, by omega, ⟨by omega, by omega⟩, by omega, z, hz, by omega, by omega, by simpa using g1, ?_⟩
   have hw := mod_u8 (e := bits .and .u8 (Int.fdiv x (2 ^ min j (IntKind.bits .u8))) 1 * 2 ^ min k (IntKind.bits .u8))
   have ho := orU hz'.1 hz'.2 hw.1 hw.2
   exact g2.set ho.1 ho.2
 · rw [w64 (by omega) (by omega)]
   exact ⟨by omega, by omega, by simpa using h1, g1, h3.set hx'.1 hx'.2, g2⟩
theorem bound_ups_total (m : List Int) (n : Nat) (a b : Nat) (hm : m.length = 8) (hu : U8s m) (hn : n ≤ 8) (ha : a < n) (hb : b < n) : Tot (Fz26 m n a b) fun _ => True := by
 unfold Fz26
 obtain ⟨x, hx⟩ := get_lt (l := m) (i := a) (by omega)
 obtain ⟨y, hy⟩ := get_lt (l := m) (i := b) (by omega)
 simp only [tot_some, tot_cond, tot_let, tot_idx, tot_side, tot_bind, Int.toNat_natCast]
 refine ⟨⟨by omega, by omega⟩, by omega, x, hx, ⟨by omega, by omega⟩, by omega, y, hy, ?_⟩
 refine Tot.count n (fun k s => s = (k : Int)) ?_ rfl
 rintro k _ hk rfl
 simp only [tot_some, tot_cond, tot_let, tot_idx, tot_side, tot_bind, Sum.elim_inl, Sum.elim_inr, decide_eq_true_eq, decide_eq_false_iff_not, Int.toNat_natCast]
 refine ⟨fun hlt => ⟨by omega, fun _ => ?_, fun _ => ?_⟩, fun _ => trivial⟩
 · obtain ⟨z, hz⟩ := get_lt (l := m) (i := k) (by omega)
   rw [w64 (by omega) (by omega)]
   exact ⟨⟨by omega, by omega⟩, by omega, z, hz, fun _ => trivial, fun _ => ⟨by omega, by omega⟩⟩
 · rw [w64 (by omega) (by omega)]
   exact ⟨by omega, by omega⟩
theorem bound_downs_total (m : List Int) (n : Nat) (a b : Nat) (hm : m.length = 8) (hu : U8s m) (hn : n ≤ 8) (ha : a < n) (hb : b < n) : Tot (Fz27 m n a b) fun _ => True := bound_ups_total m n a b hm hu hn ha hb
theorem Len8_total (x : Int) (h0 : 0 ≤ x) (h1 : x < 256) : Tot (Fz24 x) fun _ => True := by
 unfold Fz24
 rw [tot_idx]
 refine ⟨h0, ?_⟩
 have key : ∀ l : List UInt8, l.length = 256 → ∃ y, l[x.toNat]? = some y ∧ Tot (letO (IntKind.wrap .i64 (y.toNat : Int)) fun z => some z) fun _ => True := by
  intro l hl
  obtain ⟨y, hy⟩ := get_lt (l := l) (i := x.toNat) (by omega)
  exact ⟨y, hy, .mk trivial⟩
 exact key _ (by decide +kernel)
def up (l : TL) (a b : Nat) : Bool := (l.Up.getD a 0).toNat.testBit b
def rowOK (l : TL) (a b : Nat) : Prop := up l a b = true → (b ≠ a → up l b a = false) ∧ ∀ i, i < l.Names.length → up l b i = true → up l a i = true
structure LatOK (l : TL) : Prop where
 pos : 1 ≤ l.Names.length
 le : l.Names.length ≤ 8
 len : l.Up.length = l.Names.length
 u8 : U8s l.Up
 self : ∀ a, a < l.Names.length → up l a a = true
 row : ∀ a, a < l.Names.length → ∀ b, b < l.Names.length → rowOK l a b
theorem up_of {l : TL} {a : Nat} {x : Int} (h : l.Up[a]? = some x) (b : Nat) : up l a b = x.toNat.testBit b := by
 unfold up; rw [List.getD_eq_getElem?_getD, h]; rfl
theorem mask_bit (n : Nat) (h : n ≤ 8) (i : Nat) : (IntKind.wrap .u8 (IntKind.wrap .u8 (1 * 2 ^ min n (IntKind.bits .u8)) - 1)).toNat.testBit i = decide (i < n) := by
 have key : ∀ n : Fin 9, (IntKind.wrap .u8 (IntKind.wrap .u8 (1 * 2 ^ min n.val (IntKind.bits .u8)) - 1)).toNat = 2 ^ n.val - 1 := by decide +kernel
 rw [key ⟨n, by omega⟩]
 exact Nat.testBit_two_pow_sub_one n i
theorem Check_lat (l : TL) (hu : U8s l.Up) (hn : l.Names.length ≤ 20) (hs : ∀ s ∈ l.Names, s.length ≤ 1000) : Tot (Fz28 l) fun r => r.2 = 0 → LatOK l := by
 unfold Fz28
 simp only [tot_bind, List.length_map]
 refine (named_total l.Names hn hs).mono fun x53 h53 => ?_
 simp only [tot_cond, tot_some, Bool.not_eq_true', Bool.not_eq_false', decide_eq_true_eq, decide_eq_false_iff_not]
 refine ⟨fun h h' => absurd h' h, fun h => ⟨fun _ h' => absurd h' (by decide), fun hlen => ?_⟩⟩
 obtain ⟨p1, p8⟩ := h53 h
 have hlen' : l.Up.length = l.Names.length := by omega
 rw [tot_side, tot_let, tot_let, tot_bind]
 refine ⟨by omega, ?_⟩
 rw [Int.toNat_natCast]
 have hmask := mask_bit l.Names.length p8
 have hm0 := mod_u8 (e := IntKind.wrap .u8 (1 * 2 ^ min l.Names.length (IntKind.bits .u8)) - 1)
 revert hmask hm0
 generalize IntKind.wrap .u8 (IntKind.wrap .u8 (1 * 2 ^ min l.Names.length (IntKind.bits .u8)) - 1) = mask
 intro hmask hm0
 refine Tot.count l.Names.length (fun k s => s = (k : Int) ∧ (∀ a, a < k → up l a a = true) ∧ ∀ a, a < k → ∀ b, b < l.Names.length → rowOK l a b) ?_ ⟨rfl, fun a ha => absurd ha (by omega), fun a ha => absurd ha (by omega)⟩
 rintro k _ hk ⟨rfl, hself, hrow⟩
 simp only [tot_cond, tot_some, tot_let, Sum.elim_inl, Sum.elim_inr, decide_eq_true_eq, decide_eq_false_iff_not]
 refine ⟨fun hlt => ?_, fun hlt => ?_⟩
 · -- a round
   simp only [tot_idx, Int.toNat_natCast]
   obtain ⟨x, hx⟩ := get_lt (l := l.Up) (i := k) (by omega)
   have hx' := hu.get hx
   refine ⟨by omega, x, hx, ?_⟩
   rw [tot_bind]
   refine (Len8_total x hx'.1 hx'.2).mono fun x91 _ => ?_
   simp only [tot_cond, tot_some, tot_side, Sum.elim_inl, Sum.elim_inr, decide_eq_true_eq, decide_eq_false_iff_not, Int.toNat_natCast]
   refine ⟨fun _ h' => absurd h' (by decide), fun _ => ⟨by omega, fun _ h' => absurd h' (by decide), fun hs => ?_⟩⟩
   rw [bitAt hx'.1 hx'.2 (by omega), ← up_of hx] at hs
   have hkk : up l k k = true := by
    cases e : up l k k with
    | true => rfl
    | false => rw [e] at hs; simp at hs
   rw [tot_bind]
   refine Tot.count l.Names.length (fun j s => s = (j : Int) ∧ ∀ b, b < j → rowOK l k b) ?_ ⟨rfl, fun b hb => absurd hb (by omega)⟩
   rintro j _ hj ⟨rfl, hr⟩
   have fin : (∀ b, b < l.Names.length → rowOK l k b) → k < l.Names.length ∧ IntKind.wrap .i64 ((k : Int) + 1) = ((k + 1 : Nat) : Int) ∧ (∀ a, a < k + 1 → up l a a = true) ∧ ∀ a, a < k + 1 → ∀ b, b < l.Names.length → rowOK l a b := by
    intro hall
    rw [w64 (by omega) (by omega)]
    refine ⟨by omega, by omega, fun a ha => ?_, fun a ha => ?_⟩
    · rcases Nat.lt_or_ge a k with g | g
      · exact hself a g
      · have : a = k := by omega
        subst this; exact hkk
    · rcases Nat.lt_or_ge a k with g | g
      · exact hrow a g
      · have : a = k := by omega
        subst this; exact hall
   have ext : ∀ {b}, rowOK l k j → b < j + 1 → rowOK l k b := by
    intro b h hb
    rcases Nat.lt_or_ge b j with g | g
    · exact hr b g
    · have : b = j := by omega
      subst this; exact h
   simp only [tot_cond, tot_some, tot_let, tot_side, Sum.elim_inl, Sum.elim_inr, decide_eq_true_eq, decide_eq_false_iff_not, Bool.not_eq_true', Bool.not_eq_false', Int.toNat_natCast]
   refine ⟨fun hjl => ?_, fun hjl => ?_⟩
   · simp only [tot_idx, Int.toNat_natCast]
     obtain ⟨y, hy⟩ := get_lt (l := l.Up) (i := j) (by omega)
     have hy' := hu.get hy
     refine ⟨by omega, y, hy, ?_⟩
     simp only [tot_cond, tot_some, tot_let, tot_side, Sum.elim_inl, Sum.elim_inr, decide_eq_true_eq, decide_eq_false_iff_not, Bool.not_eq_true', Bool.not_eq_false', Int.toNat_natCast]
     rw [bitAt hx'.1 hx'.2 (by omega), ← up_of hx]
     rw [w64 (e := (l.Names.length : Int) - 1) (by omega) (by omega)]
     have stay : rowOK l k j → ((j : Int) = (l.Names.length : Int) - 1 → k < l.Names.length ∧ IntKind.wrap .i64 ((k : Int) + 1) = ((k + 1 : Nat) : Int) ∧ (∀ a, a < k + 1 → up l a a = true) ∧ ∀ a, a < k + 1 → ∀ b, b < l.Names.length → rowOK l a b) ∧ (¬ (j : Int) = (l.Names.length : Int) - 1 → j < l.Names.length ∧ IntKind.wrap .i64 ((j : Int) + 1) = ((j + 1 : Nat) : Int) ∧ ∀ b, b < j + 1 → rowOK l k b) := by
      intro hrow'
      refine ⟨fun e => fin fun b hb => ext hrow' (by omega), fun e => ?_⟩
      rw [w64 (by omega) (by omega)]
      exact ⟨by omega, by omega, fun b hb => ext hrow' hb⟩
     refine ⟨by omega, fun hb => ?_, fun hb => ⟨fun hne => ⟨by omega, fun _ h' => absurd h' (by decide), fun hba => ⟨fun _ h' => absurd h' (by decide), fun han => ?_⟩⟩, fun heq => ⟨fun _ h' => absurd h' (by decide), fun han => ?_⟩⟩⟩
     · refine stay fun hup => ?_
       rw [hup] at hb; simp at hb
     · refine stay fun _ => ⟨fun _ => ?_, fun i hi hyi => ?_⟩
       · rw [bitAt hy'.1 hy'.2 (by omega), ← up_of hy] at hba
         cases e : up l j k with
         | false => rfl
         | true => rw [e] at hba; simp at hba
       · rw [bits_and hy'.1 hy'.2 hm0.1 hm0.2] at han
         have hand := and_lt (a := y.toNat) (b := mask.toNat) (by omega)
         have := (bits_andNot (by omega) (by omega) hx'.1 hx'.2).1 han i (by
          rw [Int.toNat_natCast, Nat.testBit_and, hmask, ← up_of hy, hyi]; simp [hi])
         rw [up_of hx]; exact this
     · refine stay fun _ => ⟨fun hne => absurd (by omega) hne, fun i hi hyi => ?_⟩
       rw [bits_and hy'.1 hy'.2 hm0.1 hm0.2] at han
       have hand := and_lt (a := y.toNat) (b := mask.toNat) (by omega)
       have := (bits_andNot (by omega) (by omega) hx'.1 hx'.2).1 han i (by
        rw [Int.toNat_natCast, Nat.testBit_and, hmask, ← up_of hy, hyi]; simp [hi])
       rw [up_of hx]; exact this
   · exact fin fun b hb => hr b (by omega)
 · -- the end
   have hk' : k = l.Names.length := by omega
   subst hk'
   have good : LatOK l := ⟨p1, p8, hlen', hu, hself, hrow⟩
   rw [tot_bind]
   refine (of_total l hu p8 (by omega)).mono fun o ho => ?_
   obtain ⟨_, o1, o2, o3, o4⟩ := ho
   rw [tot_bind]
   refine Tot.count l.Names.length (fun j s => s = (j : Int)) ?_ rfl
   rintro j _ hj rfl
   simp only [tot_cond, tot_some, tot_let, tot_bind, Sum.elim_inl, Sum.elim_inr, decide_eq_true_eq, decide_eq_false_iff_not]
   refine ⟨fun hlt => ?_, fun _ _ => good⟩
   refine Tot.count l.Names.length (fun i s => s = (i : Int)) ?_ rfl
   rintro i _ hi rfl
   simp only [tot_cond, tot_some, tot_let, tot_bind, Sum.elim_inl, Sum.elim_inr, decide_eq_true_eq, decide_eq_false_iff_not]
   refine ⟨fun hlt' => ?_, fun _ => ?_⟩
   · refine (bound_ups_total _ _ _ _ o1 o3 p8 (by omega) (by omega)).mono fun b1 _ => ⟨fun _ h' => absurd h' (by decide), fun _ => ?_⟩
     refine (bound_downs_total _ _ _ _ o2 o4 p8 (by omega) (by omega)).mono fun b2 _ => ⟨fun _ h' => absurd h' (by decide), fun _ => ?_⟩
     rw [w64 (by omega) (by omega)]
     exact ⟨by omega, by omega⟩
   · rw [w64 (by omega) (by omega)]
     exact ⟨by omega, by omega⟩
end Go.Sx.O
namespace Go.Sx.O
open Go
structure LatIn (l : TL) : Prop where
 u8 : U8s l.Up
 names : l.Names.length ≤ 20
 name : ∀ s ∈ l.Names, s.length ≤ 1000
noncomputable def latR (l : TL) : Int × Int := (Fz28 l).getD (0, 0)
theorem Check_eq {l : TL} (h : LatIn l) : Fz28 l = some (latR l) := by
 obtain ⟨r, e, _⟩ := Check_lat l h.u8 h.names h.name
 unfold latR; rw [e]; rfl
theorem lat_ok {l : TL} (h : LatIn l) (k : (latR l).2 = 0) : LatOK l := by
 obtain ⟨r, e, q⟩ := Check_lat l h.u8 h.names h.name
 have := Check_eq h
 rw [e] at this; cases this
 exact q k
def isLab (l : TL) (a : Int) : Bool := decide (0 ≤ a) && decide (a < (l.Names.length : Int))
noncomputable def askE (l : TL) (xs : List Int) : Int := if (latR l).2 = 0 then (if xs.all (isLab l) then 0 else 7) else (latR l).2
theorem lasked_spec {l : TL} (h : LatIn l) (xs : List Int) (hx : xs.length ≤ 1000000000) : Fz40 l xs = some (askE l xs) := by
 unfold Fz40 askE
 rw [Check_eq h]
 simp only [Option.bind_some]
 by_cases h0 : (latR l).2 = 0
 · simp only [h0, decide_true, Bool.not_true, cond_false, if_true]
   apply Tot.eq
   simp only [tot_bind, List.length_map]
   refine Tot.count xs.length (fun k s => s = (k : Int) ∧ (xs.take k).all (isLab l) = true) ?_ ⟨rfl, by simp⟩
   rintro k _ hk ⟨rfl, hall⟩
   simp only [tot_cond, tot_some, tot_let, tot_idx, Sum.elim_inl, Sum.elim_inr, decide_eq_true_eq, decide_eq_false_iff_not, Int.toNat_natCast]
   refine ⟨fun hlt => ?_, fun hlt => ?_⟩
   · obtain ⟨x, hx'⟩ := get_lt (l := xs) (i := k) (by omega)
     have hm := List.mem_of_getElem? hx'
     have bad : isLab l x = false → (7 : Int) = if xs.all (isLab l) = true then 0 else 7 := by
      intro e
      have : xs.all (isLab l) = false := by
       rw [List.all_eq_false]; exact ⟨x, hm, by simp [e]⟩
      simp [this]
     refine ⟨by omega, x, hx', fun g => bad (by unfold isLab; simp; omega), fun g1 => ⟨fun g => bad (by unfold isLab; simp; omega), fun g2 => ?_⟩⟩
     rw [w64 (by omega) (by omega)]
     refine ⟨by omega, by omega, ?_⟩
     rw [List.take_add_one, hx', List.all_append, hall]
     simp [isLab]; omega
   · rw [List.take_of_length_le (by omega)] at hall
     simp [hall]
 · simp only [h0, decide_false, Bool.not_false, cond_true, if_false]
noncomputable def sees (l : TL) (a o : Int) : Bool := decide ((latR l).2 = 0) && isLab l a && isLab l o && up l a.toNat o.toNat
end Go.Sx.O
namespace Go.Sx.O
open Go
theorem any_loop {α : Type} {l : List α} (p : α → Bool) {ε : Type} {step : Int → Option (Int ⊕ (ε ⊕ Int))} {e : ε} {G : Option Int}
 (hG : G = (lpO step 0).bind (Sum.elim (fun _ => some (-1)) some))
 (h1 : ∀ (k : Nat) x, l[k]? = some x → k < l.length → step (k : Int) = if p x then some (.inr (.inr (k : Int))) else some (.inl ((k : Int) + 1)))
 (h2 : step (l.length : Int) = some (.inr (.inl e))) : G.bind (fun x => some (decide (0 ≤ x))) = some (l.any p) := by
 rw [hG, find_loop (l := l) p (d := .inl e) (g := .inr) (fun k x hx => h1 k x hx (by
  rcases Nat.lt_or_ge k l.length with g | g
  · exact g
  · rw [List.getElem?_eq_none g] at hx; cases hx)) h2]
 cases h : l.findIdx? p with
 | none =>
   have := List.findIdx?_eq_none_iff.1 h
   simp only [Option.bind_some, Sum.elim_inl]
   have hn : l.any p = false := by rw [List.any_eq_false]; intro x hx; simp [this x hx]
   rw [hn]; rfl
 | some i =>
   obtain ⟨hi, hp, _⟩ := List.findIdx?_eq_some_iff_getElem.1 h
   have hy : l.any p = true := List.any_eq_true.2 ⟨_, List.getElem_mem hi, hp⟩
   simp [hy]
theorem ContainsFunc1 (l : List Int) (h : l.length ≤ 1000000000) : Fz57 l = some (l.any fun x => decide (x < 0)) := by
 unfold Fz57 Fz56
 refine any_loop (l := l) (fun x => decide (x < 0)) (e := ()) rfl (fun k x hx hlt => ?_) (by simp)
 simp only [List.length_map, Int.ofNat_lt, hlt, decide_true, cond_true, idxO, Int.toNat_natCast, hx, Option.bind_some, letO, Int.natCast_nonneg, if_true, Fz55]
 rw [w64 (by omega) (by omega)]
 cases decide (x < 0) <;> rfl
theorem ContainsFunc2 (l : List Int) (h : l.length ≤ 1000000000) : Fz60 l = some (l.any fun x => !decide (x = 0)) := by
 unfold Fz60 Fz59
 refine any_loop (l := l) (fun x => !decide (x = 0)) (e := ()) rfl (fun k x hx hlt => ?_) (by simp)
 simp only [List.length_map, Int.ofNat_lt, hlt, decide_true, cond_true, idxO, Int.toNat_natCast, hx, Option.bind_some, letO, Int.natCast_nonneg, if_true, Fz58]
 rw [w64 (by omega) (by omega)]
 cases decide (x = 0) <;> rfl
theorem ContainsFunc3 (l : List Int) (h : l.length ≤ 1000000000) : Fz63 l = some (l.any fun x => decide (400 < x)) := by
 unfold Fz63 Fz62
 refine any_loop (l := l) (fun x => decide (400 < x)) (e := ()) rfl (fun k x hx hlt => ?_) (by simp)
 simp only [List.length_map, Int.ofNat_lt, hlt, decide_true, cond_true, idxO, Int.toNat_natCast, hx, Option.bind_some, letO, Int.natCast_nonneg, if_true, Fz61]
 rw [w64 (by omega) (by omega)]
 cases decide (400 < x) <;> rfl
theorem ValidRune_total (x : Int) : Tot (Fz14 x) fun _ => True := by
 unfold Fz14
 simp only [tot_cond, tot_some, implies_true, and_self]
end Go.Sx.O
namespace Go.Sx.O
open Go
theorem indexByte_none {l : List UInt8} {c : UInt8} (h : c ∉ l) : Lib.indexByte l c = -1 := by
 induction l with
 | nil => rfl
 | cons a l ih =>
   simp only [List.mem_cons, not_or] at h
   have : (a == c) = false := by simp; exact fun e => h.1 e.symm
   simp [Lib.indexByte, this, ih h.2]
theorem hi_enc {r : Int} (h0 : 128 ≤ r) (h1 : r < 256) : ∃ x y, (Utf8.encode r).data.toList = [x, y] ∧ 128 ≤ y.toNat := by
 refine ⟨UInt8.ofNat (0xC0 + r.toNat / 64), UInt8.ofNat (0x80 + r.toNat % 64), ?_, ?_⟩
 · have hv : Utf8.valid r = true := by unfold Utf8.valid; simp; omega
   unfold Utf8.encode
   simp only [hv, if_true]
   rw [if_neg (by omega), if_pos (by omega)]
 · rw [UInt8.toNat_ofNat']; omega
theorem IndexRune_total (s : List UInt8) (r : Int) (hs : ∀ c ∈ s, c.toNat < 128) (hl : s.length ≤ 1000) (h0 : 0 ≤ r) (h1 : r < 256) : Tot (Fz15 s r) fun _ => True := by
 unfold Fz15
 have e0 : decide (0 ≤ r) = true := by simp [h0]
 simp only [e0, cond_true]
 rw [tot_cond]
 refine ⟨fun _ => ?_, fun h2 => ?_⟩
 · rw [tot_let, tot_bind]
   unfold Fz13 F_internal_stringslite_IndexByte
   simp only [Option.bind_some, tot_some]
 · simp only [decide_eq_false_iff_not] at h2
   obtain ⟨x, y, exy, hy⟩ := hi_enc (r := r) (by omega) h1
   have e1 : decide (r = 65533) = false := by simp; omega
   simp only [e1, cond_false, exy]
   rw [tot_bind]
   refine (ValidRune_total r).mono fun v _ => ?_
   rw [tot_cond]
   refine ⟨fun _ => .mk trivial, fun _ => ?_⟩
   rw [tot_let]
   have e2 : IntKind.wrap .i64 (((List.length [x, y] : Nat) : Int) - 1) = 1 := rfl
   rw [e2, tot_bind]
   refine Tot.loop (fun _ => 0) (fun _ => True) (fun _ _ => ?_) trivial
   rw [tot_cond]
   refine ⟨fun h3 => ?_, fun _ => ?_⟩
   · simp only [decide_eq_true_eq] at h3
     obtain ⟨c, hc⟩ := get_lt (l := s) (i := 1) (by omega)
     have hc' := hs c (List.mem_of_getElem? hc)
     have e3 : (1 : Int).toNat = 1 := rfl
     simp only [tot_idx, e3]
     refine ⟨by omega, c, hc, by omega, y, rfl, ?_⟩
     have e4 : decide ((c.toNat : Int) = (y.toNat : Int)) = false := by simp; omega
     simp only [e4, Bool.not_false, cond_true]
     rw [tot_let]
     have e5 : IntKind.wrap .i64 (1 + 1) = 2 := rfl
     rw [e5, tot_side]
     refine ⟨by omega, ?_⟩
     simp only [tot_idx, e3]
     refine ⟨by omega, y, rfl, ?_⟩
     unfold Fz13 F_internal_stringslite_IndexByte
     simp only [Option.bind_some]
     have hn : ((y.toNat : Int).toNat.toUInt8) = y := by simp
     rw [hn, indexByte_none (fun hm => by
      have := hs y (List.mem_of_mem_take (List.mem_of_mem_drop hm))
      omega)]
     have e6 : decide ((-1 : Int) < 0) = true := rfl
     simp only [e6, cond_true, tot_some, Sum.elim_inr]
   · simp only [tot_some, Sum.elim_inr, Sum.elim_inl]
theorem ContainsRune_total (s : List UInt8) (r : Int) (hs : ∀ c ∈ s, c.toNat < 128) (hl : s.length ≤ 1000) (h0 : 0 ≤ r) (h1 : r < 256) : Tot (Fz16 s r) fun _ => True := by
 unfold Fz16
 rw [tot_bind]
 exact (IndexRune_total s r hs hl h0 h1).mono fun _ _ => .mk trivial
theorem wrap_i32 {r : Int} (h0 : 0 ≤ r) (h1 : r < 256) : IntKind.wrap .i32 r = r := by
 simp only [IntKind.wrap, IntKind.signed, IntKind.bits]
 have h3 : (2 : Int) ^ 32 = 4294967296 := by decide
 have h4 : (2 : Int) ^ (32 - 1) = 2147483648 := by decide
 simp only [h3, h4, Bool.true_and, decide_eq_true_eq, ge_iff_le]
 split <;> omega
end Go.Sx.O
