/-
  THE PLAIN STRUCT TYPES, and their symbolic values. Printed by a program. An own text.
  WHAT THE LIBRARY's BODILESS FUNCTIONS RETURN. An own text.
  DATA AS THEY COME: numbers in their kinds' ranges. Printed by a program. An own text.
  PLAIN FUNCTIONS: what the program computes. Printed by a program. An own text.
  PLAIN LAWS of the library's functions and of words, lattice. An own text.
  PLAIN LAWS: slices.Index, strings.Trim, words.Name. An own text.
  PLAIN LAWS: strings.Trim over ASCII, words.Name. An own text.
  PLAIN LAWS: bits; lattice.named, .of, .bound. An own text.
  PLAIN LAWS: lattice.of, .bound, .Check, .Leq. An own text.
  PLAIN LAWS: lattice.Leq; what an observer sees. An own text.
  PLAIN LAWS: shapes, arrays; arrays and events that are the same. An own text.
  PLAIN LAWS: expr.Name returns. An own text.
-/
import Derived.Test.YtpblckfedfcdkaaGreatDoorA6
import Derived.Lib.Bytealg
namespace Go.Sx.O
structure TR where
 s_ : List UInt8
 at_ : Int
def enc_TR (x : TR) : SV := .agg [SV.str x.s_, (SV.int .i64) x.at_]
theorem nmd_TR {p : Nat → Prop} (x : TR) : (enc_TR x).nmd p := ⟨trivial, trivial, trivial⟩
structure TF where
 low_ : Int
 high_ : Int
def enc_TF (x : TF) : SV := .agg [(SV.int .i64) x.low_, (SV.int .i64) x.high_]
theorem nmd_TF {p : Nat → Prop} (x : TF) : (enc_TF x).nmd p := ⟨trivial, trivial, trivial⟩
structure TL where
 Names : List (List UInt8)
 Up : List (Int)
def enc_TL (x : TL) : SV := .agg [(encSl 1 SV.str) x.Names, (encSl 1 (SV.int .u8)) x.Up]
theorem nmd_TL {p : Nat → Prop} (x : TL) : (enc_TL x).nmd p := ⟨(nmd_rows fun _ => trivial), (nmd_rows fun _ => trivial), trivial⟩
structure TU where
 From : Int
 Goal : Int
 K : Int
def enc_TU (x : TU) : SV := .agg [(SV.int .i64) x.From, (SV.int .i64) x.Goal, (SV.int .i64) x.K]
theorem nmd_TU {p : Nat → Prop} (x : TU) : (enc_TU x).nmd p := ⟨trivial, trivial, trivial, trivial⟩
structure TG where
 Lattice : TL
 bottom_ : Int
def enc_TG (x : TG) : SV := .agg [enc_TL x.Lattice, (SV.int .i64) x.bottom_]
theorem nmd_TG {p : Nat → Prop} (x : TG) : (enc_TG x).nmd p := ⟨(nmd_TL _), trivial, trivial⟩
structure TK where
 Kind : Int
 From : Int
 To : Int
 N : Int
 S : List UInt8
def enc_TK (x : TK) : SV := .agg [(SV.int .i64) x.Kind, (SV.int .i64) x.From, (SV.int .i64) x.To, (SV.int .i64) x.N, SV.str x.S]
theorem nmd_TK {p : Nat → Prop} (x : TK) : (enc_TK x).nmd p := ⟨trivial, trivial, trivial, trivial, trivial, trivial⟩
structure Tlattice_order where
 n_ : Int
 up_ : List (Int)
 down_ : List (Int)
def enc_Tlattice_order (x : Tlattice_order) : SV := .agg [(SV.int .i64) x.n_, (encA 8 1 (SV.int .u8)) x.up_, (encA 8 1 (SV.int .u8)) x.down_]
theorem nmd_Tlattice_order {p : Nat → Prop} (x : Tlattice_order) : (enc_Tlattice_order x).nmd p := ⟨trivial, (nmd_rows fun _ => trivial), (nmd_rows fun _ => trivial), trivial⟩
structure TY where
 Kind : Int
 Rank : Int
 Axes : (Int) × (Int)
 Data : Int
def enc_TY (x : TY) : SV := .agg [(SV.int .i64) x.Kind, (SV.int .i64) x.Rank, (encA2 1 (SV.int .i64)) x.Axes, (SV.int .i64) x.Data]
theorem nmd_TY {p : Nat → Prop} (x : TY) : (enc_TY x).nmd p := ⟨trivial, trivial, ⟨trivial, trivial, trivial⟩, trivial, trivial⟩
structure TA where
 Kind : Int
 Rank : Int
 Lens : (Int) × (Int)
 Cells : List (Int)
def enc_TA (x : TA) : SV := .agg [(SV.int .i64) x.Kind, (SV.int .i64) x.Rank, (encA2 1 (SV.int .i64)) x.Lens, (encSl 1 (SV.int .i64)) x.Cells]
theorem nmd_TA {p : Nat → Prop} (x : TA) : (enc_TA x).nmd p := ⟨trivial, trivial, ⟨trivial, trivial, trivial⟩, (nmd_rows fun _ => trivial), trivial⟩
structure TV where
 Name : List UInt8
 Type_ : TY
def enc_TV (x : TV) : SV := .agg [SV.str x.Name, enc_TY x.Type_]
theorem nmd_TV {p : Nat → Prop} (x : TV) : (enc_TV x).nmd p := ⟨trivial, (nmd_TY _), trivial⟩
structure TW where
 Name : List UInt8
 Value : TA
def enc_TW (x : TW) : SV := .agg [SV.str x.Name, enc_TA x.Value]
theorem nmd_TW {p : Nat → Prop} (x : TW) : (enc_TW x).nmd p := ⟨trivial, (nmd_TA _), trivial⟩
structure TE where
 Site : Int
 Fold : Int
 From : Int
 Goal : Int
 Cells : Int
 Value : (Int) × (Int)
def enc_TE (x : TE) : SV := .agg [(SV.int .i64) x.Site, (SV.int .i64) x.Fold, (SV.int .i64) x.From, (SV.int .i64) x.Goal, (SV.int .i64) x.Cells, (encA2 1 (SV.int .i64)) x.Value]
theorem nmd_TE {p : Nat → Prop} (x : TE) : (enc_TE x).nmd p := ⟨trivial, trivial, trivial, trivial, trivial, ⟨trivial, trivial, trivial⟩, trivial⟩
structure TEvEvent where
 Kind : Int
 Site : Int
 Steps : Int
 Label : Int
 Channel : List UInt8
 Value : TA
 E : Int
def enc_TEvEvent (x : TEvEvent) : SV := .agg [(SV.int .i64) x.Kind, (SV.int .i64) x.Site, (SV.int .i64) x.Steps, (SV.int .i64) x.Label, SV.str x.Channel, enc_TA x.Value, (SV.int .i64) x.E]
theorem nmd_TEvEvent {p : Nat → Prop} (x : TEvEvent) : (enc_TEvEvent x).nmd p := ⟨trivial, trivial, trivial, trivial, trivial, (nmd_TA _), trivial, trivial⟩
structure TP where
 Lattice : TL
 Channels : List (TR)
 Vars : List (TV)
 Rules : List (TU)
def enc_TP (x : TP) : SV := .agg [enc_TL x.Lattice, (encSl 2 enc_TR) x.Channels, (encSl 6 enc_TV) x.Vars, (encSl 3 enc_TU) x.Rules]
theorem nmd_TP {p : Nat → Prop} (x : TP) : (enc_TP x).nmd p := ⟨(nmd_TL _), (nmd_rows fun _ => (nmd_TR _)), (nmd_rows fun _ => (nmd_TV _)), (nmd_rows fun _ => (nmd_TU _)), trivial⟩
structure Tinvigilatorlaw28_Types where
 V : TY
 Y : TY
 From : Int
 Goal : Int
 PC : Int
 EC : Int
 Lower : Int
 Top : Int
def enc_Tinvigilatorlaw28_Types (x : Tinvigilatorlaw28_Types) : SV := .agg [enc_TY x.V, enc_TY x.Y, (SV.int .i64) x.From, (SV.int .i64) x.Goal, (SV.int .i64) x.PC, (SV.int .i64) x.EC, (SV.int .i64) x.Lower, (SV.int .i64) x.Top]
theorem nmd_Tinvigilatorlaw28_Types {p : Nat → Prop} (x : Tinvigilatorlaw28_Types) : (enc_Tinvigilatorlaw28_Types x).nmd p := ⟨(nmd_TY _), (nmd_TY _), trivial, trivial, trivial, trivial, trivial, trivial, trivial⟩
structure TC where
 Events : List (TEvEvent)
 Log : List (TE)
 Vars : List (TW)
 Steps : Int
def enc_TC (x : TC) : SV := .agg [(encSl 11 enc_TEvEvent) x.Events, (encSl 7 enc_TE) x.Log, (encSl 6 enc_TW) x.Vars, (SV.int .i64) x.Steps]
theorem nmd_TC {p : Nat → Prop} (x : TC) : (enc_TC x).nmd p := ⟨(nmd_rows fun _ => (nmd_TEvEvent _)), (nmd_rows fun _ => (nmd_TE _)), (nmd_rows fun _ => (nmd_TW _)), trivial, trivial⟩
end Go.Sx.O
namespace Go.Sx.O
noncomputable def F_internal_stringslite_IndexByte (a0 : List UInt8) (a1 : Int) : Option Int := some (Go.Lib.indexByte a0 a1.toNat.toUInt8)
end Go.Sx.O
namespace Go.Sx.O
open Go
def inK (k : IntKind) (n : Int) : Prop := k.min ≤ n ∧ n ≤ k.max
def allW {α : Type} (W : α → Prop) (l : List α) : Prop := ∀ x ∈ l, W x
def w2 {α : Type} (W : α → Prop) (p : α × α) : Prop := W p.1 ∧ W p.2
def w3 {α : Type} (W : α → Prop) (p : α × α × α) : Prop := W p.1 ∧ W p.2.1 ∧ W p.2.2
def wN {α : Type} (n : Nat) (W : α → Prop) (l : List α) : Prop := l.length = n ∧ ∀ x ∈ l, W x
structure W_TR (x : TR) : Prop where
 s_ : (fun _ => True) x.s_
 at_ : (inK .i64) x.at_
structure W_TF (x : TF) : Prop where
 low_ : (inK .i64) x.low_
 high_ : (inK .i64) x.high_
structure W_TL (x : TL) : Prop where
 Names : (allW (fun _ => True)) x.Names
 Up : (allW (inK .u8)) x.Up
structure W_TU (x : TU) : Prop where
 From : (inK .i64) x.From
 Goal : (inK .i64) x.Goal
 K : (inK .i64) x.K
structure W_TG (x : TG) : Prop where
 Lattice : W_TL x.Lattice
 bottom_ : (inK .i64) x.bottom_
structure W_TK (x : TK) : Prop where
 Kind : (inK .i64) x.Kind
 From : (inK .i64) x.From
 To : (inK .i64) x.To
 N : (inK .i64) x.N
 S : (fun _ => True) x.S
structure W_Tlattice_order (x : Tlattice_order) : Prop where
 n_ : (inK .i64) x.n_
 up_ : (wN 8 (inK .u8)) x.up_
 down_ : (wN 8 (inK .u8)) x.down_
structure W_TY (x : TY) : Prop where
 Kind : (inK .i64) x.Kind
 Rank : (inK .i64) x.Rank
 Axes : (w2 (inK .i64)) x.Axes
 Data : (inK .i64) x.Data
structure W_TA (x : TA) : Prop where
 Kind : (inK .i64) x.Kind
 Rank : (inK .i64) x.Rank
 Lens : (w2 (inK .i64)) x.Lens
 Cells : (allW (inK .i64)) x.Cells
structure W_TV (x : TV) : Prop where
 Name : (fun _ => True) x.Name
 Type_ : W_TY x.Type_
structure W_TW (x : TW) : Prop where
 Name : (fun _ => True) x.Name
 Value : W_TA x.Value
structure W_TE (x : TE) : Prop where
 Site : (inK .i64) x.Site
 Fold : (inK .i64) x.Fold
 From : (inK .i64) x.From
 Goal : (inK .i64) x.Goal
 Cells : (inK .i64) x.Cells
 Value : (w2 (inK .i64)) x.Value
structure W_TEvEvent (x : TEvEvent) : Prop where
 Kind : (inK .i64) x.Kind
 Site : (inK .i64) x.Site
 Steps : (inK .i64) x.Steps
 Label : (inK .i64) x.Label
 Channel : (fun _ => True) x.Channel
 Value : W_TA x.Value
 E : (inK .i64) x.E
structure W_TP (x : TP) : Prop where
 Lattice : W_TL x.Lattice
 Channels : (allW W_TR) x.Channels
 Vars : (allW W_TV) x.Vars
 Rules : (allW W_TU) x.Rules
structure W_Tinvigilatorlaw28_Types (x : Tinvigilatorlaw28_Types) : Prop where
 V : W_TY x.V
 Y : W_TY x.Y
 From : (inK .i64) x.From
 Goal : (inK .i64) x.Goal
 PC : (inK .i64) x.PC
 EC : (inK .i64) x.EC
 Lower : (inK .i64) x.Lower
 Top : (inK .i64) x.Top
structure W_TC (x : TC) : Prop where
 Events : (allW W_TEvEvent) x.Events
 Log : (allW W_TE) x.Log
 Vars : (allW W_TW) x.Vars
 Steps : (inK .i64) x.Steps
end Go.Sx.O
namespace Go.Sx.O
noncomputable def Fz0 (a0 : List (List UInt8)) : Option (Bool) :=
 Option.bind (
 lpO (fun (s3 : Int) =>
 cond (decide (s3 < (↑(List.length (List.map SV.str a0)) : Int)))
 (cond (decide (s3 < 20))
 (idxO a0 s3 fun x9 =>
 cond (decide (100 < (↑(List.length x9) : Int)))
 (some (.inr (.inr (true))))
 (letO (IntKind.wrap .i64 (s3 + 1)) fun x11 =>
 some (.inl x11)))
 (some (.inr (.inl ()))))
 (some (.inr (.inl ())))) (0))
 (Sum.elim (fun (s1 : Unit) =>
 some (decide (12 < (↑(List.length (List.map SV.str a0)) : Int)))) some)
noncomputable def Fz1 (a0 : TL) : Option (Bool) :=
 (Fz0 (a0.Names)).bind fun x12 =>
 cond x12
 (some (true))
 (some (decide (12 < (↑(List.length (List.map (SV.int .u8) a0.Up)) : Int))))
noncomputable def Fz2 (a0 : Int) : Option (Bool) :=
 cond (decide (97 ≤ a0))
 (some (decide (a0 ≤ 122)))
 (some (false))
noncomputable def Fz3 (a0 : Int) : Option (Bool) :=
 cond (decide (48 ≤ a0))
 (some (decide (a0 ≤ 57)))
 (some (false))
noncomputable def Fz4 (a0 : List UInt8) : Option (Bool) :=
 cond (decide ((↑(List.length a0) : Int) < 1))
 (some (false))
 (cond (decide (16 < (↑(List.length a0) : Int)))
 (some (false))
 (idxO a0 (0) fun x24 =>
 (Fz2 ((↑(UInt8.toNat x24) : Int))).bind fun x26 =>
 cond (!x26)
 (some (false))
 (Option.bind (
 lpO (fun (s30 : Int) =>
 cond (decide (s30 < (↑(List.length a0) : Int)))
 (idxO a0 s30 fun x41 =>
 (Fz2 ((↑(UInt8.toNat x41) : Int))).bind fun x42 =>
 cond (!x42)
 (idxO a0 s30 fun x44 =>
 (Fz3 ((↑(UInt8.toNat x44) : Int))).bind fun x45 =>
 cond (!x45)
 (idxO a0 s30 fun x47 =>
 cond (!decide ((↑(UInt8.toNat x47) : Int) = 45))
 (some (.inr (.inr (false))))
 (letO (IntKind.wrap .i64 (s30 + 1)) fun x49 =>
 some (.inl x49)))
 (letO (IntKind.wrap .i64 (s30 + 1)) fun x50 =>
 some (.inl x50)))
 (letO (IntKind.wrap .i64 (s30 + 1)) fun x51 =>
 some (.inl x51)))
 (some (.inr (.inl ())))) (0))
 (Sum.elim (fun (s28 : Unit) =>
 some (true)) some))))
noncomputable def Fz5 (a0 : List (List UInt8)) : Option (Int × Int) :=
 cond (decide ((↑(List.length (List.map SV.str a0)) : Int) < 1))
 (some (((-1 : Int), 3)))
 (cond (decide (8 < (↑(List.length (List.map SV.str a0)) : Int)))
 (some (((-1 : Int), 3)))
 (Option.bind (
 lpO (fun (s20 : Int) =>
 cond (decide (s20 < (↑(List.length (List.map SV.str a0)) : Int)))
 (idxO a0 s20 fun x29 =>
 (Fz4 x29).bind fun x30 =>
 cond (!x30)
 (some (.inr (.inr ((s20, 6)))))
 (Option.bind (
 lpO (fun (s34 : Int) =>
 cond (decide (s34 < s20))
 (idxO a0 s34 fun x40 =>
 idxO a0 s20 fun x41 =>
 cond (decide (x40 = x41))
 (some (.inr (.inr (.inr (.inr ((s20, 8)))))))
 (letO (IntKind.wrap .i64 (s34 + 1)) fun x43 =>
 some (.inl x43)))
 (some (.inr (.inl ())))) (0))
 (Sum.elim (fun (s32 : Unit) =>
 letO (IntKind.wrap .i64 (s20 + 1)) fun x44 =>
 some (.inl x44)) some)))
 (some (.inr (.inl ())))) (0))
 (Sum.elim (fun (s18 : Unit) =>
 some ((0, 0))) some)))
noncomputable def Fz6 (a0 : TL) (a1 : Int) (a2 : Int) : Option (Bool) :=
 cond (decide (0 ≤ a1))
 (cond (decide (a1 < (↑(List.length (List.map (SV.int .u8) a0.Up)) : Int)))
 (cond (decide (0 ≤ a2))
 (idxO (a0.Up) a1 fun x57 =>
 sideO (0 ≤ a2) (
 some (decide (Int.tmod (Int.fdiv x57 (2 ^ min (Int.toNat a2) (IntKind.bits IntKind.u8))) 2 = 1))))
 (some (false)))
 (some (false)))
 (some (false))
noncomputable def Fz7 (a0 : TL) (a1 : Int) : Option (Bool) :=
 idxO (a0.Up) a1 fun x51 =>
 letO (IntKind.wrap .i64 x51) fun x52 =>
 sideO ((0 : Int) ≤ (↑(List.length (List.map SV.str a0.Names)) : Int)) (
 cond (decide (0 < Int.fdiv x52 (2 ^ min (Int.toNat (↑(List.length (List.map SV.str a0.Names)) : Int)) (IntKind.bits IntKind.i64))))
 (some (false))
 ((Fz6 a0 a1 a1).bind fun x58 =>
 cond (!x58)
 (some (false))
 (Option.bind (
 lpO (fun (s62 : Int) =>
 cond (decide (s62 < (↑(List.length (List.map SV.str a0.Names)) : Int)))
 ((Fz6 a0 a1 s62).bind fun x76 =>
 cond (!x76)
 (letO (IntKind.wrap .i64 (s62 + 1)) fun x78 =>
 some (.inl x78))
 (idxO (a0.Up) s62 fun x79 =>
 letO (IntKind.wrap .i64 x79) fun x80 =>
 sideO ((0 : Int) ≤ (↑(List.length (List.map SV.str a0.Names)) : Int)) (
 letO (IntKind.wrap .i64 (1 * 2 ^ min (Int.toNat (↑(List.length (List.map SV.str a0.Names)) : Int)) (IntKind.bits IntKind.i64))) fun x81 =>
 letO (IntKind.wrap .i64 (x81 - 1)) fun x82 =>
 cond (!decide (s62 = a1))
 ((Fz6 a0 s62 a1).bind fun x84 =>
 cond x84
 (some (.inr (.inr (false))))
 (cond (!decide (bits BinOp.and IntKind.i64 (bits BinOp.and IntKind.i64 x80 x82) x52 = bits BinOp.and IntKind.i64 x80 x82))
 (some (.inr (.inr (false))))
 (letO (IntKind.wrap .i64 (s62 + 1)) fun x87 =>
 some (.inl x87))))
 (cond (!decide (bits BinOp.and IntKind.i64 (bits BinOp.and IntKind.i64 x80 x82) x52 = bits BinOp.and IntKind.i64 x80 x82))
 (some (.inr (.inr (false))))
 (letO (IntKind.wrap .i64 (s62 + 1)) fun x89 =>
 some (.inl x89))))))
 (some (.inr (.inl ())))) (0))
 (Sum.elim (fun (s60 : Unit) =>
 some (true)) some))))
noncomputable def Fz8 (a0 : TL) : Option (List Int) :=
 sideO ((0 : Int) ≤ (↑(List.length (List.map SV.str a0.Names)) : Int) ∧ (↑(List.length (List.map SV.str a0.Names)) : Int) = (↑(List.length (List.map SV.str a0.Names)) : Int) ∧ (↑(List.length (List.map SV.str a0.Names)) : Int) ≤ (70368744177664 : Int) ∧ (↑(List.length (List.map SV.str a0.Names)) : Int) * (↑(1 : Nat) : Int) ≤ (70368744177664 : Int)) (
 Option.bind (
 lpO (fun (s60 : Int × List Int) =>
 cond (decide (s60.fst < (↑(List.length (List.map SV.str a0.Names)) : Int)))
 (Option.bind (
 lpO (fun (s79 : Int × List Int) =>
 cond (decide (s79.fst < (↑(List.length (List.map SV.str a0.Names)) : Int)))
 ((Fz6 a0 (s60.fst) (s79.fst)).bind fun x87 =>
 cond x87
 (sideO (0 ≤ s79.fst ∧ s79.fst < (↑(List.length (List.map (SV.int .u8) s79.snd)) : Int)) (
 idxO (s79.snd) ((↑(Int.toNat s79.fst) : Int)) fun x89 =>
 sideO (0 ≤ s60.fst) (
 letO (IntKind.wrap .u8 (1 * 2 ^ min (Int.toNat s60.fst) (IntKind.bits IntKind.u8))) fun x90 =>
 sideO (0 ≤ s79.fst ∧ s79.fst < (↑(List.length (List.map (SV.int .u8) s79.snd)) : Int)) (
 idxO (s79.snd) ((↑(Int.toNat s79.fst) : Int)) fun x91 =>
 letO (IntKind.wrap .i64 (s79.fst + 1)) fun x92 =>
 some (.inl ((x92, List.set s79.snd (Int.toNat s79.fst) (bits BinOp.or IntKind.u8 x89 x90))))))))
 (letO (IntKind.wrap .i64 (s79.fst + 1)) fun x93 =>
 some (.inl ((x93, s79.snd)))))
 (some (.inr (.inl (s79.snd))))) ((0, s60.snd)))
 (Sum.elim (fun (s77 : List Int) =>
 letO (IntKind.wrap .i64 (s60.fst + 1)) fun x94 =>
 some (.inl ((x94, s77)))) some))
 (some (.inr (.inl (s60.snd))))) ((0, List.replicate (Int.toNat (↑(List.length (List.map SV.str a0.Names)) : Int)) 0)))
 (Sum.elim (fun (s58 : List Int) =>
 some s58) some))
noncomputable def Fz9 (a0 : List Int) (a1 : Int) (a2 : Int) : Option (Int) :=
 idxO a0 a1 fun x101 =>
 idxO a0 a2 fun x102 =>
 Option.bind (
 lpO (fun (s105 : Int) =>
 cond (decide (s105 < (↑(List.length (List.map (SV.int .u8) a0)) : Int)))
 (idxO a0 s105 fun x110 =>
 cond (decide (x110 = bits BinOp.and IntKind.u8 x101 x102))
 (some (.inr (.inr s105)))
 (letO (IntKind.wrap .i64 (s105 + 1)) fun x112 =>
 some (.inl x112)))
 (some (.inr (.inl ())))) (0))
 (Sum.elim (fun (s103 : Unit) =>
 some ((-1 : Int))) some)
noncomputable def Fz10 (a0 : TL) : Option (Int × Int) :=
 (Fz5 (a0.Names)).bind fun x45 =>
 cond (!decide (x45.snd = 0))
 (some x45)
 (cond (!decide ((↑(List.length (List.map (SV.int .u8) a0.Up)) : Int) = (↑(List.length (List.map SV.str a0.Names)) : Int)))
 (some (((-1 : Int), 6)))
 (Option.bind (
 lpO (fun (s50 : Int) =>
 cond (decide (s50 < (↑(List.length (List.map SV.str a0.Names)) : Int)))
 ((Fz7 a0 s50).bind fun x55 =>
 cond (!x55)
 (some (.inr (.inr ((s50, 6)))))
 (letO (IntKind.wrap .i64 (s50 + 1)) fun x57 =>
 some (.inl x57)))
 (some (.inr (.inl ())))) (0))
 (Sum.elim (fun (s48 : Unit) =>
 (Fz8 a0).bind fun x95 =>
 Option.bind (
 lpO (fun (s98 : Int) =>
 cond (decide (s98 < (↑(List.length (List.map SV.str a0.Names)) : Int)))
 (Option.bind (
 lpO (fun (s116 : Int) =>
 cond (decide (s116 < (↑(List.length (List.map SV.str a0.Names)) : Int)))
 ((Fz9 (a0.Up) s98 s116).bind fun x123 =>
 cond (decide (x123 < 0))
 (some (.inr (.inr (.inr (.inr ((s98, 4)))))))
 ((Fz9 x95 s98 s116).bind fun x125 =>
 cond (decide (x125 < 0))
 (some (.inr (.inr (.inr (.inr ((s98, 4)))))))
 (letO (IntKind.wrap .i64 (s116 + 1)) fun x127 =>
 some (.inl x127))))
 (some (.inr (.inl ())))) (0))
 (Sum.elim (fun (s114 : Unit) =>
 letO (IntKind.wrap .i64 (s98 + 1)) fun x128 =>
 some (.inl x128)) some))
 (some (.inr (.inl ())))) (0))
 (Sum.elim (fun (s96 : Unit) =>
 some ((0, 0))) some)) some)))
noncomputable def Fz11 (a0 : TL) (a1 : Int) (a2 : Int) : Option (Int) :=
 (Fz10 a0).bind fun x129 =>
 cond (decide (x129.snd = 0))
 (cond (decide (a1 < 0))
 (some (7))
 (cond (decide ((↑(List.length (List.map SV.str a0.Names)) : Int) ≤ a1))
 (some (7))
 (cond (decide (a2 < 0))
 (some (7))
 (cond (decide ((↑(List.length (List.map SV.str a0.Names)) : Int) ≤ a2))
 (some (7))
 (some (x129.snd))))))
 (some (x129.snd))
noncomputable def Fz12 (a0 : TL) : Option (Int × Int) :=
 (Fz11 a0 (0) (0)).bind fun x135 =>
 cond (!decide (x135 = 0))
 (some ((0, x135)))
 ((Fz8 a0).bind fun x137 =>
 Option.bind (
 lpO (fun (s140 : Int × Int) =>
 cond (decide (s140.fst < (↑(List.length (List.map SV.str a0.Names)) : Int)))
 ((Fz9 x137 (s140.fst) (s140.snd)).bind fun x144 =>
 letO (IntKind.wrap .i64 (s140.fst + 1)) fun x145 =>
 some (.inl ((x145, x144))))
 (some (.inr (.inl (s140.snd))))) ((0, 0)))
 (Sum.elim (fun (s138 : Int) =>
 some ((s138, 0))) some))
noncomputable def Fz13 (a0 : List UInt8) (a1 : Int) : Option (List UInt8) :=
 Option.bind (
 lpO (fun (s168 : List UInt8) =>
 cond (decide (0 < (↑(List.length s168) : Int)))
 (letO (IntKind.wrap .i64 ((↑(List.length s168) : Int) - 1)) fun x175 =>
 idxO s168 x175 fun x176 =>
 cond (decide ((↑(UInt8.toNat x176) : Int) = a1))
 (letO (IntKind.wrap .i64 ((↑(List.length s168) : Int) - 1)) fun x178 =>
 sideO (0 ≤ x178 ∧ x178 ≤ (↑(List.length s168) : Int)) (
 some (.inl (List.drop (Int.toNat 0) (List.take (Int.toNat x178) s168)))))
 (some (.inr (.inl s168))))
 (some (.inr (.inl s168)))) a0)
 (Sum.elim (fun (s166 : List UInt8) =>
 some s166) some)
noncomputable def Fz14 (a0 : List UInt8) (a1 : Int) : Option (List UInt8) :=
 Option.bind (
 lpO (fun (s183 : List UInt8) =>
 cond (decide (0 < (↑(List.length s183) : Int)))
 (idxO s183 (0) fun x188 =>
 cond (decide ((↑(UInt8.toNat x188) : Int) = a1))
 (sideO ((0 : Int) ≤ (1 : Int) ∧ (1 : Int) ≤ (↑(List.length s183) : Int)) (
 some (.inl (List.drop (Int.toNat 1) (List.take (Int.toNat (↑(List.length s183) : Int)) s183)))))
 (some (.inr (.inl s183))))
 (some (.inr (.inl s183)))) a0)
 (Sum.elim (fun (s181 : List UInt8) =>
 some s181) some)
noncomputable def Fz15 (a0 : List UInt8) : Option (List Bool × Bool) :=
 Option.bind (
 lpO (fun (s193 : Int × List Bool) =>
 cond (decide (s193.fst < (↑(List.length a0) : Int)))
 (idxO a0 (s193.fst) fun x199 =>
 cond (decide (128 ≤ (↑(UInt8.toNat x199) : Int)))
 (some (.inr (.inr ((s193.snd, false)))))
 (sideO ((0 : Int) ≤ (↑(UInt8.toNat x199) : Int) ∧ (↑(UInt8.toNat x199) : Int) < (↑(256 : Nat) : Int)) (
 idxO (s193.snd) ((↑(Int.toNat (↑(UInt8.toNat x199) : Int)) : Int)) fun x201 =>
 letO (IntKind.wrap .i64 (s193.fst + 1)) fun x202 =>
 some (.inl ((x202, List.set s193.snd (Int.toNat (↑(UInt8.toNat x199) : Int)) true))))))
 (some (.inr (.inl (s193.snd))))) ((0, List.replicate 256 false)))
 (Sum.elim (fun (s191 : List Bool) =>
 some ((s191, true))) some)
noncomputable def Fz16 (a0 : List Bool) (a1 : Int) : Option (Bool) :=
 sideO (0 ≤ a1 ∧ a1 < (↑(256 : Nat) : Int)) (
 idxO a0 ((↑(Int.toNat a1) : Int)) fun x210 =>
 some x210)
noncomputable def Fz17 (a0 : List UInt8) (a1 : List Bool) : Option (List UInt8) :=
 Option.bind (
 lpO (fun (s207 : List UInt8) =>
 cond (decide (0 < (↑(List.length s207) : Int)))
 (letO (IntKind.wrap .i64 ((↑(List.length s207) : Int) - 1)) fun x215 =>
 idxO s207 x215 fun x216 =>
 (Fz16 a1 ((↑(UInt8.toNat x216) : Int))).bind fun x217 =>
 cond (!x217)
 (some (.inr (.inl s207)))
 (letO (IntKind.wrap .i64 ((↑(List.length s207) : Int) - 1)) fun x219 =>
 sideO (0 ≤ x219 ∧ x219 ≤ (↑(List.length s207) : Int)) (
 some (.inl (List.drop (Int.toNat 0) (List.take (Int.toNat x219) s207))))))
 (some (.inr (.inl s207)))) a0)
 (Sum.elim (fun (s205 : List UInt8) =>
 some s205) some)
noncomputable def Fz18 (a0 : List UInt8) (a1 : List Bool) : Option (List UInt8) :=
 Option.bind (
 lpO (fun (s223 : List UInt8) =>
 cond (decide (0 < (↑(List.length s223) : Int)))
 (idxO s223 (0) fun x229 =>
 (Fz16 a1 ((↑(UInt8.toNat x229) : Int))).bind fun x230 =>
 cond (!x230)
 (some (.inr (.inl s223)))
 (sideO ((0 : Int) ≤ (1 : Int) ∧ (1 : Int) ≤ (↑(List.length s223) : Int)) (
 some (.inl (List.drop (Int.toNat 1) (List.take (Int.toNat (↑(List.length s223) : Int)) s223))))))
 (some (.inr (.inl s223)))) a0)
 (Sum.elim (fun (s221 : List UInt8) =>
 some s221) some)
noncomputable def Fz19 (a0 : Int) : Option (Bool) :=
 some (!decide (bits BinOp.and IntKind.u8 a0 192 = 128))
noncomputable def Fz20 (a0 : List UInt8) : Option (Int × Int) :=
 cond (decide ((↑(List.length a0) : Int) < 1))
 (some ((65533, 0)))
 (idxO a0 (0) fun x267 =>
 none)
noncomputable def Fz21 (a0 : List UInt8) : Option (Int × Int) :=
 cond (!decide (a0 = (ByteArray.mk #[]).data.toList))
 (idxO a0 (0) fun x262 =>
 cond (decide ((↑(UInt8.toNat x262) : Int) < 128))
 (idxO a0 (0) fun x264 =>
 letO (IntKind.wrap .i32 (↑(UInt8.toNat x264) : Int)) fun x265 =>
 some ((x265, 1)))
 ((Fz20 a0).bind fun x268 =>
 some x268))
 ((Fz20 a0).bind fun x269 =>
 some x269)
noncomputable def Fz22 (a0 : List UInt8) : Option (Int × Int) :=
 cond (decide ((↑(List.length a0) : Int) = 0))
 (some ((65533, 0)))
 (letO (IntKind.wrap .i64 ((↑(List.length a0) : Int) - 1)) fun x241 =>
 idxO a0 x241 fun x242 =>
 letO (IntKind.wrap .i32 (↑(UInt8.toNat x242) : Int)) fun x243 =>
 cond (decide (x243 < 128))
 (some ((x243, 1)))
 (letO (IntKind.wrap .i64 ((↑(List.length a0) : Int) - 4)) fun x245 =>
 letO (IntKind.wrap .i64 (x241 - 1)) fun x246 =>
 Option.bind (
 lpO (fun (s249 : Int) =>
 cond (decide (max x245 0 ≤ s249))
 (idxO a0 s249 fun x256 =>
 (Fz19 ((↑(UInt8.toNat x256) : Int))).bind fun x257 =>
 cond x257
 (some (.inr (.inl s249)))
 (letO (IntKind.wrap .i64 (s249 - 1)) fun x259 =>
 some (.inl x259)))
 (some (.inr (.inl s249)))) x246)
 (Sum.elim (fun (s247 : Int) =>
 cond (decide (s247 < 0))
 (sideO ((0 : Int) ≤ (0 : Int) ∧ (0 : Int) ≤ (↑(List.length a0) : Int) ∧ (↑(List.length a0) : Int) ≤ (↑(List.length a0) : Int)) (
 (Fz21 (List.drop (Int.toNat 0) (List.take (Int.toNat (↑(List.length a0) : Int)) a0))).bind fun x270 =>
 letO (IntKind.wrap .i64 (0 + x270.snd)) fun x271 =>
 cond (!decide (x271 = (↑(List.length a0) : Int)))
 (some ((65533, 1)))
 (some x270)))
 (sideO (0 ≤ s247 ∧ s247 ≤ (↑(List.length a0) : Int) ∧ (↑(List.length a0) : Int) ≤ (↑(List.length a0) : Int)) (
 (Fz21 (List.drop (Int.toNat s247) (List.take (Int.toNat (↑(List.length a0) : Int)) a0))).bind fun x273 =>
 letO (IntKind.wrap .i64 (s247 + x273.snd)) fun x274 =>
 cond (!decide (x274 = (↑(List.length a0) : Int)))
 (some ((65533, 1)))
 (some x273)))) some)))
noncomputable def Fz23 (a0 : List UInt8) (a1 : Int) : Option (Int) :=
 (F_internal_stringslite_IndexByte a0 a1).bind fun x280 =>
 some x280
noncomputable def Fz24 (a0 : Int) : Option (Bool) :=
 cond (decide (0 ≤ a0))
 (cond (decide (a0 < 55296))
 (some (true))
 (cond (decide (57343 < a0))
 (cond (decide (a0 ≤ 1114111))
 (some (true))
 (some (false)))
 (some (false))))
 (cond (decide (57343 < a0))
 (cond (decide (a0 ≤ 1114111))
 (some (true))
 (some (false)))
 (some (false)))
noncomputable def Fz25 (a0 : List UInt8) (a1 : Int) : Option (Int) :=
 cond (decide (0 ≤ a1))
 (cond (decide (a1 < 128))
 (letO (IntKind.wrap .u8 a1) fun x279 =>
 (Fz23 a0 x279).bind fun x281 =>
 some x281)
 (cond (decide (a1 = 65533))
 (none)
 ((Fz24 a1).bind fun x289 =>
 cond (!x289)
 (some ((-1 : Int)))
 (letO (IntKind.wrap .i64 ((↑(List.length (Utf8.encode a1).data.toList) : Int) - 1)) fun x291 =>
 Option.bind (
 lpO (fun (s294 : Unit) =>
 cond (decide (x291 < (↑(List.length a0) : Int)))
 (idxO a0 x291 fun x296 =>
 idxO ((Utf8.encode a1).data.toList) x291 fun x297 =>
 cond (!decide ((↑(UInt8.toNat x296) : Int) = (↑(UInt8.toNat x297) : Int)))
 (letO (IntKind.wrap .i64 (x291 + 1)) fun x299 =>
 sideO (0 ≤ x299 ∧ x299 ≤ (↑(List.length a0) : Int)) (
 idxO ((Utf8.encode a1).data.toList) x291 fun x300 =>
 (Fz23 (List.drop (Int.toNat x299) (List.take (Int.toNat (↑(List.length a0) : Int)) a0)) ((↑(UInt8.toNat x300) : Int))).bind fun x301 =>
 cond (decide (x301 < 0))
 (some (.inr (.inr ((-1 : Int)))))
 (letO (IntKind.wrap .i64 (x301 + 1)) fun x303 =>
 letO (IntKind.wrap .i64 (x291 + x303)) fun x304 =>
 Option.bind (
 lpO (fun (s307 : Int) =>
 cond (decide (s307 < (↑(List.length (Utf8.encode a1).data.toList) : Int)))
 (letO (IntKind.wrap .i64 (x304 - s307)) fun x315 =>
 idxO a0 x315 fun x316 =>
 letO (IntKind.wrap .i64 (x291 - s307)) fun x317 =>
 idxO ((Utf8.encode a1).data.toList) x317 fun x318 =>
 cond (!decide ((↑(UInt8.toNat x316) : Int) = (↑(UInt8.toNat x318) : Int)))
 (none)
 (letO (IntKind.wrap .i64 (s307 + 1)) fun x320 =>
 some (.inl x320)))
 (some (.inr (.inl ())))) (1))
 (Sum.elim (fun (s305 : Unit) =>
 letO (IntKind.wrap .i64 (x304 - x291)) fun x321 =>
 some (.inr (.inr x321))) some))))
 (Option.bind (
 lpO (fun (s324 : Int) =>
 cond (decide (s324 < (↑(List.length (Utf8.encode a1).data.toList) : Int)))
 (letO (IntKind.wrap .i64 (x291 - s324)) fun x332 =>
 idxO a0 x332 fun x333 =>
 letO (IntKind.wrap .i64 (x291 - s324)) fun x334 =>
 idxO ((Utf8.encode a1).data.toList) x334 fun x335 =>
 cond (!decide ((↑(UInt8.toNat x333) : Int) = (↑(UInt8.toNat x335) : Int)))
 (none)
 (letO (IntKind.wrap .i64 (s324 + 1)) fun x337 =>
 some (.inl x337)))
 (some (.inr (.inl ())))) (1))
 (Sum.elim (fun (s322 : Unit) =>
 letO (IntKind.wrap .i64 (x291 - x291)) fun x338 =>
 some (.inr (.inr x338))) some)))
 (some (.inr (.inl ())))) (()))
 (Sum.elim (fun (s292 : Unit) =>
 some ((-1 : Int))) some)))))
 (cond (decide (a1 = 65533))
 (none)
 ((Fz24 a1).bind fun x340 =>
 cond (!x340)
 (some ((-1 : Int)))
 (letO (IntKind.wrap .i64 ((↑(List.length (Utf8.encode a1).data.toList) : Int) - 1)) fun x342 =>
 Option.bind (
 lpO (fun (s345 : Unit) =>
 cond (decide (x342 < (↑(List.length a0) : Int)))
 (idxO a0 x342 fun x347 =>
 idxO ((Utf8.encode a1).data.toList) x342 fun x348 =>
 cond (!decide ((↑(UInt8.toNat x347) : Int) = (↑(UInt8.toNat x348) : Int)))
 (letO (IntKind.wrap .i64 (x342 + 1)) fun x350 =>
 sideO (0 ≤ x350 ∧ x350 ≤ (↑(List.length a0) : Int)) (
 idxO ((Utf8.encode a1).data.toList) x342 fun x351 =>
 (Fz23 (List.drop (Int.toNat x350) (List.take (Int.toNat (↑(List.length a0) : Int)) a0)) ((↑(UInt8.toNat x351) : Int))).bind fun x352 =>
 cond (decide (x352 < 0))
 (some (.inr (.inr ((-1 : Int)))))
 (letO (IntKind.wrap .i64 (x352 + 1)) fun x354 =>
 letO (IntKind.wrap .i64 (x342 + x354)) fun x355 =>
 Option.bind (
 lpO (fun (s358 : Int) =>
 cond (decide (s358 < (↑(List.length (Utf8.encode a1).data.toList) : Int)))
 (letO (IntKind.wrap .i64 (x355 - s358)) fun x366 =>
 idxO a0 x366 fun x367 =>
 letO (IntKind.wrap .i64 (x342 - s358)) fun x368 =>
 idxO ((Utf8.encode a1).data.toList) x368 fun x369 =>
 cond (!decide ((↑(UInt8.toNat x367) : Int) = (↑(UInt8.toNat x369) : Int)))
 (none)
 (letO (IntKind.wrap .i64 (s358 + 1)) fun x371 =>
 some (.inl x371)))
 (some (.inr (.inl ())))) (1))
 (Sum.elim (fun (s356 : Unit) =>
 letO (IntKind.wrap .i64 (x355 - x342)) fun x372 =>
 some (.inr (.inr x372))) some))))
 (Option.bind (
 lpO (fun (s375 : Int) =>
 cond (decide (s375 < (↑(List.length (Utf8.encode a1).data.toList) : Int)))
 (letO (IntKind.wrap .i64 (x342 - s375)) fun x383 =>
 idxO a0 x383 fun x384 =>
 letO (IntKind.wrap .i64 (x342 - s375)) fun x385 =>
 idxO ((Utf8.encode a1).data.toList) x385 fun x386 =>
 cond (!decide ((↑(UInt8.toNat x384) : Int) = (↑(UInt8.toNat x386) : Int)))
 (none)
 (letO (IntKind.wrap .i64 (s375 + 1)) fun x388 =>
 some (.inl x388)))
 (some (.inr (.inl ())))) (1))
 (Sum.elim (fun (s373 : Unit) =>
 letO (IntKind.wrap .i64 (x342 - x342)) fun x389 =>
 some (.inr (.inr x389))) some)))
 (some (.inr (.inl ())))) (()))
 (Sum.elim (fun (s343 : Unit) =>
 some ((-1 : Int))) some))))
noncomputable def Fz26 (a0 : List UInt8) (a1 : Int) : Option (Bool) :=
 (Fz25 a0 a1).bind fun x390 =>
 some (decide (0 ≤ x390))
noncomputable def Fz27 (a0 : List UInt8) (a1 : List UInt8) : Option (List UInt8) :=
 Option.bind (
 lpO (fun (s235 : List UInt8) =>
 cond (decide (0 < (↑(List.length s235) : Int)))
 (letO (IntKind.wrap .i64 ((↑(List.length s235) : Int) - 1)) fun x249 =>
 idxO s235 x249 fun x250 =>
 letO (IntKind.wrap .i32 (↑(UInt8.toNat x250) : Int)) fun x251 =>
 cond (decide (128 ≤ x251))
 ((Fz22 s235).bind fun x253 =>
 (Fz26 a1 (x253.fst)).bind fun x254 =>
 cond (!x254)
 (some (.inr (.inl s235)))
 (letO (IntKind.wrap .i64 ((↑(List.length s235) : Int) - x253.snd)) fun x256 =>
 sideO (0 ≤ x256 ∧ x256 ≤ (↑(List.length s235) : Int)) (
 some (.inl (List.drop (Int.toNat 0) (List.take (Int.toNat x256) s235))))))
 ((Fz26 a1 x251).bind fun x257 =>
 cond (!x257)
 (some (.inr (.inl s235)))
 (letO (IntKind.wrap .i64 ((↑(List.length s235) : Int) - 1)) fun x259 =>
 sideO (0 ≤ x259 ∧ x259 ≤ (↑(List.length s235) : Int)) (
 some (.inl (List.drop (Int.toNat 0) (List.take (Int.toNat x259) s235)))))))
 (some (.inr (.inl s235)))) a0)
 (Sum.elim (fun (s233 : List UInt8) =>
 some s233) some)
noncomputable def Fz28 (a0 : List UInt8) (a1 : List UInt8) : Option (List UInt8) :=
 Option.bind (
 lpO (fun (s263 : List UInt8) =>
 cond (decide (0 < (↑(List.length s263) : Int)))
 ((Fz21 s263).bind fun x269 =>
 (Fz26 a1 (x269.fst)).bind fun x270 =>
 cond (!x270)
 (some (.inr (.inl s263)))
 (sideO (0 ≤ x269.snd ∧ x269.snd ≤ (↑(List.length s263) : Int)) (
 some (.inl (List.drop (Int.toNat x269.snd) (List.take (Int.toNat (↑(List.length s263) : Int)) s263))))))
 (some (.inr (.inl s263)))) a0)
 (Sum.elim (fun (s261 : List UInt8) =>
 some s261) some)
noncomputable def Fz29 (a0 : List UInt8) (a1 : List UInt8) : Option (List UInt8) :=
 cond (decide (a0 = (ByteArray.mk #[]).data.toList))
 (some a0)
 (cond (decide (a1 = (ByteArray.mk #[]).data.toList))
 (some a0)
 (cond (decide ((↑(List.length a1) : Int) = 1))
 (idxO a1 (0) fun x163 =>
 cond (decide ((↑(UInt8.toNat x163) : Int) < 128))
 (idxO a1 (0) fun x165 =>
 (Fz13 a0 ((↑(UInt8.toNat x165) : Int))).bind fun x179 =>
 idxO a1 (0) fun x180 =>
 (Fz14 x179 ((↑(UInt8.toNat x180) : Int))).bind fun x190 =>
 some x190)
 ((Fz15 a1).bind fun x203 =>
 cond (x203.snd)
 ((Fz17 a0 (x203.fst)).bind fun x220 =>
 (Fz18 x220 (x203.fst)).bind fun x232 =>
 some x232)
 ((Fz27 a0 a1).bind fun x260 =>
 (Fz28 x260 a1).bind fun x272 =>
 some x272)))
 ((Fz15 a1).bind fun x273 =>
 cond (x273.snd)
 ((Fz17 a0 (x273.fst)).bind fun x275 =>
 (Fz18 x275 (x273.fst)).bind fun x276 =>
 some x276)
 ((Fz27 a0 a1).bind fun x277 =>
 (Fz28 x277 a1).bind fun x278 =>
 some x278))))
noncomputable def Fz30 (a0 : List UInt8) : Option (Bool) :=
 cond (decide (a0 = (ByteArray.mk #[]).data.toList))
 (some (false))
 (cond (decide (16 < (↑(List.length a0) : Int)))
 (some (false))
 (idxO a0 (0) fun x156 =>
 cond (decide ((↑(UInt8.toNat x156) : Int) < 97))
 (some (false))
 (idxO a0 (0) fun x158 =>
 cond (decide (122 < (↑(UInt8.toNat x158) : Int)))
 (some (false))
 ((Fz29 a0 ((ByteArray.mk #[97, 98, 99, 100, 101, 102, 103, 104, 105, 106, 107, 108, 109, 110, 111, 112, 113, 114, 115, 116, 117, 118, 119, 120, 121, 122, 48, 49, 50, 51, 52, 53, 54, 55, 56, 57, 45]).data.toList)).bind fun x279 =>
 some (decide (x279 = (ByteArray.mk #[]).data.toList))))))
noncomputable def Fz31 (a0 : List (List UInt8)) (a1 : List UInt8) : Option (Int) :=
 Option.bind (
 lpO (fun (s284 : Int) =>
 cond (decide (s284 < (↑(List.length (List.map SV.str a0)) : Int)))
 (idxO a0 s284 fun x289 =>
 cond (decide (a1 = x289))
 (some (.inr (.inr s284)))
 (letO (IntKind.wrap .i64 (s284 + 1)) fun x291 =>
 some (.inl x291)))
 (some (.inr (.inl ())))) (0))
 (Sum.elim (fun (s282 : Unit) =>
 some ((-1 : Int))) some)
noncomputable def Fz32 (a0 : List (List UInt8)) (a1 : List UInt8) : Option (Bool) :=
 (Fz31 a0 a1).bind fun x292 =>
 some (decide (0 ≤ x292))
noncomputable def Fz33 (a0 : List (List UInt8)) : Option (Int × Int) :=
 cond (decide ((↑(List.length (List.map SV.str a0)) : Int) < 1))
 (some (((-1 : Int), 3)))
 (cond (decide (8 < (↑(List.length (List.map SV.str a0)) : Int)))
 (some (((-1 : Int), 3)))
 (Option.bind (
 lpO (fun (s152 : Int) =>
 cond (decide (s152 < (↑(List.length (List.map SV.str a0)) : Int)))
 (idxO a0 s152 fun x160 =>
 (Fz30 x160).bind fun x161 =>
 cond (!x161)
 (some (.inr (.inr ((s152, 6)))))
 (sideO (0 ≤ s152 ∧ s152 ≤ (↑(List.length (List.map SV.str a0)) : Int)) (
 (Fz32 (List.drop (Int.toNat 0) (List.take (Int.toNat s152) a0)) x160).bind fun x163 =>
 cond x163
 (some (.inr (.inr ((s152, 8)))))
 (letO (IntKind.wrap .i64 (s152 + 1)) fun x165 =>
 some (.inl x165)))))
 (some (.inr (.inl ())))) (0))
 (Sum.elim (fun (s150 : Unit) =>
 some ((0, 0))) some)))
noncomputable def Fz34 (a0 : Int) : Option (Int) :=
 idxO ((ByteArray.mk (List.toArray (List.append (List.append [(0 : UInt8), (1 : UInt8), (2 : UInt8), (2 : UInt8), (3 : UInt8), (3 : UInt8), (3 : UInt8), (3 : UInt8), (4 : UInt8), (4 : UInt8), (4 : UInt8), (4 : UInt8), (4 : UInt8), (4 : UInt8), (4 : UInt8), (4 : UInt8), (5 : UInt8), (5 : UInt8), (5 : UInt8), (5 : UInt8), (5 : UInt8), (5 : UInt8), (5 : UInt8), (5 : UInt8), (5 : UInt8), (5 : UInt8), (5 : UInt8), (5 : UInt8), (5 : UInt8), (5 : UInt8), (5 : UInt8), (5 : UInt8), (6 : UInt8), (6 : UInt8), (6 : UInt8), (6 : UInt8), (6 : UInt8), (6 : UInt8), (6 : UInt8), (6 : UInt8), (6 : UInt8), (6 : UInt8), (6 : UInt8), (6 : UInt8), (6 : UInt8), (6 : UInt8), (6 : UInt8), (6 : UInt8), (6 : UInt8), (6 : UInt8), (6 : UInt8), (6 : UInt8), (6 : UInt8), (6 : UInt8), (6 : UInt8), (6 : UInt8), (6 : UInt8), (6 : UInt8), (6 : UInt8), (6 : UInt8), (6 : UInt8), (6 : UInt8), (6 : UInt8), (6 : UInt8)] [(7 : UInt8), (7 : UInt8), (7 : UInt8), (7 : UInt8), (7 : UInt8), (7 : UInt8), (7 : UInt8), (7 : UInt8), (7 : UInt8), (7 : UInt8), (7 : UInt8), (7 : UInt8), (7 : UInt8), (7 : UInt8), (7 : UInt8), (7 : UInt8), (7 : UInt8), (7 : UInt8), (7 : UInt8), (7 : UInt8), (7 : UInt8), (7 : UInt8), (7 : UInt8), (7 : UInt8), (7 : UInt8), (7 : UInt8), (7 : UInt8), (7 : UInt8), (7 : UInt8), (7 : UInt8), (7 : UInt8), (7 : UInt8), (7 : UInt8), (7 : UInt8), (7 : UInt8), (7 : UInt8), (7 : UInt8), (7 : UInt8), (7 : UInt8), (7 : UInt8), (7 : UInt8), (7 : UInt8), (7 : UInt8), (7 : UInt8), (7 : UInt8), (7 : UInt8), (7 : UInt8), (7 : UInt8), (7 : UInt8), (7 : UInt8), (7 : UInt8), (7 : UInt8), (7 : UInt8), (7 : UInt8), (7 : UInt8), (7 : UInt8), (7 : UInt8), (7 : UInt8), (7 : UInt8), (7 : UInt8), (7 : UInt8), (7 : UInt8), (7 : UInt8), (7 : UInt8)]) (List.append [(8 : UInt8), (8 : UInt8), (8 : UInt8), (8 : UInt8), (8 : UInt8), (8 : UInt8), (8 : UInt8), (8 : UInt8), (8 : UInt8), (8 : UInt8), (8 : UInt8), (8 : UInt8), (8 : UInt8), (8 : UInt8), (8 : UInt8), (8 : UInt8), (8 : UInt8), (8 : UInt8), (8 : UInt8), (8 : UInt8), (8 : UInt8), (8 : UInt8), (8 : UInt8), (8 : UInt8), (8 : UInt8), (8 : UInt8), (8 : UInt8), (8 : UInt8), (8 : UInt8), (8 : UInt8), (8 : UInt8), (8 : UInt8), (8 : UInt8), (8 : UInt8), (8 : UInt8), (8 : UInt8), (8 : UInt8), (8 : UInt8), (8 : UInt8), (8 : UInt8), (8 : UInt8), (8 : UInt8), (8 : UInt8), (8 : UInt8), (8 : UInt8), (8 : UInt8), (8 : UInt8), (8 : UInt8), (8 : UInt8), (8 : UInt8), (8 : UInt8), (8 : UInt8), (8 : UInt8), (8 : UInt8), (8 : UInt8), (8 : UInt8), (8 : UInt8), (8 : UInt8), (8 : UInt8), (8 : UInt8), (8 : UInt8), (8 : UInt8), (8 : UInt8), (8 : UInt8)] [(8 : UInt8), (8 : UInt8), (8 : UInt8), (8 : UInt8), (8 : UInt8), (8 : UInt8), (8 : UInt8), (8 : UInt8), (8 : UInt8), (8 : UInt8), (8 : UInt8), (8 : UInt8), (8 : UInt8), (8 : UInt8), (8 : UInt8), (8 : UInt8), (8 : UInt8), (8 : UInt8), (8 : UInt8), (8 : UInt8), (8 : UInt8), (8 : UInt8), (8 : UInt8), (8 : UInt8), (8 : UInt8), (8 : UInt8), (8 : UInt8), (8 : UInt8), (8 : UInt8), (8 : UInt8), (8 : UInt8), (8 : UInt8), (8 : UInt8), (8 : UInt8), (8 : UInt8), (8 : UInt8), (8 : UInt8), (8 : UInt8), (8 : UInt8), (8 : UInt8), (8 : UInt8), (8 : UInt8), (8 : UInt8), (8 : UInt8), (8 : UInt8), (8 : UInt8), (8 : UInt8), (8 : UInt8), (8 : UInt8), (8 : UInt8), (8 : UInt8), (8 : UInt8), (8 : UInt8), (8 : UInt8), (8 : UInt8), (8 : UInt8), (8 : UInt8), (8 : UInt8), (8 : UInt8), (8 : UInt8), (8 : UInt8), (8 : UInt8), (8 : UInt8), (8 : UInt8)])))).data.toList) a0 fun x175 =>
 letO (IntKind.wrap .i64 (↑(UInt8.toNat x175) : Int)) fun x176 =>
 some x176
noncomputable def Fz35 (a0 : TL) : Option (Tlattice_order) :=
 Option.bind (
 lpO (fun (s248 : Int × List Int × List Int) =>
 cond (decide (s248.fst < (↑(List.length (List.map (SV.int .u8) a0.Up)) : Int)))
 (idxO (a0.Up) (s248.fst) fun x262 =>
 sideO (0 ≤ s248.fst ∧ s248.fst < (↑(8 : Nat) : Int)) (
 idxO (s248.snd.fst) ((↑(Int.toNat s248.fst) : Int)) fun x263 =>
 Option.bind (
 lpO (fun (s266 : Int × List Int) =>
 cond (decide (s266.fst < (↑(List.length (List.map SV.str a0.Names)) : Int)))
 (sideO (0 ≤ s266.fst ∧ s266.fst < (↑(8 : Nat) : Int)) (
 idxO (s266.snd) ((↑(Int.toNat s266.fst) : Int)) fun x272 =>
 sideO (0 ≤ s266.fst) (
 sideO (0 ≤ s248.fst) (
 letO (IntKind.wrap .u8 (bits BinOp.and IntKind.u8 (Int.fdiv x262 (2 ^ min (Int.toNat s266.fst) (IntKind.bits IntKind.u8))) 1 * 2 ^ min (Int.toNat s248.fst) (IntKind.bits IntKind.u8))) fun x273 =>
 sideO (0 ≤ s266.fst ∧ s266.fst < (↑(8 : Nat) : Int)) (
 idxO (s266.snd) ((↑(Int.toNat s266.fst) : Int)) fun x274 =>
 letO (IntKind.wrap .i64 (s266.fst + 1)) fun x275 =>
 some (.inl ((x275, List.set s266.snd (Int.toNat s266.fst) (bits BinOp.or IntKind.u8 x272 x273)))))))))
 (some (.inr (.inl (s266.snd))))) ((0, s248.snd.snd)))
 (Sum.elim (fun (s264 : List Int) =>
 letO (IntKind.wrap .i64 (s248.fst + 1)) fun x276 =>
 some (.inl ((x276, List.set s248.snd.fst (Int.toNat s248.fst) x262, s264)))) some)))
 (some (.inr (.inl (s248.snd))))) ((0, [0, 0, 0, 0, 0, 0, 0, 0], [0, 0, 0, 0, 0, 0, 0, 0])))
 (Sum.elim (fun (s246 : List Int × List Int) =>
 some (Tlattice_order.mk (↑(List.length (List.map SV.str a0.Names)) : Int) s246.fst s246.snd)) some)
noncomputable def Fz36 (a0 : List Int) (a1 : Int) (a2 : Int) (a3 : Int) : Option (Int) :=
 sideO (0 ≤ a2 ∧ a2 < (↑(8 : Nat) : Int)) (
 idxO a0 ((↑(Int.toNat a2) : Int)) fun x283 =>
 sideO (0 ≤ a3 ∧ a3 < (↑(8 : Nat) : Int)) (
 idxO a0 ((↑(Int.toNat a3) : Int)) fun x284 =>
 Option.bind (
 lpO (fun (s287 : Int) =>
 cond (decide (s287 < a1))
 (sideO (0 ≤ s287) (
 cond (decide (bits BinOp.and IntKind.u8 (Int.fdiv (bits BinOp.and IntKind.u8 x283 x284) (2 ^ min (Int.toNat s287) (IntKind.bits IntKind.u8))) 1 = 1))
 (sideO (0 ≤ s287 ∧ s287 < (↑(8 : Nat) : Int)) (
 idxO a0 ((↑(Int.toNat s287) : Int)) fun x294 =>
 cond (decide (x294 = bits BinOp.and IntKind.u8 x283 x284))
 (some (.inr (.inr s287)))
 (letO (IntKind.wrap .i64 (s287 + 1)) fun x296 =>
 some (.inl x296))))
 (letO (IntKind.wrap .i64 (s287 + 1)) fun x297 =>
 some (.inl x297))))
 (some (.inr (.inl ())))) (0))
 (Sum.elim (fun (s285 : Unit) =>
 some ((-1 : Int))) some)))
noncomputable def Fz37 (a0 : List Int) (a1 : Int) (a2 : Int) (a3 : Int) : Option (Int) :=
 sideO (0 ≤ a2 ∧ a2 < (↑(8 : Nat) : Int)) (
 idxO a0 ((↑(Int.toNat a2) : Int)) fun x300 =>
 sideO (0 ≤ a3 ∧ a3 < (↑(8 : Nat) : Int)) (
 idxO a0 ((↑(Int.toNat a3) : Int)) fun x301 =>
 Option.bind (
 lpO (fun (s304 : Int) =>
 cond (decide (s304 < a1))
 (sideO (0 ≤ s304) (
 cond (decide (bits BinOp.and IntKind.u8 (Int.fdiv (bits BinOp.and IntKind.u8 x300 x301) (2 ^ min (Int.toNat s304) (IntKind.bits IntKind.u8))) 1 = 1))
 (sideO (0 ≤ s304 ∧ s304 < (↑(8 : Nat) : Int)) (
 idxO a0 ((↑(Int.toNat s304) : Int)) fun x311 =>
 cond (decide (x311 = bits BinOp.and IntKind.u8 x300 x301))
 (some (.inr (.inr s304)))
 (letO (IntKind.wrap .i64 (s304 + 1)) fun x313 =>
 some (.inl x313))))
 (letO (IntKind.wrap .i64 (s304 + 1)) fun x314 =>
 some (.inl x314))))
 (some (.inr (.inl ())))) (0))
 (Sum.elim (fun (s302 : Unit) =>
 some ((-1 : Int))) some)))
noncomputable def Fz38 (a0 : TL) : Option (Int × Int) :=
 (Fz33 (a0.Names)).bind fun x166 =>
 cond (!decide (x166.snd = 0))
 (some x166)
 (cond (!decide ((↑(List.length (List.map (SV.int .u8) a0.Up)) : Int) = (↑(List.length (List.map SV.str a0.Names)) : Int)))
 (some (((-1 : Int), 6)))
 (sideO ((0 : Int) ≤ (↑(List.length (List.map SV.str a0.Names)) : Int)) (
 letO (IntKind.wrap .u8 (1 * 2 ^ min (Int.toNat (↑(List.length (List.map SV.str a0.Names)) : Int)) (IntKind.bits IntKind.u8))) fun x169 =>
 letO (IntKind.wrap .u8 (x169 - 1)) fun x170 =>
 Option.bind (
 lpO (fun (s173 : Int) =>
 cond (decide (s173 < (↑(List.length (List.map (SV.int .u8) a0.Up)) : Int)))
 (idxO (a0.Up) s173 fun x203 =>
 (Fz34 x203).bind fun x204 =>
 cond (decide ((↑(List.length (List.map SV.str a0.Names)) : Int) < x204))
 (some (.inr (.inr ((s173, 6)))))
 (sideO (0 ≤ s173) (
 cond (decide (bits BinOp.and IntKind.u8 (Int.fdiv x203 (2 ^ min (Int.toNat s173) (IntKind.bits IntKind.u8))) 1 = 0))
 (some (.inr (.inr ((s173, 6)))))
 (Option.bind (
 lpO (fun (s209 : Int) =>
 cond (decide (s209 < (↑(List.length (List.map (SV.int .u8) a0.Up)) : Int)))
 (idxO (a0.Up) s209 fun x227 =>
 sideO (0 ≤ s209) (
 cond (decide (bits BinOp.and IntKind.u8 (Int.fdiv x203 (2 ^ min (Int.toNat s209) (IntKind.bits IntKind.u8))) 1 = 0))
 (letO (IntKind.wrap .i64 ((↑(List.length (List.map SV.str a0.Names)) : Int) - 1)) fun x229 =>
 cond (decide (s209 = x229))
 (letO (IntKind.wrap .i64 (s173 + 1)) fun x231 =>
 some (.inr (.inr (.inl x231))))
 (letO (IntKind.wrap .i64 (s209 + 1)) fun x232 =>
 some (.inl x232)))
 (cond (!decide (s209 = s173))
 (sideO (0 ≤ s173) (
 cond (decide (bits BinOp.and IntKind.u8 (Int.fdiv x227 (2 ^ min (Int.toNat s173) (IntKind.bits IntKind.u8))) 1 = 1))
 (some (.inr (.inr (.inr (.inr ((s173, 6)))))))
 (cond (!decide (bits BinOp.andNot IntKind.u8 (bits BinOp.and IntKind.u8 x227 x170) x203 = 0))
 (some (.inr (.inr (.inr (.inr ((s173, 6)))))))
 (letO (IntKind.wrap .i64 ((↑(List.length (List.map SV.str a0.Names)) : Int) - 1)) fun x236 =>
 cond (decide (s209 = x236))
 (letO (IntKind.wrap .i64 (s173 + 1)) fun x238 =>
 some (.inr (.inr (.inl x238))))
 (letO (IntKind.wrap .i64 (s209 + 1)) fun x239 =>
 some (.inl x239))))))
 (cond (!decide (bits BinOp.andNot IntKind.u8 (bits BinOp.and IntKind.u8 x227 x170) x203 = 0))
 (some (.inr (.inr (.inr (.inr ((s173, 6)))))))
 (letO (IntKind.wrap .i64 ((↑(List.length (List.map SV.str a0.Names)) : Int) - 1)) fun x241 =>
 cond (decide (s209 = x241))
 (letO (IntKind.wrap .i64 (s173 + 1)) fun x243 =>
 some (.inr (.inr (.inl x243))))
 (letO (IntKind.wrap .i64 (s209 + 1)) fun x244 =>
 some (.inl x244)))))))
 (some (.inr (.inl ())))) (0))
 (Sum.elim (fun (s207 : Unit) =>
 letO (IntKind.wrap .i64 (s173 + 1)) fun x245 =>
 some (.inl x245)) some)))))
 (some (.inr (.inl ())))) (0))
 (Sum.elim (fun (s171 : Unit) =>
 (Fz35 a0).bind fun x277 =>
 Option.bind (
 lpO (fun (s280 : Int) =>
 cond (decide (s280 < (↑(List.length (List.map SV.str a0.Names)) : Int)))
 (Option.bind (
 lpO (fun (s298 : Int) =>
 cond (decide (s298 < (↑(List.length (List.map SV.str a0.Names)) : Int)))
 ((Fz36 (x277.up_) ((↑(List.length (List.map SV.str a0.Names)) : Int)) s280 s298).bind fun x305 =>
 cond (decide (x305 < 0))
 (some (.inr (.inr (.inr (.inr ((s280, 4)))))))
 ((Fz37 (x277.down_) ((↑(List.length (List.map SV.str a0.Names)) : Int)) s280 s298).bind fun x307 =>
 cond (decide (x307 < 0))
 (some (.inr (.inr (.inr (.inr ((s280, 4)))))))
 (letO (IntKind.wrap .i64 (s298 + 1)) fun x309 =>
 some (.inl x309))))
 (some (.inr (.inl ())))) (0))
 (Sum.elim (fun (s296 : Unit) =>
 letO (IntKind.wrap .i64 (s280 + 1)) fun x310 =>
 some (.inl x310)) some))
 (some (.inr (.inl ())))) (0))
 (Sum.elim (fun (s278 : Unit) =>
 some ((0, 0))) some)) some))))
noncomputable def Fz39 (a0 : TL) (a1 : List Int) : Option (Int) :=
 (Fz38 a0).bind fun x311 =>
 cond (!decide (x311.snd = 0))
 (some (x311.snd))
 (Option.bind (
 lpO (fun (s315 : Int) =>
 cond (decide (s315 < (↑(List.length (List.map (SV.int .i64) a1)) : Int)))
 (idxO a1 s315 fun x321 =>
 cond (decide (x321 < 0))
 (some (.inr (.inr (7))))
 (cond (decide ((↑(List.length (List.map SV.str a0.Names)) : Int) ≤ x321))
 (some (.inr (.inr (7))))
 (letO (IntKind.wrap .i64 (s315 + 1)) fun x324 =>
 some (.inl x324))))
 (some (.inr (.inl ())))) (0))
 (Sum.elim (fun (s313 : Unit) =>
 some (0)) some))
noncomputable def Fz40 (a0 : Int) : Option (Int) :=
 idxO ((ByteArray.mk (List.toArray (List.append (List.append [(0 : UInt8), (1 : UInt8), (1 : UInt8), (2 : UInt8), (1 : UInt8), (2 : UInt8), (2 : UInt8), (3 : UInt8), (1 : UInt8), (2 : UInt8), (2 : UInt8), (3 : UInt8), (2 : UInt8), (3 : UInt8), (3 : UInt8), (4 : UInt8), (1 : UInt8), (2 : UInt8), (2 : UInt8), (3 : UInt8), (2 : UInt8), (3 : UInt8), (3 : UInt8), (4 : UInt8), (2 : UInt8), (3 : UInt8), (3 : UInt8), (4 : UInt8), (3 : UInt8), (4 : UInt8), (4 : UInt8), (5 : UInt8), (1 : UInt8), (2 : UInt8), (2 : UInt8), (3 : UInt8), (2 : UInt8), (3 : UInt8), (3 : UInt8), (4 : UInt8), (2 : UInt8), (3 : UInt8), (3 : UInt8), (4 : UInt8), (3 : UInt8), (4 : UInt8), (4 : UInt8), (5 : UInt8), (2 : UInt8), (3 : UInt8), (3 : UInt8), (4 : UInt8), (3 : UInt8), (4 : UInt8), (4 : UInt8), (5 : UInt8), (3 : UInt8), (4 : UInt8), (4 : UInt8), (5 : UInt8), (4 : UInt8), (5 : UInt8), (5 : UInt8), (6 : UInt8)] [(1 : UInt8), (2 : UInt8), (2 : UInt8), (3 : UInt8), (2 : UInt8), (3 : UInt8), (3 : UInt8), (4 : UInt8), (2 : UInt8), (3 : UInt8), (3 : UInt8), (4 : UInt8), (3 : UInt8), (4 : UInt8), (4 : UInt8), (5 : UInt8), (2 : UInt8), (3 : UInt8), (3 : UInt8), (4 : UInt8), (3 : UInt8), (4 : UInt8), (4 : UInt8), (5 : UInt8), (3 : UInt8), (4 : UInt8), (4 : UInt8), (5 : UInt8), (4 : UInt8), (5 : UInt8), (5 : UInt8), (6 : UInt8), (2 : UInt8), (3 : UInt8), (3 : UInt8), (4 : UInt8), (3 : UInt8), (4 : UInt8), (4 : UInt8), (5 : UInt8), (3 : UInt8), (4 : UInt8), (4 : UInt8), (5 : UInt8), (4 : UInt8), (5 : UInt8), (5 : UInt8), (6 : UInt8), (3 : UInt8), (4 : UInt8), (4 : UInt8), (5 : UInt8), (4 : UInt8), (5 : UInt8), (5 : UInt8), (6 : UInt8), (4 : UInt8), (5 : UInt8), (5 : UInt8), (6 : UInt8), (5 : UInt8), (6 : UInt8), (6 : UInt8), (7 : UInt8)]) (List.append [(1 : UInt8), (2 : UInt8), (2 : UInt8), (3 : UInt8), (2 : UInt8), (3 : UInt8), (3 : UInt8), (4 : UInt8), (2 : UInt8), (3 : UInt8), (3 : UInt8), (4 : UInt8), (3 : UInt8), (4 : UInt8), (4 : UInt8), (5 : UInt8), (2 : UInt8), (3 : UInt8), (3 : UInt8), (4 : UInt8), (3 : UInt8), (4 : UInt8), (4 : UInt8), (5 : UInt8), (3 : UInt8), (4 : UInt8), (4 : UInt8), (5 : UInt8), (4 : UInt8), (5 : UInt8), (5 : UInt8), (6 : UInt8), (2 : UInt8), (3 : UInt8), (3 : UInt8), (4 : UInt8), (3 : UInt8), (4 : UInt8), (4 : UInt8), (5 : UInt8), (3 : UInt8), (4 : UInt8), (4 : UInt8), (5 : UInt8), (4 : UInt8), (5 : UInt8), (5 : UInt8), (6 : UInt8), (3 : UInt8), (4 : UInt8), (4 : UInt8), (5 : UInt8), (4 : UInt8), (5 : UInt8), (5 : UInt8), (6 : UInt8), (4 : UInt8), (5 : UInt8), (5 : UInt8), (6 : UInt8), (5 : UInt8), (6 : UInt8), (6 : UInt8), (7 : UInt8)] [(2 : UInt8), (3 : UInt8), (3 : UInt8), (4 : UInt8), (3 : UInt8), (4 : UInt8), (4 : UInt8), (5 : UInt8), (3 : UInt8), (4 : UInt8), (4 : UInt8), (5 : UInt8), (4 : UInt8), (5 : UInt8), (5 : UInt8), (6 : UInt8), (3 : UInt8), (4 : UInt8), (4 : UInt8), (5 : UInt8), (4 : UInt8), (5 : UInt8), (5 : UInt8), (6 : UInt8), (4 : UInt8), (5 : UInt8), (5 : UInt8), (6 : UInt8), (5 : UInt8), (6 : UInt8), (6 : UInt8), (7 : UInt8), (3 : UInt8), (4 : UInt8), (4 : UInt8), (5 : UInt8), (4 : UInt8), (5 : UInt8), (5 : UInt8), (6 : UInt8), (4 : UInt8), (5 : UInt8), (5 : UInt8), (6 : UInt8), (5 : UInt8), (6 : UInt8), (6 : UInt8), (7 : UInt8), (4 : UInt8), (5 : UInt8), (5 : UInt8), (6 : UInt8), (5 : UInt8), (6 : UInt8), (6 : UInt8), (7 : UInt8), (5 : UInt8), (6 : UInt8), (6 : UInt8), (7 : UInt8), (6 : UInt8), (7 : UInt8), (7 : UInt8), (8 : UInt8)])))).data.toList) a0 fun x333 =>
 letO (IntKind.wrap .i64 (↑(UInt8.toNat x333) : Int)) fun x334 =>
 some x334
noncomputable def Fz41 (a0 : List Int) (a1 : Int) : Option (Int) :=
 Option.bind (
 lpO (fun (s330 : Int) =>
 letO (IntKind.wrap .i64 (a1 - 1)) fun x336 =>
 cond (decide (s330 < x336))
 (sideO (0 ≤ s330 ∧ s330 < (↑(8 : Nat) : Int)) (
 idxO a0 ((↑(Int.toNat s330) : Int)) fun x338 =>
 (Fz40 x338).bind fun x339 =>
 cond (decide (x339 < a1))
 (letO (IntKind.wrap .i64 (s330 + 1)) fun x341 =>
 some (.inl x341))
 (some (.inr (.inl s330)))))
 (some (.inr (.inl s330)))) (0))
 (Sum.elim (fun (s328 : Int) =>
 some s328) some)
noncomputable def Fz42 (a0 : TL) : Option (Int × Int) :=
 (Fz39 a0 ([])).bind fun x325 =>
 cond (!decide (x325 = 0))
 (some ((0, x325)))
 ((Fz35 a0).bind fun x327 =>
 (Fz41 (x327.up_) (x327.n_)).bind fun x342 =>
 some ((x342, 0)))
noncomputable def Fz43 (a0 : TL) (a1 : Int) : Option (Bool) :=
 cond (decide (0 ≤ a1))
 (some (decide (a1 < (↑(List.length (List.map SV.str a0.Names)) : Int))))
 (some (false))
noncomputable def Fz44 (a0 : TL) (a1 : List Int) : Option (Int × Int) :=
 (Fz38 a0).bind fun x366 =>
 cond (!decide (x366.snd = 0))
 (some (((-1 : Int), x366.snd)))
 (cond (decide (64 < (↑(List.length (List.map (SV.int .i64) a1)) : Int)))
 (some (((-1 : Int), 3)))
 (Option.bind (
 lpO (fun (s371 : Int) =>
 cond (decide (s371 < (↑(List.length (List.map (SV.int .i64) a1)) : Int)))
 (idxO a1 s371 fun x377 =>
 cond (decide (x377 < 0))
 (some (.inr (.inr ((s371, 7)))))
 (cond (decide ((↑(List.length (List.map SV.str a0.Names)) : Int) ≤ x377))
 (some (.inr (.inr ((s371, 7)))))
 (letO (IntKind.wrap .i64 (s371 + 1)) fun x380 =>
 some (.inl x380))))
 (some (.inr (.inl ())))) (0))
 (Sum.elim (fun (s369 : Unit) =>
 some ((0, 0))) some)))
noncomputable def Fz45 (a0 : TL) (a1 : Int) (a2 : Int) : Option (Bool) :=
 idxO (a0.Up) a1 fun x389 =>
 sideO (0 ≤ a2) (
 some (decide (bits BinOp.and IntKind.u8 (Int.fdiv x389 (2 ^ min (Int.toNat a2) (IntKind.bits IntKind.u8))) 1 = 1)))
noncomputable def Fz46 (a0 : Int) (a1 : TL) (a2 : Int) : Option (Bool) :=
 (Fz45 a1 a0 a2).bind fun x390 =>
 some (!x390)
noncomputable def Fz47 (a0 : List Int) (a1 : TL × Int) : Option (Int) :=
 Option.bind (
 lpO (fun (s387 : Int) =>
 cond (decide (s387 < (↑(List.length (List.map (SV.int .i64) a0)) : Int)))
 (idxO a0 s387 fun x393 =>
 (Fz46 x393 (a1.fst) (a1.snd)).bind fun x394 =>
 cond x394
 (some (.inr (.inr s387)))
 (letO (IntKind.wrap .i64 (s387 + 1)) fun x396 =>
 some (.inl x396)))
 (some (.inr (.inl ())))) (0))
 (Sum.elim (fun (s385 : Unit) =>
 some ((-1 : Int))) some)
noncomputable def Fz48 (a0 : TL) (a1 : List Int) (a2 : Int) : Option (Int × Int) :=
 (Fz44 a0 a1).bind fun x381 =>
 cond (!decide (x381.snd = 0))
 (some x381)
 (cond (decide (a2 < 0))
 (some (((-1 : Int), 7)))
 (cond (decide ((↑(List.length (List.map SV.str a0.Names)) : Int) ≤ a2))
 (some (((-1 : Int), 7)))
 ((Fz47 a1 ((a0, a2))).bind fun x397 =>
 cond (decide (0 ≤ x397))
 (some ((x397, 25)))
 (some ((0, 0))))))
noncomputable def Fz49 (a0 : TL) (a1 : TY) : Option (Int) :=
 (Fz42 a0).bind fun x343 =>
 cond (!decide (x343.snd = 0))
 (some (x343.snd))
 (cond (!decide (a1.Kind = 1))
 (cond (!decide (a1.Kind = 2))
 (some (7))
 (cond (decide (a1.Rank < 0))
 (some (7))
 (cond (decide (2 < a1.Rank))
 (some (7))
 ((Fz43 a0 (a1.Axes.fst)).bind fun x350 =>
 cond (!x350)
 (some (7))
 ((Fz43 a0 (a1.Axes.snd)).bind fun x352 =>
 cond (!x352)
 (some (7))
 ((Fz43 a0 (a1.Data)).bind fun x354 =>
 cond (!x354)
 (some (7))
 (sideO (0 ≤ a1.Rank ∧ a1.Rank ≤ (↑(2 : Nat) : Int)) (
 Option.bind (
 lpO (fun (s358 : Int) =>
 cond (decide (s358 < (↑(List.length (List.drop (Int.toNat a1.Rank) (List.take (Int.toNat (↑(2 : Nat) : Int)) [SV.int .i64 a1.Axes.fst, SV.int .i64 a1.Axes.snd]))) : Int)))
 (idxO (List.drop (Int.toNat a1.Rank) (List.take (Int.toNat (↑(2 : Nat) : Int)) [a1.Axes.fst, a1.Axes.snd])) s358 fun x363 =>
 cond (!decide (x363 = x343.fst))
 (some (.inr (.inr (6))))
 (letO (IntKind.wrap .i64 (s358 + 1)) fun x365 =>
 some (.inl x365)))
 (some (.inr (.inl ())))) (0))
 (Sum.elim (fun (s356 : Unit) =>
 sideO (0 ≤ a1.Rank ∧ a1.Rank ≤ (↑(2 : Nat) : Int)) (
 (Fz48 a0 (List.drop (Int.toNat 0) (List.take (Int.toNat a1.Rank) [a1.Axes.fst, a1.Axes.snd])) (a1.Data)).bind fun x399 =>
 cond (!decide (x399.snd = 0))
 (some (x399.snd))
 (some (0)))) some)))))))))
 (cond (decide (a1.Rank < 0))
 (some (7))
 (cond (decide (2 < a1.Rank))
 (some (7))
 ((Fz43 a0 (a1.Axes.fst)).bind fun x403 =>
 cond (!x403)
 (some (7))
 ((Fz43 a0 (a1.Axes.snd)).bind fun x405 =>
 cond (!x405)
 (some (7))
 ((Fz43 a0 (a1.Data)).bind fun x407 =>
 cond (!x407)
 (some (7))
 (sideO (0 ≤ a1.Rank ∧ a1.Rank ≤ (↑(2 : Nat) : Int)) (
 Option.bind (
 lpO (fun (s411 : Int) =>
 cond (decide (s411 < (↑(List.length (List.drop (Int.toNat a1.Rank) (List.take (Int.toNat (↑(2 : Nat) : Int)) [SV.int .i64 a1.Axes.fst, SV.int .i64 a1.Axes.snd]))) : Int)))
 (idxO (List.drop (Int.toNat a1.Rank) (List.take (Int.toNat (↑(2 : Nat) : Int)) [a1.Axes.fst, a1.Axes.snd])) s411 fun x416 =>
 cond (!decide (x416 = x343.fst))
 (some (.inr (.inr (6))))
 (letO (IntKind.wrap .i64 (s411 + 1)) fun x418 =>
 some (.inl x418)))
 (some (.inr (.inl ())))) (0))
 (Sum.elim (fun (s409 : Unit) =>
 sideO (0 ≤ a1.Rank ∧ a1.Rank ≤ (↑(2 : Nat) : Int)) (
 (Fz48 a0 (List.drop (Int.toNat 0) (List.take (Int.toNat a1.Rank) [a1.Axes.fst, a1.Axes.snd])) (a1.Data)).bind fun x419 =>
 cond (!decide (x419.snd = 0))
 (some (x419.snd))
 (some (0)))) some)))))))))
noncomputable def Fz50 (a0 : TL) (a1 : List Int) : Option (Int × Int) :=
 (Fz10 a0).bind fun x423 =>
 cond (!decide (x423.snd = 0))
 (some (((-1 : Int), x423.snd)))
 (cond (decide (64 < (↑(List.length (List.map (SV.int .i64) a1)) : Int)))
 (some (((-1 : Int), 3)))
 (Option.bind (
 lpO (fun (s428 : Int) =>
 cond (decide (s428 < (↑(List.length (List.map (SV.int .i64) a1)) : Int)))
 (idxO a1 s428 fun x435 =>
 cond (decide (x435 < 0))
 (some (.inr (.inr ((s428, 7)))))
 (idxO a1 s428 fun x437 =>
 cond (decide ((↑(List.length (List.map SV.str a0.Names)) : Int) ≤ x437))
 (some (.inr (.inr ((s428, 7)))))
 (letO (IntKind.wrap .i64 (s428 + 1)) fun x439 =>
 some (.inl x439))))
 (some (.inr (.inl ())))) (0))
 (Sum.elim (fun (s426 : Unit) =>
 some ((0, 0))) some)))
noncomputable def Fz51 (a0 : TL) (a1 : List Int) (a2 : Int) : Option (Int × Int) :=
 (Fz50 a0 a1).bind fun x440 =>
 cond (!decide (x440.snd = 0))
 (some x440)
 (cond (decide (a2 < 0))
 (some (((-1 : Int), 7)))
 (cond (decide ((↑(List.length (List.map SV.str a0.Names)) : Int) ≤ a2))
 (some (((-1 : Int), 7)))
 (Option.bind (
 lpO (fun (s446 : Int) =>
 cond (decide (s446 < (↑(List.length (List.map (SV.int .i64) a1)) : Int)))
 (idxO a1 s446 fun x452 =>
 (Fz6 a0 x452 a2).bind fun x453 =>
 cond (!x453)
 (some (.inr (.inr ((s446, 25)))))
 (letO (IntKind.wrap .i64 (s446 + 1)) fun x455 =>
 some (.inl x455)))
 (some (.inr (.inl ())))) (0))
 (Sum.elim (fun (s444 : Unit) =>
 some ((0, 0))) some))))
noncomputable def Fz52 (a0 : TL) (a1 : TY) : Option (Bool) :=
 (Fz1 a0).bind fun x14 =>
 cond x14
 (some (true))
 ((Fz12 a0).bind fun x146 =>
 cond (!decide (x146.snd = 0))
 ((Fz49 a0 a1).bind fun x421 =>
 cond (decide (x421 = x146.snd))
 (some (true))
 (some (false)))
 ((Fz51 a0 ([a1.Axes.fst, a1.Axes.snd]) (a1.Data)).bind fun x456 =>
 cond (decide (x456.snd = 0))
 (cond (decide (a1.Kind = 1))
 (cond (decide (0 ≤ a1.Rank))
 (cond (decide (a1.Rank ≤ 2))
 (cond (decide (0 < a1.Rank))
 (cond (decide (1 < a1.Rank))
 ((Fz49 a0 a1).bind fun x463 =>
 cond (!decide (x463 = 0))
 (some (false))
 (Option.bind (
 lpO (fun (s467 : Int) =>
 cond (decide (s467 < (↑(List.length (List.map SV.str a0.Names)) : Int)))
 ((Fz6 a0 (a1.Data) s467).bind fun x474 =>
 cond x474
 ((Fz49 a0 (TY.mk a1.Kind a1.Rank a1.Axes s467)).bind fun x476 =>
 cond (!decide (x476 = 0))
 (some (.inr (.inr (false))))
 (letO (IntKind.wrap .i64 (s467 + 1)) fun x478 =>
 some (.inl x478)))
 (letO (IntKind.wrap .i64 (s467 + 1)) fun x479 =>
 some (.inl x479)))
 (some (.inr (.inl ())))) (0))
 (Sum.elim (fun (s465 : Unit) =>
 some (true)) some)))
 ((Fz49 a0 a1).bind fun x480 =>
 cond (!decide (x480 = 0) == decide (a1.Axes.snd = x146.fst))
 (some (false))
 (Option.bind (
 lpO (fun (s484 : Int) =>
 cond (decide (s484 < (↑(List.length (List.map SV.str a0.Names)) : Int)))
 (cond (decide (a1.Axes.snd = x146.fst))
 ((Fz6 a0 (a1.Data) s484).bind fun x493 =>
 cond x493
 ((Fz49 a0 (TY.mk a1.Kind a1.Rank a1.Axes s484)).bind fun x495 =>
 cond (!decide (x495 = 0))
 (some (.inr (.inr (false))))
 (letO (IntKind.wrap .i64 (s484 + 1)) fun x497 =>
 some (.inl x497)))
 (letO (IntKind.wrap .i64 (s484 + 1)) fun x498 =>
 some (.inl x498)))
 (some (.inr (.inl ()))))
 (some (.inr (.inl ())))) (0))
 (Sum.elim (fun (s482 : Unit) =>
 some (true)) some))))
 (cond (decide (a1.Axes.fst = x146.fst))
 (cond (decide (1 < a1.Rank))
 ((Fz49 a0 a1).bind fun x501 =>
 cond (!decide (x501 = 0))
 (some (false))
 (Option.bind (
 lpO (fun (s505 : Int) =>
 cond (decide (s505 < (↑(List.length (List.map SV.str a0.Names)) : Int)))
 ((Fz6 a0 (a1.Data) s505).bind fun x512 =>
 cond x512
 ((Fz49 a0 (TY.mk a1.Kind a1.Rank a1.Axes s505)).bind fun x514 =>
 cond (!decide (x514 = 0))
 (some (.inr (.inr (false))))
 (letO (IntKind.wrap .i64 (s505 + 1)) fun x516 =>
 some (.inl x516)))
 (letO (IntKind.wrap .i64 (s505 + 1)) fun x517 =>
 some (.inl x517)))
 (some (.inr (.inl ())))) (0))
 (Sum.elim (fun (s503 : Unit) =>
 some (true)) some)))
 ((Fz49 a0 a1).bind fun x518 =>
 cond (!decide (x518 = 0) == decide (a1.Axes.snd = x146.fst))
 (some (false))
 (Option.bind (
 lpO (fun (s522 : Int) =>
 cond (decide (s522 < (↑(List.length (List.map SV.str a0.Names)) : Int)))
 (cond (decide (a1.Axes.snd = x146.fst))
 ((Fz6 a0 (a1.Data) s522).bind fun x531 =>
 cond x531
 ((Fz49 a0 (TY.mk a1.Kind a1.Rank a1.Axes s522)).bind fun x533 =>
 cond (!decide (x533 = 0))
 (some (.inr (.inr (false))))
 (letO (IntKind.wrap .i64 (s522 + 1)) fun x535 =>
 some (.inl x535)))
 (letO (IntKind.wrap .i64 (s522 + 1)) fun x536 =>
 some (.inl x536)))
 (some (.inr (.inl ()))))
 (some (.inr (.inl ())))) (0))
 (Sum.elim (fun (s520 : Unit) =>
 some (true)) some))))
 ((Fz49 a0 a1).bind fun x537 =>
 cond (!!decide (x537 = 0))
 (some (false))
 (Option.bind (
 lpO (fun (s541 : Unit) =>
 cond (decide (0 < (↑(List.length (List.map SV.str a0.Names)) : Int)))
 (some (.inr (.inl ())))
 (some (.inr (.inl ())))) (()))
 (Sum.elim (fun (s539 : Unit) =>
 some (true)) some)))))
 ((Fz49 a0 a1).bind fun x543 =>
 cond (!!decide (x543 = 0))
 (some (false))
 (Option.bind (
 lpO (fun (s547 : Unit) =>
 cond (decide (0 < (↑(List.length (List.map SV.str a0.Names)) : Int)))
 (some (.inr (.inl ())))
 (some (.inr (.inl ())))) (()))
 (Sum.elim (fun (s545 : Unit) =>
 some (true)) some))))
 ((Fz49 a0 a1).bind fun x549 =>
 cond (!!decide (x549 = 0))
 (some (false))
 (Option.bind (
 lpO (fun (s553 : Unit) =>
 cond (decide (0 < (↑(List.length (List.map SV.str a0.Names)) : Int)))
 (some (.inr (.inl ())))
 (some (.inr (.inl ())))) (()))
 (Sum.elim (fun (s551 : Unit) =>
 some (true)) some))))
 (cond (decide (a1.Kind = 2))
 (cond (decide (0 ≤ a1.Rank))
 (cond (decide (a1.Rank ≤ 2))
 (cond (decide (0 < a1.Rank))
 (cond (decide (1 < a1.Rank))
 ((Fz49 a0 a1).bind fun x560 =>
 cond (!decide (x560 = 0))
 (some (false))
 (Option.bind (
 lpO (fun (s564 : Int) =>
 cond (decide (s564 < (↑(List.length (List.map SV.str a0.Names)) : Int)))
 ((Fz6 a0 (a1.Data) s564).bind fun x571 =>
 cond x571
 ((Fz49 a0 (TY.mk a1.Kind a1.Rank a1.Axes s564)).bind fun x573 =>
 cond (!decide (x573 = 0))
 (some (.inr (.inr (false))))
 (letO (IntKind.wrap .i64 (s564 + 1)) fun x575 =>
 some (.inl x575)))
 (letO (IntKind.wrap .i64 (s564 + 1)) fun x576 =>
 some (.inl x576)))
 (some (.inr (.inl ())))) (0))
 (Sum.elim (fun (s562 : Unit) =>
 some (true)) some)))
 ((Fz49 a0 a1).bind fun x577 =>
 cond (!decide (x577 = 0) == decide (a1.Axes.snd = x146.fst))
 (some (false))
 (Option.bind (
 lpO (fun (s581 : Int) =>
 cond (decide (s581 < (↑(List.length (List.map SV.str a0.Names)) : Int)))
 (cond (decide (a1.Axes.snd = x146.fst))
 ((Fz6 a0 (a1.Data) s581).bind fun x590 =>
 cond x590
 ((Fz49 a0 (TY.mk a1.Kind a1.Rank a1.Axes s581)).bind fun x592 =>
 cond (!decide (x592 = 0))
 (some (.inr (.inr (false))))
 (letO (IntKind.wrap .i64 (s581 + 1)) fun x594 =>
 some (.inl x594)))
 (letO (IntKind.wrap .i64 (s581 + 1)) fun x595 =>
 some (.inl x595)))
 (some (.inr (.inl ()))))
 (some (.inr (.inl ())))) (0))
 (Sum.elim (fun (s579 : Unit) =>
 some (true)) some))))
 (cond (decide (a1.Axes.fst = x146.fst))
 (cond (decide (1 < a1.Rank))
 ((Fz49 a0 a1).bind fun x598 =>
 cond (!decide (x598 = 0))
 (some (false))
 (Option.bind (
 lpO (fun (s602 : Int) =>
 cond (decide (s602 < (↑(List.length (List.map SV.str a0.Names)) : Int)))
 ((Fz6 a0 (a1.Data) s602).bind fun x609 =>
 cond x609
 ((Fz49 a0 (TY.mk a1.Kind a1.Rank a1.Axes s602)).bind fun x611 =>
 cond (!decide (x611 = 0))
 (some (.inr (.inr (false))))
 (letO (IntKind.wrap .i64 (s602 + 1)) fun x613 =>
 some (.inl x613)))
 (letO (IntKind.wrap .i64 (s602 + 1)) fun x614 =>
 some (.inl x614)))
 (some (.inr (.inl ())))) (0))
 (Sum.elim (fun (s600 : Unit) =>
 some (true)) some)))
 ((Fz49 a0 a1).bind fun x615 =>
 cond (!decide (x615 = 0) == decide (a1.Axes.snd = x146.fst))
 (some (false))
 (Option.bind (
 lpO (fun (s619 : Int) =>
 cond (decide (s619 < (↑(List.length (List.map SV.str a0.Names)) : Int)))
 (cond (decide (a1.Axes.snd = x146.fst))
 ((Fz6 a0 (a1.Data) s619).bind fun x628 =>
 cond x628
 ((Fz49 a0 (TY.mk a1.Kind a1.Rank a1.Axes s619)).bind fun x630 =>
 cond (!decide (x630 = 0))
 (some (.inr (.inr (false))))
 (letO (IntKind.wrap .i64 (s619 + 1)) fun x632 =>
 some (.inl x632)))
 (letO (IntKind.wrap .i64 (s619 + 1)) fun x633 =>
 some (.inl x633)))
 (some (.inr (.inl ()))))
 (some (.inr (.inl ())))) (0))
 (Sum.elim (fun (s617 : Unit) =>
 some (true)) some))))
 ((Fz49 a0 a1).bind fun x634 =>
 cond (!!decide (x634 = 0))
 (some (false))
 (Option.bind (
 lpO (fun (s638 : Unit) =>
 cond (decide (0 < (↑(List.length (List.map SV.str a0.Names)) : Int)))
 (some (.inr (.inl ())))
 (some (.inr (.inl ())))) (()))
 (Sum.elim (fun (s636 : Unit) =>
 some (true)) some)))))
 ((Fz49 a0 a1).bind fun x640 =>
 cond (!!decide (x640 = 0))
 (some (false))
 (Option.bind (
 lpO (fun (s644 : Unit) =>
 cond (decide (0 < (↑(List.length (List.map SV.str a0.Names)) : Int)))
 (some (.inr (.inl ())))
 (some (.inr (.inl ())))) (()))
 (Sum.elim (fun (s642 : Unit) =>
 some (true)) some))))
 ((Fz49 a0 a1).bind fun x646 =>
 cond (!!decide (x646 = 0))
 (some (false))
 (Option.bind (
 lpO (fun (s650 : Unit) =>
 cond (decide (0 < (↑(List.length (List.map SV.str a0.Names)) : Int)))
 (some (.inr (.inl ())))
 (some (.inr (.inl ())))) (()))
 (Sum.elim (fun (s648 : Unit) =>
 some (true)) some))))
 ((Fz49 a0 a1).bind fun x652 =>
 cond (!!decide (x652 = 0))
 (some (false))
 (Option.bind (
 lpO (fun (s656 : Unit) =>
 cond (decide (0 < (↑(List.length (List.map SV.str a0.Names)) : Int)))
 (some (.inr (.inl ())))
 (some (.inr (.inl ())))) (()))
 (Sum.elim (fun (s654 : Unit) =>
 some (true)) some)))))
 ((Fz49 a0 a1).bind fun x658 =>
 cond (!!decide (x658 = 0))
 (some (false))
 (Option.bind (
 lpO (fun (s662 : Unit) =>
 cond (decide (0 < (↑(List.length (List.map SV.str a0.Names)) : Int)))
 (some (.inr (.inl ())))
 (some (.inr (.inl ())))) (()))
 (Sum.elim (fun (s660 : Unit) =>
 some (true)) some)))))
end Go.Sx.O
namespace Go.Sx.O
open Go
theorem find_loop {α τ : Type} {l : List α} (p : α → Bool) {step : Int → Option (Int ⊕ τ)} {d : τ} {g : Int → τ}
 (h1 : ∀ (k : Nat) x, l[k]? = some x → step (k : Int) = if p x then some (.inr (g k)) else some (.inl ((k : Int) + 1)))
 (h2 : step (l.length : Int) = some (.inr d)) :
 lpO step 0 = (match l.findIdx? p with | some i => some (g i) | none => some d) := by
 have key : ∀ j k, j + k = l.length → lpO step (k : Int) = (match (l.drop k).findIdx? p with | some i => some (g ((k + i : Nat) : Int)) | none => some d) := by
  intro j
  induction j with
  | zero =>
    intro k hk
    rw [lpO_eq]
    have : k = l.length := by omega
    subst this
    rw [h2]
    simp
  | succ j ih =>
    intro k hk
    have hlt : k < l.length := by omega
    rw [lpO_eq, h1 k _ (List.getElem?_eq_getElem hlt), List.drop_eq_getElem_cons hlt, List.findIdx?_cons]
    split
    · simp
    · have := ih (k + 1) (by omega)
      simp only [Option.bind_some, Sum.elim_inl]
      push_cast at this
      rw [this]
      cases (l.drop (k + 1)).findIdx? p with
      | none => rfl
      | some i => simp; congr 1; omega
 have := key l.length 0 (by omega)
 simpa using this
end Go.Sx.O
namespace Go.Sx.O
open Go
theorem dropWhile_nil {α : Type} {p : α → Bool} : ∀ {l : List α}, l.dropWhile p = [] ↔ ∀ x ∈ l, p x = true
 | [] => by simp
 | a :: l => by
   rw [List.dropWhile_cons]
   cases h : p a with
   | true => simp [h, dropWhile_nil (l := l)]
   | false => simp [h]
theorem Index_strings_spec (l : List (List UInt8)) (s : List UInt8) (hl : l.length ≤ 1000000000) :
 Fz31 l s = some (match l.findIdx? (fun x => decide (s = x)) with | some i => (i : Int) | none => -1) := by
 unfold Fz31
 rw [find_loop (l := l) (fun x => decide (s = x)) (d := .inl ()) (g := .inr) ?_ ?_]
 · cases l.findIdx? (fun x => decide (s = x)) <;> rfl
 · intro k x hx
   have hlt : k < l.length := by
    by_cases h : k < l.length
    · exact h
    · rw [List.getElem?_eq_none (by omega)] at hx; cases hx
   simp only [List.length_map, Int.ofNat_lt, hlt, decide_true, cond_true, idxO, Int.toNat_natCast, hx, Option.bind_some, letO, Int.natCast_nonneg, if_true]
   rw [w64 (by omega) (by omega)]
   cases decide (s = x) <;> rfl
 · simp
theorem Contains_strings_spec (l : List (List UInt8)) (s : List UInt8) (hl : l.length ≤ 1000000000) :
 Fz32 l s = some (decide (s ∈ l)) := by
 unfold Fz32
 rw [Index_strings_spec l s hl]
 cases h : l.findIdx? (fun x => decide (s = x)) with
 | none =>
   have := List.findIdx?_eq_none_iff.1 h
   simp only [Option.bind_some]
   congr 1
   have hn : s ∉ l := fun hm => by have := this s hm; simp at this
   simp [hn]
 | some i =>
   have := List.findIdx?_eq_some_iff_getElem.1 h
   obtain ⟨hi, h1, _⟩ := this
   have hm : s ∈ l := by
    have e : s = l[i] := by simpa using h1
    rw [e]; exact List.getElem_mem hi
   simp [hm]
def inSet (set : List Bool) (c : UInt8) : Bool := set.getD c.toNat false
theorem contains_spec (set : List Bool) (c : UInt8) (h : set.length = 256) : Fz16 set (c.toNat : Int) = some (inSet set c) := by
 unfold Fz16
 have hc : c.toNat < 256 := c.toNat_lt
 have h2 : set[c.toNat]? = some (set[c.toNat]'(by omega)) := List.getElem?_eq_getElem _
 have h3 : (c.toNat : Int) < 256 := by omega
 simp [sideO, idxO, inSet, h2, h3]
def trimR (p : UInt8 → Bool) (s : List UInt8) : List UInt8 := (s.reverse.dropWhile p).reverse
theorem trimR_all {p : UInt8 → Bool} {s : List UInt8} : (trimR p s).dropWhile p = [] ↔ ∀ c ∈ s, p c = true := by
 unfold trimR
 constructor
 · intro h c hc
   have h1 : ∀ c ∈ (s.reverse.dropWhile p).reverse, p c = true := dropWhile_nil.1 h
   have h2 : s.reverse.dropWhile p = [] := by
    cases e : s.reverse.dropWhile p with
    | nil => rfl
    | cons a r =>
      have := List.head?_dropWhile_not p s.reverse
      rw [e] at this
      simp at this
      rw [e] at h1
      rw [h1 a (by simp)] at this
      cases this
   exact dropWhile_nil.1 h2 c (by simpa using hc)
 · intro h
   have : s.reverse.dropWhile p = [] := dropWhile_nil.2 fun c hc => h c (by simpa using hc)
   rw [this]; rfl
theorem trimRightASCII_spec (s : List UInt8) (set : List Bool) (h : set.length = 256) (hs : s.length ≤ 1000000000) : Fz17 s set = some (trimR (inSet set) s) := by
 unfold Fz17
 apply Tot.eq
 simp only [tot_bind]
 refine Tot.loop (fun s => s.length) (fun r => r.length ≤ 1000000000 ∧ trimR (inSet set) r = trimR (inSet set) s) ?_ ⟨hs, rfl⟩
 rintro r ⟨hr, he⟩
 simp only [tot_some, tot_cond, tot_let, tot_idx, tot_side, tot_bind, Sum.elim_inl, Sum.elim_inr, decide_eq_true_eq, decide_eq_false_iff_not]
 refine ⟨fun h1 => ?_, fun h1 => ?_⟩
 · have h0 : r ≠ [] := by rintro rfl; simp at h1
   rw [w64 (by omega) (by omega)]
   have e1 : ((r.length : Int) - 1).toNat = r.length - 1 := by omega
   rw [e1]
   refine ⟨by omega, _, List.getElem?_eq_getElem (by omega), ?_⟩
   rw [contains_spec set _ h]
   simp only [tot_some, Bool.not_eq_true', Bool.not_eq_false']
   have hr2 : r = r.dropLast ++ [r[r.length - 1]'(by omega)] := by
    rw [← List.getLast_eq_getElem h0]; exact (List.dropLast_concat_getLast h0).symm
   refine ⟨fun h2 => ?_, fun h2 => ⟨⟨by omega, by omega⟩, ⟨by simp; omega, ?_⟩, by simp; omega⟩⟩
   · rw [← he]
     unfold trimR
     rw [hr2]
     simp [h2]
   · rw [← he]
     simp only [Int.toNat_zero, List.drop_zero]
     rw [← List.dropLast_eq_take]
     conv => rhs; rw [hr2]
     unfold trimR
     simp [h2]
 · have h0 : r = [] := List.length_eq_zero_iff.1 (by omega)
   rw [← he, h0]; rfl
theorem trimLeftASCII_spec (s : List UInt8) (set : List Bool) (h : set.length = 256) (hs : s.length ≤ 1000000000) : Fz18 s set = some (s.dropWhile (inSet set)) := by
 unfold Fz18
 apply Tot.eq
 simp only [tot_bind]
 refine Tot.loop (fun s => s.length) (fun r => r.length ≤ 1000000000 ∧ r.dropWhile (inSet set) = s.dropWhile (inSet set)) ?_ ⟨hs, rfl⟩
 rintro r ⟨hr, he⟩
 simp only [tot_some, tot_cond, tot_let, tot_idx, tot_side, tot_bind, Sum.elim_inl, Sum.elim_inr, decide_eq_true_eq, decide_eq_false_iff_not]
 cases r with
 | nil => simp [← he]
 | cons a r =>
   refine ⟨fun h1 => ⟨by omega, a, rfl, ?_⟩, fun h1 => absurd h1 (by simp)⟩
   rw [contains_spec set _ h]
   simp only [tot_some, Bool.not_eq_true', Bool.not_eq_false']
   refine ⟨fun h2 => ?_, fun h2 => ⟨by simp; omega, ⟨?_, ?_⟩, ?_⟩⟩
   · rw [← he]; simp [h2]
   · simp at hr ⊢; omega
   · rw [← he]; simp [h2]
   · simp
end Go.Sx.O
namespace Go.Sx.O
open Go
theorem inSet_set {set : List Bool} {c d : UInt8} (h : set.length = 256) : inSet (set.set c.toNat true) d = (decide (d = c) || inSet set d) := by
 have hc : c.toNat < 256 := c.toNat_lt
 unfold inSet
 rw [List.getD_eq_getElem?_getD, List.getD_eq_getElem?_getD, List.getElem?_set]
 by_cases e : c.toNat = d.toNat
 · have : d = c := (UInt8.toNat_inj.1 e).symm
   subst this
   simp [h, hc]
 · have : d ≠ c := fun e' => e (by rw [e'])
   simp [e, this]
theorem makeASCIISet_spec (cs : List UInt8) (h : ∀ c ∈ cs, c.toNat < 128) (hs : cs.length ≤ 1000000000) : Tot (Fz15 cs) fun r => r.2 = true ∧ r.1.length = 256 ∧ ∀ d, inSet r.1 d = decide (d ∈ cs) := by
 unfold Fz15
 simp only [tot_bind]
 refine Tot.count cs.length (fun k s => s.1 = (k : Int) ∧ s.2.length = 256 ∧ ∀ d, inSet s.2 d = decide (d ∈ cs.take k)) ?_ ⟨rfl, List.length_replicate, fun d => ?_⟩
 · rintro k ⟨i, set⟩ hk ⟨h0, h1, h2⟩
   simp only at h0 h1 h2
   subst h0
   simp only [tot_some, tot_cond, tot_let, tot_idx, tot_side, Sum.elim_inl, Sum.elim_inr, decide_eq_true_eq, decide_eq_false_iff_not, Int.toNat_natCast]
   refine ⟨fun hlt => ⟨by omega, _, List.getElem?_eq_getElem (by omega), fun h3 => ?_, fun h3 => ?_⟩, fun hlt => ?_⟩
   · have := h cs[k] (List.getElem_mem _)
     omega
   · have hc : cs[k].toNat < 256 := (cs[k]'(by omega)).toNat_lt
     refine ⟨⟨by omega, by omega⟩, by omega, _, List.getElem?_eq_getElem (by omega), ?_⟩
     rw [w64 (by omega) (by omega)]
     refine ⟨by omega, by omega, by simpa using h1, fun d => ?_⟩
     have hm : d ∈ cs.take (k + 1) ↔ d ∈ cs.take k ∨ d = cs[k] := by
      rw [List.take_add_one, List.getElem?_eq_getElem (by omega), List.mem_append]
      simp
     rw [inSet_set h1, h2, Bool.eq_iff_iff]
     simp only [Bool.or_eq_true, decide_eq_true_eq, hm]
     exact or_comm
   · refine ⟨trivial, h1, fun d => ?_⟩
     rw [h2, List.take_of_length_le (by omega)]
 · unfold inSet
   rw [List.getD_eq_getElem?_getD, List.getElem?_replicate]
   split <;> simp
theorem Trim_spec (s cs : List UInt8) (h : ∀ c ∈ cs, c.toNat < 128) (h1 : 2 ≤ cs.length) (hs : cs.length ≤ 1000000000) (hl : s.length ≤ 1000000000) :
 Fz29 s cs = some ((trimR (fun c => decide (c ∈ cs)) s).dropWhile (fun c => decide (c ∈ cs))) := by
 unfold Fz29
 have e0 : (ByteArray.mk #[]).data.toList = [] := rfl
 simp only [e0]
 cases s with
 | nil => simp [trimR]
 | cons a r =>
   have e1 : decide (a :: r = []) = false := by simp
   have e2 : decide (cs = []) = false := by cases cs <;> simp at h1 ⊢
   have e3 : decide ((cs.length : Int) = 1) = false := by simp; omega
   simp only [e1, e2, e3, cond_false]
   obtain ⟨x, hx, hx1, hx2, hx3⟩ := makeASCIISet_spec cs h hs
   have e4 : inSet x.1 = fun c => decide (c ∈ cs) := funext hx3
   rw [hx]
   simp only [Option.bind_some, hx1, cond_true]
   rw [trimRightASCII_spec _ _ hx2 hl]
   simp only [Option.bind_some]
   rw [trimLeftASCII_spec _ _ hx2 (by
    refine Nat.le_trans ?_ hl
    unfold trimR
    rw [List.length_reverse]
    refine Nat.le_trans (List.dropWhile_sublist _).length_le (by simp))]
   rw [e4]
   rfl
def wordSet : List UInt8 := [97, 98, 99, 100, 101, 102, 103, 104, 105, 106, 107, 108, 109, 110, 111, 112, 113, 114, 115, 116, 117, 118, 119, 120, 121, 122, 48, 49, 50, 51, 52, 53, 54, 55, 56, 57, 45]
def wname (s : List UInt8) : Bool := decide (s.length ≤ 16) && (match s with | [] => false | c :: _ => decide (97 ≤ c.toNat) && decide (c.toNat ≤ 122)) && s.all fun c => decide (c ∈ wordSet)
theorem Name_spec (s : List UInt8) (hl : s.length ≤ 1000000000) : Fz30 s = some (wname s) := by
 unfold Fz30
 have e0 : (ByteArray.mk #[]).data.toList = [] := rfl
 simp only [e0]
 rw [Trim_spec s _ (by decide) (by decide) (by decide) hl]
 cases s with
 | nil => rfl
 | cons a r =>
   have e1 : decide (a :: r = []) = false := by simp
   simp only [e1, cond_false, Option.bind_some]
   have e5 : idxO (a :: r) 0 = fun f => (f a : Option Bool) := rfl
   simp only [e5]
   unfold wname
   by_cases h1 : (16 : Int) < ((a :: r).length : Int)
   · have : ¬ (a :: r).length ≤ 16 := by omega
     simp only [h1, decide_true, cond_true, this, decide_false, Bool.false_and]
   · have h1' : (a :: r).length ≤ 16 := by omega
     simp only [h1, decide_false, cond_false, h1', decide_true, Bool.true_and]
     by_cases h2 : (a.toNat : Int) < 97
     · have : ¬ 97 ≤ a.toNat := by omega
       simp only [h2, decide_true, cond_true, this, decide_false, Bool.false_and]
     · have h2' : 97 ≤ a.toNat := by omega
       simp only [h2, decide_false, cond_false, h2', decide_true, Bool.true_and]
       by_cases h3 : (122 : Int) < (a.toNat : Int)
       · have : ¬ a.toNat ≤ 122 := by omega
         simp only [h3, decide_true, cond_true, this, decide_false, Bool.false_and]
       · have h3' : a.toNat ≤ 122 := by omega
         simp only [h3, decide_false, cond_false, h3', decide_true, Bool.true_and]
         congr 1
         rw [Bool.eq_iff_iff, decide_eq_true_eq, trimR_all, List.all_eq_true]
         rfl
end Go.Sx.O
namespace Go.Sx.O
open Go
theorem bit_at : ∀ u : Fin 256, ∀ b : Fin 9, bits .and .u8 (Int.fdiv (u.val : Int) (2 ^ min b.val (IntKind.bits .u8))) 1 = if Nat.testBit u b then 1 else 0 := by decide +kernel
theorem bitAt {u : Int} {b : Nat} (h0 : 0 ≤ u) (h1 : u < 256) (hb : b ≤ 8) : bits .and .u8 (Int.fdiv u (2 ^ min b (IntKind.bits .u8))) 1 = if u.toNat.testBit b then 1 else 0 := by
 have := bit_at ⟨u.toNat, by omega⟩ ⟨b, by omega⟩
 simp only at this
 rw [Int.toNat_of_nonneg h0] at this
 exact this
theorem ofInt_u8 {u : Int} (h0 : 0 ≤ u) : BitVec.ofInt 8 u = BitVec.ofNat 8 u.toNat := by
 conv => lhs; rw [← Int.toNat_of_nonneg h0]
 exact BitVec.ofInt_natCast 8 u.toNat
theorem wrap_u8 {n : Nat} (h : n < 256) : IntKind.wrap .u8 (n : Int) = n := by
 simp only [IntKind.wrap, IntKind.signed, IntKind.bits, Bool.false_and]
 have h3 : (2 : Int) ^ 8 = 256 := by decide
 simp only [h3]
 have : (n : Int) % 256 = n := by omega
 simp [this]
theorem bits_and {a b : Int} (ha : 0 ≤ a) (ha' : a < 256) (hb : 0 ≤ b) (hb' : b < 256) : bits .and .u8 a b = ((a.toNat &&& b.toNat : Nat) : Int) := by
 have e : bits .and .u8 a b = IntKind.wrap .u8 ((BitVec.ofInt 8 a &&& BitVec.ofInt 8 b).toNat : Int) := rfl
 rw [e, ofInt_u8 ha, ofInt_u8 hb]
 rw [wrap_u8 (BitVec.isLt _)]
 rw [BitVec.toNat_and, BitVec.toNat_ofNat, BitVec.toNat_ofNat, Nat.mod_eq_of_lt (by omega), Nat.mod_eq_of_lt (by omega)]
theorem bits_or {a b : Int} (ha : 0 ≤ a) (ha' : a < 256) (hb : 0 ≤ b) (hb' : b < 256) : bits .or .u8 a b = ((a.toNat ||| b.toNat : Nat) : Int) := by
 have e : bits .or .u8 a b = IntKind.wrap .u8 ((BitVec.ofInt 8 a ||| BitVec.ofInt 8 b).toNat : Int) := rfl
 rw [e, ofInt_u8 ha, ofInt_u8 hb]
 rw [wrap_u8 (BitVec.isLt _)]
 rw [BitVec.toNat_or, BitVec.toNat_ofNat, BitVec.toNat_ofNat, Nat.mod_eq_of_lt (by omega), Nat.mod_eq_of_lt (by omega)]
theorem bits_andNot {a b : Int} (ha : 0 ≤ a) (ha' : a < 256) (hb : 0 ≤ b) (hb' : b < 256) : bits .andNot .u8 a b = 0 ↔ ∀ i, a.toNat.testBit i = true → b.toNat.testBit i = true := by
 have e : bits .andNot .u8 a b = IntKind.wrap .u8 ((BitVec.ofInt 8 a &&& ~~~BitVec.ofInt 8 b).toNat : Int) := rfl
 rw [e, ofInt_u8 ha, ofInt_u8 hb]
 rw [wrap_u8 (BitVec.isLt _)]
 have hbit : ∀ i, (BitVec.ofNat 8 a.toNat &&& ~~~BitVec.ofNat 8 b.toNat).getLsbD i = (decide (i < 8) && a.toNat.testBit i && !(b.toNat.testBit i)) := by
  intro i
  rw [BitVec.getLsbD_and, BitVec.getLsbD_not, BitVec.getLsbD_ofNat, BitVec.getLsbD_ofNat]
  cases decide (i < 8) <;> simp
 have h8 : ∀ i, a.toNat.testBit i = true → i < 8 := by
  intro i hi
  rcases Nat.lt_or_ge i 8 with g | g
  · exact g
  · rw [Nat.testBit_lt_two_pow (Nat.lt_of_lt_of_le (show a.toNat < 2 ^ 8 by omega) (Nat.pow_le_pow_right (by omega) g))] at hi
    cases hi
 constructor
 · intro h i hi
   have h0 : (BitVec.ofNat 8 a.toNat &&& ~~~BitVec.ofNat 8 b.toNat).toNat = 0 := Int.ofNat_eq_zero.1 h
   have h1 := hbit i
   rw [← BitVec.testBit_toNat, h0, Nat.zero_testBit] at h1
   have := h8 i hi
   simp [this, hi] at h1
   exact h1
 · intro h
   have h1 : (BitVec.ofNat 8 a.toNat &&& ~~~BitVec.ofNat 8 b.toNat).toNat = 0 := by
    apply Nat.eq_of_testBit_eq
    intro i
    rw [BitVec.testBit_toNat, hbit i, Nat.zero_testBit]
    cases hi : a.toNat.testBit i with
    | false => simp
    | true => simp [h i hi]
   rw [h1]; rfl
theorem and_lt {a b : Nat} (h : a < 256) : a &&& b < 256 := Nat.lt_of_le_of_lt Nat.and_le_left h
theorem or_lt {a b : Nat} (h : a < 256) (k : b < 256) : a ||| b < 256 := Nat.or_lt_two_pow (n := 8) h k
theorem named_total (ns : List (List UInt8)) (h : ns.length ≤ 20) (hn : ∀ s ∈ ns, s.length ≤ 1000) : Tot (Fz33 ns) fun r => r.2 = 0 → 1 ≤ ns.length ∧ ns.length ≤ 8 := by
 unfold Fz33
 simp only [tot_cond, tot_some, tot_bind, List.length_map, decide_eq_true_eq, decide_eq_false_iff_not]
 refine ⟨fun _ h => absurd h (by decide), fun h1 => ⟨fun _ h => absurd h (by decide), fun h2 => ?_⟩⟩
 refine Tot.count ns.length (fun k s => s = (k : Int)) ?_ rfl
 rintro k _ hk rfl
 simp only [tot_some, tot_cond, tot_let, tot_idx, tot_side, tot_bind, Sum.elim_inl, Sum.elim_inr, decide_eq_true_eq, decide_eq_false_iff_not, Int.toNat_natCast]
 refine ⟨fun hlt => ⟨by omega, _, List.getElem?_eq_getElem (by omega), ?_⟩, fun hlt => fun _ => by omega⟩
 rw [Name_spec _ (by have := hn ns[k] (List.getElem_mem _); omega), tot_some]
 refine ⟨fun _ h => absurd h (by decide), fun _ => ⟨⟨by omega, by omega⟩, ?_⟩⟩
 rw [Contains_strings_spec _ _ (by simp; omega), tot_some]
 refine ⟨fun _ h => absurd h (by decide), fun _ => ?_⟩
 rw [w64 (by omega) (by omega)]
 exact ⟨by omega, by omega⟩
end Go.Sx.O
namespace Go.Sx.O
open Go
def U8s (l : List Int) : Prop := ∀ x ∈ l, 0 ≤ x ∧ x < 256
theorem U8s.get {l : List Int} (h : U8s l) {i : Nat} {x : Int} (hx : l[i]? = some x) : 0 ≤ x ∧ x < 256 := h x (List.mem_of_getElem? hx)
theorem U8s.set {l : List Int} (h : U8s l) {i : Nat} {x : Int} (h0 : 0 ≤ x) (h1 : x < 256) : U8s (l.set i x) := by
 intro y hy
 rcases List.mem_or_eq_of_mem_set hy with g | g
 · exact h y g
 · subst g; exact ⟨h0, h1⟩
theorem mod_u8 {e : Int} : 0 ≤ IntKind.wrap .u8 e ∧ IntKind.wrap .u8 e < 256 := by
 simp only [IntKind.wrap, IntKind.signed, IntKind.bits, Bool.false_and]
 have h3 : (2 : Int) ^ 8 = 256 := by decide
 simp only [h3]
 refine ⟨?_, ?_⟩ <;> simp <;> omega
theorem orU {a b : Int} (ha : 0 ≤ a) (ha' : a < 256) (hb : 0 ≤ b) (hb' : b < 256) : 0 ≤ bits .or .u8 a b ∧ bits .or .u8 a b < 256 := by
 rw [bits_or ha ha' hb hb']
 have := or_lt (a := a.toNat) (b := b.toNat) (by omega) (by omega)
 omega
theorem get_lt {α : Type} {l : List α} {i : Nat} (h : i < l.length) : ∃ x, l[i]? = some x := ⟨_, List.getElem?_eq_getElem h⟩
theorem of_total (l : TL) (hu : U8s l.Up) (hn : l.Names.length ≤ 8) (hl : l.Up.length ≤ 8) :
 Tot (Fz35 l) fun o => o.n_ = l.Names.length ∧ o.up_.length = 8 ∧ o.down_.length = 8 ∧ U8s o.up_ ∧ U8s o.down_ := by
 unfold Fz35
 simp only [tot_bind, List.length_map]
 refine Tot.count l.Up.length (fun k s => s.1 = (k : Int) ∧ s.2.1.length = 8 ∧ s.2.2.length = 8 ∧ U8s s.2.1 ∧ U8s s.2.2) ?_ ⟨rfl, rfl, rfl, by intro x hx; simp at hx; omega, by intro x hx; simp at hx; omega⟩
 rintro k ⟨i, up, down⟩ hk ⟨h0, h1, h2, h3, h4⟩
 simp only at h0 h1 h2 h3 h4
 subst h0
 simp only [tot_some, tot_cond, tot_let, tot_idx, tot_side, tot_bind, Sum.elim_inl, Sum.elim_inr, decide_eq_true_eq, decide_eq_false_iff_not, Int.toNat_natCast]
 refine ⟨fun hlt => ?_, fun hlt => ⟨trivial, h1, h2, h3, h4⟩⟩
 obtain ⟨x, hx⟩ := get_lt (l := l.Up) (i := k) (by omega)
 obtain ⟨y, hy⟩ := get_lt (l := up) (i := k) (by omega)
 refine ⟨by omega, x, hx, ⟨by omega, by omega⟩, by omega, y, hy, ?_⟩
 have hx' := hu.get hx
 refine Tot.count l.Names.length (fun j s => s.1 = (j : Int) ∧ s.2.length = 8 ∧ U8s s.2) ?_ ⟨rfl, h2, h4⟩
 rintro j ⟨i', d⟩ hj ⟨g0, g1, g2⟩
 simp only at g0 g1 g2
 subst g0
 simp only [tot_some, tot_cond, tot_let, tot_idx, tot_side, tot_bind, Sum.elim_inl, Sum.elim_inr, decide_eq_true_eq, decide_eq_false_iff_not, Int.toNat_natCast]
 refine ⟨fun hlt' => ?_, fun _ => ?_⟩
 · obtain ⟨z, hz⟩ := get_lt (l := d) (i := j) (by omega)
   have hz' := g2.get hz
   rw [w64 (by omega) (by omega)]
   refine ⟨⟨by omega, by omega⟩, by omega, z, hz, by omega, by omega, ⟨by omega, by omega⟩, by omega, z, hz, by omega, by omega, by simpa using g1, ?_⟩
   have hw := mod_u8 (e := bits .and .u8 (Int.fdiv x (2 ^ min j (IntKind.bits .u8))) 1 * 2 ^ min k (IntKind.bits .u8))
   have ho := orU hz'.1 hz'.2 hw.1 hw.2
   exact g2.set ho.1 ho.2
 · rw [w64 (by omega) (by omega)]
   exact ⟨by omega, by omega, by simpa using h1, g1, h3.set hx'.1 hx'.2, g2⟩
theorem bound_ups_total (m : List Int) (n : Nat) (a b : Nat) (hm : m.length = 8) (hu : U8s m) (hn : n ≤ 8) (ha : a < n) (hb : b < n) : Tot (Fz36 m n a b) fun _ => True := by
 unfold Fz36
 obtain ⟨x, hx⟩ := get_lt (l := m) (i := a) (by omega)
 obtain ⟨y, hy⟩ := get_lt (l := m) (i := b) (by omega)
 simp only [tot_some, tot_cond, tot_let, tot_idx, tot_side, tot_bind, Int.toNat_natCast]
 refine ⟨⟨by omega, by omega⟩, by omega, x, hx, ⟨by omega, by omega⟩, by omega, y, hy, ?_⟩
 refine Tot.count n (fun k s => s = (k : Int)) ?_ rfl
 rintro k _ hk rfl
 simp only [tot_some, tot_cond, tot_let, tot_idx, tot_side, tot_bind, Sum.elim_inl, Sum.elim_inr, decide_eq_true_eq, decide_eq_false_iff_not, Int.toNat_natCast]
 refine ⟨fun hlt => ⟨by omega, fun _ => ?_, fun _ => ?_⟩, fun _ => trivial⟩
 · obtain ⟨z, hz⟩ := get_lt (l := m) (i := k) (by omega)
   rw [w64 (by omega) (by omega)]
   exact ⟨⟨by omega, by omega⟩, by omega, z, hz, fun _ => trivial, fun _ => ⟨by omega, by omega⟩⟩
 · rw [w64 (by omega) (by omega)]
   exact ⟨by omega, by omega⟩
theorem bound_downs_total (m : List Int) (n : Nat) (a b : Nat) (hm : m.length = 8) (hu : U8s m) (hn : n ≤ 8) (ha : a < n) (hb : b < n) : Tot (Fz37 m n a b) fun _ => True := bound_ups_total m n a b hm hu hn ha hb
theorem Len8_total (x : Int) (h0 : 0 ≤ x) (h1 : x < 256) : Tot (Fz34 x) fun _ => True := by
 unfold Fz34
 rw [tot_idx]
 refine ⟨h0, ?_⟩
 have key : ∀ l : List UInt8, l.length = 256 → ∃ y, l[x.toNat]? = some y ∧ Tot (letO (IntKind.wrap .i64 (y.toNat : Int)) fun z => some z) fun _ => True := by
  intro l hl
  obtain ⟨y, hy⟩ := get_lt (l := l) (i := x.toNat) (by omega)
  exact ⟨y, hy, .mk trivial⟩
 exact key _ (by decide +kernel)
def up (l : TL) (a b : Nat) : Bool := (l.Up.getD a 0).toNat.testBit b
def rowOK (l : TL) (a b : Nat) : Prop := up l a b = true → (b ≠ a → up l b a = false) ∧ ∀ i, i < l.Names.length → up l b i = true → up l a i = true
structure LatOK (l : TL) : Prop where
 pos : 1 ≤ l.Names.length
 le : l.Names.length ≤ 8
 len : l.Up.length = l.Names.length
 u8 : U8s l.Up
 self : ∀ a, a < l.Names.length → up l a a = true
 row : ∀ a, a < l.Names.length → ∀ b, b < l.Names.length → rowOK l a b
theorem up_of {l : TL} {a : Nat} {x : Int} (h : l.Up[a]? = some x) (b : Nat) : up l a b = x.toNat.testBit b := by
 unfold up; rw [List.getD_eq_getElem?_getD, h]; rfl
theorem mask_bit (n : Nat) (h : n ≤ 8) (i : Nat) : (IntKind.wrap .u8 (IntKind.wrap .u8 (1 * 2 ^ min n (IntKind.bits .u8)) - 1)).toNat.testBit i = decide (i < n) := by
 have key : ∀ n : Fin 9, (IntKind.wrap .u8 (IntKind.wrap .u8 (1 * 2 ^ min n.val (IntKind.bits .u8)) - 1)).toNat = 2 ^ n.val - 1 := by decide +kernel
 rw [key ⟨n, by omega⟩]
 exact Nat.testBit_two_pow_sub_one n i
theorem Check_lat (l : TL) (hu : U8s l.Up) (hn : l.Names.length ≤ 20) (hs : ∀ s ∈ l.Names, s.length ≤ 1000) : Tot (Fz38 l) fun r => r.2 = 0 → LatOK l := by
 unfold Fz38
 simp only [tot_bind, List.length_map]
 refine (named_total l.Names hn hs).mono fun x53 h53 => ?_
 simp only [tot_cond, tot_some, Bool.not_eq_true', Bool.not_eq_false', decide_eq_true_eq, decide_eq_false_iff_not]
 refine ⟨fun h h' => absurd h' h, fun h => ⟨fun _ h' => absurd h' (by decide), fun hlen => ?_⟩⟩
 obtain ⟨p1, p8⟩ := h53 h
 have hlen' : l.Up.length = l.Names.length := by omega
 rw [tot_side, tot_let, tot_let, tot_bind]
 refine ⟨by omega, ?_⟩
 rw [Int.toNat_natCast]
 have hmask := mask_bit l.Names.length p8
 have hm0 := mod_u8 (e := IntKind.wrap .u8 (1 * 2 ^ min l.Names.length (IntKind.bits .u8)) - 1)
 revert hmask hm0
 generalize IntKind.wrap .u8 (IntKind.wrap .u8 (1 * 2 ^ min l.Names.length (IntKind.bits .u8)) - 1) = mask
 intro hmask hm0
 refine Tot.count l.Names.length (fun k s => s = (k : Int) ∧ (∀ a, a < k → up l a a = true) ∧ ∀ a, a < k → ∀ b, b < l.Names.length → rowOK l a b) ?_ ⟨rfl, fun a ha => absurd ha (by omega), fun a ha => absurd ha (by omega)⟩
 rintro k _ hk ⟨rfl, hself, hrow⟩
 simp only [tot_cond, tot_some, tot_let, Sum.elim_inl, Sum.elim_inr, decide_eq_true_eq, decide_eq_false_iff_not]
 refine ⟨fun hlt => ?_, fun hlt => ?_⟩
 · -- a round
   simp only [tot_idx, Int.toNat_natCast]
   obtain ⟨x, hx⟩ := get_lt (l := l.Up) (i := k) (by omega)
   have hx' := hu.get hx
   refine ⟨by omega, x, hx, ?_⟩
   rw [tot_bind]
   refine (Len8_total x hx'.1 hx'.2).mono fun x91 _ => ?_
   simp only [tot_cond, tot_some, tot_side, Sum.elim_inl, Sum.elim_inr, decide_eq_true_eq, decide_eq_false_iff_not, Int.toNat_natCast]
   refine ⟨fun _ h' => absurd h' (by decide), fun _ => ⟨by omega, fun _ h' => absurd h' (by decide), fun hs => ?_⟩⟩
   rw [bitAt hx'.1 hx'.2 (by omega), ← up_of hx] at hs
   have hkk : up l k k = true := by
    cases e : up l k k with
    | true => rfl
    | false => rw [e] at hs; simp at hs
   rw [tot_bind]
   refine Tot.count l.Names.length (fun j s => s = (j : Int) ∧ ∀ b, b < j → rowOK l k b) ?_ ⟨rfl, fun b hb => absurd hb (by omega)⟩
   rintro j _ hj ⟨rfl, hr⟩
   have fin : (∀ b, b < l.Names.length → rowOK l k b) → k < l.Names.length ∧ IntKind.wrap .i64 ((k : Int) + 1) = ((k + 1 : Nat) : Int) ∧ (∀ a, a < k + 1 → up l a a = true) ∧ ∀ a, a < k + 1 → ∀ b, b < l.Names.length → rowOK l a b := by
    intro hall
    rw [w64 (by omega) (by omega)]
    refine ⟨by omega, by omega, fun a ha => ?_, fun a ha => ?_⟩
    · rcases Nat.lt_or_ge a k with g | g
      · exact hself a g
      · have : a = k := by omega
        subst this; exact hkk
    · rcases Nat.lt_or_ge a k with g | g
      · exact hrow a g
      · have : a = k := by omega
        subst this; exact hall
   have ext : ∀ {b}, rowOK l k j → b < j + 1 → rowOK l k b := by
    intro b h hb
    rcases Nat.lt_or_ge b j with g | g
    · exact hr b g
    · have : b = j := by omega
      subst this; exact h
   simp only [tot_cond, tot_some, tot_let, tot_side, Sum.elim_inl, Sum.elim_inr, decide_eq_true_eq, decide_eq_false_iff_not, Bool.not_eq_true', Bool.not_eq_false', Int.toNat_natCast]
   refine ⟨fun hjl => ?_, fun hjl => ?_⟩
   · simp only [tot_idx, Int.toNat_natCast]
     obtain ⟨y, hy⟩ := get_lt (l := l.Up) (i := j) (by omega)
     have hy' := hu.get hy
     refine ⟨by omega, y, hy, ?_⟩
     simp only [tot_cond, tot_some, tot_let, tot_side, Sum.elim_inl, Sum.elim_inr, decide_eq_true_eq, decide_eq_false_iff_not, Bool.not_eq_true', Bool.not_eq_false', Int.toNat_natCast]
     rw [bitAt hx'.1 hx'.2 (by omega), ← up_of hx]
     rw [w64 (e := (l.Names.length : Int) - 1) (by omega) (by omega)]
     have stay : rowOK l k j → ((j : Int) = (l.Names.length : Int) - 1 → k < l.Names.length ∧ IntKind.wrap .i64 ((k : Int) + 1) = ((k + 1 : Nat) : Int) ∧ (∀ a, a < k + 1 → up l a a = true) ∧ ∀ a, a < k + 1 → ∀ b, b < l.Names.length → rowOK l a b) ∧ (¬ (j : Int) = (l.Names.length : Int) - 1 → j < l.Names.length ∧ IntKind.wrap .i64 ((j : Int) + 1) = ((j + 1 : Nat) : Int) ∧ ∀ b, b < j + 1 → rowOK l k b) := by
      intro hrow'
      refine ⟨fun e => fin fun b hb => ext hrow' (by omega), fun e => ?_⟩
      rw [w64 (by omega) (by omega)]
      exact ⟨by omega, by omega, fun b hb => ext hrow' hb⟩
     refine ⟨by omega, fun hb => ?_, fun hb => ⟨fun hne => ⟨by omega, fun _ h' => absurd h' (by decide), fun hba => ⟨fun _ h' => absurd h' (by decide), fun han => ?_⟩⟩, fun heq => ⟨fun _ h' => absurd h' (by decide), fun han => ?_⟩⟩⟩
     · refine stay fun hup => ?_
       rw [hup] at hb; simp at hb
     · refine stay fun _ => ⟨fun _ => ?_, fun i hi hyi => ?_⟩
       · rw [bitAt hy'.1 hy'.2 (by omega), ← up_of hy] at hba
         cases e : up l j k with
         | false => rfl
         | true => rw [e] at hba; simp at hba
       · rw [bits_and hy'.1 hy'.2 hm0.1 hm0.2] at han
         have hand := and_lt (a := y.toNat) (b := mask.toNat) (by omega)
         have := (bits_andNot (by omega) (by omega) hx'.1 hx'.2).1 han i (by
          rw [Int.toNat_natCast, Nat.testBit_and, hmask, ← up_of hy, hyi]; simp [hi])
         rw [up_of hx]; exact this
     · refine stay fun _ => ⟨fun hne => absurd (by omega) hne, fun i hi hyi => ?_⟩
       rw [bits_and hy'.1 hy'.2 hm0.1 hm0.2] at han
       have hand := and_lt (a := y.toNat) (b := mask.toNat) (by omega)
       have := (bits_andNot (by omega) (by omega) hx'.1 hx'.2).1 han i (by
        rw [Int.toNat_natCast, Nat.testBit_and, hmask, ← up_of hy, hyi]; simp [hi])
       rw [up_of hx]; exact this
   · exact fin fun b hb => hr b (by omega)
 · -- the end
   have hk' : k = l.Names.length := by omega
   subst hk'
   have good : LatOK l := ⟨p1, p8, hlen', hu, hself, hrow⟩
   rw [tot_bind]
   refine (of_total l hu p8 (by omega)).mono fun o ho => ?_
   obtain ⟨_, o1, o2, o3, o4⟩ := ho
   rw [tot_bind]
   refine Tot.count l.Names.length (fun j s => s = (j : Int)) ?_ rfl
   rintro j _ hj rfl
   simp only [tot_cond, tot_some, tot_let, tot_bind, Sum.elim_inl, Sum.elim_inr, decide_eq_true_eq, decide_eq_false_iff_not]
   refine ⟨fun hlt => ?_, fun _ _ => good⟩
   refine Tot.count l.Names.length (fun i s => s = (i : Int)) ?_ rfl
   rintro i _ hi rfl
   simp only [tot_cond, tot_some, tot_let, tot_bind, Sum.elim_inl, Sum.elim_inr, decide_eq_true_eq, decide_eq_false_iff_not]
   refine ⟨fun hlt' => ?_, fun _ => ?_⟩
   · refine (bound_ups_total _ _ _ _ o1 o3 p8 (by omega) (by omega)).mono fun b1 _ => ⟨fun _ h' => absurd h' (by decide), fun _ => ?_⟩
     refine (bound_downs_total _ _ _ _ o2 o4 p8 (by omega) (by omega)).mono fun b2 _ => ⟨fun _ h' => absurd h' (by decide), fun _ => ?_⟩
     rw [w64 (by omega) (by omega)]
     exact ⟨by omega, by omega⟩
   · rw [w64 (by omega) (by omega)]
     exact ⟨by omega, by omega⟩
end Go.Sx.O
namespace Go.Sx.O
open Go
structure LatIn (l : TL) : Prop where
 u8 : U8s l.Up
 names : l.Names.length ≤ 20
 name : ∀ s ∈ l.Names, s.length ≤ 1000
noncomputable def latR (l : TL) : Int × Int := (Fz38 l).getD (0, 0)
theorem Check_eq {l : TL} (h : LatIn l) : Fz38 l = some (latR l) := by
 obtain ⟨r, e, _⟩ := Check_lat l h.u8 h.names h.name
 unfold latR; rw [e]; rfl
theorem lat_ok {l : TL} (h : LatIn l) (k : (latR l).2 = 0) : LatOK l := by
 obtain ⟨r, e, q⟩ := Check_lat l h.u8 h.names h.name
 have := Check_eq h
 rw [e] at this; cases this
 exact q k
def isLab (l : TL) (a : Int) : Bool := decide (0 ≤ a) && decide (a < (l.Names.length : Int))
noncomputable def askE (l : TL) (xs : List Int) : Int := if (latR l).2 = 0 then (if xs.all (isLab l) then 0 else 7) else (latR l).2
theorem lasked_spec {l : TL} (h : LatIn l) (xs : List Int) (hx : xs.length ≤ 1000000000) : Fz39 l xs = some (askE l xs) := by
 unfold Fz39 askE
 rw [Check_eq h]
 simp only [Option.bind_some]
 by_cases h0 : (latR l).2 = 0
 · simp only [h0, decide_true, Bool.not_true, cond_false, if_true]
   apply Tot.eq
   simp only [tot_bind, List.length_map]
   refine Tot.count xs.length (fun k s => s = (k : Int) ∧ (xs.take k).all (isLab l) = true) ?_ ⟨rfl, by simp⟩
   rintro k _ hk ⟨rfl, hall⟩
   simp only [tot_cond, tot_some, tot_let, tot_idx, Sum.elim_inl, Sum.elim_inr, decide_eq_true_eq, decide_eq_false_iff_not, Int.toNat_natCast]
   refine ⟨fun hlt => ?_, fun hlt => ?_⟩
   · obtain ⟨x, hx'⟩ := get_lt (l := xs) (i := k) (by omega)
     have hm := List.mem_of_getElem? hx'
     have bad : isLab l x = false → (7 : Int) = if xs.all (isLab l) = true then 0 else 7 := by
      intro e
      have : xs.all (isLab l) = false := by
       rw [List.all_eq_false]; exact ⟨x, hm, by simp [e]⟩
      simp [this]
     refine ⟨by omega, x, hx', fun g => bad (by unfold isLab; simp; omega), fun g1 => ⟨fun g => bad (by unfold isLab; simp; omega), fun g2 => ?_⟩⟩
     rw [w64 (by omega) (by omega)]
     refine ⟨by omega, by omega, ?_⟩
     rw [List.take_add_one, hx', List.all_append, hall]
     simp [isLab]; omega
   · rw [List.take_of_length_le (by omega)] at hall
     simp [hall]
 · simp only [h0, decide_false, Bool.not_false, cond_true, if_false]
noncomputable def sees (l : TL) (a o : Int) : Bool := decide ((latR l).2 = 0) && isLab l a && isLab l o && up l a.toNat o.toNat
end Go.Sx.O
namespace Go.Sx.O
open Go
end Go.Sx.O
namespace Go.Sx.O
open Go
end Go.Sx.O
