/-
  THE PLAIN STRUCT TYPES, and their symbolic values. Printed by a program. An own text.
  WHAT THE LIBRARY's BODILESS FUNCTIONS RETURN. An own text.
  DATA AS THEY COME: numbers in their kinds' ranges. Printed by a program. An own text.
  PLAIN FUNCTIONS: what the program computes. Printed by a program. An own text.
  PLAIN LAWS of the library's functions and of words, lattice. An own text.
  PLAIN LAWS: slices.Index, strings.Trim, words.Name. An own text.
  PLAIN LAWS: strings.Trim over ASCII, words.Name. An own text.
  PLAIN LAWS: bits; lattice.named, .of, .bound. An own text.
  PLAIN LAWS: lattice.of, .bound, .Check, .Leq. An own text.
  PLAIN LAWS: lattice.Leq; what an observer sees. An own text.
  PLAIN LAWS: shapes, arrays; arrays and events that are the same. An own text.
  PLAIN LAWS: expr.Name returns. An own text.
  PLAIN LAWS: view. An own text.
  PLAIN LAWS: view's functions. An own text.
-/
import Derived.Test.YtcgehmlhafjfkaaGreatDoorA5
import Derived.Lib.Bytealg
namespace Go.Sx.O
structure Tlexer_reader where
  s_ : List UInt8
  at_ : Int
def enc_Tlexer_reader (x : Tlexer_reader) : SV := .agg [SV.str x.s_, (SV.int .i64) x.at_]
structure TLattice where
  Names : List (List UInt8)
  Up : List (Int)
def enc_TLattice (x : TLattice) : SV := .agg [(encSl 1 SV.str) x.Names, (encSl 1 (SV.int .u8)) x.Up]
structure TLxToken where
  Kind : Int
  From : Int
  To : Int
  N : Int
  S : List UInt8
def enc_TLxToken (x : TLxToken) : SV := .agg [(SV.int .i64) x.Kind, (SV.int .i64) x.From, (SV.int .i64) x.To, (SV.int .i64) x.N, SV.str x.S]
structure Tlattice_order where
  n_ : Int
  up_ : List (Int)
  down_ : List (Int)
def enc_Tlattice_order (x : Tlattice_order) : SV := .agg [(SV.int .i64) x.n_, (encA 8 1 (SV.int .u8)) x.up_, (encA 8 1 (SV.int .u8)) x.down_]
structure TArray where
  Kind : Int
  Rank : Int
  Lens : (Int) × (Int)
  Cells : List (Int)
def enc_TArray (x : TArray) : SV := .agg [(SV.int .i64) x.Kind, (SV.int .i64) x.Rank, (encA2 1 (SV.int .i64)) x.Lens, (encSl 1 (SV.int .i64)) x.Cells]
structure TWsVar where
  Name : List UInt8
  Value : TArray
def enc_TWsVar (x : TWsVar) : SV := .agg [SV.str x.Name, enc_TArray x.Value]
structure TReEntry where
  Site : Int
  Fold : Int
  From : Int
  Goal : Int
  Cells : Int
  Value : (Int) × (Int)
def enc_TReEntry (x : TReEntry) : SV := .agg [(SV.int .i64) x.Site, (SV.int .i64) x.Fold, (SV.int .i64) x.From, (SV.int .i64) x.Goal, (SV.int .i64) x.Cells, (encA2 1 (SV.int .i64)) x.Value]
structure TEvEvent where
  Kind : Int
  Site : Int
  Steps : Int
  Label : Int
  Channel : List UInt8
  Value : TArray
  E : Int
def enc_TEvEvent (x : TEvEvent) : SV := .agg [(SV.int .i64) x.Kind, (SV.int .i64) x.Site, (SV.int .i64) x.Steps, (SV.int .i64) x.Label, SV.str x.Channel, enc_TArray x.Value, (SV.int .i64) x.E]
structure TEvTrace where
  Events : List (TEvEvent)
  Log : List (TReEntry)
  Vars : List (TWsVar)
  Steps : Int
def enc_TEvTrace (x : TEvTrace) : SV := .agg [(encSl 11 enc_TEvEvent) x.Events, (encSl 7 enc_TReEntry) x.Log, (encSl 6 enc_TWsVar) x.Vars, (SV.int .i64) x.Steps]
end Go.Sx.O
namespace Go.Sx.O
noncomputable def F_internal_stringslite_IndexByte (a0 : List UInt8) (a1 : Int) : Option Int := some (Go.Lib.indexByte a0 a1.toNat.toUInt8)
end Go.Sx.O
namespace Go.Sx.O
open Go
def inK (k : IntKind) (n : Int) : Prop := k.min ≤ n ∧ n ≤ k.max
def allW {α : Type} (W : α → Prop) (l : List α) : Prop := ∀ x ∈ l, W x
def w2 {α : Type} (W : α → Prop) (p : α × α) : Prop := W p.1 ∧ W p.2
def w3 {α : Type} (W : α → Prop) (p : α × α × α) : Prop := W p.1 ∧ W p.2.1 ∧ W p.2.2
def wN {α : Type} (n : Nat) (W : α → Prop) (l : List α) : Prop := l.length = n ∧ ∀ x ∈ l, W x
structure W_Tlexer_reader (x : Tlexer_reader) : Prop where
  s_ : (fun _ => True) x.s_
  at_ : (inK .i64) x.at_
structure W_TLattice (x : TLattice) : Prop where
  Names : (allW (fun _ => True)) x.Names
  Up : (allW (inK .u8)) x.Up
structure W_TLxToken (x : TLxToken) : Prop where
  Kind : (inK .i64) x.Kind
  From : (inK .i64) x.From
  To : (inK .i64) x.To
  N : (inK .i64) x.N
  S : (fun _ => True) x.S
structure W_Tlattice_order (x : Tlattice_order) : Prop where
  n_ : (inK .i64) x.n_
  up_ : (wN 8 (inK .u8)) x.up_
  down_ : (wN 8 (inK .u8)) x.down_
structure W_TArray (x : TArray) : Prop where
  Kind : (inK .i64) x.Kind
  Rank : (inK .i64) x.Rank
  Lens : (w2 (inK .i64)) x.Lens
  Cells : (allW (inK .i64)) x.Cells
structure W_TWsVar (x : TWsVar) : Prop where
  Name : (fun _ => True) x.Name
  Value : W_TArray x.Value
structure W_TReEntry (x : TReEntry) : Prop where
  Site : (inK .i64) x.Site
  Fold : (inK .i64) x.Fold
  From : (inK .i64) x.From
  Goal : (inK .i64) x.Goal
  Cells : (inK .i64) x.Cells
  Value : (w2 (inK .i64)) x.Value
structure W_TEvEvent (x : TEvEvent) : Prop where
  Kind : (inK .i64) x.Kind
  Site : (inK .i64) x.Site
  Steps : (inK .i64) x.Steps
  Label : (inK .i64) x.Label
  Channel : (fun _ => True) x.Channel
  Value : W_TArray x.Value
  E : (inK .i64) x.E
structure W_TEvTrace (x : TEvTrace) : Prop where
  Events : (allW W_TEvEvent) x.Events
  Log : (allW W_TReEntry) x.Log
  Vars : (allW W_TWsVar) x.Vars
  Steps : (inK .i64) x.Steps
end Go.Sx.O
namespace Go.Sx.O
noncomputable def F_invigilatorlaw20_Large (a0 : TLattice) : Option (Bool) :=
 Option.bind (
  lpO (fun (s3 : Int) =>
  cond (decide (s3 < (↑(List.length (List.map SV.str a0.Names)) : Int)))
  (cond (decide (s3 < (30 : Int)))
  (idxO (a0.Names) (s3) fun x9 =>
  cond (decide ((50 : Int) < (↑(List.length x9) : Int)))
  (some (Sum.inr (Sum.inr (true))))
  (letO (IntKind.wrap IntKind.i64 (s3 + (1 : Int))) fun x11 =>
  some (Sum.inl (x11))))
  (some (Sum.inr (Sum.inl (())))))
  (some (Sum.inr (Sum.inl (()))))) ((0 : Int)))
  (Sum.elim (fun (s1 : Unit) =>
  cond (decide ((20 : Int) < (↑(List.length (List.map SV.str a0.Names)) : Int)))
  (some (true))
  (some (decide ((20 : Int) < (↑(List.length (List.map (SV.int IntKind.u8) a0.Up)) : Int))))) some)
noncomputable def F_invigilatorlaw31_far (a0 : TEvTrace) : Option (Bool) :=
 Option.bind (
  lpO (fun (s17 : Int) =>
  cond (decide (s17 < (↑(List.length (List.map enc_TEvEvent a0.Events)) : Int)))
  (cond (decide (s17 < (70 : Int)))
  (idxO (a0.Events) (s17) fun x25 =>
  cond (decide ((100 : Int) < (↑(List.length x25.Channel) : Int)))
  (some (Sum.inr (Sum.inr (true))))
  (idxO (a0.Events) (s17) fun x27 =>
  cond (decide ((450 : Int) < (↑(List.length (List.map (SV.int IntKind.i64) x27.Value.Cells)) : Int)))
  (some (Sum.inr (Sum.inr (true))))
  (letO (IntKind.wrap IntKind.i64 (s17 + (1 : Int))) fun x29 =>
  some (Sum.inl (x29)))))
  (some (Sum.inr (Sum.inl (())))))
  (some (Sum.inr (Sum.inl (()))))) ((0 : Int)))
  (Sum.elim (fun (s15 : Unit) =>
  cond (decide ((60 : Int) < (↑(List.length (List.map enc_TEvEvent a0.Events)) : Int)))
  (some (true))
  (some (decide ((60 : Int) < (↑(List.length (List.map enc_TReEntry a0.Log)) : Int))))) some)
noncomputable def F_strings_trimRightByte (a0 : List UInt8) (a1 : Int) : Option (List UInt8) :=
 Option.bind (
  lpO (fun (s57 : List UInt8) =>
  cond (decide ((0 : Int) < (↑(List.length s57) : Int)))
  (letO (IntKind.wrap IntKind.i64 ((↑(List.length s57) : Int) - (1 : Int))) fun x64 =>
  idxO (s57) (x64) fun x65 =>
  cond (decide ((↑(UInt8.toNat x65) : Int) = a1))
  (letO (IntKind.wrap IntKind.i64 ((↑(List.length s57) : Int) - (1 : Int))) fun x67 =>
  sideO ((0 : Int) ≤ x67 ∧ x67 ≤ (↑(List.length s57) : Int)) (
  some (Sum.inl (List.drop (Int.toNat (0 : Int)) (List.take (Int.toNat x67) s57)))))
  (some (Sum.inr (Sum.inl (s57)))))
  (some (Sum.inr (Sum.inl (s57))))) (a0))
  (Sum.elim (fun (s55 : List UInt8) =>
  some (s55)) some)
noncomputable def F_strings_trimLeftByte (a0 : List UInt8) (a1 : Int) : Option (List UInt8) :=
 Option.bind (
  lpO (fun (s72 : List UInt8) =>
  cond (decide ((0 : Int) < (↑(List.length s72) : Int)))
  (idxO (s72) ((0 : Int)) fun x77 =>
  cond (decide ((↑(UInt8.toNat x77) : Int) = a1))
  (sideO ((0 : Int) ≤ (1 : Int) ∧ (1 : Int) ≤ (↑(List.length s72) : Int)) (
  some (Sum.inl (List.drop (Int.toNat (1 : Int)) (List.take (Int.toNat (↑(List.length s72) : Int)) s72)))))
  (some (Sum.inr (Sum.inl (s72)))))
  (some (Sum.inr (Sum.inl (s72))))) (a0))
  (Sum.elim (fun (s70 : List UInt8) =>
  some (s70)) some)
noncomputable def F_strings_makeASCIISet (a0 : List UInt8) : Option (List Bool × Bool) :=
 Option.bind (
  lpO (fun (s82 : Int × List Bool) =>
  cond (decide (s82.fst < (↑(List.length a0) : Int)))
  (idxO (a0) (s82.fst) fun x88 =>
  cond (decide ((128 : Int) ≤ (↑(UInt8.toNat x88) : Int)))
  (some (Sum.inr (Sum.inr ((s82.snd, false)))))
  (sideO ((0 : Int) ≤ (↑(UInt8.toNat x88) : Int) ∧ (↑(UInt8.toNat x88) : Int) < (↑(256 : Nat) : Int)) (
  idxO (s82.snd) ((↑(Int.toNat (↑(UInt8.toNat x88) : Int)) : Int)) fun x90 =>
  letO (IntKind.wrap IntKind.i64 (s82.fst + (1 : Int))) fun x91 =>
  some (Sum.inl ((x91, List.set s82.snd (Int.toNat (↑(UInt8.toNat x88) : Int)) true))))))
  (some (Sum.inr (Sum.inl (s82.snd))))) (((0 : Int), List.replicate (256 : Nat) false)))
  (Sum.elim (fun (s80 : List Bool) =>
  some ((s80, true))) some)
noncomputable def F__Pstrings_asciiSet__contains (a0 : List Bool) (a1 : Int) : Option (Bool) :=
 sideO ((0 : Int) ≤ a1 ∧ a1 < (↑(256 : Nat) : Int)) (
  idxO (a0) ((↑(Int.toNat a1) : Int)) fun x99 =>
  some (x99))
noncomputable def F_strings_trimRightASCII (a0 : List UInt8) (a1 : List Bool) : Option (List UInt8) :=
 Option.bind (
  lpO (fun (s96 : List UInt8) =>
  cond (decide ((0 : Int) < (↑(List.length s96) : Int)))
  (letO (IntKind.wrap IntKind.i64 ((↑(List.length s96) : Int) - (1 : Int))) fun x104 =>
  idxO (s96) (x104) fun x105 =>
  Option.bind (F__Pstrings_asciiSet__contains (a1) ((↑(UInt8.toNat x105) : Int))) fun x106 =>
  cond (!x106)
  (some (Sum.inr (Sum.inl (s96))))
  (letO (IntKind.wrap IntKind.i64 ((↑(List.length s96) : Int) - (1 : Int))) fun x108 =>
  sideO ((0 : Int) ≤ x108 ∧ x108 ≤ (↑(List.length s96) : Int)) (
  some (Sum.inl (List.drop (Int.toNat (0 : Int)) (List.take (Int.toNat x108) s96))))))
  (some (Sum.inr (Sum.inl (s96))))) (a0))
  (Sum.elim (fun (s94 : List UInt8) =>
  some (s94)) some)
noncomputable def F_strings_trimLeftASCII (a0 : List UInt8) (a1 : List Bool) : Option (List UInt8) :=
 Option.bind (
  lpO (fun (s112 : List UInt8) =>
  cond (decide ((0 : Int) < (↑(List.length s112) : Int)))
  (idxO (s112) ((0 : Int)) fun x118 =>
  Option.bind (F__Pstrings_asciiSet__contains (a1) ((↑(UInt8.toNat x118) : Int))) fun x119 =>
  cond (!x119)
  (some (Sum.inr (Sum.inl (s112))))
  (sideO ((0 : Int) ≤ (1 : Int) ∧ (1 : Int) ≤ (↑(List.length s112) : Int)) (
  some (Sum.inl (List.drop (Int.toNat (1 : Int)) (List.take (Int.toNat (↑(List.length s112) : Int)) s112))))))
  (some (Sum.inr (Sum.inl (s112))))) (a0))
  (Sum.elim (fun (s110 : List UInt8) =>
  some (s110)) some)
noncomputable def F_unicode_utf8_RuneStart (a0 : Int) : Option (Bool) :=
 some (!decide (bits BinOp.and IntKind.u8 a0 (192 : Int) = (128 : Int)))
noncomputable def F_unicode_utf8_decodeRuneInStringSlow (a0 : List UInt8) : Option (Int × Int) :=
 cond (decide ((↑(List.length a0) : Int) < (1 : Int)))
  (some (((65533 : Int), (0 : Int))))
  (idxO (a0) ((0 : Int)) fun x156 =>
  none)
noncomputable def F_unicode_utf8_DecodeRuneInString (a0 : List UInt8) : Option (Int × Int) :=
 cond (!decide (a0 = (ByteArray.mk #[]).data.toList))
  (idxO (a0) ((0 : Int)) fun x151 =>
  cond (decide ((↑(UInt8.toNat x151) : Int) < (128 : Int)))
  (idxO (a0) ((0 : Int)) fun x153 =>
  letO (IntKind.wrap IntKind.i32 (↑(UInt8.toNat x153) : Int)) fun x154 =>
  some ((x154, (1 : Int))))
  (Option.bind (F_unicode_utf8_decodeRuneInStringSlow (a0)) fun x157 =>
  some (x157)))
  (Option.bind (F_unicode_utf8_decodeRuneInStringSlow (a0)) fun x158 =>
  some (x158))
noncomputable def F_unicode_utf8_DecodeLastRuneInString (a0 : List UInt8) : Option (Int × Int) :=
 cond (decide ((↑(List.length a0) : Int) = (0 : Int)))
  (some (((65533 : Int), (0 : Int))))
  (letO (IntKind.wrap IntKind.i64 ((↑(List.length a0) : Int) - (1 : Int))) fun x130 =>
  idxO (a0) (x130) fun x131 =>
  letO (IntKind.wrap IntKind.i32 (↑(UInt8.toNat x131) : Int)) fun x132 =>
  cond (decide (x132 < (128 : Int)))
  (some ((x132, (1 : Int))))
  (letO (IntKind.wrap IntKind.i64 ((↑(List.length a0) : Int) - (4 : Int))) fun x134 =>
  letO (IntKind.wrap IntKind.i64 (x130 - (1 : Int))) fun x135 =>
  Option.bind (
  lpO (fun (s138 : Int) =>
  cond (decide (max x134 (0 : Int) ≤ s138))
  (idxO (a0) (s138) fun x145 =>
  Option.bind (F_unicode_utf8_RuneStart ((↑(UInt8.toNat x145) : Int))) fun x146 =>
  cond (x146)
  (some (Sum.inr (Sum.inl (s138))))
  (letO (IntKind.wrap IntKind.i64 (s138 - (1 : Int))) fun x148 =>
  some (Sum.inl (x148))))
  (some (Sum.inr (Sum.inl (s138))))) (x135))
  (Sum.elim (fun (s136 : Int) =>
  cond (decide (s136 < (0 : Int)))
  (sideO ((0 : Int) ≤ (0 : Int) ∧ (0 : Int) ≤ (↑(List.length a0) : Int) ∧ (↑(List.length a0) : Int) ≤ (↑(List.length a0) : Int)) (
  Option.bind (F_unicode_utf8_DecodeRuneInString (List.drop (Int.toNat (0 : Int)) (List.take (Int.toNat (↑(List.length a0) : Int)) a0))) fun x159 =>
  letO (IntKind.wrap IntKind.i64 ((0 : Int) + x159.snd)) fun x160 =>
  cond (!decide (x160 = (↑(List.length a0) : Int)))
  (some (((65533 : Int), (1 : Int))))
  (some (x159))))
  (sideO ((0 : Int) ≤ s136 ∧ s136 ≤ (↑(List.length a0) : Int) ∧ (↑(List.length a0) : Int) ≤ (↑(List.length a0) : Int)) (
  Option.bind (F_unicode_utf8_DecodeRuneInString (List.drop (Int.toNat s136) (List.take (Int.toNat (↑(List.length a0) : Int)) a0))) fun x162 =>
  letO (IntKind.wrap IntKind.i64 (s136 + x162.snd)) fun x163 =>
  cond (!decide (x163 = (↑(List.length a0) : Int)))
  (some (((65533 : Int), (1 : Int))))
  (some (x162))))) some)))
noncomputable def F_strings_IndexByte (a0 : List UInt8) (a1 : Int) : Option (Int) :=
 Option.bind (F_internal_stringslite_IndexByte (a0) (a1)) fun x169 =>
  some (x169)
noncomputable def F_unicode_utf8_ValidRune (a0 : Int) : Option (Bool) :=
 cond (decide ((0 : Int) ≤ a0))
  (cond (decide (a0 < (55296 : Int)))
  (some (true))
  (cond (decide ((57343 : Int) < a0))
  (cond (decide (a0 ≤ (1114111 : Int)))
  (some (true))
  (some (false)))
  (some (false))))
  (cond (decide ((57343 : Int) < a0))
  (cond (decide (a0 ≤ (1114111 : Int)))
  (some (true))
  (some (false)))
  (some (false)))
noncomputable def F_strings_IndexRune (a0 : List UInt8) (a1 : Int) : Option (Int) :=
 cond (decide ((0 : Int) ≤ a1))
  (cond (decide (a1 < (128 : Int)))
  (letO (IntKind.wrap IntKind.u8 a1) fun x168 =>
  Option.bind (F_strings_IndexByte (a0) (x168)) fun x170 =>
  some (x170))
  (cond (decide (a1 = (65533 : Int)))
  (none)
  (Option.bind (F_unicode_utf8_ValidRune (a1)) fun x178 =>
  cond (!x178)
  (some ((-1 : Int)))
  (letO (IntKind.wrap IntKind.i64 ((↑(List.length (Utf8.encode a1).data.toList) : Int) - (1 : Int))) fun x180 =>
  Option.bind (
  lpO (fun (s183 : Unit) =>
  cond (decide (x180 < (↑(List.length a0) : Int)))
  (idxO (a0) (x180) fun x185 =>
  idxO ((Utf8.encode a1).data.toList) (x180) fun x186 =>
  cond (!decide ((↑(UInt8.toNat x185) : Int) = (↑(UInt8.toNat x186) : Int)))
  (letO (IntKind.wrap IntKind.i64 (x180 + (1 : Int))) fun x188 =>
  sideO ((0 : Int) ≤ x188 ∧ x188 ≤ (↑(List.length a0) : Int)) (
  idxO ((Utf8.encode a1).data.toList) (x180) fun x189 =>
  Option.bind (F_strings_IndexByte (List.drop (Int.toNat x188) (List.take (Int.toNat (↑(List.length a0) : Int)) a0)) ((↑(UInt8.toNat x189) : Int))) fun x190 =>
  cond (decide (x190 < (0 : Int)))
  (some (Sum.inr (Sum.inr ((-1 : Int)))))
  (letO (IntKind.wrap IntKind.i64 (x190 + (1 : Int))) fun x192 =>
  letO (IntKind.wrap IntKind.i64 (x180 + x192)) fun x193 =>
  Option.bind (
  lpO (fun (s196 : Int) =>
  cond (decide (s196 < (↑(List.length (Utf8.encode a1).data.toList) : Int)))
  (letO (IntKind.wrap IntKind.i64 (x193 - s196)) fun x204 =>
  idxO (a0) (x204) fun x205 =>
  letO (IntKind.wrap IntKind.i64 (x180 - s196)) fun x206 =>
  idxO ((Utf8.encode a1).data.toList) (x206) fun x207 =>
  cond (!decide ((↑(UInt8.toNat x205) : Int) = (↑(UInt8.toNat x207) : Int)))
  (none)
  (letO (IntKind.wrap IntKind.i64 (s196 + (1 : Int))) fun x209 =>
  some (Sum.inl (x209))))
  (some (Sum.inr (Sum.inl (()))))) ((1 : Int)))
  (Sum.elim (fun (s194 : Unit) =>
  letO (IntKind.wrap IntKind.i64 (x193 - x180)) fun x210 =>
  some (Sum.inr (Sum.inr (x210)))) some))))
  (Option.bind (
  lpO (fun (s213 : Int) =>
  cond (decide (s213 < (↑(List.length (Utf8.encode a1).data.toList) : Int)))
  (letO (IntKind.wrap IntKind.i64 (x180 - s213)) fun x221 =>
  idxO (a0) (x221) fun x222 =>
  letO (IntKind.wrap IntKind.i64 (x180 - s213)) fun x223 =>
  idxO ((Utf8.encode a1).data.toList) (x223) fun x224 =>
  cond (!decide ((↑(UInt8.toNat x222) : Int) = (↑(UInt8.toNat x224) : Int)))
  (none)
  (letO (IntKind.wrap IntKind.i64 (s213 + (1 : Int))) fun x226 =>
  some (Sum.inl (x226))))
  (some (Sum.inr (Sum.inl (()))))) ((1 : Int)))
  (Sum.elim (fun (s211 : Unit) =>
  letO (IntKind.wrap IntKind.i64 (x180 - x180)) fun x227 =>
  some (Sum.inr (Sum.inr (x227)))) some)))
  (some (Sum.inr (Sum.inl (()))))) (()))
  (Sum.elim (fun (s181 : Unit) =>
  some ((-1 : Int))) some)))))
  (cond (decide (a1 = (65533 : Int)))
  (none)
  (Option.bind (F_unicode_utf8_ValidRune (a1)) fun x229 =>
  cond (!x229)
  (some ((-1 : Int)))
  (letO (IntKind.wrap IntKind.i64 ((↑(List.length (Utf8.encode a1).data.toList) : Int) - (1 : Int))) fun x231 =>
  Option.bind (
  lpO (fun (s234 : Unit) =>
  cond (decide (x231 < (↑(List.length a0) : Int)))
  (idxO (a0) (x231) fun x236 =>
  idxO ((Utf8.encode a1).data.toList) (x231) fun x237 =>
  cond (!decide ((↑(UInt8.toNat x236) : Int) = (↑(UInt8.toNat x237) : Int)))
  (letO (IntKind.wrap IntKind.i64 (x231 + (1 : Int))) fun x239 =>
  sideO ((0 : Int) ≤ x239 ∧ x239 ≤ (↑(List.length a0) : Int)) (
  idxO ((Utf8.encode a1).data.toList) (x231) fun x240 =>
  Option.bind (F_strings_IndexByte (List.drop (Int.toNat x239) (List.take (Int.toNat (↑(List.length a0) : Int)) a0)) ((↑(UInt8.toNat x240) : Int))) fun x241 =>
  cond (decide (x241 < (0 : Int)))
  (some (Sum.inr (Sum.inr ((-1 : Int)))))
  (letO (IntKind.wrap IntKind.i64 (x241 + (1 : Int))) fun x243 =>
  letO (IntKind.wrap IntKind.i64 (x231 + x243)) fun x244 =>
  Option.bind (
  lpO (fun (s247 : Int) =>
  cond (decide (s247 < (↑(List.length (Utf8.encode a1).data.toList) : Int)))
  (letO (IntKind.wrap IntKind.i64 (x244 - s247)) fun x255 =>
  idxO (a0) (x255) fun x256 =>
  letO (IntKind.wrap IntKind.i64 (x231 - s247)) fun x257 =>
  idxO ((Utf8.encode a1).data.toList) (x257) fun x258 =>
  cond (!decide ((↑(UInt8.toNat x256) : Int) = (↑(UInt8.toNat x258) : Int)))
  (none)
  (letO (IntKind.wrap IntKind.i64 (s247 + (1 : Int))) fun x260 =>
  some (Sum.inl (x260))))
  (some (Sum.inr (Sum.inl (()))))) ((1 : Int)))
  (Sum.elim (fun (s245 : Unit) =>
  letO (IntKind.wrap IntKind.i64 (x244 - x231)) fun x261 =>
  some (Sum.inr (Sum.inr (x261)))) some))))
  (Option.bind (
  lpO (fun (s264 : Int) =>
  cond (decide (s264 < (↑(List.length (Utf8.encode a1).data.toList) : Int)))
  (letO (IntKind.wrap IntKind.i64 (x231 - s264)) fun x272 =>
  idxO (a0) (x272) fun x273 =>
  letO (IntKind.wrap IntKind.i64 (x231 - s264)) fun x274 =>
  idxO ((Utf8.encode a1).data.toList) (x274) fun x275 =>
  cond (!decide ((↑(UInt8.toNat x273) : Int) = (↑(UInt8.toNat x275) : Int)))
  (none)
  (letO (IntKind.wrap IntKind.i64 (s264 + (1 : Int))) fun x277 =>
  some (Sum.inl (x277))))
  (some (Sum.inr (Sum.inl (()))))) ((1 : Int)))
  (Sum.elim (fun (s262 : Unit) =>
  letO (IntKind.wrap IntKind.i64 (x231 - x231)) fun x278 =>
  some (Sum.inr (Sum.inr (x278)))) some)))
  (some (Sum.inr (Sum.inl (()))))) (()))
  (Sum.elim (fun (s232 : Unit) =>
  some ((-1 : Int))) some))))
noncomputable def F_strings_ContainsRune (a0 : List UInt8) (a1 : Int) : Option (Bool) :=
 Option.bind (F_strings_IndexRune (a0) (a1)) fun x279 =>
  some (decide ((0 : Int) ≤ x279))
noncomputable def F_strings_trimRightUnicode (a0 : List UInt8) (a1 : List UInt8) : Option (List UInt8) :=
 Option.bind (
  lpO (fun (s124 : List UInt8) =>
  cond (decide ((0 : Int) < (↑(List.length s124) : Int)))
  (letO (IntKind.wrap IntKind.i64 ((↑(List.length s124) : Int) - (1 : Int))) fun x138 =>
  idxO (s124) (x138) fun x139 =>
  letO (IntKind.wrap IntKind.i32 (↑(UInt8.toNat x139) : Int)) fun x140 =>
  cond (decide ((128 : Int) ≤ x140))
  (Option.bind (F_unicode_utf8_DecodeLastRuneInString (s124)) fun x142 =>
  Option.bind (F_strings_ContainsRune (a1) (x142.fst)) fun x143 =>
  cond (!x143)
  (some (Sum.inr (Sum.inl (s124))))
  (letO (IntKind.wrap IntKind.i64 ((↑(List.length s124) : Int) - x142.snd)) fun x145 =>
  sideO ((0 : Int) ≤ x145 ∧ x145 ≤ (↑(List.length s124) : Int)) (
  some (Sum.inl (List.drop (Int.toNat (0 : Int)) (List.take (Int.toNat x145) s124))))))
  (Option.bind (F_strings_ContainsRune (a1) (x140)) fun x146 =>
  cond (!x146)
  (some (Sum.inr (Sum.inl (s124))))
  (letO (IntKind.wrap IntKind.i64 ((↑(List.length s124) : Int) - (1 : Int))) fun x148 =>
  sideO ((0 : Int) ≤ x148 ∧ x148 ≤ (↑(List.length s124) : Int)) (
  some (Sum.inl (List.drop (Int.toNat (0 : Int)) (List.take (Int.toNat x148) s124)))))))
  (some (Sum.inr (Sum.inl (s124))))) (a0))
  (Sum.elim (fun (s122 : List UInt8) =>
  some (s122)) some)
noncomputable def F_strings_trimLeftUnicode (a0 : List UInt8) (a1 : List UInt8) : Option (List UInt8) :=
 Option.bind (
  lpO (fun (s152 : List UInt8) =>
  cond (decide ((0 : Int) < (↑(List.length s152) : Int)))
  (Option.bind (F_unicode_utf8_DecodeRuneInString (s152)) fun x158 =>
  Option.bind (F_strings_ContainsRune (a1) (x158.fst)) fun x159 =>
  cond (!x159)
  (some (Sum.inr (Sum.inl (s152))))
  (sideO ((0 : Int) ≤ x158.snd ∧ x158.snd ≤ (↑(List.length s152) : Int)) (
  some (Sum.inl (List.drop (Int.toNat x158.snd) (List.take (Int.toNat (↑(List.length s152) : Int)) s152))))))
  (some (Sum.inr (Sum.inl (s152))))) (a0))
  (Sum.elim (fun (s150 : List UInt8) =>
  some (s150)) some)
noncomputable def F_strings_Trim (a0 : List UInt8) (a1 : List UInt8) : Option (List UInt8) :=
 cond (decide (a0 = (ByteArray.mk #[]).data.toList))
  (some (a0))
  (cond (decide (a1 = (ByteArray.mk #[]).data.toList))
  (some (a0))
  (cond (decide ((↑(List.length a1) : Int) = (1 : Int)))
  (idxO (a1) ((0 : Int)) fun x52 =>
  cond (decide ((↑(UInt8.toNat x52) : Int) < (128 : Int)))
  (idxO (a1) ((0 : Int)) fun x54 =>
  Option.bind (F_strings_trimRightByte (a0) ((↑(UInt8.toNat x54) : Int))) fun x68 =>
  idxO (a1) ((0 : Int)) fun x69 =>
  Option.bind (F_strings_trimLeftByte (x68) ((↑(UInt8.toNat x69) : Int))) fun x79 =>
  some (x79))
  (Option.bind (F_strings_makeASCIISet (a1)) fun x92 =>
  cond (x92.snd)
  (Option.bind (F_strings_trimRightASCII (a0) (x92.fst)) fun x109 =>
  Option.bind (F_strings_trimLeftASCII (x109) (x92.fst)) fun x121 =>
  some (x121))
  (Option.bind (F_strings_trimRightUnicode (a0) (a1)) fun x149 =>
  Option.bind (F_strings_trimLeftUnicode (x149) (a1)) fun x161 =>
  some (x161))))
  (Option.bind (F_strings_makeASCIISet (a1)) fun x162 =>
  cond (x162.snd)
  (Option.bind (F_strings_trimRightASCII (a0) (x162.fst)) fun x164 =>
  Option.bind (F_strings_trimLeftASCII (x164) (x162.fst)) fun x165 =>
  some (x165))
  (Option.bind (F_strings_trimRightUnicode (a0) (a1)) fun x166 =>
  Option.bind (F_strings_trimLeftUnicode (x166) (a1)) fun x167 =>
  some (x167)))))
noncomputable def F_words_Name (a0 : List UInt8) : Option (Bool) :=
 cond (decide (a0 = (ByteArray.mk #[]).data.toList))
  (some (false))
  (cond (decide ((16 : Int) < (↑(List.length a0) : Int)))
  (some (false))
  (idxO (a0) ((0 : Int)) fun x45 =>
  cond (decide ((↑(UInt8.toNat x45) : Int) < (97 : Int)))
  (some (false))
  (idxO (a0) ((0 : Int)) fun x47 =>
  cond (decide ((122 : Int) < (↑(UInt8.toNat x47) : Int)))
  (some (false))
  (Option.bind (F_strings_Trim (a0) ((ByteArray.mk #[(97 : UInt8), (98 : UInt8), (99 : UInt8), (100 : UInt8), (101 : UInt8), (102 : UInt8), (103 : UInt8), (104 : UInt8), (105 : UInt8), (106 : UInt8), (107 : UInt8), (108 : UInt8), (109 : UInt8), (110 : UInt8), (111 : UInt8), (112 : UInt8), (113 : UInt8), (114 : UInt8), (115 : UInt8), (116 : UInt8), (117 : UInt8), (118 : UInt8), (119 : UInt8), (120 : UInt8), (121 : UInt8), (122 : UInt8), (48 : UInt8), (49 : UInt8), (50 : UInt8), (51 : UInt8), (52 : UInt8), (53 : UInt8), (54 : UInt8), (55 : UInt8), (56 : UInt8), (57 : UInt8), (45 : UInt8)]).data.toList)) fun x168 =>
  some (decide (x168 = (ByteArray.mk #[]).data.toList))))))
noncomputable def F_slices_Index___string_string_ (a0 : List (List UInt8)) (a1 : List UInt8) : Option (Int) :=
 Option.bind (
  lpO (fun (s173 : Int) =>
  cond (decide (s173 < (↑(List.length (List.map SV.str a0)) : Int)))
  (idxO (a0) (s173) fun x178 =>
  cond (decide (a1 = x178))
  (some (Sum.inr (Sum.inr (s173))))
  (letO (IntKind.wrap IntKind.i64 (s173 + (1 : Int))) fun x180 =>
  some (Sum.inl (x180))))
  (some (Sum.inr (Sum.inl (()))))) ((0 : Int)))
  (Sum.elim (fun (s171 : Unit) =>
  some ((-1 : Int))) some)
noncomputable def F_slices_Contains___string_string_ (a0 : List (List UInt8)) (a1 : List UInt8) : Option (Bool) :=
 Option.bind (F_slices_Index___string_string_ (a0) (a1)) fun x181 =>
  some (decide ((0 : Int) ≤ x181))
noncomputable def F_lattice_named (a0 : List (List UInt8)) : Option (Int × Int) :=
 cond (decide ((↑(List.length (List.map SV.str a0)) : Int) < (1 : Int)))
  (some (((-1 : Int), (3 : Int))))
  (cond (decide ((8 : Int) < (↑(List.length (List.map SV.str a0)) : Int)))
  (some (((-1 : Int), (3 : Int))))
  (Option.bind (
  lpO (fun (s41 : Int) =>
  cond (decide (s41 < (↑(List.length (List.map SV.str a0)) : Int)))
  (idxO (a0) (s41) fun x49 =>
  Option.bind (F_words_Name (x49)) fun x50 =>
  cond (!x50)
  (some (Sum.inr (Sum.inr ((s41, (6 : Int))))))
  (sideO ((0 : Int) ≤ s41 ∧ s41 ≤ (↑(List.length (List.map SV.str a0)) : Int)) (
  Option.bind (F_slices_Contains___string_string_ (List.drop (Int.toNat (0 : Int)) (List.take (Int.toNat s41) a0)) (x49)) fun x52 =>
  cond (x52)
  (some (Sum.inr (Sum.inr ((s41, (8 : Int))))))
  (letO (IntKind.wrap IntKind.i64 (s41 + (1 : Int))) fun x54 =>
  some (Sum.inl (x54))))))
  (some (Sum.inr (Sum.inl (()))))) ((0 : Int)))
  (Sum.elim (fun (s39 : Unit) =>
  some (((0 : Int), (0 : Int)))) some)))
noncomputable def F_math_bits_Len8 (a0 : Int) : Option (Int) :=
 idxO ((ByteArray.mk (List.toArray (List.append (List.append [(0 : UInt8), (1 : UInt8), (2 : UInt8), (2 : UInt8), (3 : UInt8), (3 : UInt8), (3 : UInt8), (3 : UInt8), (4 : UInt8), (4 : UInt8), (4 : UInt8), (4 : UInt8), (4 : UInt8), (4 : UInt8), (4 : UInt8), (4 : UInt8), (5 : UInt8), (5 : UInt8), (5 : UInt8), (5 : UInt8), (5 : UInt8), (5 : UInt8), (5 : UInt8), (5 : UInt8), (5 : UInt8), (5 : UInt8), (5 : UInt8), (5 : UInt8), (5 : UInt8), (5 : UInt8), (5 : UInt8), (5 : UInt8), (6 : UInt8), (6 : UInt8), (6 : UInt8), (6 : UInt8), (6 : UInt8), (6 : UInt8), (6 : UInt8), (6 : UInt8), (6 : UInt8), (6 : UInt8), (6 : UInt8), (6 : UInt8), (6 : UInt8), (6 : UInt8), (6 : UInt8), (6 : UInt8), (6 : UInt8), (6 : UInt8), (6 : UInt8), (6 : UInt8), (6 : UInt8), (6 : UInt8), (6 : UInt8), (6 : UInt8), (6 : UInt8), (6 : UInt8), (6 : UInt8), (6 : UInt8), (6 : UInt8), (6 : UInt8), (6 : UInt8), (6 : UInt8)] [(7 : UInt8), (7 : UInt8), (7 : UInt8), (7 : UInt8), (7 : UInt8), (7 : UInt8), (7 : UInt8), (7 : UInt8), (7 : UInt8), (7 : UInt8), (7 : UInt8), (7 : UInt8), (7 : UInt8), (7 : UInt8), (7 : UInt8), (7 : UInt8), (7 : UInt8), (7 : UInt8), (7 : UInt8), (7 : UInt8), (7 : UInt8), (7 : UInt8), (7 : UInt8), (7 : UInt8), (7 : UInt8), (7 : UInt8), (7 : UInt8), (7 : UInt8), (7 : UInt8), (7 : UInt8), (7 : UInt8), (7 : UInt8), (7 : UInt8), (7 : UInt8), (7 : UInt8), (7 : UInt8), (7 : UInt8), (7 : UInt8), (7 : UInt8), (7 : UInt8), (7 : UInt8), (7 : UInt8), (7 : UInt8), (7 : UInt8), (7 : UInt8), (7 : UInt8), (7 : UInt8), (7 : UInt8), (7 : UInt8), (7 : UInt8), (7 : UInt8), (7 : UInt8), (7 : UInt8), (7 : UInt8), (7 : UInt8), (7 : UInt8), (7 : UInt8), (7 : UInt8), (7 : UInt8), (7 : UInt8), (7 : UInt8), (7 : UInt8), (7 : UInt8), (7 : UInt8)]) (List.append [(8 : UInt8), (8 : UInt8), (8 : UInt8), (8 : UInt8), (8 : UInt8), (8 : UInt8), (8 : UInt8), (8 : UInt8), (8 : UInt8), (8 : UInt8), (8 : UInt8), (8 : UInt8), (8 : UInt8), (8 : UInt8), (8 : UInt8), (8 : UInt8), (8 : UInt8), (8 : UInt8), (8 : UInt8), (8 : UInt8), (8 : UInt8), (8 : UInt8), (8 : UInt8), (8 : UInt8), (8 : UInt8), (8 : UInt8), (8 : UInt8), (8 : UInt8), (8 : UInt8), (8 : UInt8), (8 : UInt8), (8 : UInt8), (8 : UInt8), (8 : UInt8), (8 : UInt8), (8 : UInt8), (8 : UInt8), (8 : UInt8), (8 : UInt8), (8 : UInt8), (8 : UInt8), (8 : UInt8), (8 : UInt8), (8 : UInt8), (8 : UInt8), (8 : UInt8), (8 : UInt8), (8 : UInt8), (8 : UInt8), (8 : UInt8), (8 : UInt8), (8 : UInt8), (8 : UInt8), (8 : UInt8), (8 : UInt8), (8 : UInt8), (8 : UInt8), (8 : UInt8), (8 : UInt8), (8 : UInt8), (8 : UInt8), (8 : UInt8), (8 : UInt8), (8 : UInt8)] [(8 : UInt8), (8 : UInt8), (8 : UInt8), (8 : UInt8), (8 : UInt8), (8 : UInt8), (8 : UInt8), (8 : UInt8), (8 : UInt8), (8 : UInt8), (8 : UInt8), (8 : UInt8), (8 : UInt8), (8 : UInt8), (8 : UInt8), (8 : UInt8), (8 : UInt8), (8 : UInt8), (8 : UInt8), (8 : UInt8), (8 : UInt8), (8 : UInt8), (8 : UInt8), (8 : UInt8), (8 : UInt8), (8 : UInt8), (8 : UInt8), (8 : UInt8), (8 : UInt8), (8 : UInt8), (8 : UInt8), (8 : UInt8), (8 : UInt8), (8 : UInt8), (8 : UInt8), (8 : UInt8), (8 : UInt8), (8 : UInt8), (8 : UInt8), (8 : UInt8), (8 : UInt8), (8 : UInt8), (8 : UInt8), (8 : UInt8), (8 : UInt8), (8 : UInt8), (8 : UInt8), (8 : UInt8), (8 : UInt8), (8 : UInt8), (8 : UInt8), (8 : UInt8), (8 : UInt8), (8 : UInt8), (8 : UInt8), (8 : UInt8), (8 : UInt8), (8 : UInt8), (8 : UInt8), (8 : UInt8), (8 : UInt8), (8 : UInt8), (8 : UInt8), (8 : UInt8)])))).data.toList) (a0) fun x64 =>
  letO (IntKind.wrap IntKind.i64 (↑(UInt8.toNat x64) : Int)) fun x65 =>
  some (x65)
noncomputable def F_lattice_of (a0 : TLattice) : Option (Tlattice_order) :=
 Option.bind (
  lpO (fun (s137 : Int × List Int × List Int) =>
  cond (decide (s137.fst < (↑(List.length (List.map (SV.int IntKind.u8) a0.Up)) : Int)))
  (idxO (a0.Up) (s137.fst) fun x151 =>
  sideO ((0 : Int) ≤ s137.fst ∧ s137.fst < (↑(8 : Nat) : Int)) (
  idxO (s137.snd.fst) ((↑(Int.toNat s137.fst) : Int)) fun x152 =>
  Option.bind (
  lpO (fun (s155 : Int × List Int) =>
  cond (decide (s155.fst < (↑(List.length (List.map SV.str a0.Names)) : Int)))
  (sideO ((0 : Int) ≤ s155.fst ∧ s155.fst < (↑(8 : Nat) : Int)) (
  idxO (s155.snd) ((↑(Int.toNat s155.fst) : Int)) fun x161 =>
  sideO ((0 : Int) ≤ s155.fst) (
  sideO ((0 : Int) ≤ s137.fst) (
  letO (IntKind.wrap IntKind.u8 (bits BinOp.and IntKind.u8 (Int.fdiv x151 ((2 : Int) ^ min (Int.toNat s155.fst) (IntKind.bits IntKind.u8))) (1 : Int) * (2 : Int) ^ min (Int.toNat s137.fst) (IntKind.bits IntKind.u8))) fun x162 =>
  sideO ((0 : Int) ≤ s155.fst ∧ s155.fst < (↑(8 : Nat) : Int)) (
  idxO (s155.snd) ((↑(Int.toNat s155.fst) : Int)) fun x163 =>
  letO (IntKind.wrap IntKind.i64 (s155.fst + (1 : Int))) fun x164 =>
  some (Sum.inl ((x164, List.set s155.snd (Int.toNat s155.fst) (bits BinOp.or IntKind.u8 x161 x162)))))))))
  (some (Sum.inr (Sum.inl (s155.snd))))) (((0 : Int), s137.snd.snd)))
  (Sum.elim (fun (s153 : List Int) =>
  letO (IntKind.wrap IntKind.i64 (s137.fst + (1 : Int))) fun x165 =>
  some (Sum.inl ((x165, List.set s137.snd.fst (Int.toNat s137.fst) x151, s153)))) some)))
  (some (Sum.inr (Sum.inl (s137.snd))))) (((0 : Int), [(0 : Int), (0 : Int), (0 : Int), (0 : Int), (0 : Int), (0 : Int), (0 : Int), (0 : Int)], [(0 : Int), (0 : Int), (0 : Int), (0 : Int), (0 : Int), (0 : Int), (0 : Int), (0 : Int)])))
  (Sum.elim (fun (s135 : List Int × List Int) =>
  some (Tlattice_order.mk (↑(List.length (List.map SV.str a0.Names)) : Int) s135.fst s135.snd)) some)
noncomputable def F_lattice_bound_lattice_ups_ (a0 : List Int) (a1 : Int) (a2 : Int) (a3 : Int) : Option (Int) :=
 sideO ((0 : Int) ≤ a2 ∧ a2 < (↑(8 : Nat) : Int)) (
  idxO (a0) ((↑(Int.toNat a2) : Int)) fun x172 =>
  sideO ((0 : Int) ≤ a3 ∧ a3 < (↑(8 : Nat) : Int)) (
  idxO (a0) ((↑(Int.toNat a3) : Int)) fun x173 =>
  Option.bind (
  lpO (fun (s176 : Int) =>
  cond (decide (s176 < a1))
  (sideO ((0 : Int) ≤ s176) (
  cond (decide (bits BinOp.and IntKind.u8 (Int.fdiv (bits BinOp.and IntKind.u8 x172 x173) ((2 : Int) ^ min (Int.toNat s176) (IntKind.bits IntKind.u8))) (1 : Int) = (1 : Int)))
  (sideO ((0 : Int) ≤ s176 ∧ s176 < (↑(8 : Nat) : Int)) (
  idxO (a0) ((↑(Int.toNat s176) : Int)) fun x183 =>
  cond (decide (x183 = bits BinOp.and IntKind.u8 x172 x173))
  (some (Sum.inr (Sum.inr (s176))))
  (letO (IntKind.wrap IntKind.i64 (s176 + (1 : Int))) fun x185 =>
  some (Sum.inl (x185)))))
  (letO (IntKind.wrap IntKind.i64 (s176 + (1 : Int))) fun x186 =>
  some (Sum.inl (x186)))))
  (some (Sum.inr (Sum.inl (()))))) ((0 : Int)))
  (Sum.elim (fun (s174 : Unit) =>
  some ((-1 : Int))) some)))
noncomputable def F_lattice_bound_lattice_downs_ (a0 : List Int) (a1 : Int) (a2 : Int) (a3 : Int) : Option (Int) :=
 sideO ((0 : Int) ≤ a2 ∧ a2 < (↑(8 : Nat) : Int)) (
  idxO (a0) ((↑(Int.toNat a2) : Int)) fun x189 =>
  sideO ((0 : Int) ≤ a3 ∧ a3 < (↑(8 : Nat) : Int)) (
  idxO (a0) ((↑(Int.toNat a3) : Int)) fun x190 =>
  Option.bind (
  lpO (fun (s193 : Int) =>
  cond (decide (s193 < a1))
  (sideO ((0 : Int) ≤ s193) (
  cond (decide (bits BinOp.and IntKind.u8 (Int.fdiv (bits BinOp.and IntKind.u8 x189 x190) ((2 : Int) ^ min (Int.toNat s193) (IntKind.bits IntKind.u8))) (1 : Int) = (1 : Int)))
  (sideO ((0 : Int) ≤ s193 ∧ s193 < (↑(8 : Nat) : Int)) (
  idxO (a0) ((↑(Int.toNat s193) : Int)) fun x200 =>
  cond (decide (x200 = bits BinOp.and IntKind.u8 x189 x190))
  (some (Sum.inr (Sum.inr (s193))))
  (letO (IntKind.wrap IntKind.i64 (s193 + (1 : Int))) fun x202 =>
  some (Sum.inl (x202)))))
  (letO (IntKind.wrap IntKind.i64 (s193 + (1 : Int))) fun x203 =>
  some (Sum.inl (x203)))))
  (some (Sum.inr (Sum.inl (()))))) ((0 : Int)))
  (Sum.elim (fun (s191 : Unit) =>
  some ((-1 : Int))) some)))
noncomputable def F_lattice_Check (a0 : TLattice) : Option (Int × Int) :=
 Option.bind (F_lattice_named (a0.Names)) fun x55 =>
  cond (!decide (x55.snd = (0 : Int)))
  (some (x55))
  (cond (!decide ((↑(List.length (List.map (SV.int IntKind.u8) a0.Up)) : Int) = (↑(List.length (List.map SV.str a0.Names)) : Int)))
  (some (((-1 : Int), (6 : Int))))
  (sideO ((0 : Int) ≤ (↑(List.length (List.map SV.str a0.Names)) : Int)) (
  letO (IntKind.wrap IntKind.u8 ((1 : Int) * (2 : Int) ^ min (Int.toNat (↑(List.length (List.map SV.str a0.Names)) : Int)) (IntKind.bits IntKind.u8))) fun x58 =>
  letO (IntKind.wrap IntKind.u8 (x58 - (1 : Int))) fun x59 =>
  Option.bind (
  lpO (fun (s62 : Int) =>
  cond (decide (s62 < (↑(List.length (List.map (SV.int IntKind.u8) a0.Up)) : Int)))
  (idxO (a0.Up) (s62) fun x92 =>
  Option.bind (F_math_bits_Len8 (x92)) fun x93 =>
  cond (decide ((↑(List.length (List.map SV.str a0.Names)) : Int) < x93))
  (some (Sum.inr (Sum.inr ((s62, (6 : Int))))))
  (sideO ((0 : Int) ≤ s62) (
  cond (decide (bits BinOp.and IntKind.u8 (Int.fdiv x92 ((2 : Int) ^ min (Int.toNat s62) (IntKind.bits IntKind.u8))) (1 : Int) = (0 : Int)))
  (some (Sum.inr (Sum.inr ((s62, (6 : Int))))))
  (Option.bind (
  lpO (fun (s98 : Int) =>
  cond (decide (s98 < (↑(List.length (List.map (SV.int IntKind.u8) a0.Up)) : Int)))
  (idxO (a0.Up) (s98) fun x116 =>
  sideO ((0 : Int) ≤ s98) (
  cond (decide (bits BinOp.and IntKind.u8 (Int.fdiv x92 ((2 : Int) ^ min (Int.toNat s98) (IntKind.bits IntKind.u8))) (1 : Int) = (0 : Int)))
  (letO (IntKind.wrap IntKind.i64 ((↑(List.length (List.map SV.str a0.Names)) : Int) - (1 : Int))) fun x118 =>
  cond (decide (s98 = x118))
  (letO (IntKind.wrap IntKind.i64 (s62 + (1 : Int))) fun x120 =>
  some (Sum.inr (Sum.inr (Sum.inl (x120)))))
  (letO (IntKind.wrap IntKind.i64 (s98 + (1 : Int))) fun x121 =>
  some (Sum.inl (x121))))
  (cond (!decide (s98 = s62))
  (sideO ((0 : Int) ≤ s62) (
  cond (decide (bits BinOp.and IntKind.u8 (Int.fdiv x116 ((2 : Int) ^ min (Int.toNat s62) (IntKind.bits IntKind.u8))) (1 : Int) = (1 : Int)))
  (some (Sum.inr (Sum.inr (Sum.inr (Sum.inr ((s62, (6 : Int))))))))
  (cond (!decide (bits BinOp.andNot IntKind.u8 (bits BinOp.and IntKind.u8 x116 x59) x92 = (0 : Int)))
  (some (Sum.inr (Sum.inr (Sum.inr (Sum.inr ((s62, (6 : Int))))))))
  (letO (IntKind.wrap IntKind.i64 ((↑(List.length (List.map SV.str a0.Names)) : Int) - (1 : Int))) fun x125 =>
  cond (decide (s98 = x125))
  (letO (IntKind.wrap IntKind.i64 (s62 + (1 : Int))) fun x127 =>
  some (Sum.inr (Sum.inr (Sum.inl (x127)))))
  (letO (IntKind.wrap IntKind.i64 (s98 + (1 : Int))) fun x128 =>
  some (Sum.inl (x128)))))))
  (cond (!decide (bits BinOp.andNot IntKind.u8 (bits BinOp.and IntKind.u8 x116 x59) x92 = (0 : Int)))
  (some (Sum.inr (Sum.inr (Sum.inr (Sum.inr ((s62, (6 : Int))))))))
  (letO (IntKind.wrap IntKind.i64 ((↑(List.length (List.map SV.str a0.Names)) : Int) - (1 : Int))) fun x130 =>
  cond (decide (s98 = x130))
  (letO (IntKind.wrap IntKind.i64 (s62 + (1 : Int))) fun x132 =>
  some (Sum.inr (Sum.inr (Sum.inl (x132)))))
  (letO (IntKind.wrap IntKind.i64 (s98 + (1 : Int))) fun x133 =>
  some (Sum.inl (x133))))))))
  (some (Sum.inr (Sum.inl (()))))) ((0 : Int)))
  (Sum.elim (fun (s96 : Unit) =>
  letO (IntKind.wrap IntKind.i64 (s62 + (1 : Int))) fun x134 =>
  some (Sum.inl (x134))) some)))))
  (some (Sum.inr (Sum.inl (()))))) ((0 : Int)))
  (Sum.elim (fun (s60 : Unit) =>
  Option.bind (F_lattice_of (a0)) fun x166 =>
  Option.bind (
  lpO (fun (s169 : Int) =>
  cond (decide (s169 < (↑(List.length (List.map SV.str a0.Names)) : Int)))
  (Option.bind (
  lpO (fun (s187 : Int) =>
  cond (decide (s187 < (↑(List.length (List.map SV.str a0.Names)) : Int)))
  (Option.bind (F_lattice_bound_lattice_ups_ (x166.up_) ((↑(List.length (List.map SV.str a0.Names)) : Int)) (s169) (s187)) fun x194 =>
  cond (decide (x194 < (0 : Int)))
  (some (Sum.inr (Sum.inr (Sum.inr (Sum.inr ((s169, (4 : Int))))))))
  (Option.bind (F_lattice_bound_lattice_downs_ (x166.down_) ((↑(List.length (List.map SV.str a0.Names)) : Int)) (s169) (s187)) fun x196 =>
  cond (decide (x196 < (0 : Int)))
  (some (Sum.inr (Sum.inr (Sum.inr (Sum.inr ((s169, (4 : Int))))))))
  (letO (IntKind.wrap IntKind.i64 (s187 + (1 : Int))) fun x198 =>
  some (Sum.inl (x198)))))
  (some (Sum.inr (Sum.inl (()))))) ((0 : Int)))
  (Sum.elim (fun (s185 : Unit) =>
  letO (IntKind.wrap IntKind.i64 (s169 + (1 : Int))) fun x199 =>
  some (Sum.inl (x199))) some))
  (some (Sum.inr (Sum.inl (()))))) ((0 : Int)))
  (Sum.elim (fun (s167 : Unit) =>
  some (((0 : Int), (0 : Int)))) some)) some))))
noncomputable def F_view_label (a0 : TLattice) (a1 : Int) : Option (Bool) :=
 cond (decide ((0 : Int) ≤ a1))
  (some (decide (a1 < (↑(List.length (List.map SV.str a0.Names)) : Int))))
  (some (false))
noncomputable def F_prims_Find (a0 : List UInt8) : Option (Int × Int) :=
 Option.bind (
  cond (decide ([(110 : UInt8), (101 : UInt8), (103 : UInt8)] = a0))
  (some (Sum.inr (((1 : Int), (0 : Int)))))
  (cond (decide ([(97 : UInt8), (98 : UInt8), (115 : UInt8)] = a0))
  (some (Sum.inr (((2 : Int), (0 : Int)))))
  (cond (decide ([(110 : UInt8), (111 : UInt8), (116 : UInt8)] = a0))
  (some (Sum.inr (((3 : Int), (0 : Int)))))
  (cond (decide ([(115 : UInt8), (104 : UInt8), (97 : UInt8), (112 : UInt8), (101 : UInt8)] = a0))
  (some (Sum.inr (((4 : Int), (0 : Int)))))
  (cond (decide ([(114 : UInt8), (97 : UInt8), (118 : UInt8), (101 : UInt8), (108 : UInt8)] = a0))
  (some (Sum.inr (((5 : Int), (0 : Int)))))
  (cond (decide ([(114 : UInt8), (101 : UInt8), (118 : UInt8), (101 : UInt8), (114 : UInt8), (115 : UInt8), (101 : UInt8)] = a0))
  (some (Sum.inr (((6 : Int), (0 : Int)))))
  (cond (decide ([(102 : UInt8), (108 : UInt8), (105 : UInt8), (112 : UInt8)] = a0))
  (some (Sum.inr (((7 : Int), (0 : Int)))))
  (cond (decide ([(105 : UInt8), (111 : UInt8), (116 : UInt8), (97 : UInt8)] = a0))
  (some (Sum.inr (((8 : Int), (0 : Int)))))
  (cond (decide ([(115 : UInt8), (117 : UInt8), (109 : UInt8)] = a0))
  (some (Sum.inr (((9 : Int), (0 : Int)))))
  (cond (decide ([(108 : UInt8), (101 : UInt8), (97 : UInt8), (115 : UInt8), (116 : UInt8)] = a0))
  (some (Sum.inr (((10 : Int), (0 : Int)))))
  (cond (decide ([(109 : UInt8), (111 : UInt8), (115 : UInt8), (116 : UInt8)] = a0))
  (some (Sum.inr (((11 : Int), (0 : Int)))))
  (cond (decide ([(99 : UInt8), (111 : UInt8), (117 : UInt8), (110 : UInt8), (116 : UInt8)] = a0))
  (some (Sum.inr (((12 : Int), (0 : Int)))))
  (cond (decide ([(115 : UInt8), (99 : UInt8), (97 : UInt8), (110 : UInt8)] = a0))
  (some (Sum.inr (((13 : Int), (0 : Int)))))
  (cond (decide ([(103 : UInt8), (114 : UInt8), (97 : UInt8), (100 : UInt8), (101 : UInt8)] = a0))
  (some (Sum.inr (((14 : Int), (0 : Int)))))
  (cond (decide ([(97 : UInt8), (100 : UInt8), (100 : UInt8)] = a0))
  (some (Sum.inr (((15 : Int), (0 : Int)))))
  (cond (decide ([(115 : UInt8), (117 : UInt8), (98 : UInt8)] = a0))
  (some (Sum.inr (((16 : Int), (0 : Int)))))
  (cond (decide ([(109 : UInt8), (117 : UInt8), (108 : UInt8)] = a0))
  (some (Sum.inr (((17 : Int), (0 : Int)))))
  (cond (decide ([(100 : UInt8), (105 : UInt8), (118 : UInt8)] = a0))
  (some (Sum.inr (((18 : Int), (0 : Int)))))
  (cond (decide ([(109 : UInt8), (111 : UInt8), (100 : UInt8)] = a0))
  (some (Sum.inr (((19 : Int), (0 : Int)))))
  (cond (decide ([(112 : UInt8), (108 : UInt8), (117 : UInt8), (115 : UInt8)] = a0))
  (some (Sum.inr (((20 : Int), (0 : Int)))))
  (cond (decide ([(109 : UInt8), (105 : UInt8), (110 : UInt8), (117 : UInt8), (115 : UInt8)] = a0))
  (some (Sum.inr (((21 : Int), (0 : Int)))))
  (cond (decide ([(116 : UInt8), (105 : UInt8), (109 : UInt8), (101 : UInt8), (115 : UInt8)] = a0))
  (some (Sum.inr (((22 : Int), (0 : Int)))))
  (cond (decide ([(101 : UInt8), (113 : UInt8)] = a0))
  (some (Sum.inr (((23 : Int), (0 : Int)))))
  (cond (decide ([(110 : UInt8), (101 : UInt8)] = a0))
  (some (Sum.inr (((24 : Int), (0 : Int)))))
  (cond (decide ([(108 : UInt8), (116 : UInt8)] = a0))
  (some (Sum.inr (((25 : Int), (0 : Int)))))
  (cond (decide ([(108 : UInt8), (101 : UInt8)] = a0))
  (some (Sum.inr (((26 : Int), (0 : Int)))))
  (cond (decide ([(103 : UInt8), (116 : UInt8)] = a0))
  (some (Sum.inr (((27 : Int), (0 : Int)))))
  (cond (decide ([(103 : UInt8), (101 : UInt8)] = a0))
  (some (Sum.inr (((28 : Int), (0 : Int)))))
  (cond (decide ([(97 : UInt8), (110 : UInt8), (100 : UInt8)] = a0))
  (some (Sum.inr (((29 : Int), (0 : Int)))))
  (cond (decide ([(111 : UInt8), (114 : UInt8)] = a0))
  (some (Sum.inr (((30 : Int), (0 : Int)))))
  (cond (decide ([(109 : UInt8), (105 : UInt8), (110 : UInt8)] = a0))
  (some (Sum.inr (((31 : Int), (0 : Int)))))
  (cond (decide ([(109 : UInt8), (97 : UInt8), (120 : UInt8)] = a0))
  (some (Sum.inr (((32 : Int), (0 : Int)))))
  (cond (decide ([(116 : UInt8), (97 : UInt8), (107 : UInt8), (101 : UInt8)] = a0))
  (some (Sum.inr (((33 : Int), (0 : Int)))))
  (cond (decide ([(100 : UInt8), (114 : UInt8), (111 : UInt8), (112 : UInt8)] = a0))
  (some (Sum.inr (((34 : Int), (0 : Int)))))
  (cond (decide ([(102 : UInt8), (105 : UInt8), (108 : UInt8), (108 : UInt8)] = a0))
  (some (Sum.inr (((35 : Int), (0 : Int)))))
  (cond (decide ([(103 : UInt8), (114 : UInt8), (105 : UInt8), (100 : UInt8)] = a0))
  (some (Sum.inr (((36 : Int), (0 : Int)))))
  (cond (decide ([(99 : UInt8), (97 : UInt8), (116 : UInt8)] = a0))
  (some (Sum.inr (((37 : Int), (0 : Int)))))
  (cond (decide ([(97 : UInt8), (116 : UInt8)] = a0))
  (some (Sum.inr (((38 : Int), (0 : Int)))))
  (cond (decide ([(105 : UInt8), (110 : UInt8)] = a0))
  (some (Sum.inr (((39 : Int), (0 : Int)))))
  (cond (decide ([(112 : UInt8), (105 : UInt8), (99 : UInt8), (107 : UInt8)] = a0))
  (some (Sum.inr (((40 : Int), (0 : Int)))))
  (some (Sum.inl (())))))))))))))))))))))))))))))))))))))))))))
  (Sum.elim (fun (s230 : Unit) =>
  some (((0 : Int), (4 : Int)))) some)
noncomputable def F_runes_is (a0 : Int) : Option (Bool) :=
 letO (IntKind.wrap IntKind.i32 a0) fun x289 =>
  letO (IntKind.wrap IntKind.i64 x289) fun x290 =>
  cond (decide (a0 = x290))
  (letO (IntKind.wrap IntKind.i32 a0) fun x292 =>
  Option.bind (F_unicode_utf8_ValidRune (x292)) fun x293 =>
  some (x293))
  (some (false))
noncomputable def F_runes_classes : Option (List (List UInt8)) :=
 some ([[], (ByteArray.mk #[(32 : UInt8)]).data.toList, (ByteArray.mk #[(10 : UInt8)]).data.toList, (ByteArray.mk #[(40 : UInt8), (91 : UInt8)]).data.toList, (ByteArray.mk #[(41 : UInt8), (93 : UInt8)]).data.toList, (ByteArray.mk #[(34 : UInt8)]).data.toList, [], (ByteArray.mk #[(45 : UInt8)]).data.toList, [], (ByteArray.mk #[(60 : UInt8), (61 : UInt8)]).data.toList])
noncomputable def F_runes_Class (a0 : Int) : Option (Int × Int) :=
 Option.bind (F_runes_is (a0)) fun x294 =>
  cond (!x294)
  (some (((0 : Int), (7 : Int))))
  (cond (decide ((48 : Int) ≤ a0))
  (cond (decide (a0 ≤ (57 : Int)))
  (some (((6 : Int), (0 : Int))))
  (cond (decide ((97 : Int) ≤ a0))
  (cond (decide (a0 ≤ (122 : Int)))
  (some (((8 : Int), (0 : Int))))
  (Option.bind (F_runes_classes) fun x300 =>
  Option.bind (
  lpO (fun (s303 : Int) =>
  cond (decide (s303 < (10 : Int)))
  (idxO (x300) (s303) fun x309 =>
  letO (IntKind.wrap IntKind.i32 a0) fun x310 =>
  Option.bind (F_strings_ContainsRune (x309) (x310)) fun x311 =>
  cond (x311)
  (some (Sum.inr (Sum.inr ((s303, (0 : Int))))))
  (letO (IntKind.wrap IntKind.i64 (s303 + (1 : Int))) fun x313 =>
  some (Sum.inl (x313))))
  (some (Sum.inr (Sum.inl (()))))) ((0 : Int)))
  (Sum.elim (fun (s301 : Unit) =>
  some (((10 : Int), (0 : Int)))) some)))
  (Option.bind (F_runes_classes) fun x314 =>
  Option.bind (
  lpO (fun (s317 : Int) =>
  cond (decide (s317 < (10 : Int)))
  (idxO (x314) (s317) fun x323 =>
  letO (IntKind.wrap IntKind.i32 a0) fun x324 =>
  Option.bind (F_strings_ContainsRune (x323) (x324)) fun x325 =>
  cond (x325)
  (some (Sum.inr (Sum.inr ((s317, (0 : Int))))))
  (letO (IntKind.wrap IntKind.i64 (s317 + (1 : Int))) fun x327 =>
  some (Sum.inl (x327))))
  (some (Sum.inr (Sum.inl (()))))) ((0 : Int)))
  (Sum.elim (fun (s315 : Unit) =>
  some (((10 : Int), (0 : Int)))) some))))
  (cond (decide ((97 : Int) ≤ a0))
  (cond (decide (a0 ≤ (122 : Int)))
  (some (((8 : Int), (0 : Int))))
  (Option.bind (F_runes_classes) fun x330 =>
  Option.bind (
  lpO (fun (s333 : Int) =>
  cond (decide (s333 < (10 : Int)))
  (idxO (x330) (s333) fun x339 =>
  letO (IntKind.wrap IntKind.i32 a0) fun x340 =>
  Option.bind (F_strings_ContainsRune (x339) (x340)) fun x341 =>
  cond (x341)
  (some (Sum.inr (Sum.inr ((s333, (0 : Int))))))
  (letO (IntKind.wrap IntKind.i64 (s333 + (1 : Int))) fun x343 =>
  some (Sum.inl (x343))))
  (some (Sum.inr (Sum.inl (()))))) ((0 : Int)))
  (Sum.elim (fun (s331 : Unit) =>
  some (((10 : Int), (0 : Int)))) some)))
  (Option.bind (F_runes_classes) fun x344 =>
  Option.bind (
  lpO (fun (s347 : Int) =>
  cond (decide (s347 < (10 : Int)))
  (idxO (x344) (s347) fun x353 =>
  letO (IntKind.wrap IntKind.i32 a0) fun x354 =>
  Option.bind (F_strings_ContainsRune (x353) (x354)) fun x355 =>
  cond (x355)
  (some (Sum.inr (Sum.inr ((s347, (0 : Int))))))
  (letO (IntKind.wrap IntKind.i64 (s347 + (1 : Int))) fun x357 =>
  some (Sum.inl (x357))))
  (some (Sum.inr (Sum.inl (()))))) ((0 : Int)))
  (Sum.elim (fun (s345 : Unit) =>
  some (((10 : Int), (0 : Int)))) some))))
noncomputable def F_unicode_utf8_word_string_ (a0 : List UInt8) : Option (Int) :=
 idxO (a0) ((0 : Int)) fun x402 =>
  letO (IntKind.wrap IntKind.u64 (↑(UInt8.toNat x402) : Int)) fun x403 =>
  idxO (a0) ((1 : Int)) fun x404 =>
  letO (IntKind.wrap IntKind.u64 (↑(UInt8.toNat x404) : Int)) fun x405 =>
  letO (IntKind.wrap IntKind.u64 (x405 * (2 : Int) ^ min (Int.toNat (8 : Int)) (IntKind.bits IntKind.u64))) fun x406 =>
  idxO (a0) ((2 : Int)) fun x407 =>
  letO (IntKind.wrap IntKind.u64 (↑(UInt8.toNat x407) : Int)) fun x408 =>
  letO (IntKind.wrap IntKind.u64 (x408 * (2 : Int) ^ min (Int.toNat (16 : Int)) (IntKind.bits IntKind.u64))) fun x409 =>
  idxO (a0) ((3 : Int)) fun x410 =>
  letO (IntKind.wrap IntKind.u64 (↑(UInt8.toNat x410) : Int)) fun x411 =>
  letO (IntKind.wrap IntKind.u64 (x411 * (2 : Int) ^ min (Int.toNat (24 : Int)) (IntKind.bits IntKind.u64))) fun x412 =>
  idxO (a0) ((4 : Int)) fun x413 =>
  letO (IntKind.wrap IntKind.u64 (↑(UInt8.toNat x413) : Int)) fun x414 =>
  letO (IntKind.wrap IntKind.u64 (x414 * (2 : Int) ^ min (Int.toNat (32 : Int)) (IntKind.bits IntKind.u64))) fun x415 =>
  idxO (a0) ((5 : Int)) fun x416 =>
  letO (IntKind.wrap IntKind.u64 (↑(UInt8.toNat x416) : Int)) fun x417 =>
  letO (IntKind.wrap IntKind.u64 (x417 * (2 : Int) ^ min (Int.toNat (40 : Int)) (IntKind.bits IntKind.u64))) fun x418 =>
  idxO (a0) ((6 : Int)) fun x419 =>
  letO (IntKind.wrap IntKind.u64 (↑(UInt8.toNat x419) : Int)) fun x420 =>
  letO (IntKind.wrap IntKind.u64 (x420 * (2 : Int) ^ min (Int.toNat (48 : Int)) (IntKind.bits IntKind.u64))) fun x421 =>
  idxO (a0) ((7 : Int)) fun x422 =>
  letO (IntKind.wrap IntKind.u64 (↑(UInt8.toNat x422) : Int)) fun x423 =>
  letO (IntKind.wrap IntKind.u64 (x423 * (2 : Int) ^ min (Int.toNat (56 : Int)) (IntKind.bits IntKind.u64))) fun x424 =>
  some (bits BinOp.or IntKind.u64 (bits BinOp.or IntKind.u64 (bits BinOp.or IntKind.u64 (bits BinOp.or IntKind.u64 (bits BinOp.or IntKind.u64 (bits BinOp.or IntKind.u64 (bits BinOp.or IntKind.u64 x403 x406) x409) x412) x415) x418) x421) x424)
noncomputable def F_unicode_utf8_ValidString (a0 : List UInt8) : Option (Bool) :=
 Option.bind (
  lpO (fun (s398 : List UInt8) =>
  cond (decide ((0 : Int) < (↑(List.length s398) : Int)))
  (idxO (s398) ((0 : Int)) fun x425 =>
  cond (decide ((↑(UInt8.toNat x425) : Int) < (128 : Int)))
  (sideO ((0 : Int) ≤ (1 : Int) ∧ (1 : Int) ≤ (↑(List.length s398) : Int)) (
  cond (decide ((8 : Int) < (↑(List.length (List.drop (Int.toNat (1 : Int)) (List.take (Int.toNat (↑(List.length s398) : Int)) s398))) : Int)))
  (Option.bind (F_unicode_utf8_word_string_ (List.drop (Int.toNat (1 : Int)) (List.take (Int.toNat (↑(List.length s398) : Int)) s398))) fun x428 =>
  cond (decide (bits BinOp.and IntKind.u64 x428 (9259542123273814144 : Int) = (0 : Int)))
  (sideO ((0 : Int) ≤ (8 : Int) ∧ (8 : Int) ≤ (↑(List.length (List.drop (Int.toNat (1 : Int)) (List.take (Int.toNat (↑(List.length s398) : Int)) s398))) : Int)) (
  cond (decide ((16 : Int) < (↑(List.length (List.drop (Int.toNat (8 : Int)) (List.take (Int.toNat (↑(List.length (List.drop (Int.toNat (1 : Int)) (List.take (Int.toNat (↑(List.length s398) : Int)) s398))) : Int)) (List.drop (Int.toNat (1 : Int)) (List.take (Int.toNat (↑(List.length s398) : Int)) s398))))) : Int)))
  (Option.bind (F_unicode_utf8_word_string_ (List.drop (Int.toNat (8 : Int)) (List.take (Int.toNat (↑(List.length (List.drop (Int.toNat (1 : Int)) (List.take (Int.toNat (↑(List.length s398) : Int)) s398))) : Int)) (List.drop (Int.toNat (1 : Int)) (List.take (Int.toNat (↑(List.length s398) : Int)) s398))))) fun x431 =>
  sideO ((0 : Int) ≤ (8 : Int) ∧ (8 : Int) ≤ (↑(List.length (List.drop (Int.toNat (8 : Int)) (List.take (Int.toNat (↑(List.length (List.drop (Int.toNat (1 : Int)) (List.take (Int.toNat (↑(List.length s398) : Int)) s398))) : Int)) (List.drop (Int.toNat (1 : Int)) (List.take (Int.toNat (↑(List.length s398) : Int)) s398))))) : Int)) (
  Option.bind (F_unicode_utf8_word_string_ (List.drop (Int.toNat (8 : Int)) (List.take (Int.toNat (↑(List.length (List.drop (Int.toNat (8 : Int)) (List.take (Int.toNat (↑(List.length (List.drop (Int.toNat (1 : Int)) (List.take (Int.toNat (↑(List.length s398) : Int)) s398))) : Int)) (List.drop (Int.toNat (1 : Int)) (List.take (Int.toNat (↑(List.length s398) : Int)) s398))))) : Int)) (List.drop (Int.toNat (8 : Int)) (List.take (Int.toNat (↑(List.length (List.drop (Int.toNat (1 : Int)) (List.take (Int.toNat (↑(List.length s398) : Int)) s398))) : Int)) (List.drop (Int.toNat (1 : Int)) (List.take (Int.toNat (↑(List.length s398) : Int)) s398))))))) fun x432 =>
  cond (decide (bits BinOp.and IntKind.u64 (bits BinOp.or IntKind.u64 x431 x432) (9259542123273814144 : Int) = (0 : Int)))
  (sideO ((0 : Int) ≤ (16 : Int) ∧ (16 : Int) ≤ (↑(List.length (List.drop (Int.toNat (8 : Int)) (List.take (Int.toNat (↑(List.length (List.drop (Int.toNat (1 : Int)) (List.take (Int.toNat (↑(List.length s398) : Int)) s398))) : Int)) (List.drop (Int.toNat (1 : Int)) (List.take (Int.toNat (↑(List.length s398) : Int)) s398))))) : Int)) (
  Option.bind (
  lpO (fun (s436 : List UInt8) =>
  cond (decide ((32 : Int) < (↑(List.length s436) : Int)))
  (Option.bind (F_unicode_utf8_word_string_ (s436)) fun x444 =>
  sideO ((0 : Int) ≤ (8 : Int) ∧ (8 : Int) ≤ (↑(List.length s436) : Int)) (
  Option.bind (F_unicode_utf8_word_string_ (List.drop (Int.toNat (8 : Int)) (List.take (Int.toNat (↑(List.length s436) : Int)) s436))) fun x445 =>
  sideO ((0 : Int) ≤ (16 : Int) ∧ (16 : Int) ≤ (↑(List.length s436) : Int)) (
  Option.bind (F_unicode_utf8_word_string_ (List.drop (Int.toNat (16 : Int)) (List.take (Int.toNat (↑(List.length s436) : Int)) s436))) fun x446 =>
  sideO ((0 : Int) ≤ (24 : Int) ∧ (24 : Int) ≤ (↑(List.length s436) : Int)) (
  Option.bind (F_unicode_utf8_word_string_ (List.drop (Int.toNat (24 : Int)) (List.take (Int.toNat (↑(List.length s436) : Int)) s436))) fun x447 =>
  cond (decide (bits BinOp.and IntKind.u64 (bits BinOp.or IntKind.u64 (bits BinOp.or IntKind.u64 x444 x445) (bits BinOp.or IntKind.u64 x446 x447)) (9259542123273814144 : Int) = (0 : Int)))
  (sideO ((0 : Int) ≤ (32 : Int) ∧ (32 : Int) ≤ (↑(List.length s436) : Int)) (
  some (Sum.inl (List.drop (Int.toNat (32 : Int)) (List.take (Int.toNat (↑(List.length s436) : Int)) s436)))))
  (some (Sum.inr (Sum.inl (s436))))))))
  (some (Sum.inr (Sum.inl (s436))))) (List.drop (Int.toNat (16 : Int)) (List.take (Int.toNat (↑(List.length (List.drop (Int.toNat (8 : Int)) (List.take (Int.toNat (↑(List.length (List.drop (Int.toNat (1 : Int)) (List.take (Int.toNat (↑(List.length s398) : Int)) s398))) : Int)) (List.drop (Int.toNat (1 : Int)) (List.take (Int.toNat (↑(List.length s398) : Int)) s398))))) : Int)) (List.drop (Int.toNat (8 : Int)) (List.take (Int.toNat (↑(List.length (List.drop (Int.toNat (1 : Int)) (List.take (Int.toNat (↑(List.length s398) : Int)) s398))) : Int)) (List.drop (Int.toNat (1 : Int)) (List.take (Int.toNat (↑(List.length s398) : Int)) s398)))))))
  (Sum.elim (fun (s434 : List UInt8) =>
  some (Sum.inl (s434))) some)))
  (some (Sum.inl (List.drop (Int.toNat (8 : Int)) (List.take (Int.toNat (↑(List.length (List.drop (Int.toNat (1 : Int)) (List.take (Int.toNat (↑(List.length s398) : Int)) s398))) : Int)) (List.drop (Int.toNat (1 : Int)) (List.take (Int.toNat (↑(List.length s398) : Int)) s398))))))))
  (some (Sum.inl (List.drop (Int.toNat (8 : Int)) (List.take (Int.toNat (↑(List.length (List.drop (Int.toNat (1 : Int)) (List.take (Int.toNat (↑(List.length s398) : Int)) s398))) : Int)) (List.drop (Int.toNat (1 : Int)) (List.take (Int.toNat (↑(List.length s398) : Int)) s398))))))))
  (some (Sum.inl (List.drop (Int.toNat (1 : Int)) (List.take (Int.toNat (↑(List.length s398) : Int)) s398)))))
  (some (Sum.inl (List.drop (Int.toNat (1 : Int)) (List.take (Int.toNat (↑(List.length s398) : Int)) s398))))))
  (none))
  (some (Sum.inr (Sum.inl (()))))) (a0))
  (Sum.elim (fun (s396 : Unit) =>
  some (true)) some)
noncomputable def F_lexer_Check (a0 : TLxToken) : Option (Int) :=
 Option.bind (
  cond (decide (a0.Kind = (1 : Int)))
  (some (Sum.inl (((0 : Int), a0.S))))
  (cond (decide (a0.Kind = (3 : Int)))
  (some (Sum.inl (((0 : Int), a0.S))))
  (cond (decide (a0.Kind = (2 : Int)))
  (some (Sum.inl ((a0.N, []))))
  (some (Sum.inl (((0 : Int), [])))))))
  (Sum.elim (fun (s275 : Int × List UInt8) =>
  cond (decide (a0.Kind < (1 : Int)))
  (some ((2 : Int)))
  (cond (decide ((9 : Int) < a0.Kind))
  (some ((2 : Int)))
  (cond (!(decide (a0.Kind = a0.Kind) && (decide (a0.From = a0.From) && (decide (a0.To = a0.To) && (decide (a0.N = s275.fst) && (decide (a0.S = s275.snd) && true))))))
  (some ((2 : Int)))
  (Option.bind (
  cond (decide (a0.Kind = (1 : Int)))
  (cond (decide ((↑(List.length a0.S) : Int) ≤ (0 : Int)))
  (some (Sum.inr ((6 : Int))))
  (idxO (a0.S) ((0 : Int)) fun x288 =>
  letO (IntKind.wrap IntKind.i64 (↑(UInt8.toNat x288) : Int)) fun x289 =>
  Option.bind (F_runes_Class (x289)) fun x290 =>
  cond (!decide (x290.fst = (8 : Int)))
  (some (Sum.inr ((6 : Int))))
  (idxO (a0.S) ((0 : Int)) fun x294 =>
  letO (IntKind.wrap IntKind.i64 (↑(UInt8.toNat x294) : Int)) fun x295 =>
  Option.bind (F_runes_Class (x295)) fun x296 =>
  Option.bind (
  lpO (fun (s299 : Int × Int) =>
  cond (decide (s299.fst = (8 : Int)))
  (letO (IntKind.wrap IntKind.i64 (s299.snd + (1 : Int))) fun x313 =>
  cond (decide ((↑(List.length a0.S) : Int) ≤ x313))
  (some (Sum.inl (((10 : Int), x313))))
  (idxO (a0.S) (x313) fun x316 =>
  letO (IntKind.wrap IntKind.i64 (↑(UInt8.toNat x316) : Int)) fun x317 =>
  Option.bind (F_runes_Class (x317)) fun x318 =>
  some (Sum.inl ((x318.fst, x313)))))
  (cond (decide (s299.fst = (6 : Int)))
  (letO (IntKind.wrap IntKind.i64 (s299.snd + (1 : Int))) fun x320 =>
  cond (decide ((↑(List.length a0.S) : Int) ≤ x320))
  (some (Sum.inl (((10 : Int), x320))))
  (idxO (a0.S) (x320) fun x323 =>
  letO (IntKind.wrap IntKind.i64 (↑(UInt8.toNat x323) : Int)) fun x324 =>
  Option.bind (F_runes_Class (x324)) fun x325 =>
  some (Sum.inl ((x325.fst, x320)))))
  (some (Sum.inr (Sum.inl ((decide (s299.fst = (6 : Int)), s299))))))) ((x296.fst, (0 : Int))))
  (Sum.elim (fun (s297 : Bool × Int × Int) =>
  sideO ((0 : Int) ≤ (0 : Int) ∧ (0 : Int) ≤ s297.snd.snd ∧ s297.snd.snd ≤ (↑(List.length a0.S) : Int)) (
  cond (!decide (List.drop (Int.toNat (0 : Int)) (List.take (Int.toNat s297.snd.snd) a0.S) = a0.S))
  (some (Sum.inr ((6 : Int))))
  (some (Sum.inl ((16 : Int)))))) some))))
  (cond (decide (a0.Kind = (3 : Int)))
  (Option.bind (F_unicode_utf8_ValidString (a0.S)) fun x328 =>
  cond (!x328)
  (some (Sum.inr ((6 : Int))))
  (some (Sum.inl ((2000 : Int)))))
  (some (Sum.inl ((0 : Int))))))
  (Sum.elim (fun (s283 : Int) =>
  cond (decide (s283 < (↑(List.length a0.S) : Int)))
  (some ((3 : Int)))
  (some ((0 : Int)))) some))))) some)
noncomputable def F_expr_Name (a0 : List UInt8) : Option (Bool) :=
 cond (decide (a0 = (ByteArray.mk #[(118 : UInt8), (97 : UInt8), (114 : UInt8)]).data.toList))
  (some (false))
  (cond (decide (a0 = (ByteArray.mk #[(100 : UInt8), (101 : UInt8), (102 : UInt8)]).data.toList))
  (some (false))
  (cond (decide (a0 = (ByteArray.mk #[(111 : UInt8), (117 : UInt8), (116 : UInt8)]).data.toList))
  (some (false))
  (cond (decide (a0 = (ByteArray.mk #[(105 : UInt8), (102 : UInt8)]).data.toList))
  (some (false))
  (cond (decide (a0 = (ByteArray.mk #[(101 : UInt8), (108 : UInt8), (115 : UInt8), (101 : UInt8)]).data.toList))
  (some (false))
  (cond (decide (a0 = (ByteArray.mk #[(119 : UInt8), (104 : UInt8), (105 : UInt8), (108 : UInt8), (101 : UInt8)]).data.toList))
  (some (false))
  (cond (decide (a0 = (ByteArray.mk #[(101 : UInt8), (110 : UInt8), (100 : UInt8)]).data.toList))
  (some (false))
  (cond (decide (a0 = (ByteArray.mk #[(114 : UInt8), (101 : UInt8), (108 : UInt8), (101 : UInt8), (97 : UInt8), (115 : UInt8), (101 : UInt8)]).data.toList))
  (some (false))
  (cond (decide (a0 = (ByteArray.mk #[(105 : UInt8), (110 : UInt8), (116 : UInt8)]).data.toList))
  (some (false))
  (cond (decide (a0 = (ByteArray.mk #[(99 : UInt8), (104 : UInt8), (97 : UInt8), (114 : UInt8)]).data.toList))
  (some (false))
  (Option.bind (F_prims_Find (a0)) fun x273 =>
  cond (decide (x273.snd = (0 : Int)))
  (some (false))
  (Option.bind (F_lexer_Check (TLxToken.mk (1 : Int) (0 : Int) (0 : Int) (0 : Int) a0)) fun x331 =>
  some (decide (x331 = (0 : Int))))))))))))))
noncomputable def F_shapes_Check_1 (a0 : Int) : Option (Bool) :=
 some (decide (a0 < (0 : Int)))
noncomputable def F_slices_IndexFunc___int_int_ (a0 : List Int) : Option (Int) :=
 Option.bind (
  lpO (fun (s340 : Int) =>
  cond (decide (s340 < (↑(List.length (List.map (SV.int IntKind.i64) a0)) : Int)))
  (idxO (a0) (s340) fun x346 =>
  Option.bind (F_shapes_Check_1 (x346)) fun x347 =>
  cond (x347)
  (some (Sum.inr (Sum.inr (s340))))
  (letO (IntKind.wrap IntKind.i64 (s340 + (1 : Int))) fun x349 =>
  some (Sum.inl (x349))))
  (some (Sum.inr (Sum.inl (()))))) ((0 : Int)))
  (Sum.elim (fun (s338 : Unit) =>
  some ((-1 : Int))) some)
noncomputable def F_slices_ContainsFunc___int_int_ (a0 : List Int) : Option (Bool) :=
 Option.bind (F_slices_IndexFunc___int_int_ (a0)) fun x350 =>
  some (decide ((0 : Int) ≤ x350))
noncomputable def F_shapes_Check_2 (a0 : Int) : Option (Bool) :=
 some (!decide (a0 = (0 : Int)))
noncomputable def F_slices_IndexFunc___int_int__v1 (a0 : List Int) : Option (Int) :=
 Option.bind (
  lpO (fun (s355 : Int) =>
  cond (decide (s355 < (↑(List.length (List.map (SV.int IntKind.i64) a0)) : Int)))
  (idxO (a0) (s355) fun x361 =>
  Option.bind (F_shapes_Check_2 (x361)) fun x362 =>
  cond (x362)
  (some (Sum.inr (Sum.inr (s355))))
  (letO (IntKind.wrap IntKind.i64 (s355 + (1 : Int))) fun x364 =>
  some (Sum.inl (x364))))
  (some (Sum.inr (Sum.inl (()))))) ((0 : Int)))
  (Sum.elim (fun (s353 : Unit) =>
  some ((-1 : Int))) some)
noncomputable def F_slices_ContainsFunc___int_int__v1 (a0 : List Int) : Option (Bool) :=
 Option.bind (F_slices_IndexFunc___int_int__v1 (a0)) fun x365 =>
  some (decide ((0 : Int) ≤ x365))
noncomputable def F_shapes_Check_3 (a0 : Int) : Option (Bool) :=
 some (decide ((400 : Int) < a0))
noncomputable def F_slices_IndexFunc___int_int__v2 (a0 : List Int) : Option (Int) :=
 Option.bind (
  lpO (fun (s370 : Int) =>
  cond (decide (s370 < (↑(List.length (List.map (SV.int IntKind.i64) a0)) : Int)))
  (idxO (a0) (s370) fun x376 =>
  Option.bind (F_shapes_Check_3 (x376)) fun x377 =>
  cond (x377)
  (some (Sum.inr (Sum.inr (s370))))
  (letO (IntKind.wrap IntKind.i64 (s370 + (1 : Int))) fun x379 =>
  some (Sum.inl (x379))))
  (some (Sum.inr (Sum.inl (()))))) ((0 : Int)))
  (Sum.elim (fun (s368 : Unit) =>
  some ((-1 : Int))) some)
noncomputable def F_slices_ContainsFunc___int_int__v2 (a0 : List Int) : Option (Bool) :=
 Option.bind (F_slices_IndexFunc___int_int__v2 (a0)) fun x380 =>
  some (decide ((0 : Int) ≤ x380))
noncomputable def F_shapes_product (a0 : Int) (a1 : Int × Int) : Option (Int) :=
 cond (decide (a0 = (2 : Int)))
  (letO (IntKind.wrap IntKind.i64 ((1 : Int) * a1.snd)) fun x384 =>
  letO (IntKind.wrap IntKind.i64 (x384 * a1.fst)) fun x385 =>
  some (x385))
  (cond (decide (a0 = (1 : Int)))
  (letO (IntKind.wrap IntKind.i64 ((1 : Int) * a1.fst)) fun x387 =>
  some (x387))
  (some ((1 : Int))))
noncomputable def F_shapes_Check (a0 : Int) (a1 : Int × Int) : Option (Int) :=
 cond (decide (a0 < (0 : Int)))
  (some ((7 : Int)))
  (cond (decide ((2 : Int) < a0))
  (some ((7 : Int)))
  (sideO ((0 : Int) ≤ a0 ∧ a0 ≤ (↑(2 : Nat) : Int)) (
  sideO ((0 : Int) ≤ a0 ∧ a0 ≤ (↑(2 : Nat) : Int)) (
  Option.bind (F_slices_ContainsFunc___int_int_ (List.drop (Int.toNat (0 : Int)) (List.take (Int.toNat a0) [a1.fst, a1.snd]))) fun x351 =>
  cond (x351)
  (some ((7 : Int)))
  (Option.bind (F_slices_ContainsFunc___int_int__v1 (List.drop (Int.toNat a0) (List.take (Int.toNat (↑(2 : Nat) : Int)) [a1.fst, a1.snd]))) fun x366 =>
  cond (x366)
  (some ((6 : Int)))
  (Option.bind (F_slices_ContainsFunc___int_int__v2 (List.drop (Int.toNat (0 : Int)) (List.take (Int.toNat a0) [a1.fst, a1.snd]))) fun x381 =>
  cond (x381)
  (some ((15 : Int)))
  (Option.bind (F_shapes_product (a0) (a1)) fun x388 =>
  cond (decide ((400 : Int) < x388))
  (some ((15 : Int)))
  (some ((0 : Int))))))))))
noncomputable def F_shapes_Cells (a0 : Int) (a1 : Int × Int) : Option (Int × Int) :=
 Option.bind (F_shapes_Check (a0) (a1)) fun x390 =>
  cond (!decide (x390 = (0 : Int)))
  (some (((0 : Int), x390)))
  (Option.bind (F_shapes_product (a0) (a1)) fun x392 =>
  some ((x392, (0 : Int))))
noncomputable def F_arrays_right (a0 : Int) (a1 : Int) : Option (Bool) :=
 cond (decide (a0 = (1 : Int)))
  (some (true))
  (cond (decide ((0 : Int) ≤ a1))
  (cond (decide (a1 ≤ (1114111 : Int)))
  (letO (IntKind.wrap IntKind.i32 a1) fun x403 =>
  Option.bind (F_unicode_utf8_ValidRune (x403)) fun x404 =>
  some (x404))
  (some (false)))
  (some (false)))
noncomputable def F_arrays_Check_1 (a0 : Int) (a1 : TArray) : Option (Bool) :=
 Option.bind (F_arrays_right (a1.Kind) (a0)) fun x405 =>
  some (!x405)
noncomputable def F_slices_IndexFunc___int64_int64_ (a0 : List Int) (a1 : TArray) : Option (Int) :=
 Option.bind (
  lpO (fun (s398 : Int) =>
  cond (decide (s398 < (↑(List.length (List.map (SV.int IntKind.i64) a0)) : Int)))
  (idxO (a0) (s398) fun x404 =>
  Option.bind (F_arrays_Check_1 (x404) (a1)) fun x405 =>
  cond (x405)
  (some (Sum.inr (Sum.inr (s398))))
  (letO (IntKind.wrap IntKind.i64 (s398 + (1 : Int))) fun x407 =>
  some (Sum.inl (x407))))
  (some (Sum.inr (Sum.inl (()))))) ((0 : Int)))
  (Sum.elim (fun (s396 : Unit) =>
  some ((-1 : Int))) some)
noncomputable def F_slices_ContainsFunc___int64_int64_ (a0 : List Int) (a1 : TArray) : Option (Bool) :=
 Option.bind (F_slices_IndexFunc___int64_int64_ (a0) (a1)) fun x408 =>
  some (decide ((0 : Int) ≤ x408))
noncomputable def F_arrays_Check (a0 : TArray) : Option (Int) :=
 cond (!decide (a0.Kind = (1 : Int)))
  (cond (!decide (a0.Kind = (2 : Int)))
  (some ((2 : Int)))
  (Option.bind (F_shapes_Cells (a0.Rank) (a0.Lens)) fun x393 =>
  cond (!decide (x393.snd = (0 : Int)))
  (some (x393.snd))
  (cond (!decide ((↑(List.length (List.map (SV.int IntKind.i64) a0.Cells)) : Int) = x393.fst))
  (some ((6 : Int)))
  (Option.bind (F_slices_ContainsFunc___int64_int64_ (a0.Cells) (a0)) fun x409 =>
  cond (x409)
  (some ((7 : Int)))
  (some ((0 : Int)))))))
  (Option.bind (F_shapes_Cells (a0.Rank) (a0.Lens)) fun x411 =>
  cond (!decide (x411.snd = (0 : Int)))
  (some (x411.snd))
  (cond (!decide ((↑(List.length (List.map (SV.int IntKind.i64) a0.Cells)) : Int) = x411.fst))
  (some ((6 : Int)))
  (Option.bind (F_slices_ContainsFunc___int64_int64_ (a0.Cells) (a0)) fun x414 =>
  cond (x414)
  (some ((7 : Int)))
  (some ((0 : Int))))))
noncomputable def F_slices_Equal___int64_int64_ (a0 : List Int) (a1 : List Int) : Option (Bool) :=
 cond (!decide ((↑(List.length (List.map (SV.int IntKind.i64) a0)) : Int) = (↑(List.length (List.map (SV.int IntKind.i64) a1)) : Int)))
  (some (false))
  (Option.bind (
  lpO (fun (s425 : Int) =>
  cond (decide (s425 < (↑(List.length (List.map (SV.int IntKind.i64) a0)) : Int)))
  (idxO (a0) (s425) fun x431 =>
  idxO (a1) (s425) fun x432 =>
  cond (!decide (x431 = x432))
  (some (Sum.inr (Sum.inr (false))))
  (letO (IntKind.wrap IntKind.i64 (s425 + (1 : Int))) fun x434 =>
  some (Sum.inl (x434))))
  (some (Sum.inr (Sum.inl (()))))) ((0 : Int)))
  (Sum.elim (fun (s423 : Unit) =>
  some (true)) some))
noncomputable def F_view_sameArray (a0 : TArray) (a1 : TArray) : Option (Bool) :=
 cond (decide (a0.Kind = a1.Kind))
  (cond (decide (a0.Rank = a1.Rank))
  (cond (decide (a0.Lens.fst = a1.Lens.fst) && (decide (a0.Lens.snd = a1.Lens.snd) && true))
  (Option.bind (F_slices_Equal___int64_int64_ (a0.Cells) (a1.Cells)) fun x435 =>
  some (x435))
  (some (false)))
  (some (false)))
  (some (false))
noncomputable def F_view_bad (a0 : TLattice) (a1 : TEvEvent) (a2 : Int) (a3 : Int) (a4 : Bool) : Option (Int) :=
 Option.bind (F_view_label (a0) (a1.Label)) fun x209 =>
  cond (!x209)
  (some ((7 : Int)))
  (cond (decide (a1.Site < (0 : Int)))
  (some ((7 : Int)))
  (cond (decide ((1000000000 : Int) < a1.Site))
  (some ((7 : Int)))
  (cond (decide (a1.Steps < a2))
  (some ((7 : Int)))
  (cond (decide (a3 < a1.Steps))
  (some ((7 : Int)))
  (cond (decide (a1.Kind < (1 : Int)))
  (some ((6 : Int)))
  (cond (decide ((4 : Int) < a1.Kind))
  (some ((6 : Int)))
  (cond (decide (a1.Kind = (1 : Int)) == a4)
  (some ((6 : Int)))
  (cond (!(!decide (a1.E = (0 : Int))) == decide (a1.Kind = (2 : Int)))
  (some ((6 : Int)))
  (cond (decide (a1.Kind = (1 : Int)))
  (Option.bind (F_expr_Name (a1.Channel)) fun x332 =>
  cond (!x332)
  (some ((6 : Int)))
  (Option.bind (F_arrays_Check (a1.Value)) fun x416 =>
  cond (!decide (x416 = (0 : Int)))
  (some ((6 : Int)))
  (some ((0 : Int)))))
  (cond (!decide (a1.Channel = (ByteArray.mk #[]).data.toList))
  (some ((6 : Int)))
  (Option.bind (F_view_sameArray (a1.Value) (TArray.mk (0 : Int) (0 : Int) ((0 : Int), (0 : Int)) [])) fun x436 =>
  cond (!x436)
  (some ((6 : Int)))
  (some ((0 : Int))))))))))))))
noncomputable def F_view_Check (a0 : TLattice) (a1 : TEvTrace) : Option (Int × Int) :=
 Option.bind (F_lattice_Check (a0)) fun x200 =>
  cond (!decide (x200.snd = (0 : Int)))
  (some (((-1 : Int), x200.snd)))
  (cond (decide ((↑(List.length (List.map enc_TEvEvent a1.Events)) : Int) = (0 : Int)))
  (some (((-1 : Int), (6 : Int))))
  (letO (IntKind.wrap IntKind.i64 ((↑(List.length (List.map enc_TEvEvent a1.Events)) : Int) - (1 : Int))) fun x203 =>
  Option.bind (
  lpO (fun (s206 : Int × Int) =>
  cond (decide (s206.fst < (↑(List.length (List.map enc_TEvEvent a1.Events)) : Int)))
  (idxO (a1.Events) (s206.fst) fun x212 =>
  Option.bind (F_view_bad (a0) (x212) (s206.snd) (a1.Steps) (decide (s206.fst = x203))) fun x213 =>
  cond (!decide (x213 = (0 : Int)))
  (some (Sum.inr (Sum.inr ((s206.fst, x213)))))
  (letO (IntKind.wrap IntKind.i64 (s206.fst + (1 : Int))) fun x215 =>
  some (Sum.inl ((x215, x212.Steps)))))
  (some (Sum.inr (Sum.inl (()))))) (((0 : Int), (0 : Int))))
  (Sum.elim (fun (s204 : Unit) =>
  Option.bind (
  lpO (fun (s218 : Int) =>
  cond (decide (s218 < (↑(List.length (List.map enc_TReEntry a1.Log)) : Int)))
  (idxO (a1.Log) (s218) fun x234 =>
  Option.bind (F_view_label (a0) (x234.From)) fun x235 =>
  cond (!x235)
  (some (Sum.inr (Sum.inr (((↑(List.length (List.map enc_TEvEvent a1.Events)) : Int), (7 : Int))))))
  (Option.bind (F_view_label (a0) (x234.Goal)) fun x237 =>
  cond (!x237)
  (some (Sum.inr (Sum.inr (((↑(List.length (List.map enc_TEvEvent a1.Events)) : Int), (7 : Int))))))
  (cond (decide (x234.Fold < (1 : Int)))
  (some (Sum.inr (Sum.inr (((↑(List.length (List.map enc_TEvEvent a1.Events)) : Int), (6 : Int))))))
  (cond (decide ((4 : Int) < x234.Fold))
  (some (Sum.inr (Sum.inr (((↑(List.length (List.map enc_TEvEvent a1.Events)) : Int), (6 : Int))))))
  (cond (decide (x234.Cells < (0 : Int)))
  (some (Sum.inr (Sum.inr (((↑(List.length (List.map enc_TEvEvent a1.Events)) : Int), (6 : Int))))))
  (cond (decide ((400 : Int) < x234.Cells))
  (some (Sum.inr (Sum.inr (((↑(List.length (List.map enc_TEvEvent a1.Events)) : Int), (6 : Int))))))
  (cond (decide (x234.Site < (0 : Int)))
  (some (Sum.inr (Sum.inr (((↑(List.length (List.map enc_TEvEvent a1.Events)) : Int), (6 : Int))))))
  (cond (decide ((1000000000 : Int) < x234.Site))
  (some (Sum.inr (Sum.inr (((↑(List.length (List.map enc_TEvEvent a1.Events)) : Int), (6 : Int))))))
  (cond (!decide (x234.Value.fst = (1 : Int)))
  (cond (!(decide (x234.Value.fst = (0 : Int)) && (decide (x234.Value.snd = (0 : Int)) && true)))
  (some (Sum.inr (Sum.inr (((↑(List.length (List.map enc_TEvEvent a1.Events)) : Int), (6 : Int))))))
  (letO (IntKind.wrap IntKind.i64 (s218 + (1 : Int))) fun x247 =>
  some (Sum.inl (x247))))
  (letO (IntKind.wrap IntKind.i64 (s218 + (1 : Int))) fun x248 =>
  some (Sum.inl (x248))))))))))))
  (some (Sum.inr (Sum.inl (()))))) ((0 : Int)))
  (Sum.elim (fun (s216 : Unit) =>
  some (((0 : Int), (0 : Int)))) some)) some)))
noncomputable def F_view_asked (a0 : TLattice) (a1 : Int) (a2 : List TEvTrace) : Option (Int) :=
 Option.bind (
  lpO (fun (s35 : Int) =>
  cond (decide (s35 < (↑(List.length (List.map enc_TEvTrace a2)) : Int)))
  (idxO (a2) (s35) fun x41 =>
  Option.bind (F_view_Check (a0) (x41)) fun x42 =>
  cond (!decide (x42.snd = (0 : Int)))
  (some (Sum.inr (Sum.inr (x42.snd))))
  (letO (IntKind.wrap IntKind.i64 (s35 + (1 : Int))) fun x44 =>
  some (Sum.inl (x44))))
  (some (Sum.inr (Sum.inl (()))))) ((0 : Int)))
  (Sum.elim (fun (s33 : Unit) =>
  Option.bind (F_view_label (a0) (a1)) fun x45 =>
  cond (!x45)
  (some ((7 : Int)))
  (some ((0 : Int)))) some)
noncomputable def F_view_seen_api_EvEvent_ (a0 : TLattice) (a1 : Int) (a2 : List TEvEvent) : Option (List TEvEvent × TLattice × Unit × Int) :=
 some ((a2, a0, (), a1))
noncomputable def F_view_events_1 (a0 : TEvEvent) : Option (Int) :=
 some (a0.Label)
noncomputable def F_lattice_asked (a0 : TLattice) (a1 : List Int) : Option (Int) :=
 Option.bind (F_lattice_Check (a0)) fun x56 =>
  cond (!decide (x56.snd = (0 : Int)))
  (some (x56.snd))
  (Option.bind (
  lpO (fun (s60 : Int) =>
  cond (decide (s60 < (↑(List.length (List.map (SV.int IntKind.i64) a1)) : Int)))
  (idxO (a1) (s60) fun x66 =>
  cond (decide (x66 < (0 : Int)))
  (some (Sum.inr (Sum.inr ((7 : Int)))))
  (cond (decide ((↑(List.length (List.map SV.str a0.Names)) : Int) ≤ x66))
  (some (Sum.inr (Sum.inr ((7 : Int)))))
  (letO (IntKind.wrap IntKind.i64 (s60 + (1 : Int))) fun x69 =>
  some (Sum.inl (x69)))))
  (some (Sum.inr (Sum.inl (()))))) ((0 : Int)))
  (Sum.elim (fun (s58 : Unit) =>
  some ((0 : Int))) some))
noncomputable def F_lattice_Leq (a0 : TLattice) (a1 : Int) (a2 : Int) : Option (Bool × Int) :=
 Option.bind (F_lattice_asked (a0) ([a1, a2])) fun x70 =>
  cond (!decide (x70 = (0 : Int)))
  (some ((false, x70)))
  (idxO (a0.Up) (a1) fun x72 =>
  sideO ((0 : Int) ≤ a2) (
  some ((decide (bits BinOp.and IntKind.u8 (Int.fdiv x72 ((2 : Int) ^ min (Int.toNat a2) (IntKind.bits IntKind.u8))) (1 : Int) = (1 : Int)), (0 : Int)))))
noncomputable def F_slices_AppendSeq___api_EvEvent_api_EvEvent_ (a1 : List TEvEvent × TLattice × Unit × Int) : Option (List TEvEvent) :=
 Option.bind (
  lpO (fun (s53 : Int × List TEvEvent) =>
  cond (decide (s53.fst < (↑(List.length (List.map enc_TEvEvent a1.fst)) : Int)))
  (idxO (a1.fst) (s53.fst) fun x69 =>
  Option.bind (F_view_events_1 (x69)) fun x70 =>
  Option.bind (F_lattice_Leq (a1.snd.fst) (x70) (a1.snd.snd.snd)) fun x71 =>
  cond (decide (x71.snd = (0 : Int)))
  (cond (x71.fst)
  (sideO ((List.length (List.map enc_TEvEvent s53.snd) + (1 : Nat)) * (112 : Nat) ≤ (70368744177664 : Nat)) (
  letO (IntKind.wrap IntKind.i64 (s53.fst + (1 : Int))) fun x75 =>
  some (Sum.inl ((x75, s53.snd ++ [x69])))))
  (letO (IntKind.wrap IntKind.i64 (s53.fst + (1 : Int))) fun x76 =>
  some (Sum.inl ((x76, s53.snd)))))
  (letO (IntKind.wrap IntKind.i64 (s53.fst + (1 : Int))) fun x77 =>
  some (Sum.inl ((x77, s53.snd)))))
  (some (Sum.inr (Sum.inl ((decide (s53.fst < (↑(List.length (List.map enc_TEvEvent a1.fst)) : Int)), s53)))))) (((0 : Int), [])))
  (Sum.elim (fun (s51 : Bool × Int × List TEvEvent) =>
  some (s51.snd.snd)) some)
noncomputable def F_slices_Collect_api_EvEvent_ (a0 : List TEvEvent × TLattice × Unit × Int) : Option (List TEvEvent) :=
 Option.bind (F_slices_AppendSeq___api_EvEvent_api_EvEvent_ ((a0.fst, a0.snd.fst, (), a0.snd.snd.snd))) fun x78 =>
  some (x78)
noncomputable def F_view_events (a0 : TLattice) (a1 : TEvTrace) (a2 : Int) : Option (List TEvEvent) :=
 Option.bind (F_view_seen_api_EvEvent_ (a0) (a2) (a1.Events)) fun x49 =>
  Option.bind (F_slices_Collect_api_EvEvent_ ((x49.fst, x49.snd.fst, (), x49.snd.snd.snd))) fun x79 =>
  some (x79)
noncomputable def F_view_seen_api_ReEntry_ (a0 : TLattice) (a1 : Int) (a2 : List TReEntry) : Option (List TReEntry × TLattice × Unit × Int) :=
 some ((a2, a0, (), a1))
noncomputable def F_view_entries_1 (a0 : TReEntry) : Option (Int) :=
 some (a0.Goal)
noncomputable def F_slices_AppendSeq___api_ReEntry_api_ReEntry_ (a1 : List TReEntry × TLattice × Unit × Int) : Option (List TReEntry) :=
 Option.bind (
  lpO (fun (s85 : Int × List TReEntry) =>
  cond (decide (s85.fst < (↑(List.length (List.map enc_TReEntry a1.fst)) : Int)))
  (idxO (a1.fst) (s85.fst) fun x101 =>
  Option.bind (F_view_entries_1 (x101)) fun x102 =>
  Option.bind (F_lattice_Leq (a1.snd.fst) (x102) (a1.snd.snd.snd)) fun x103 =>
  cond (decide (x103.snd = (0 : Int)))
  (cond (x103.fst)
  (sideO ((List.length (List.map enc_TReEntry s85.snd) + (1 : Nat)) * (56 : Nat) ≤ (70368744177664 : Nat)) (
  letO (IntKind.wrap IntKind.i64 (s85.fst + (1 : Int))) fun x107 =>
  some (Sum.inl ((x107, s85.snd ++ [x101])))))
  (letO (IntKind.wrap IntKind.i64 (s85.fst + (1 : Int))) fun x108 =>
  some (Sum.inl ((x108, s85.snd)))))
  (letO (IntKind.wrap IntKind.i64 (s85.fst + (1 : Int))) fun x109 =>
  some (Sum.inl ((x109, s85.snd)))))
  (some (Sum.inr (Sum.inl ((decide (s85.fst < (↑(List.length (List.map enc_TReEntry a1.fst)) : Int)), s85)))))) (((0 : Int), [])))
  (Sum.elim (fun (s83 : Bool × Int × List TReEntry) =>
  some (s83.snd.snd)) some)
noncomputable def F_slices_Collect_api_ReEntry_ (a0 : List TReEntry × TLattice × Unit × Int) : Option (List TReEntry) :=
 Option.bind (F_slices_AppendSeq___api_ReEntry_api_ReEntry_ ((a0.fst, a0.snd.fst, (), a0.snd.snd.snd))) fun x110 =>
  some (x110)
noncomputable def F_view_entries (a0 : TLattice) (a1 : TEvTrace) (a2 : Int) : Option (List TReEntry) :=
 Option.bind (F_view_seen_api_ReEntry_ (a0) (a2) (a1.Log)) fun x81 =>
  Option.bind (F_slices_Collect_api_ReEntry_ ((x81.fst, x81.snd.fst, (), x81.snd.snd.snd))) fun x111 =>
  some (x111)
noncomputable def F_view_Cut (a0 : TLattice) (a1 : TEvTrace) (a2 : Int) : Option (TEvTrace × Int) :=
 Option.bind (F_view_asked (a0) (a2) ([a1])) fun x47 =>
  cond (!decide (x47 = (0 : Int)))
  (some ((TEvTrace.mk [] [] [] (0 : Int), x47)))
  (Option.bind (F_view_events (a0) (a1) (a2)) fun x80 =>
  Option.bind (F_view_entries (a0) (a1) (a2)) fun x112 =>
  cond (decide ((0 : Int) < (↑(List.length (List.map enc_TEvEvent x80)) : Int)))
  (letO (IntKind.wrap IntKind.i64 ((↑(List.length (List.map enc_TEvEvent x80)) : Int) - (1 : Int))) fun x114 =>
  idxO (x80) (x114) fun x115 =>
  some ((TEvTrace.mk x80 x112 [] x115.Steps, (0 : Int))))
  (some ((TEvTrace.mk x80 x112 [] (0 : Int), (0 : Int)))))
noncomputable def F_invigilatorref01_lower (a0 : Int) : Option (Bool) :=
 cond (decide ((97 : Int) ≤ a0))
  (some (decide (a0 ≤ (122 : Int))))
  (some (false))
noncomputable def F_invigilatorref01_digit (a0 : Int) : Option (Bool) :=
 cond (decide ((48 : Int) ≤ a0))
  (some (decide (a0 ≤ (57 : Int))))
  (some (false))
noncomputable def F_invigilatorref01_Name (a0 : List UInt8) : Option (Bool) :=
 cond (decide ((↑(List.length a0) : Int) < (1 : Int)))
  (some (false))
  (cond (decide ((16 : Int) < (↑(List.length a0) : Int)))
  (some (false))
  (idxO (a0) ((0 : Int)) fun x135 =>
  Option.bind (F_invigilatorref01_lower ((↑(UInt8.toNat x135) : Int))) fun x137 =>
  cond (!x137)
  (some (false))
  (Option.bind (
  lpO (fun (s141 : Int) =>
  cond (decide (s141 < (↑(List.length a0) : Int)))
  (idxO (a0) (s141) fun x152 =>
  Option.bind (F_invigilatorref01_lower ((↑(UInt8.toNat x152) : Int))) fun x153 =>
  cond (!x153)
  (idxO (a0) (s141) fun x155 =>
  Option.bind (F_invigilatorref01_digit ((↑(UInt8.toNat x155) : Int))) fun x156 =>
  cond (!x156)
  (idxO (a0) (s141) fun x158 =>
  cond (!decide ((↑(UInt8.toNat x158) : Int) = (45 : Int)))
  (some (Sum.inr (Sum.inr (false))))
  (letO (IntKind.wrap IntKind.i64 (s141 + (1 : Int))) fun x160 =>
  some (Sum.inl (x160))))
  (letO (IntKind.wrap IntKind.i64 (s141 + (1 : Int))) fun x161 =>
  some (Sum.inl (x161))))
  (letO (IntKind.wrap IntKind.i64 (s141 + (1 : Int))) fun x162 =>
  some (Sum.inl (x162))))
  (some (Sum.inr (Sum.inl (()))))) ((0 : Int)))
  (Sum.elim (fun (s139 : Unit) =>
  some (true)) some))))
noncomputable def F_invigilatorref03_names (a0 : List (List UInt8)) : Option (Int × Int) :=
 cond (decide ((↑(List.length (List.map SV.str a0)) : Int) < (1 : Int)))
  (some (((-1 : Int), (3 : Int))))
  (cond (decide ((8 : Int) < (↑(List.length (List.map SV.str a0)) : Int)))
  (some (((-1 : Int), (3 : Int))))
  (Option.bind (
  lpO (fun (s131 : Int) =>
  cond (decide (s131 < (↑(List.length (List.map SV.str a0)) : Int)))
  (idxO (a0) (s131) fun x140 =>
  Option.bind (F_invigilatorref01_Name (x140)) fun x141 =>
  cond (!x141)
  (some (Sum.inr (Sum.inr ((s131, (6 : Int))))))
  (Option.bind (
  lpO (fun (s145 : Int) =>
  cond (decide (s145 < s131))
  (idxO (a0) (s145) fun x151 =>
  idxO (a0) (s131) fun x152 =>
  cond (decide (x151 = x152))
  (some (Sum.inr (Sum.inr (Sum.inr (Sum.inr ((s131, (8 : Int))))))))
  (letO (IntKind.wrap IntKind.i64 (s145 + (1 : Int))) fun x154 =>
  some (Sum.inl (x154))))
  (some (Sum.inr (Sum.inl (()))))) ((0 : Int)))
  (Sum.elim (fun (s143 : Unit) =>
  letO (IntKind.wrap IntKind.i64 (s131 + (1 : Int))) fun x155 =>
  some (Sum.inl (x155))) some)))
  (some (Sum.inr (Sum.inl (()))))) ((0 : Int)))
  (Sum.elim (fun (s129 : Unit) =>
  some (((0 : Int), (0 : Int)))) some)))
noncomputable def F_invigilatorref03_Below (a0 : TLattice) (a1 : Int) (a2 : Int) : Option (Bool) :=
 cond (decide ((0 : Int) ≤ a1))
  (cond (decide (a1 < (↑(List.length (List.map (SV.int IntKind.u8) a0.Up)) : Int)))
  (cond (decide ((0 : Int) ≤ a2))
  (idxO (a0.Up) (a1) fun x168 =>
  sideO ((0 : Int) ≤ a2) (
  some (decide (Int.tmod (Int.fdiv x168 ((2 : Int) ^ min (Int.toNat a2) (IntKind.bits IntKind.u8))) (2 : Int) = (1 : Int)))))
  (some (false)))
  (some (false)))
  (some (false))
noncomputable def F_invigilatorref03_ordered (a0 : TLattice) (a1 : Int) : Option (Bool) :=
 idxO (a0.Up) (a1) fun x162 =>
  letO (IntKind.wrap IntKind.i64 x162) fun x163 =>
  sideO ((0 : Int) ≤ (↑(List.length (List.map SV.str a0.Names)) : Int)) (
  cond (decide ((0 : Int) < Int.fdiv x163 ((2 : Int) ^ min (Int.toNat (↑(List.length (List.map SV.str a0.Names)) : Int)) (IntKind.bits IntKind.i64))))
  (some (false))
  (Option.bind (F_invigilatorref03_Below (a0) (a1) (a1)) fun x169 =>
  cond (!x169)
  (some (false))
  (Option.bind (
  lpO (fun (s173 : Int) =>
  cond (decide (s173 < (↑(List.length (List.map SV.str a0.Names)) : Int)))
  (Option.bind (F_invigilatorref03_Below (a0) (a1) (s173)) fun x187 =>
  cond (!x187)
  (letO (IntKind.wrap IntKind.i64 (s173 + (1 : Int))) fun x189 =>
  some (Sum.inl (x189)))
  (idxO (a0.Up) (s173) fun x190 =>
  letO (IntKind.wrap IntKind.i64 x190) fun x191 =>
  sideO ((0 : Int) ≤ (↑(List.length (List.map SV.str a0.Names)) : Int)) (
  letO (IntKind.wrap IntKind.i64 ((1 : Int) * (2 : Int) ^ min (Int.toNat (↑(List.length (List.map SV.str a0.Names)) : Int)) (IntKind.bits IntKind.i64))) fun x192 =>
  letO (IntKind.wrap IntKind.i64 (x192 - (1 : Int))) fun x193 =>
  cond (!decide (s173 = a1))
  (Option.bind (F_invigilatorref03_Below (a0) (s173) (a1)) fun x195 =>
  cond (x195)
  (some (Sum.inr (Sum.inr (false))))
  (cond (!decide (bits BinOp.and IntKind.i64 (bits BinOp.and IntKind.i64 x191 x193) x163 = bits BinOp.and IntKind.i64 x191 x193))
  (some (Sum.inr (Sum.inr (false))))
  (letO (IntKind.wrap IntKind.i64 (s173 + (1 : Int))) fun x198 =>
  some (Sum.inl (x198)))))
  (cond (!decide (bits BinOp.and IntKind.i64 (bits BinOp.and IntKind.i64 x191 x193) x163 = bits BinOp.and IntKind.i64 x191 x193))
  (some (Sum.inr (Sum.inr (false))))
  (letO (IntKind.wrap IntKind.i64 (s173 + (1 : Int))) fun x200 =>
  some (Sum.inl (x200)))))))
  (some (Sum.inr (Sum.inl (()))))) ((0 : Int)))
  (Sum.elim (fun (s171 : Unit) =>
  some (true)) some))))
noncomputable def F_invigilatorref03_downs (a0 : TLattice) : Option (List Int) :=
 sideO ((0 : Int) ≤ (↑(List.length (List.map SV.str a0.Names)) : Int) ∧ (↑(List.length (List.map SV.str a0.Names)) : Int) = (↑(List.length (List.map SV.str a0.Names)) : Int) ∧ (↑(List.length (List.map SV.str a0.Names)) : Int) ≤ (70368744177664 : Int) ∧ (↑(List.length (List.map SV.str a0.Names)) : Int) * (↑(1 : Nat) : Int) ≤ (70368744177664 : Int)) (
  Option.bind (
  lpO (fun (s171 : Int × List Int) =>
  cond (decide (s171.fst < (↑(List.length (List.map SV.str a0.Names)) : Int)))
  (Option.bind (
  lpO (fun (s190 : Int × List Int) =>
  cond (decide (s190.fst < (↑(List.length (List.map SV.str a0.Names)) : Int)))
  (Option.bind (F_invigilatorref03_Below (a0) (s171.fst) (s190.fst)) fun x198 =>
  cond (x198)
  (sideO ((0 : Int) ≤ s190.fst ∧ s190.fst < (↑(List.length (List.map (SV.int IntKind.u8) s190.snd)) : Int)) (
  idxO (s190.snd) ((↑(Int.toNat s190.fst) : Int)) fun x200 =>
  sideO ((0 : Int) ≤ s171.fst) (
  letO (IntKind.wrap IntKind.u8 ((1 : Int) * (2 : Int) ^ min (Int.toNat s171.fst) (IntKind.bits IntKind.u8))) fun x201 =>
  sideO ((0 : Int) ≤ s190.fst ∧ s190.fst < (↑(List.length (List.map (SV.int IntKind.u8) s190.snd)) : Int)) (
  idxO (s190.snd) ((↑(Int.toNat s190.fst) : Int)) fun x202 =>
  letO (IntKind.wrap IntKind.i64 (s190.fst + (1 : Int))) fun x203 =>
  some (Sum.inl ((x203, List.set s190.snd (Int.toNat s190.fst) (bits BinOp.or IntKind.u8 x200 x201))))))))
  (letO (IntKind.wrap IntKind.i64 (s190.fst + (1 : Int))) fun x204 =>
  some (Sum.inl ((x204, s190.snd)))))
  (some (Sum.inr (Sum.inl (s190.snd))))) (((0 : Int), s171.snd)))
  (Sum.elim (fun (s188 : List Int) =>
  letO (IntKind.wrap IntKind.i64 (s171.fst + (1 : Int))) fun x205 =>
  some (Sum.inl ((x205, s188)))) some))
  (some (Sum.inr (Sum.inl (s171.snd))))) (((0 : Int), List.replicate (Int.toNat (↑(List.length (List.map SV.str a0.Names)) : Int)) (0 : Int))))
  (Sum.elim (fun (s169 : List Int) =>
  some (s169)) some))
noncomputable def F_invigilatorref03_nearest (a0 : List Int) (a1 : Int) (a2 : Int) : Option (Int) :=
 idxO (a0) (a1) fun x212 =>
  idxO (a0) (a2) fun x213 =>
  Option.bind (
  lpO (fun (s216 : Int) =>
  cond (decide (s216 < (↑(List.length (List.map (SV.int IntKind.u8) a0)) : Int)))
  (idxO (a0) (s216) fun x221 =>
  cond (decide (x221 = bits BinOp.and IntKind.u8 x212 x213))
  (some (Sum.inr (Sum.inr (s216))))
  (letO (IntKind.wrap IntKind.i64 (s216 + (1 : Int))) fun x223 =>
  some (Sum.inl (x223))))
  (some (Sum.inr (Sum.inl (()))))) ((0 : Int)))
  (Sum.elim (fun (s214 : Unit) =>
  some ((-1 : Int))) some)
noncomputable def F_invigilatorref03_Check (a0 : TLattice) : Option (Int × Int) :=
 Option.bind (F_invigilatorref03_names (a0.Names)) fun x156 =>
  cond (!decide (x156.snd = (0 : Int)))
  (some (x156))
  (cond (!decide ((↑(List.length (List.map (SV.int IntKind.u8) a0.Up)) : Int) = (↑(List.length (List.map SV.str a0.Names)) : Int)))
  (some (((-1 : Int), (6 : Int))))
  (Option.bind (
  lpO (fun (s161 : Int) =>
  cond (decide (s161 < (↑(List.length (List.map SV.str a0.Names)) : Int)))
  (Option.bind (F_invigilatorref03_ordered (a0) (s161)) fun x166 =>
  cond (!x166)
  (some (Sum.inr (Sum.inr ((s161, (6 : Int))))))
  (letO (IntKind.wrap IntKind.i64 (s161 + (1 : Int))) fun x168 =>
  some (Sum.inl (x168))))
  (some (Sum.inr (Sum.inl (()))))) ((0 : Int)))
  (Sum.elim (fun (s159 : Unit) =>
  Option.bind (F_invigilatorref03_downs (a0)) fun x206 =>
  Option.bind (
  lpO (fun (s209 : Int) =>
  cond (decide (s209 < (↑(List.length (List.map SV.str a0.Names)) : Int)))
  (Option.bind (
  lpO (fun (s227 : Int) =>
  cond (decide (s227 < (↑(List.length (List.map SV.str a0.Names)) : Int)))
  (Option.bind (F_invigilatorref03_nearest (a0.Up) (s209) (s227)) fun x234 =>
  cond (decide (x234 < (0 : Int)))
  (some (Sum.inr (Sum.inr (Sum.inr (Sum.inr ((s209, (4 : Int))))))))
  (Option.bind (F_invigilatorref03_nearest (x206) (s209) (s227)) fun x236 =>
  cond (decide (x236 < (0 : Int)))
  (some (Sum.inr (Sum.inr (Sum.inr (Sum.inr ((s209, (4 : Int))))))))
  (letO (IntKind.wrap IntKind.i64 (s227 + (1 : Int))) fun x238 =>
  some (Sum.inl (x238)))))
  (some (Sum.inr (Sum.inl (()))))) ((0 : Int)))
  (Sum.elim (fun (s225 : Unit) =>
  letO (IntKind.wrap IntKind.i64 (s209 + (1 : Int))) fun x239 =>
  some (Sum.inl (x239))) some))
  (some (Sum.inr (Sum.inl (()))))) ((0 : Int)))
  (Sum.elim (fun (s207 : Unit) =>
  some (((0 : Int), (0 : Int)))) some)) some)))
noncomputable def F_invigilatorref03_asked (a0 : TLattice) (a1 : Int) (a2 : Int) : Option (Int) :=
 Option.bind (F_invigilatorref03_Check (a0)) fun x240 =>
  cond (decide (x240.snd = (0 : Int)))
  (cond (decide (a1 < (0 : Int)))
  (some ((7 : Int)))
  (cond (decide ((↑(List.length (List.map SV.str a0.Names)) : Int) ≤ a1))
  (some ((7 : Int)))
  (cond (decide (a2 < (0 : Int)))
  (some ((7 : Int)))
  (cond (decide ((↑(List.length (List.map SV.str a0.Names)) : Int) ≤ a2))
  (some ((7 : Int)))
  (some (x240.snd))))))
  (some (x240.snd))
noncomputable def F_invigilatorref03_Leq (a0 : TLattice) (a1 : Int) (a2 : Int) : Option (Bool × Int) :=
 Option.bind (F_invigilatorref03_asked (a0) (a1) (a2)) fun x246 =>
  cond (decide (x246 = (0 : Int)))
  (Option.bind (F_invigilatorref03_Below (a0) (a1) (a2)) fun x248 =>
  some ((x248, x246)))
  (some ((false, x246)))
noncomputable def F_invigilatorlaw31_leq (a0 : TLattice) (a1 : Int) (a2 : Int) : Option (Bool) :=
 Option.bind (F_invigilatorref03_Leq (a0) (a1) (a2)) fun x249 =>
  cond (decide (x249.snd = (0 : Int)))
  (some (x249.fst))
  (some (false))
noncomputable def F_view_Channel (a0 : TEvTrace) (a1 : List UInt8) : Option (List TArray) :=
 Option.bind (
  lpO (fun (s141 : Int × List TArray) =>
  cond (decide (s141.fst < (↑(List.length (List.map enc_TEvEvent a0.Events)) : Int)))
  (idxO (a0.Events) (s141.fst) fun x147 =>
  cond (decide (x147.Kind = (1 : Int)))
  (cond (decide (x147.Channel = a1))
  (sideO ((List.length (List.map enc_TArray s141.snd) + (1 : Nat)) * (56 : Nat) ≤ (70368744177664 : Nat)) (
  letO (IntKind.wrap IntKind.i64 (s141.fst + (1 : Int))) fun x150 =>
  some (Sum.inl ((x150, s141.snd ++ [x147.Value])))))
  (letO (IntKind.wrap IntKind.i64 (s141.fst + (1 : Int))) fun x151 =>
  some (Sum.inl ((x151, s141.snd)))))
  (letO (IntKind.wrap IntKind.i64 (s141.fst + (1 : Int))) fun x152 =>
  some (Sum.inl ((x152, s141.snd)))))
  (some (Sum.inr (Sum.inl (s141.snd))))) (((0 : Int), [])))
  (Sum.elim (fun (s139 : List TArray) =>
  some (s139)) some)
noncomputable def F_invigilatorref24_SameArray (a0 : TArray) (a1 : TArray) : Option (Bool) :=
 cond (!decide (a0.Kind = a1.Kind))
  (some (false))
  (cond (!decide (a0.Rank = a1.Rank))
  (some (false))
  (cond (!(decide (a0.Lens.fst = a1.Lens.fst) && (decide (a0.Lens.snd = a1.Lens.snd) && true)))
  (some (false))
  (cond (!decide ((↑(List.length (List.map (SV.int IntKind.i64) a0.Cells)) : Int) = (↑(List.length (List.map (SV.int IntKind.i64) a1.Cells)) : Int)))
  (some (false))
  (Option.bind (
  lpO (fun (s167 : Int) =>
  cond (decide (s167 < (↑(List.length (List.map (SV.int IntKind.i64) a0.Cells)) : Int)))
  (idxO (a0.Cells) (s167) fun x173 =>
  idxO (a1.Cells) (s167) fun x174 =>
  cond (!decide (x173 = x174))
  (some (Sum.inr (Sum.inr (false))))
  (letO (IntKind.wrap IntKind.i64 (s167 + (1 : Int))) fun x176 =>
  some (Sum.inl (x176))))
  (some (Sum.inr (Sum.inl (()))))) ((0 : Int)))
  (Sum.elim (fun (s165 : Unit) =>
  some (true)) some)))))
noncomputable def F_invigilatorref31_SameArrays (a0 : List TArray) (a1 : List TArray) : Option (Bool) :=
 cond (!decide ((↑(List.length (List.map enc_TArray a0)) : Int) = (↑(List.length (List.map enc_TArray a1)) : Int)))
  (some (false))
  (Option.bind (
  lpO (fun (s158 : Int) =>
  cond (decide (s158 < (↑(List.length (List.map enc_TArray a0)) : Int)))
  (idxO (a0) (s158) fun x165 =>
  idxO (a1) (s158) fun x166 =>
  Option.bind (F_invigilatorref24_SameArray (x165) (x166)) fun x167 =>
  cond (!x167)
  (some (Sum.inr (Sum.inr (false))))
  (letO (IntKind.wrap IntKind.i64 (s158 + (1 : Int))) fun x169 =>
  some (Sum.inl (x169))))
  (some (Sum.inr (Sum.inl (()))))) ((0 : Int)))
  (Sum.elim (fun (s156 : Unit) =>
  some (true)) some))
noncomputable def F_view_Events (a0 : TLattice) (a1 : TEvTrace) (a2 : Int) : Option (List TEvEvent × Int) :=
 Option.bind (F_view_asked (a0) (a2) ([a1])) fun x170 =>
  cond (!decide (x170 = (0 : Int)))
  (some (([], x170)))
  (Option.bind (F_view_events (a0) (a1) (a2)) fun x172 =>
  some ((x172, (0 : Int))))
noncomputable def F_view_Pairs (a0 : TLattice) (a1 : TEvTrace) (a2 : Int) : Option (List (Int × Int) × Int) :=
 Option.bind (F_view_asked (a0) (a2) ([a1])) fun x174 =>
  cond (!decide (x174 = (0 : Int)))
  (some (([], x174)))
  (Option.bind (F_view_entries (a0) (a1) (a2)) fun x176 =>
  Option.bind (
  lpO (fun (s179 : Int × List (Int × Int)) =>
  cond (decide (s179.fst < (↑(List.length (List.map enc_TReEntry x176)) : Int)))
  (idxO (x176) (s179.fst) fun x183 =>
  sideO ((List.length (List.map (encA2 (1 : Nat) (SV.int IntKind.i64)) s179.snd) + (1 : Nat)) * (16 : Nat) ≤ (70368744177664 : Nat)) (
  letO (IntKind.wrap IntKind.i64 (s179.fst + (1 : Int))) fun x184 =>
  some (Sum.inl ((x184, s179.snd ++ [x183.Value])))))
  (some (Sum.inr (Sum.inl (s179.snd))))) (((0 : Int), [])))
  (Sum.elim (fun (s177 : List (Int × Int)) =>
  some ((s177, (0 : Int)))) some))
noncomputable def F_invigilatorref29_SameEvents (a0 : List TEvEvent) (a1 : List TEvEvent) : Option (Bool) :=
 cond (!decide ((↑(List.length (List.map enc_TEvEvent a0)) : Int) = (↑(List.length (List.map enc_TEvEvent a1)) : Int)))
  (some (false))
  (Option.bind (
  lpO (fun (s191 : Int) =>
  cond (decide (s191 < (↑(List.length (List.map enc_TEvEvent a0)) : Int)))
  (idxO (a0) (s191) fun x204 =>
  idxO (a1) (s191) fun x205 =>
  cond (!decide (x204.Kind = x205.Kind))
  (some (Sum.inr (Sum.inr (false))))
  (cond (!decide (x204.Site = x205.Site))
  (some (Sum.inr (Sum.inr (false))))
  (cond (!decide (x204.Steps = x205.Steps))
  (some (Sum.inr (Sum.inr (false))))
  (cond (!decide (x204.Label = x205.Label))
  (some (Sum.inr (Sum.inr (false))))
  (cond (!decide (x204.Channel = x205.Channel))
  (some (Sum.inr (Sum.inr (false))))
  (cond (!decide (x204.E = x205.E))
  (some (Sum.inr (Sum.inr (false))))
  (Option.bind (F_invigilatorref24_SameArray (x204.Value) (x205.Value)) fun x212 =>
  cond (!x212)
  (some (Sum.inr (Sum.inr (false))))
  (letO (IntKind.wrap IntKind.i64 (s191 + (1 : Int))) fun x214 =>
  some (Sum.inl (x214))))))))))
  (some (Sum.inr (Sum.inl (()))))) ((0 : Int)))
  (Sum.elim (fun (s189 : Unit) =>
  some (true)) some))
noncomputable def F_view_same (a0 : TEvEvent) (a1 : TEvEvent) : Option (Bool) :=
 cond (decide (a0.Kind = a1.Kind))
  (cond (decide (a0.Site = a1.Site))
  (cond (decide (a0.Steps = a1.Steps))
  (cond (decide (a0.Label = a1.Label))
  (cond (decide (a0.Channel = a1.Channel))
  (cond (decide (a0.E = a1.E))
  (Option.bind (F_view_sameArray (a0.Value) (a1.Value)) fun x248 =>
  some (x248))
  (some (false)))
  (some (false)))
  (some (false)))
  (some (false)))
  (some (false)))
  (some (false))
noncomputable def F_slices_EqualFunc___api_EvEvent___api_EvEvent_api_EvEvent_api_EvEvent_ (a0 : List TEvEvent) (a1 : List TEvEvent) : Option (Bool) :=
 cond (!decide ((↑(List.length (List.map enc_TEvEvent a0)) : Int) = (↑(List.length (List.map enc_TEvEvent a1)) : Int)))
  (some (false))
  (Option.bind (
  lpO (fun (s239 : Int) =>
  cond (decide (s239 < (↑(List.length (List.map enc_TEvEvent a0)) : Int)))
  (idxO (a0) (s239) fun x246 =>
  idxO (a1) (s239) fun x247 =>
  Option.bind (F_view_same (x246) (x247)) fun x248 =>
  cond (!x248)
  (some (Sum.inr (Sum.inr (false))))
  (letO (IntKind.wrap IntKind.i64 (s239 + (1 : Int))) fun x250 =>
  some (Sum.inl (x250))))
  (some (Sum.inr (Sum.inl (()))))) ((0 : Int)))
  (Sum.elim (fun (s237 : Unit) =>
  some (true)) some))
noncomputable def F_view_Alike (a0 : TLattice) (a1 : TEvTrace) (a2 : TEvTrace) (a3 : Int) : Option (Bool × Int) :=
 Option.bind (F_view_asked (a0) (a3) ([a1, a2])) fun x232 =>
  cond (!decide (x232 = (0 : Int)))
  (some ((false, x232)))
  (Option.bind (F_view_events (a0) (a1) (a3)) fun x234 =>
  Option.bind (F_view_events (a0) (a2) (a3)) fun x235 =>
  Option.bind (F_slices_EqualFunc___api_EvEvent___api_EvEvent_api_EvEvent_api_EvEvent_ (x234) (x235)) fun x251 =>
  some ((x251, (0 : Int))))
noncomputable def F_view_Agree_1 (a0 : TReEntry) (a1 : TReEntry) : Option (Bool) :=
 some (decide (a0.Value.fst = a1.Value.fst) && (decide (a0.Value.snd = a1.Value.snd) && true))
noncomputable def F_view_differ_api_ReEntry_ (a0 : List TReEntry) (a1 : List TReEntry) : Option (Int) :=
 Option.bind (
  lpO (fun (s259 : Int) =>
  cond (decide (s259 < min (↑(List.length (List.map enc_TReEntry a0)) : Int) (↑(List.length (List.map enc_TReEntry a1)) : Int)))
  (idxO (a0) (s259) fun x266 =>
  idxO (a1) (s259) fun x267 =>
  Option.bind (F_view_Agree_1 (x266) (x267)) fun x268 =>
  cond (!x268)
  (some (Sum.inr (Sum.inr (s259))))
  (letO (IntKind.wrap IntKind.i64 (s259 + (1 : Int))) fun x270 =>
  some (Sum.inl (x270))))
  (some (Sum.inr (Sum.inl (()))))) ((0 : Int)))
  (Sum.elim (fun (s257 : Unit) =>
  some (min (↑(List.length (List.map enc_TReEntry a0)) : Int) (↑(List.length (List.map enc_TReEntry a1)) : Int))) some)
noncomputable def F_view_Agree (a0 : TLattice) (a1 : TEvTrace) (a2 : TEvTrace) (a3 : Int) : Option (Bool × Int) :=
 Option.bind (F_view_asked (a0) (a3) ([a1, a2])) fun x253 =>
  cond (!decide (x253 = (0 : Int)))
  (some ((false, x253)))
  (Option.bind (F_view_entries (a0) (a1) (a3)) fun x255 =>
  Option.bind (F_view_entries (a0) (a2) (a3)) fun x256 =>
  Option.bind (F_view_differ_api_ReEntry_ (x255) (x256)) fun x271 =>
  some ((decide (x271 = min (↑(List.length (List.map enc_TReEntry x255)) : Int) (↑(List.length (List.map enc_TReEntry x256)) : Int)), (0 : Int))))
noncomputable def F_invigilatorlaw31_ViewChannels (a0 : TLattice) (a1 : TEvTrace) (a2 : Int) : Option (Bool) :=
 Option.bind (F_invigilatorlaw20_Large (a0)) fun x13 =>
  cond (x13)
  (some (true))
  (Option.bind (F_invigilatorlaw31_far (a1)) fun x31 =>
  cond (x31)
  (some (true))
  (Option.bind (F_view_Cut (a0) (a1) (a2)) fun x116 =>
  cond (!decide (x116.snd = (0 : Int)))
  (some (true))
  (Option.bind (
  lpO (fun (s120 : Int) =>
  cond (decide (s120 < (↑(List.length (List.map enc_TEvEvent a1.Events)) : Int)))
  (idxO (a1.Events) (s120) fun x145 =>
  Option.bind (
  lpO (fun (s148 : Int × Bool) =>
  cond (decide (s148.fst < (↑(List.length (List.map enc_TEvEvent a1.Events)) : Int)))
  (cond (s148.snd)
  (idxO (a1.Events) (s148.fst) fun x156 =>
  cond (!decide (x156.Channel = x145.Channel))
  (letO (IntKind.wrap IntKind.i64 (s148.fst + (1 : Int))) fun x158 =>
  some (Sum.inl ((x158, true))))
  (idxO (a1.Events) (s148.fst) fun x159 =>
  Option.bind (F_invigilatorlaw31_leq (a0) (x159.Label) (a2)) fun x160 =>
  letO (IntKind.wrap IntKind.i64 (s148.fst + (1 : Int))) fun x161 =>
  some (Sum.inl ((x161, x160)))))
  (letO (IntKind.wrap IntKind.i64 (s148.fst + (1 : Int))) fun x162 =>
  some (Sum.inl ((x162, false)))))
  (some (Sum.inr (Sum.inl (s148.snd))))) (((0 : Int), true)))
  (Sum.elim (fun (s146 : Bool) =>
  cond (s146)
  (Option.bind (F_view_Channel (a1) (x145.Channel)) fun x164 =>
  Option.bind (F_view_Channel (x116.fst) (x145.Channel)) fun x165 =>
  Option.bind (F_invigilatorref31_SameArrays (x164) (x165)) fun x166 =>
  cond (!x166)
  (some (Sum.inr (Sum.inr (false))))
  (letO (IntKind.wrap IntKind.i64 (s120 + (1 : Int))) fun x168 =>
  some (Sum.inl (x168))))
  (letO (IntKind.wrap IntKind.i64 (s120 + (1 : Int))) fun x169 =>
  some (Sum.inl (x169)))) some))
  (some (Sum.inr (Sum.inl (()))))) ((0 : Int)))
  (Sum.elim (fun (s118 : Unit) =>
  Option.bind (F_view_Events (a0) (a1) (a2)) fun x173 =>
  Option.bind (F_view_Pairs (a0) (a1) (a2)) fun x185 =>
  cond (!decide (x173.snd = (0 : Int)))
  (some (false))
  (cond (!decide (x185.snd = (0 : Int)))
  (some (false))
  (Option.bind (F_invigilatorref29_SameEvents (x116.fst.Events) (x173.fst)) fun x215 =>
  cond (!x215)
  (some (false))
  (cond (!decide ((↑(List.length (List.map enc_TReEntry x116.fst.Log)) : Int) = (↑(List.length (List.map (encA2 (1 : Nat) (SV.int IntKind.i64)) x185.fst)) : Int)))
  (some (false))
  (Option.bind (
  lpO (fun (s220 : Int) =>
  cond (decide (s220 < (↑(List.length (List.map (encA2 (1 : Nat) (SV.int IntKind.i64)) x185.fst)) : Int)))
  (idxO (x116.fst.Log) (s220) fun x226 =>
  idxO (x185.fst) (s220) fun x227 =>
  cond (!(decide (x226.Value.fst = x227.fst) && (decide (x226.Value.snd = x227.snd) && true)))
  (some (Sum.inr (Sum.inr (false))))
  (letO (IntKind.wrap IntKind.i64 (s220 + (1 : Int))) fun x229 =>
  some (Sum.inl (x229))))
  (some (Sum.inr (Sum.inl (()))))) ((0 : Int)))
  (Sum.elim (fun (s218 : Unit) =>
  Option.bind (F_view_Check (a0) (x116.fst)) fun x230 =>
  cond (!decide (x230.snd = (0 : Int)))
  (some (true))
  (Option.bind (F_view_Alike (a0) (a1) (x116.fst) (a2)) fun x252 =>
  Option.bind (F_view_Agree (a0) (a1) (x116.fst) (a2)) fun x272 =>
  cond (decide (x252.snd = (0 : Int)))
  (cond (x252.fst)
  (cond (decide (x272.snd = (0 : Int)))
  (cond (x272.fst)
  (some (true))
  (some (false)))
  (some (false)))
  (some (false)))
  (some (false)))) some)))))) some))))
end Go.Sx.O
namespace Go.Sx.O
open Go
theorem Large_spec (l : TLattice) : Tot (F_invigilatorlaw20_Large l) fun r => r = false → l.Names.length ≤ 20 ∧ l.Up.length ≤ 20 ∧ ∀ s ∈ l.Names, s.length ≤ 50 := by
  unfold F_invigilatorlaw20_Large
  simp only [tot_bind, List.length_map]
  refine Tot.count l.Names.length (fun k s => s = (k : Int) ∧ k ≤ 30 ∧ ∀ x ∈ l.Names.take k, x.length ≤ 50) ?_ ⟨rfl, by omega, by simp⟩
  rintro k _ hk ⟨rfl, h30, hall⟩
  simp only [tot_some, tot_cond, tot_let, tot_idx, Sum.elim_inl, Sum.elim_inr, decide_eq_true_eq, decide_eq_false_iff_not, Int.toNat_natCast]
  refine ⟨fun h1 => ⟨fun h2 => ⟨by omega, _, List.getElem?_eq_getElem (by omega), fun h3 => by simp, fun h3 => ?_⟩, fun h2 => ?_⟩, fun h1 => ?_⟩
  · rw [w64 (by omega) (by omega)]
    refine ⟨by omega, by omega, by omega, fun x hx => ?_⟩
    rw [List.take_add_one, List.getElem?_eq_getElem (by omega)] at hx
    rcases List.mem_append.1 hx with hx | hx
    · exact hall x hx
    · simp at hx; subst hx; omega
  · refine ⟨fun h => by simp, fun h hh => ?_⟩
    simp at hh
    omega
  · refine ⟨fun h => by simp, fun h hh => ?_⟩
    simp at hh
    refine ⟨by omega, by omega, ?_⟩
    rw [List.take_of_length_le (by omega)] at hall
    exact hall
theorem far_spec (t : TEvTrace) : Tot (F_invigilatorlaw31_far t) fun r => r = false → t.Events.length ≤ 60 ∧ t.Log.length ≤ 60 ∧ ∀ v ∈ t.Events, v.Channel.length ≤ 100 ∧ v.Value.Cells.length ≤ 450 := by
  unfold F_invigilatorlaw31_far
  simp only [tot_bind, List.length_map]
  refine Tot.count t.Events.length (fun k s => s = (k : Int) ∧ k ≤ 70 ∧ ∀ v ∈ t.Events.take k, v.Channel.length ≤ 100 ∧ v.Value.Cells.length ≤ 450) ?_ ⟨rfl, by omega, by simp⟩
  rintro k _ hk ⟨rfl, h30, hall⟩
  simp only [tot_some, tot_cond, tot_let, tot_idx, Sum.elim_inl, Sum.elim_inr, decide_eq_true_eq, decide_eq_false_iff_not, Int.toNat_natCast]
  refine ⟨fun h1 => ⟨fun h2 => ⟨by omega, _, List.getElem?_eq_getElem (by omega), fun h3 => by simp, fun h3 => ⟨by omega, _, List.getElem?_eq_getElem (by omega), fun h4 => by simp, fun h4 => ?_⟩⟩, fun h2 => ?_⟩, fun h1 => ?_⟩
  · rw [w64 (by omega) (by omega)]
    refine ⟨by omega, by omega, by omega, fun x hx => ?_⟩
    rw [List.take_add_one, List.getElem?_eq_getElem (by omega)] at hx
    rcases List.mem_append.1 hx with hx | hx
    · exact hall x hx
    · simp at hx; subst hx; omega
  · refine ⟨fun h => by simp, fun h hh => ?_⟩
    simp at hh
    omega
  · refine ⟨fun h => by simp, fun h hh => ?_⟩
    simp at hh
    refine ⟨by omega, by omega, ?_⟩
    rw [List.take_of_length_le (by omega)] at hall
    exact hall
theorem find_loop {α τ : Type} {l : List α} (p : α → Bool) {step : Int → Option (Int ⊕ τ)} {d : τ} {g : Int → τ}
    (h1 : ∀ (k : Nat) x, l[k]? = some x → step (k : Int) = if p x then some (.inr (g k)) else some (.inl ((k : Int) + 1)))
    (h2 : step (l.length : Int) = some (.inr d)) :
    lpO step 0 = (match l.findIdx? p with | some i => some (g i) | none => some d) := by
  have key : ∀ j k, j + k = l.length → lpO step (k : Int) = (match (l.drop k).findIdx? p with | some i => some (g ((k + i : Nat) : Int)) | none => some d) := by
    intro j
    induction j with
    | zero =>
      intro k hk
      rw [lpO_eq]
      have : k = l.length := by omega
      subst this
      rw [h2]
      simp
    | succ j ih =>
      intro k hk
      have hlt : k < l.length := by omega
      rw [lpO_eq, h1 k _ (List.getElem?_eq_getElem hlt), List.drop_eq_getElem_cons hlt, List.findIdx?_cons]
      split
      · simp
      · have := ih (k + 1) (by omega)
        simp only [Option.bind_some, Sum.elim_inl]
        push_cast at this
        rw [this]
        cases (l.drop (k + 1)).findIdx? p with
        | none => rfl
        | some i => simp; congr 1; omega
  have := key l.length 0 (by omega)
  simpa using this
end Go.Sx.O
namespace Go.Sx.O
open Go
theorem dropWhile_nil {α : Type} {p : α → Bool} : ∀ {l : List α}, l.dropWhile p = [] ↔ ∀ x ∈ l, p x = true
  | [] => by simp
  | a :: l => by
    rw [List.dropWhile_cons]
    cases h : p a with
    | true => simp [h, dropWhile_nil (l := l)]
    | false => simp [h]
theorem Index_strings_spec (l : List (List UInt8)) (s : List UInt8) (hl : l.length ≤ 1000000000) :
    F_slices_Index___string_string_ l s = some (match l.findIdx? (fun x => decide (s = x)) with | some i => (i : Int) | none => -1) := by
  unfold F_slices_Index___string_string_
  rw [find_loop (l := l) (fun x => decide (s = x)) (d := .inl ()) (g := .inr) ?_ ?_]
  · cases l.findIdx? (fun x => decide (s = x)) <;> rfl
  · intro k x hx
    have hlt : k < l.length := by
      by_cases h : k < l.length
      · exact h
      · rw [List.getElem?_eq_none (by omega)] at hx; cases hx
    simp only [List.length_map, Int.ofNat_lt, hlt, decide_true, cond_true, idxO, Int.toNat_natCast, hx, Option.bind_some, letO, Int.natCast_nonneg, if_true]
    rw [w64 (by omega) (by omega)]
    cases decide (s = x) <;> rfl
  · simp
theorem Contains_strings_spec (l : List (List UInt8)) (s : List UInt8) (hl : l.length ≤ 1000000000) :
    F_slices_Contains___string_string_ l s = some (decide (s ∈ l)) := by
  unfold F_slices_Contains___string_string_
  rw [Index_strings_spec l s hl]
  cases h : l.findIdx? (fun x => decide (s = x)) with
  | none =>
    have := List.findIdx?_eq_none_iff.1 h
    simp only [Option.bind_some]
    congr 1
    have hn : s ∉ l := fun hm => by have := this s hm; simp at this
    simp [hn]
  | some i =>
    have := List.findIdx?_eq_some_iff_getElem.1 h
    obtain ⟨hi, h1, _⟩ := this
    have hm : s ∈ l := by
      have e : s = l[i] := by simpa using h1
      rw [e]; exact List.getElem_mem hi
    simp [hm]
def inSet (set : List Bool) (c : UInt8) : Bool := set.getD c.toNat false
theorem contains_spec (set : List Bool) (c : UInt8) (h : set.length = 256) : F__Pstrings_asciiSet__contains set (c.toNat : Int) = some (inSet set c) := by
  unfold F__Pstrings_asciiSet__contains
  have hc : c.toNat < 256 := c.toNat_lt
  have h2 : set[c.toNat]? = some (set[c.toNat]'(by omega)) := List.getElem?_eq_getElem _
  have h3 : (c.toNat : Int) < 256 := by omega
  simp [sideO, idxO, inSet, h2, h3]
def trimR (p : UInt8 → Bool) (s : List UInt8) : List UInt8 := (s.reverse.dropWhile p).reverse
theorem trimR_all {p : UInt8 → Bool} {s : List UInt8} : (trimR p s).dropWhile p = [] ↔ ∀ c ∈ s, p c = true := by
  unfold trimR
  constructor
  · intro h c hc
    have h1 : ∀ c ∈ (s.reverse.dropWhile p).reverse, p c = true := dropWhile_nil.1 h
    have h2 : s.reverse.dropWhile p = [] := by
      cases e : s.reverse.dropWhile p with
      | nil => rfl
      | cons a r =>
        have := List.head?_dropWhile_not p s.reverse
        rw [e] at this
        simp at this
        rw [e] at h1
        rw [h1 a (by simp)] at this
        cases this
    exact dropWhile_nil.1 h2 c (by simpa using hc)
  · intro h
    have : s.reverse.dropWhile p = [] := dropWhile_nil.2 fun c hc => h c (by simpa using hc)
    rw [this]; rfl
theorem trimRightASCII_spec (s : List UInt8) (set : List Bool) (h : set.length = 256) (hs : s.length ≤ 1000000000) : F_strings_trimRightASCII s set = some (trimR (inSet set) s) := by
  unfold F_strings_trimRightASCII
  apply Tot.eq
  simp only [tot_bind]
  refine Tot.loop (fun s => s.length) (fun r => r.length ≤ 1000000000 ∧ trimR (inSet set) r = trimR (inSet set) s) ?_ ⟨hs, rfl⟩
  rintro r ⟨hr, he⟩
  simp only [tot_some, tot_cond, tot_let, tot_idx, tot_side, tot_bind, Sum.elim_inl, Sum.elim_inr, decide_eq_true_eq, decide_eq_false_iff_not]
  refine ⟨fun h1 => ?_, fun h1 => ?_⟩
  · have h0 : r ≠ [] := by rintro rfl; simp at h1
    rw [w64 (by omega) (by omega)]
    have e1 : ((r.length : Int) - 1).toNat = r.length - 1 := by omega
    rw [e1]
    refine ⟨by omega, _, List.getElem?_eq_getElem (by omega), ?_⟩
    rw [contains_spec set _ h]
    simp only [tot_some, Bool.not_eq_true', Bool.not_eq_false']
    have hr2 : r = r.dropLast ++ [r[r.length - 1]'(by omega)] := by
      rw [← List.getLast_eq_getElem h0]; exact (List.dropLast_concat_getLast h0).symm
    refine ⟨fun h2 => ?_, fun h2 => ⟨⟨by omega, by omega⟩, ⟨by simp; omega, ?_⟩, by simp; omega⟩⟩
    · rw [← he]
      unfold trimR
      rw [hr2]
      simp [h2]
    · rw [← he]
      simp only [Int.toNat_zero, List.drop_zero]
      rw [← List.dropLast_eq_take]
      conv => rhs; rw [hr2]
      unfold trimR
      simp [h2]
  · have h0 : r = [] := List.length_eq_zero_iff.1 (by omega)
    rw [← he, h0]; rfl
theorem trimLeftASCII_spec (s : List UInt8) (set : List Bool) (h : set.length = 256) (hs : s.length ≤ 1000000000) : F_strings_trimLeftASCII s set = some (s.dropWhile (inSet set)) := by
  unfold F_strings_trimLeftASCII
  apply Tot.eq
  simp only [tot_bind]
  refine Tot.loop (fun s => s.length) (fun r => r.length ≤ 1000000000 ∧ r.dropWhile (inSet set) = s.dropWhile (inSet set)) ?_ ⟨hs, rfl⟩
  rintro r ⟨hr, he⟩
  simp only [tot_some, tot_cond, tot_let, tot_idx, tot_side, tot_bind, Sum.elim_inl, Sum.elim_inr, decide_eq_true_eq, decide_eq_false_iff_not]
  cases r with
  | nil => simp [← he]
  | cons a r =>
    refine ⟨fun h1 => ⟨by omega, a, rfl, ?_⟩, fun h1 => absurd h1 (by simp)⟩
    rw [contains_spec set _ h]
    simp only [tot_some, Bool.not_eq_true', Bool.not_eq_false']
    refine ⟨fun h2 => ?_, fun h2 => ⟨by simp; omega, ⟨?_, ?_⟩, ?_⟩⟩
    · rw [← he]; simp [h2]
    · simp at hr ⊢; omega
    · rw [← he]; simp [h2]
    · simp
end Go.Sx.O
namespace Go.Sx.O
open Go
theorem inSet_set {set : List Bool} {c d : UInt8} (h : set.length = 256) : inSet (set.set c.toNat true) d = (decide (d = c) || inSet set d) := by
  have hc : c.toNat < 256 := c.toNat_lt
  unfold inSet
  rw [List.getD_eq_getElem?_getD, List.getD_eq_getElem?_getD, List.getElem?_set]
  by_cases e : c.toNat = d.toNat
  · have : d = c := (UInt8.toNat_inj.1 e).symm
    subst this
    simp [h, hc]
  · have : d ≠ c := fun e' => e (by rw [e'])
    simp [e, this]
theorem makeASCIISet_spec (cs : List UInt8) (h : ∀ c ∈ cs, c.toNat < 128) (hs : cs.length ≤ 1000000000) : Tot (F_strings_makeASCIISet cs) fun r => r.2 = true ∧ r.1.length = 256 ∧ ∀ d, inSet r.1 d = decide (d ∈ cs) := by
  unfold F_strings_makeASCIISet
  simp only [tot_bind]
  refine Tot.count cs.length (fun k s => s.1 = (k : Int) ∧ s.2.length = 256 ∧ ∀ d, inSet s.2 d = decide (d ∈ cs.take k)) ?_ ⟨rfl, List.length_replicate, fun d => ?_⟩
  · rintro k ⟨i, set⟩ hk ⟨h0, h1, h2⟩
    simp only at h0 h1 h2
    subst h0
    simp only [tot_some, tot_cond, tot_let, tot_idx, tot_side, Sum.elim_inl, Sum.elim_inr, decide_eq_true_eq, decide_eq_false_iff_not, Int.toNat_natCast]
    refine ⟨fun hlt => ⟨by omega, _, List.getElem?_eq_getElem (by omega), fun h3 => ?_, fun h3 => ?_⟩, fun hlt => ?_⟩
    · have := h cs[k] (List.getElem_mem _)
      omega
    · have hc : cs[k].toNat < 256 := (cs[k]'(by omega)).toNat_lt
      refine ⟨⟨by omega, by omega⟩, by omega, _, List.getElem?_eq_getElem (by omega), ?_⟩
      rw [w64 (by omega) (by omega)]
      refine ⟨by omega, by omega, by simpa using h1, fun d => ?_⟩
      have hm : d ∈ cs.take (k + 1) ↔ d ∈ cs.take k ∨ d = cs[k] := by
        rw [List.take_add_one, List.getElem?_eq_getElem (by omega), List.mem_append]
        simp
      rw [inSet_set h1, h2, Bool.eq_iff_iff]
      simp only [Bool.or_eq_true, decide_eq_true_eq, hm]
      exact or_comm
    · refine ⟨trivial, h1, fun d => ?_⟩
      rw [h2, List.take_of_length_le (by omega)]
  · unfold inSet
    rw [List.getD_eq_getElem?_getD, List.getElem?_replicate]
    split <;> simp
theorem Trim_spec (s cs : List UInt8) (h : ∀ c ∈ cs, c.toNat < 128) (h1 : 2 ≤ cs.length) (hs : cs.length ≤ 1000000000) (hl : s.length ≤ 1000000000) :
    F_strings_Trim s cs = some ((trimR (fun c => decide (c ∈ cs)) s).dropWhile (fun c => decide (c ∈ cs))) := by
  unfold F_strings_Trim
  have e0 : (ByteArray.mk #[]).data.toList = [] := rfl
  simp only [e0]
  cases s with
  | nil => simp [trimR]
  | cons a r =>
    have e1 : decide (a :: r = []) = false := by simp
    have e2 : decide (cs = []) = false := by cases cs <;> simp at h1 ⊢
    have e3 : decide ((cs.length : Int) = 1) = false := by simp; omega
    simp only [e1, e2, e3, cond_false]
    obtain ⟨x, hx, hx1, hx2, hx3⟩ := makeASCIISet_spec cs h hs
    have e4 : inSet x.1 = fun c => decide (c ∈ cs) := funext hx3
    rw [hx]
    simp only [Option.bind_some, hx1, cond_true]
    rw [trimRightASCII_spec _ _ hx2 hl]
    simp only [Option.bind_some]
    rw [trimLeftASCII_spec _ _ hx2 (by
      refine Nat.le_trans ?_ hl
      unfold trimR
      rw [List.length_reverse]
      refine Nat.le_trans (List.dropWhile_sublist _).length_le (by simp))]
    rw [e4]
    rfl
def wordSet : List UInt8 := [97, 98, 99, 100, 101, 102, 103, 104, 105, 106, 107, 108, 109, 110, 111, 112, 113, 114, 115, 116, 117, 118, 119, 120, 121, 122, 48, 49, 50, 51, 52, 53, 54, 55, 56, 57, 45]
def wname (s : List UInt8) : Bool := decide (s.length ≤ 16) && (match s with | [] => false | c :: _ => decide (97 ≤ c.toNat) && decide (c.toNat ≤ 122)) && s.all fun c => decide (c ∈ wordSet)
theorem Name_spec (s : List UInt8) (hl : s.length ≤ 1000000000) : F_words_Name s = some (wname s) := by
  unfold F_words_Name
  have e0 : (ByteArray.mk #[]).data.toList = [] := rfl
  simp only [e0]
  rw [Trim_spec s _ (by decide) (by decide) (by decide) hl]
  cases s with
  | nil => rfl
  | cons a r =>
    have e1 : decide (a :: r = []) = false := by simp
    simp only [e1, cond_false, Option.bind_some]
    have e5 : idxO (a :: r) 0 = fun f => (f a : Option Bool) := rfl
    simp only [e5]
    unfold wname
    by_cases h1 : (16 : Int) < ((a :: r).length : Int)
    · have : ¬ (a :: r).length ≤ 16 := by omega
      simp only [h1, decide_true, cond_true, this, decide_false, Bool.false_and]
    · have h1' : (a :: r).length ≤ 16 := by omega
      simp only [h1, decide_false, cond_false, h1', decide_true, Bool.true_and]
      by_cases h2 : (a.toNat : Int) < 97
      · have : ¬ 97 ≤ a.toNat := by omega
        simp only [h2, decide_true, cond_true, this, decide_false, Bool.false_and]
      · have h2' : 97 ≤ a.toNat := by omega
        simp only [h2, decide_false, cond_false, h2', decide_true, Bool.true_and]
        by_cases h3 : (122 : Int) < (a.toNat : Int)
        · have : ¬ a.toNat ≤ 122 := by omega
          simp only [h3, decide_true, cond_true, this, decide_false, Bool.false_and]
        · have h3' : a.toNat ≤ 122 := by omega
          simp only [h3, decide_false, cond_false, h3', decide_true, Bool.true_and]
          congr 1
          rw [Bool.eq_iff_iff, decide_eq_true_eq, trimR_all, List.all_eq_true]
          rfl
end Go.Sx.O
namespace Go.Sx.O
open Go
theorem bit_at : ∀ u : Fin 256, ∀ b : Fin 9, bits .and .u8 (Int.fdiv (u.val : Int) (2 ^ min b.val (IntKind.bits .u8))) 1 = if Nat.testBit u b then 1 else 0 := by decide +kernel
theorem bitAt {u : Int} {b : Nat} (h0 : 0 ≤ u) (h1 : u < 256) (hb : b ≤ 8) : bits .and .u8 (Int.fdiv u (2 ^ min b (IntKind.bits .u8))) 1 = if u.toNat.testBit b then 1 else 0 := by
  have := bit_at ⟨u.toNat, by omega⟩ ⟨b, by omega⟩
  simp only at this
  rw [Int.toNat_of_nonneg h0] at this
  exact this
theorem ofInt_u8 {u : Int} (h0 : 0 ≤ u) : BitVec.ofInt 8 u = BitVec.ofNat 8 u.toNat := by
  conv => lhs; rw [← Int.toNat_of_nonneg h0]
  exact BitVec.ofInt_natCast 8 u.toNat
theorem wrap_u8 {n : Nat} (h : n < 256) : IntKind.wrap .u8 (n : Int) = n := by
  simp only [IntKind.wrap, IntKind.signed, IntKind.bits, Bool.false_and]
  have h3 : (2 : Int) ^ 8 = 256 := by decide
  simp only [h3]
  have : (n : Int) % 256 = n := by omega
  simp [this]
theorem bits_and {a b : Int} (ha : 0 ≤ a) (ha' : a < 256) (hb : 0 ≤ b) (hb' : b < 256) : bits .and .u8 a b = ((a.toNat &&& b.toNat : Nat) : Int) := by
  have e : bits .and .u8 a b = IntKind.wrap .u8 ((BitVec.ofInt 8 a &&& BitVec.ofInt 8 b).toNat : Int) := rfl
  rw [e, ofInt_u8 ha, ofInt_u8 hb]
  rw [wrap_u8 (BitVec.isLt _)]
  rw [BitVec.toNat_and, BitVec.toNat_ofNat, BitVec.toNat_ofNat, Nat.mod_eq_of_lt (by omega), Nat.mod_eq_of_lt (by omega)]
theorem bits_or {a b : Int} (ha : 0 ≤ a) (ha' : a < 256) (hb : 0 ≤ b) (hb' : b < 256) : bits .or .u8 a b = ((a.toNat ||| b.toNat : Nat) : Int) := by
  have e : bits .or .u8 a b = IntKind.wrap .u8 ((BitVec.ofInt 8 a ||| BitVec.ofInt 8 b).toNat : Int) := rfl
  rw [e, ofInt_u8 ha, ofInt_u8 hb]
  rw [wrap_u8 (BitVec.isLt _)]
  rw [BitVec.toNat_or, BitVec.toNat_ofNat, BitVec.toNat_ofNat, Nat.mod_eq_of_lt (by omega), Nat.mod_eq_of_lt (by omega)]
theorem bits_andNot {a b : Int} (ha : 0 ≤ a) (ha' : a < 256) (hb : 0 ≤ b) (hb' : b < 256) : bits .andNot .u8 a b = 0 ↔ ∀ i, a.toNat.testBit i = true → b.toNat.testBit i = true := by
  have e : bits .andNot .u8 a b = IntKind.wrap .u8 ((BitVec.ofInt 8 a &&& ~~~BitVec.ofInt 8 b).toNat : Int) := rfl
  rw [e, ofInt_u8 ha, ofInt_u8 hb]
  rw [wrap_u8 (BitVec.isLt _)]
  have hbit : ∀ i, (BitVec.ofNat 8 a.toNat &&& ~~~BitVec.ofNat 8 b.toNat).getLsbD i = (decide (i < 8) && a.toNat.testBit i && !(b.toNat.testBit i)) := by
    intro i
    rw [BitVec.getLsbD_and, BitVec.getLsbD_not, BitVec.getLsbD_ofNat, BitVec.getLsbD_ofNat]
    cases decide (i < 8) <;> simp
  have h8 : ∀ i, a.toNat.testBit i = true → i < 8 := by
    intro i hi
    rcases Nat.lt_or_ge i 8 with g | g
    · exact g
    · rw [Nat.testBit_lt_two_pow (Nat.lt_of_lt_of_le (show a.toNat < 2 ^ 8 by omega) (Nat.pow_le_pow_right (by omega) g))] at hi
      cases hi
  constructor
  · intro h i hi
    have h0 : (BitVec.ofNat 8 a.toNat &&& ~~~BitVec.ofNat 8 b.toNat).toNat = 0 := Int.ofNat_eq_zero.1 h
    have h1 := hbit i
    rw [← BitVec.testBit_toNat, h0, Nat.zero_testBit] at h1
    have := h8 i hi
    simp [this, hi] at h1
    exact h1
  · intro h
    have h1 : (BitVec.ofNat 8 a.toNat &&& ~~~BitVec.ofNat 8 b.toNat).toNat = 0 := by
      apply Nat.eq_of_testBit_eq
      intro i
      rw [BitVec.testBit_toNat, hbit i, Nat.zero_testBit]
      cases hi : a.toNat.testBit i with
      | false => simp
      | true => simp [h i hi]
    rw [h1]; rfl
theorem and_lt {a b : Nat} (h : a < 256) : a &&& b < 256 := Nat.lt_of_le_of_lt Nat.and_le_left h
theorem or_lt {a b : Nat} (h : a < 256) (k : b < 256) : a ||| b < 256 := Nat.or_lt_two_pow (n := 8) h k
theorem named_total (ns : List (List UInt8)) (h : ns.length ≤ 20) (hn : ∀ s ∈ ns, s.length ≤ 50) : Tot (F_lattice_named ns) fun r => r.2 = 0 → 1 ≤ ns.length ∧ ns.length ≤ 8 := by
  unfold F_lattice_named
  simp only [tot_cond, tot_some, tot_bind, List.length_map, decide_eq_true_eq, decide_eq_false_iff_not]
  refine ⟨fun _ h => absurd h (by decide), fun h1 => ⟨fun _ h => absurd h (by decide), fun h2 => ?_⟩⟩
  refine Tot.count ns.length (fun k s => s = (k : Int)) ?_ rfl
  rintro k _ hk rfl
  simp only [tot_some, tot_cond, tot_let, tot_idx, tot_side, tot_bind, Sum.elim_inl, Sum.elim_inr, decide_eq_true_eq, decide_eq_false_iff_not, Int.toNat_natCast]
  refine ⟨fun hlt => ⟨by omega, _, List.getElem?_eq_getElem (by omega), ?_⟩, fun hlt => fun _ => by omega⟩
  rw [Name_spec _ (by have := hn ns[k] (List.getElem_mem _); omega), tot_some]
  refine ⟨fun _ h => absurd h (by decide), fun _ => ⟨⟨by omega, by omega⟩, ?_⟩⟩
  rw [Contains_strings_spec _ _ (by simp; omega), tot_some]
  refine ⟨fun _ h => absurd h (by decide), fun _ => ?_⟩
  rw [w64 (by omega) (by omega)]
  exact ⟨by omega, by omega⟩
end Go.Sx.O
namespace Go.Sx.O
open Go
def U8s (l : List Int) : Prop := ∀ x ∈ l, 0 ≤ x ∧ x < 256
theorem U8s.get {l : List Int} (h : U8s l) {i : Nat} {x : Int} (hx : l[i]? = some x) : 0 ≤ x ∧ x < 256 := h x (List.mem_of_getElem? hx)
theorem U8s.set {l : List Int} (h : U8s l) {i : Nat} {x : Int} (h0 : 0 ≤ x) (h1 : x < 256) : U8s (l.set i x) := by
  intro y hy
  rcases List.mem_or_eq_of_mem_set hy with g | g
  · exact h y g
  · subst g; exact ⟨h0, h1⟩
theorem mod_u8 {e : Int} : 0 ≤ IntKind.wrap .u8 e ∧ IntKind.wrap .u8 e < 256 := by
  simp only [IntKind.wrap, IntKind.signed, IntKind.bits, Bool.false_and]
  have h3 : (2 : Int) ^ 8 = 256 := by decide
  simp only [h3]
  refine ⟨?_, ?_⟩ <;> simp <;> omega
theorem orU {a b : Int} (ha : 0 ≤ a) (ha' : a < 256) (hb : 0 ≤ b) (hb' : b < 256) : 0 ≤ bits .or .u8 a b ∧ bits .or .u8 a b < 256 := by
  rw [bits_or ha ha' hb hb']
  have := or_lt (a := a.toNat) (b := b.toNat) (by omega) (by omega)
  omega
theorem andU {a b : Int} (ha : 0 ≤ a) (ha' : a < 256) (hb : 0 ≤ b) (hb' : b < 256) : 0 ≤ bits .and .u8 a b ∧ bits .and .u8 a b < 256 := by
  rw [bits_and ha ha' hb hb']
  have := and_lt (a := a.toNat) (b := b.toNat) (by omega)
  omega
theorem get_lt {α : Type} {l : List α} {i : Nat} (h : i < l.length) : ∃ x, l[i]? = some x := ⟨_, List.getElem?_eq_getElem h⟩
theorem of_total (l : TLattice) (hu : U8s l.Up) (hn : l.Names.length ≤ 8) (hl : l.Up.length ≤ 8) :
    Tot (F_lattice_of l) fun o => o.n_ = l.Names.length ∧ o.up_.length = 8 ∧ o.down_.length = 8 ∧ U8s o.up_ ∧ U8s o.down_ := by
  unfold F_lattice_of
  simp only [tot_bind, List.length_map]
  refine Tot.count l.Up.length (fun k s => s.1 = (k : Int) ∧ s.2.1.length = 8 ∧ s.2.2.length = 8 ∧ U8s s.2.1 ∧ U8s s.2.2) ?_ ⟨rfl, rfl, rfl, by intro x hx; simp at hx; omega, by intro x hx; simp at hx; omega⟩
  rintro k ⟨i, up, down⟩ hk ⟨h0, h1, h2, h3, h4⟩
  simp only at h0 h1 h2 h3 h4
  subst h0
  simp only [tot_some, tot_cond, tot_let, tot_idx, tot_side, tot_bind, Sum.elim_inl, Sum.elim_inr, decide_eq_true_eq, decide_eq_false_iff_not, Int.toNat_natCast]
  refine ⟨fun hlt => ?_, fun hlt => ⟨trivial, h1, h2, h3, h4⟩⟩
  obtain ⟨x, hx⟩ := get_lt (l := l.Up) (i := k) (by omega)
  obtain ⟨y, hy⟩ := get_lt (l := up) (i := k) (by omega)
  refine ⟨by omega, x, hx, ⟨by omega, by omega⟩, by omega, y, hy, ?_⟩
  have hx' := hu.get hx
  refine Tot.count l.Names.length (fun j s => s.1 = (j : Int) ∧ s.2.length = 8 ∧ U8s s.2) ?_ ⟨rfl, h2, h4⟩
  rintro j ⟨i', d⟩ hj ⟨g0, g1, g2⟩
  simp only at g0 g1 g2
  subst g0
  simp only [tot_some, tot_cond, tot_let, tot_idx, tot_side, tot_bind, Sum.elim_inl, Sum.elim_inr, decide_eq_true_eq, decide_eq_false_iff_not, Int.toNat_natCast]
  refine ⟨fun hlt' => ?_, fun _ => ?_⟩
  · obtain ⟨z, hz⟩ := get_lt (l := d) (i := j) (by omega)
    have hz' := g2.get hz
    rw [w64 (by omega) (by omega)]
    refine ⟨⟨by omega, by omega⟩, by omega, z, hz, by omega, by omega, ⟨by omega, by omega⟩, by omega, z, hz, by omega, by omega, by simpa using g1, ?_⟩
    have hw := mod_u8 (e := bits .and .u8 (Int.fdiv x (2 ^ min j (IntKind.bits .u8))) 1 * 2 ^ min k (IntKind.bits .u8))
    have ho := orU hz'.1 hz'.2 hw.1 hw.2
    exact g2.set ho.1 ho.2
  · rw [w64 (by omega) (by omega)]
    exact ⟨by omega, by omega, by simpa using h1, g1, h3.set hx'.1 hx'.2, g2⟩
theorem bound_ups_total (m : List Int) (n : Nat) (a b : Nat) (hm : m.length = 8) (hu : U8s m) (hn : n ≤ 8) (ha : a < n) (hb : b < n) : Tot (F_lattice_bound_lattice_ups_ m n a b) fun _ => True := by
  unfold F_lattice_bound_lattice_ups_
  obtain ⟨x, hx⟩ := get_lt (l := m) (i := a) (by omega)
  obtain ⟨y, hy⟩ := get_lt (l := m) (i := b) (by omega)
  simp only [tot_some, tot_cond, tot_let, tot_idx, tot_side, tot_bind, Int.toNat_natCast]
  refine ⟨⟨by omega, by omega⟩, by omega, x, hx, ⟨by omega, by omega⟩, by omega, y, hy, ?_⟩
  refine Tot.count n (fun k s => s = (k : Int)) ?_ rfl
  rintro k _ hk rfl
  simp only [tot_some, tot_cond, tot_let, tot_idx, tot_side, tot_bind, Sum.elim_inl, Sum.elim_inr, decide_eq_true_eq, decide_eq_false_iff_not, Int.toNat_natCast]
  refine ⟨fun hlt => ⟨by omega, fun _ => ?_, fun _ => ?_⟩, fun _ => trivial⟩
  · obtain ⟨z, hz⟩ := get_lt (l := m) (i := k) (by omega)
    rw [w64 (by omega) (by omega)]
    exact ⟨⟨by omega, by omega⟩, by omega, z, hz, fun _ => trivial, fun _ => ⟨by omega, by omega⟩⟩
  · rw [w64 (by omega) (by omega)]
    exact ⟨by omega, by omega⟩
theorem bound_downs_total (m : List Int) (n : Nat) (a b : Nat) (hm : m.length = 8) (hu : U8s m) (hn : n ≤ 8) (ha : a < n) (hb : b < n) : Tot (F_lattice_bound_lattice_downs_ m n a b) fun _ => True := bound_ups_total m n a b hm hu hn ha hb
theorem Len8_total (x : Int) (h0 : 0 ≤ x) (h1 : x < 256) : Tot (F_math_bits_Len8 x) fun _ => True := by
  unfold F_math_bits_Len8
  rw [tot_idx]
  refine ⟨h0, ?_⟩
  have key : ∀ l : List UInt8, l.length = 256 → ∃ y, l[x.toNat]? = some y ∧ Tot (letO (IntKind.wrap .i64 (y.toNat : Int)) fun z => some z) fun _ => True := by
    intro l hl
    obtain ⟨y, hy⟩ := get_lt (l := l) (i := x.toNat) (by omega)
    exact ⟨y, hy, .mk trivial⟩
  exact key _ (by decide +kernel)
def up (l : TLattice) (a b : Nat) : Bool := (l.Up.getD a 0).toNat.testBit b
def rowOK (l : TLattice) (a b : Nat) : Prop := up l a b = true → (b ≠ a → up l b a = false) ∧ ∀ i, i < l.Names.length → up l b i = true → up l a i = true
structure LatOK (l : TLattice) : Prop where
  pos : 1 ≤ l.Names.length
  le : l.Names.length ≤ 8
  len : l.Up.length = l.Names.length
  u8 : U8s l.Up
  self : ∀ a, a < l.Names.length → up l a a = true
  row : ∀ a, a < l.Names.length → ∀ b, b < l.Names.length → rowOK l a b
theorem up_of {l : TLattice} {a : Nat} {x : Int} (h : l.Up[a]? = some x) (b : Nat) : up l a b = x.toNat.testBit b := by
  unfold up; rw [List.getD_eq_getElem?_getD, h]; rfl
theorem mask_bit (n : Nat) (h : n ≤ 8) (i : Nat) : (IntKind.wrap .u8 (IntKind.wrap .u8 (1 * 2 ^ min n (IntKind.bits .u8)) - 1)).toNat.testBit i = decide (i < n) := by
  have key : ∀ n : Fin 9, (IntKind.wrap .u8 (IntKind.wrap .u8 (1 * 2 ^ min n.val (IntKind.bits .u8)) - 1)).toNat = 2 ^ n.val - 1 := by decide +kernel
  rw [key ⟨n, by omega⟩]
  exact Nat.testBit_two_pow_sub_one n i
theorem Check_lat (l : TLattice) (hu : U8s l.Up) (hn : l.Names.length ≤ 20) (hs : ∀ s ∈ l.Names, s.length ≤ 50) : Tot (F_lattice_Check l) fun r => r.2 = 0 → LatOK l := by
  unfold F_lattice_Check
  simp only [tot_bind, List.length_map]
  refine (named_total l.Names hn hs).mono fun x53 h53 => ?_
  simp only [tot_cond, tot_some, Bool.not_eq_true', Bool.not_eq_false', decide_eq_true_eq, decide_eq_false_iff_not]
  refine ⟨fun h h' => absurd h' h, fun h => ⟨fun _ h' => absurd h' (by decide), fun hlen => ?_⟩⟩
  obtain ⟨p1, p8⟩ := h53 h
  have hlen' : l.Up.length = l.Names.length := by omega
  rw [tot_side, tot_let, tot_let, tot_bind]
  refine ⟨by omega, ?_⟩
  rw [Int.toNat_natCast]
  have hmask := mask_bit l.Names.length p8
  have hm0 := mod_u8 (e := IntKind.wrap .u8 (1 * 2 ^ min l.Names.length (IntKind.bits .u8)) - 1)
  revert hmask hm0
  generalize IntKind.wrap .u8 (IntKind.wrap .u8 (1 * 2 ^ min l.Names.length (IntKind.bits .u8)) - 1) = mask
  intro hmask hm0
  refine Tot.count l.Names.length (fun k s => s = (k : Int) ∧ (∀ a, a < k → up l a a = true) ∧ ∀ a, a < k → ∀ b, b < l.Names.length → rowOK l a b) ?_ ⟨rfl, fun a ha => absurd ha (by omega), fun a ha => absurd ha (by omega)⟩
  rintro k _ hk ⟨rfl, hself, hrow⟩
  simp only [tot_cond, tot_some, tot_let, Sum.elim_inl, Sum.elim_inr, decide_eq_true_eq, decide_eq_false_iff_not]
  refine ⟨fun hlt => ?_, fun hlt => ?_⟩
  · -- a round
    simp only [tot_idx, Int.toNat_natCast]
    obtain ⟨x, hx⟩ := get_lt (l := l.Up) (i := k) (by omega)
    have hx' := hu.get hx
    refine ⟨by omega, x, hx, ?_⟩
    rw [tot_bind]
    refine (Len8_total x hx'.1 hx'.2).mono fun x91 _ => ?_
    simp only [tot_cond, tot_some, tot_side, Sum.elim_inl, Sum.elim_inr, decide_eq_true_eq, decide_eq_false_iff_not, Int.toNat_natCast]
    refine ⟨fun _ h' => absurd h' (by decide), fun _ => ⟨by omega, fun _ h' => absurd h' (by decide), fun hs => ?_⟩⟩
    rw [bitAt hx'.1 hx'.2 (by omega), ← up_of hx] at hs
    have hkk : up l k k = true := by
      cases e : up l k k with
      | true => rfl
      | false => rw [e] at hs; simp at hs
    rw [tot_bind]
    refine Tot.count l.Names.length (fun j s => s = (j : Int) ∧ ∀ b, b < j → rowOK l k b) ?_ ⟨rfl, fun b hb => absurd hb (by omega)⟩
    rintro j _ hj ⟨rfl, hr⟩
    have fin : (∀ b, b < l.Names.length → rowOK l k b) → k < l.Names.length ∧ IntKind.wrap .i64 ((k : Int) + 1) = ((k + 1 : Nat) : Int) ∧ (∀ a, a < k + 1 → up l a a = true) ∧ ∀ a, a < k + 1 → ∀ b, b < l.Names.length → rowOK l a b := by
      intro hall
      rw [w64 (by omega) (by omega)]
      refine ⟨by omega, by omega, fun a ha => ?_, fun a ha => ?_⟩
      · rcases Nat.lt_or_ge a k with g | g
        · exact hself a g
        · have : a = k := by omega
          subst this; exact hkk
      · rcases Nat.lt_or_ge a k with g | g
        · exact hrow a g
        · have : a = k := by omega
          subst this; exact hall
    have ext : ∀ {b}, rowOK l k j → b < j + 1 → rowOK l k b := by
      intro b h hb
      rcases Nat.lt_or_ge b j with g | g
      · exact hr b g
      · have : b = j := by omega
        subst this; exact h
    simp only [tot_cond, tot_some, tot_let, tot_side, Sum.elim_inl, Sum.elim_inr, decide_eq_true_eq, decide_eq_false_iff_not, Bool.not_eq_true', Bool.not_eq_false', Int.toNat_natCast]
    refine ⟨fun hjl => ?_, fun hjl => ?_⟩
    · simp only [tot_idx, Int.toNat_natCast]
      obtain ⟨y, hy⟩ := get_lt (l := l.Up) (i := j) (by omega)
      have hy' := hu.get hy
      refine ⟨by omega, y, hy, ?_⟩
      simp only [tot_cond, tot_some, tot_let, tot_side, Sum.elim_inl, Sum.elim_inr, decide_eq_true_eq, decide_eq_false_iff_not, Bool.not_eq_true', Bool.not_eq_false', Int.toNat_natCast]
      rw [bitAt hx'.1 hx'.2 (by omega), ← up_of hx]
      rw [w64 (e := (l.Names.length : Int) - 1) (by omega) (by omega)]
      have stay : rowOK l k j → ((j : Int) = (l.Names.length : Int) - 1 → k < l.Names.length ∧ IntKind.wrap .i64 ((k : Int) + 1) = ((k + 1 : Nat) : Int) ∧ (∀ a, a < k + 1 → up l a a = true) ∧ ∀ a, a < k + 1 → ∀ b, b < l.Names.length → rowOK l a b) ∧ (¬ (j : Int) = (l.Names.length : Int) - 1 → j < l.Names.length ∧ IntKind.wrap .i64 ((j : Int) + 1) = ((j + 1 : Nat) : Int) ∧ ∀ b, b < j + 1 → rowOK l k b) := by
        intro hrow'
        refine ⟨fun e => fin fun b hb => ext hrow' (by omega), fun e => ?_⟩
        rw [w64 (by omega) (by omega)]
        exact ⟨by omega, by omega, fun b hb => ext hrow' hb⟩
      refine ⟨by omega, fun hb => ?_, fun hb => ⟨fun hne => ⟨by omega, fun _ h' => absurd h' (by decide), fun hba => ⟨fun _ h' => absurd h' (by decide), fun han => ?_⟩⟩, fun heq => ⟨fun _ h' => absurd h' (by decide), fun han => ?_⟩⟩⟩
      · refine stay fun hup => ?_
        rw [hup] at hb; simp at hb
      · refine stay fun _ => ⟨fun _ => ?_, fun i hi hyi => ?_⟩
        · rw [bitAt hy'.1 hy'.2 (by omega), ← up_of hy] at hba
          cases e : up l j k with
          | false => rfl
          | true => rw [e] at hba; simp at hba
        · rw [bits_and hy'.1 hy'.2 hm0.1 hm0.2] at han
          have hand := and_lt (a := y.toNat) (b := mask.toNat) (by omega)
          have := (bits_andNot (by omega) (by omega) hx'.1 hx'.2).1 han i (by
            rw [Int.toNat_natCast, Nat.testBit_and, hmask, ← up_of hy, hyi]; simp [hi])
          rw [up_of hx]; exact this
      · refine stay fun _ => ⟨fun hne => absurd (by omega) hne, fun i hi hyi => ?_⟩
        rw [bits_and hy'.1 hy'.2 hm0.1 hm0.2] at han
        have hand := and_lt (a := y.toNat) (b := mask.toNat) (by omega)
        have := (bits_andNot (by omega) (by omega) hx'.1 hx'.2).1 han i (by
          rw [Int.toNat_natCast, Nat.testBit_and, hmask, ← up_of hy, hyi]; simp [hi])
        rw [up_of hx]; exact this
    · exact fin fun b hb => hr b (by omega)
  · -- the end
    have hk' : k = l.Names.length := by omega
    subst hk'
    have good : LatOK l := ⟨p1, p8, hlen', hu, hself, hrow⟩
    rw [tot_bind]
    refine (of_total l hu p8 (by omega)).mono fun o ho => ?_
    obtain ⟨_, o1, o2, o3, o4⟩ := ho
    rw [tot_bind]
    refine Tot.count l.Names.length (fun j s => s = (j : Int)) ?_ rfl
    rintro j _ hj rfl
    simp only [tot_cond, tot_some, tot_let, tot_bind, Sum.elim_inl, Sum.elim_inr, decide_eq_true_eq, decide_eq_false_iff_not]
    refine ⟨fun hlt => ?_, fun _ _ => good⟩
    refine Tot.count l.Names.length (fun i s => s = (i : Int)) ?_ rfl
    rintro i _ hi rfl
    simp only [tot_cond, tot_some, tot_let, tot_bind, Sum.elim_inl, Sum.elim_inr, decide_eq_true_eq, decide_eq_false_iff_not]
    refine ⟨fun hlt' => ?_, fun _ => ?_⟩
    · refine (bound_ups_total _ _ _ _ o1 o3 p8 (by omega) (by omega)).mono fun b1 _ => ⟨fun _ h' => absurd h' (by decide), fun _ => ?_⟩
      refine (bound_downs_total _ _ _ _ o2 o4 p8 (by omega) (by omega)).mono fun b2 _ => ⟨fun _ h' => absurd h' (by decide), fun _ => ?_⟩
      rw [w64 (by omega) (by omega)]
      exact ⟨by omega, by omega⟩
    · rw [w64 (by omega) (by omega)]
      exact ⟨by omega, by omega⟩
end Go.Sx.O
namespace Go.Sx.O
open Go
structure LatIn (l : TLattice) : Prop where
  u8 : U8s l.Up
  names : l.Names.length ≤ 20
  name : ∀ s ∈ l.Names, s.length ≤ 50
noncomputable def latR (l : TLattice) : Int × Int := (F_lattice_Check l).getD (0, 0)
theorem Check_eq {l : TLattice} (h : LatIn l) : F_lattice_Check l = some (latR l) := by
  obtain ⟨r, e, _⟩ := Check_lat l h.u8 h.names h.name
  unfold latR; rw [e]; rfl
theorem lat_ok {l : TLattice} (h : LatIn l) (k : (latR l).2 = 0) : LatOK l := by
  obtain ⟨r, e, q⟩ := Check_lat l h.u8 h.names h.name
  have := Check_eq h
  rw [e] at this; cases this
  exact q k
def isLab (l : TLattice) (a : Int) : Bool := decide (0 ≤ a) && decide (a < (l.Names.length : Int))
theorem label_spec (l : TLattice) (a : Int) : F_view_label l a = some (isLab l a) := by
  unfold F_view_label isLab
  rw [List.length_map]
  cases decide (0 ≤ a) <;> rfl
noncomputable def askE (l : TLattice) (xs : List Int) : Int := if (latR l).2 = 0 then (if xs.all (isLab l) then 0 else 7) else (latR l).2
theorem lasked_spec {l : TLattice} (h : LatIn l) (xs : List Int) (hx : xs.length ≤ 1000000000) : F_lattice_asked l xs = some (askE l xs) := by
  unfold F_lattice_asked askE
  rw [Check_eq h]
  simp only [Option.bind_some]
  by_cases h0 : (latR l).2 = 0
  · simp only [h0, decide_true, Bool.not_true, cond_false, if_true]
    apply Tot.eq
    simp only [tot_bind, List.length_map]
    refine Tot.count xs.length (fun k s => s = (k : Int) ∧ (xs.take k).all (isLab l) = true) ?_ ⟨rfl, by simp⟩
    rintro k _ hk ⟨rfl, hall⟩
    simp only [tot_cond, tot_some, tot_let, tot_idx, Sum.elim_inl, Sum.elim_inr, decide_eq_true_eq, decide_eq_false_iff_not, Int.toNat_natCast]
    refine ⟨fun hlt => ?_, fun hlt => ?_⟩
    · obtain ⟨x, hx'⟩ := get_lt (l := xs) (i := k) (by omega)
      have hm := List.mem_of_getElem? hx'
      have bad : isLab l x = false → (7 : Int) = if xs.all (isLab l) = true then 0 else 7 := by
        intro e
        have : xs.all (isLab l) = false := by
          rw [List.all_eq_false]; exact ⟨x, hm, by simp [e]⟩
        simp [this]
      refine ⟨by omega, x, hx', fun g => bad (by unfold isLab; simp; omega), fun g1 => ⟨fun g => bad (by unfold isLab; simp; omega), fun g2 => ?_⟩⟩
      rw [w64 (by omega) (by omega)]
      refine ⟨by omega, by omega, ?_⟩
      rw [List.take_add_one, hx', List.all_append, hall]
      simp [isLab]; omega
    · rw [List.take_of_length_le (by omega)] at hall
      simp [hall]
  · simp only [h0, decide_false, Bool.not_false, cond_true, if_false]
noncomputable def sees (l : TLattice) (a o : Int) : Bool := decide ((latR l).2 = 0) && isLab l a && isLab l o && up l a.toNat o.toNat
theorem Leq_spec {l : TLattice} (h : LatIn l) (a b : Int) : F_lattice_Leq l a b = some (sees l a b, askE l [a, b]) := by
  unfold F_lattice_Leq
  rw [lasked_spec h _ (by simp)]
  simp only [Option.bind_some]
  by_cases h0 : askE l [a, b] = 0
  · simp only [h0, decide_true, Bool.not_true, cond_false]
    unfold askE at h0
    split at h0
    case isFalse h1 => exact absurd h0 h1
    rename_i h1
    split at h0
    case isFalse => cases h0
    rename_i h2
    simp only [List.all_cons, List.all_nil, Bool.and_true, Bool.and_eq_true] at h2
    have ok := lat_ok h h1
    have ha := h2.1
    have hb := h2.2
    unfold isLab at ha hb
    simp only [Bool.and_eq_true, decide_eq_true_eq] at ha hb
    obtain ⟨x, hx⟩ := get_lt (l := l.Up) (i := a.toNat) (by rw [ok.len]; omega)
    have hx' := ok.u8.get hx
    have : b.toNat ≤ 8 := by have := ok.le; omega
    simp only [idxO, ha.1, if_true, hx, Option.bind_some, sideO, hb.1]
    congr 1
    rw [bitAt hx'.1 hx'.2 this]
    unfold sees
    rw [up_of hx]
    simp only [h1, h2.1, h2.2, decide_true, Bool.true_and]
    cases x.toNat.testBit b.toNat <;> simp
  · simp only [h0, decide_false, Bool.not_false, cond_true]
    congr 1
    have : sees l a b = false := by
      unfold askE at h0
      unfold sees
      split at h0
      · rename_i h1
        split at h0
        · exact absurd rfl h0
        · rename_i h2
          simp only [List.all_cons, List.all_nil, Bool.and_true] at h2
          have : (isLab l a && isLab l b) = false := by cases e : (isLab l a && isLab l b) <;> simp_all
          rw [Bool.and_assoc (decide _)]
          simp [this]
      · rename_i h1; simp [h1]
    rw [this]
theorem sees_ok {l : TLattice} {a o : Int} (h : sees l a o = true) : askE l [a, o] = 0 := by
  unfold sees at h
  simp only [Bool.and_eq_true, decide_eq_true_eq] at h
  unfold askE
  simp [h.1.1.1, h.1.1.2, h.1.2]
theorem AppendSeq_ev_spec {l : TLattice} (h : LatIn l) (es : List TEvEvent) (o : Int) (hl : es.length ≤ 1000000) :
    F_slices_AppendSeq___api_EvEvent_api_EvEvent_ (es, l, (), o) = some (es.filter fun v => sees l v.Label o) := by
  unfold F_slices_AppendSeq___api_EvEvent_api_EvEvent_
  apply Tot.eq
  simp only [tot_bind, List.length_map]
  refine Tot.count es.length (fun k s => s.1 = (k : Int) ∧ s.2 = (es.take k).filter fun v => sees l v.Label o) ?_ ⟨rfl, by simp⟩
  rintro k ⟨i, out⟩ hk ⟨h0, h1⟩
  simp only at h0 h1
  subst h0
  simp only [tot_cond, tot_some, tot_let, tot_idx, tot_side, tot_bind, Sum.elim_inl, Sum.elim_inr, decide_eq_true_eq, decide_eq_false_iff_not, Int.toNat_natCast]
  refine ⟨fun hlt => ?_, fun hlt => ?_⟩
  · obtain ⟨x, hx⟩ := get_lt (l := es) (i := k) (by omega)
    refine ⟨by omega, x, hx, ?_⟩
    have e1 : F_view_events_1 x = some x.Label := rfl
    rw [e1, tot_some, Leq_spec h, tot_some]
    have hlen : out.length ≤ k := by
      rw [h1]
      refine Nat.le_trans (List.length_filter_le _ _) (by simp; omega)
    rw [w64 (by omega) (by omega)]
    have hs : ((es.take (k + 1)).filter fun v => sees l v.Label o) = out ++ (if sees l x.Label o = true then [x] else []) := by
      rw [List.take_add_one, hx, List.filter_append, ← h1]
      congr 1
      simp only [Option.toList_some, List.filter_cons, List.filter_nil]
    refine ⟨fun g => ⟨fun g1 => ⟨by omega, by omega, by omega, ?_⟩, fun g1 => ⟨by omega, by omega, ?_⟩⟩, fun g => ⟨by omega, by omega, ?_⟩⟩
    · simp only at g1; rw [hs, g1]; rfl
    · rw [hs]; simp only at g1; rw [g1]; simp
    · rw [hs]
      have : sees l x.Label o = false := by
        cases e : sees l x.Label o with
        | false => rfl
        | true => exact absurd (sees_ok e) g
      rw [this]; simp
  · rw [h1, List.take_of_length_le (by omega)]
theorem events_spec {l : TLattice} (h : LatIn l) (t : TEvTrace) (o : Int) (hl : t.Events.length ≤ 1000000) : F_view_events l t o = some (t.Events.filter fun v => sees l v.Label o) := by
  unfold F_view_events F_view_seen_api_EvEvent_ F_slices_Collect_api_EvEvent_
  simp only [Option.bind_some]
  rw [AppendSeq_ev_spec h _ _ hl]
  rfl
theorem AppendSeq_re_spec {l : TLattice} (h : LatIn l) (es : List TReEntry) (o : Int) (hl : es.length ≤ 1000000) :
    F_slices_AppendSeq___api_ReEntry_api_ReEntry_ (es, l, (), o) = some (es.filter fun v => sees l v.Goal o) := by
  unfold F_slices_AppendSeq___api_ReEntry_api_ReEntry_
  apply Tot.eq
  simp only [tot_bind, List.length_map]
  refine Tot.count es.length (fun k s => s.1 = (k : Int) ∧ s.2 = (es.take k).filter fun v => sees l v.Goal o) ?_ ⟨rfl, by simp⟩
  rintro k ⟨i, out⟩ hk ⟨h0, h1⟩
  simp only at h0 h1
  subst h0
  simp only [tot_cond, tot_some, tot_let, tot_idx, tot_side, tot_bind, Sum.elim_inl, Sum.elim_inr, decide_eq_true_eq, decide_eq_false_iff_not, Int.toNat_natCast]
  refine ⟨fun hlt => ?_, fun hlt => ?_⟩
  · obtain ⟨x, hx⟩ := get_lt (l := es) (i := k) (by omega)
    refine ⟨by omega, x, hx, ?_⟩
    have e1 : F_view_entries_1 x = some x.Goal := rfl
    rw [e1, tot_some, Leq_spec h, tot_some]
    have hlen : out.length ≤ k := by
      rw [h1]
      refine Nat.le_trans (List.length_filter_le _ _) (by simp; omega)
    rw [w64 (by omega) (by omega)]
    have hs : ((es.take (k + 1)).filter fun v => sees l v.Goal o) = out ++ (if sees l x.Goal o = true then [x] else []) := by
      rw [List.take_add_one, hx, List.filter_append, ← h1]
      congr 1
      simp only [Option.toList_some, List.filter_cons, List.filter_nil]
    refine ⟨fun g => ⟨fun g1 => ⟨by omega, by omega, by omega, ?_⟩, fun g1 => ⟨by omega, by omega, ?_⟩⟩, fun g => ⟨by omega, by omega, ?_⟩⟩
    · simp only at g1; rw [hs, g1]; rfl
    · rw [hs]; simp only at g1; rw [g1]; simp
    · rw [hs]
      have : sees l x.Goal o = false := by
        cases e : sees l x.Goal o with
        | false => rfl
        | true => exact absurd (sees_ok e) g
      rw [this]; simp
  · rw [h1, List.take_of_length_le (by omega)]
theorem entries_spec {l : TLattice} (h : LatIn l) (t : TEvTrace) (o : Int) (hl : t.Log.length ≤ 1000000) : F_view_entries l t o = some (t.Log.filter fun v => sees l v.Goal o) := by
  unfold F_view_entries F_view_seen_api_ReEntry_ F_slices_Collect_api_ReEntry_
  simp only [Option.bind_some]
  rw [AppendSeq_re_spec h _ _ hl]
  rfl
end Go.Sx.O
namespace Go.Sx.O
open Go
theorem any_loop {α : Type} {l : List α} (p : α → Bool) {ε : Type} {step : Int → Option (Int ⊕ (ε ⊕ Int))} {e : ε} {G : Option Int}
    (hG : G = (lpO step 0).bind (Sum.elim (fun _ => some (-1)) some))
    (h1 : ∀ (k : Nat) x, l[k]? = some x → k < l.length → step (k : Int) = if p x then some (.inr (.inr (k : Int))) else some (.inl ((k : Int) + 1)))
    (h2 : step (l.length : Int) = some (.inr (.inl e))) : G.bind (fun x => some (decide (0 ≤ x))) = some (l.any p) := by
  rw [hG, find_loop (l := l) p (d := .inl e) (g := .inr) (fun k x hx => h1 k x hx (by
    rcases Nat.lt_or_ge k l.length with g | g
    · exact g
    · rw [List.getElem?_eq_none g] at hx; cases hx)) h2]
  cases h : l.findIdx? p with
  | none =>
    have := List.findIdx?_eq_none_iff.1 h
    simp only [Option.bind_some, Sum.elim_inl]
    have hn : l.any p = false := by rw [List.any_eq_false]; intro x hx; simp [this x hx]
    rw [hn]; rfl
  | some i =>
    obtain ⟨hi, hp, _⟩ := List.findIdx?_eq_some_iff_getElem.1 h
    have hy : l.any p = true := List.any_eq_true.2 ⟨_, List.getElem_mem hi, hp⟩
    simp [hy]
theorem ContainsFunc1 (l : List Int) (h : l.length ≤ 1000000000) : F_slices_ContainsFunc___int_int_ l = some (l.any fun x => decide (x < 0)) := by
  unfold F_slices_ContainsFunc___int_int_ F_slices_IndexFunc___int_int_
  refine any_loop (l := l) (fun x => decide (x < 0)) (e := ()) rfl (fun k x hx hlt => ?_) (by simp)
  simp only [List.length_map, Int.ofNat_lt, hlt, decide_true, cond_true, idxO, Int.toNat_natCast, hx, Option.bind_some, letO, Int.natCast_nonneg, if_true, F_shapes_Check_1]
  rw [w64 (by omega) (by omega)]
  cases decide (x < 0) <;> rfl
theorem ContainsFunc2 (l : List Int) (h : l.length ≤ 1000000000) : F_slices_ContainsFunc___int_int__v1 l = some (l.any fun x => !decide (x = 0)) := by
  unfold F_slices_ContainsFunc___int_int__v1 F_slices_IndexFunc___int_int__v1
  refine any_loop (l := l) (fun x => !decide (x = 0)) (e := ()) rfl (fun k x hx hlt => ?_) (by simp)
  simp only [List.length_map, Int.ofNat_lt, hlt, decide_true, cond_true, idxO, Int.toNat_natCast, hx, Option.bind_some, letO, Int.natCast_nonneg, if_true, F_shapes_Check_2]
  rw [w64 (by omega) (by omega)]
  cases decide (x = 0) <;> rfl
theorem ContainsFunc3 (l : List Int) (h : l.length ≤ 1000000000) : F_slices_ContainsFunc___int_int__v2 l = some (l.any fun x => decide (400 < x)) := by
  unfold F_slices_ContainsFunc___int_int__v2 F_slices_IndexFunc___int_int__v2
  refine any_loop (l := l) (fun x => decide (400 < x)) (e := ()) rfl (fun k x hx hlt => ?_) (by simp)
  simp only [List.length_map, Int.ofNat_lt, hlt, decide_true, cond_true, idxO, Int.toNat_natCast, hx, Option.bind_some, letO, Int.natCast_nonneg, if_true, F_shapes_Check_3]
  rw [w64 (by omega) (by omega)]
  cases decide (400 < x) <;> rfl
theorem product_total (r : Int) (lens : Int × Int) : Tot (F_shapes_product r lens) fun _ => True := by
  unfold F_shapes_product
  simp only [tot_cond, tot_let, tot_some, implies_true, and_self]
theorem shapes_Check_total (r : Int) (lens : Int × Int) : Tot (F_shapes_Check r lens) fun _ => True := by
  unfold F_shapes_Check
  rw [tot_cond]; refine ⟨fun _ => .mk trivial, fun h0 => ?_⟩
  rw [tot_cond]; refine ⟨fun _ => .mk trivial, fun h2 => ?_⟩
  simp only [decide_eq_false_iff_not] at h0 h2
  rw [tot_side, tot_side, tot_bind, ContainsFunc1 _ (by simp; omega), tot_some, tot_cond]
  refine ⟨⟨by omega, by omega⟩, ⟨by omega, by omega⟩, fun _ => .mk trivial, fun _ => ?_⟩
  rw [tot_bind, ContainsFunc2 _ (by simp; omega), tot_some, tot_cond]
  refine ⟨fun _ => .mk trivial, fun _ => ?_⟩
  rw [tot_bind, ContainsFunc3 _ (by simp; omega), tot_some, tot_cond]
  refine ⟨fun _ => .mk trivial, fun _ => ?_⟩
  rw [tot_bind]
  refine (product_total _ _).mono fun _ _ => ?_
  rw [tot_cond]
  exact ⟨fun _ => .mk trivial, fun _ => .mk trivial⟩
theorem shapes_total (r : Int) (lens : Int × Int) : Tot (F_shapes_Cells r lens) fun _ => True := by
  unfold F_shapes_Cells
  rw [tot_bind]
  refine (shapes_Check_total _ _).mono fun _ _ => ?_
  rw [tot_cond]
  refine ⟨fun _ => .mk trivial, fun _ => ?_⟩
  rw [tot_bind]
  exact (product_total _ _).mono fun _ _ => .mk trivial
theorem ValidRune_total (x : Int) : Tot (F_unicode_utf8_ValidRune x) fun _ => True := by
  unfold F_unicode_utf8_ValidRune
  simp only [tot_cond, tot_some, implies_true, and_self]
theorem right_total (k c : Int) : Tot (F_arrays_right k c) fun _ => True := by
  unfold F_arrays_right
  simp only [tot_cond, tot_some, tot_let, tot_bind, implies_true, and_self, true_and, and_true]
  exact fun _ _ _ => (ValidRune_total _).mono fun _ _ => trivial
theorem ContainsFunc4 (l : List Int) (a : TArray) (h : l.length ≤ 1000000000) : Tot (F_slices_ContainsFunc___int64_int64_ l a) fun _ => True := by
  unfold F_slices_ContainsFunc___int64_int64_ F_slices_IndexFunc___int64_int64_
  simp only [tot_bind, tot_some, List.length_map]
  refine Tot.count l.length (fun k s => s = (k : Int)) ?_ rfl
  rintro k _ hk rfl
  simp only [tot_cond, tot_some, tot_let, tot_idx, tot_bind, Sum.elim_inl, Sum.elim_inr, decide_eq_true_eq, decide_eq_false_iff_not, Int.toNat_natCast]
  refine ⟨fun hlt => ?_, fun _ => trivial⟩
  obtain ⟨x, hx⟩ := get_lt (l := l) (i := k) (by omega)
  refine ⟨by omega, x, hx, ?_⟩
  unfold F_arrays_Check_1
  rw [tot_bind]
  refine (right_total _ _).mono fun b _ => ?_
  rw [tot_some]
  refine ⟨fun _ => trivial, fun _ => ?_⟩
  rw [w64 (by omega) (by omega)]
  exact ⟨by omega, by omega⟩
theorem arrays_Check_total (a : TArray) (h : a.Cells.length ≤ 1000000000) : Tot (F_arrays_Check a) fun _ => True := by
  unfold F_arrays_Check
  simp only [tot_cond, tot_some, tot_bind, implies_true, true_and]
  exact ⟨fun _ _ => (shapes_total _ _).mono fun _ _ _ _ => ContainsFunc4 _ _ h, fun _ => (shapes_total _ _).mono fun _ _ _ _ => ContainsFunc4 _ _ h⟩
theorem zip_loop {α β : Type} {l : List α} {m : List β} (n : Nat) (p : α → β → Bool) {τ ε : Type} {step : Int → Option (Int ⊕ (ε ⊕ τ))} {bad : Int → τ} {e : ε} {Q : ε ⊕ τ → Prop}
    (hn : n ≤ l.length) (hm : n ≤ m.length)
    (h1 : ∀ (k : Nat) x y, l[k]? = some x → m[k]? = some y → k < n → step (k : Int) = if p x y then some (.inl ((k : Int) + 1)) else some (.inr (.inr (bad k))))
    (h2 : step (n : Int) = some (.inr (.inl e)))
    (q1 : (∀ (k : Nat) x y, l[k]? = some x → m[k]? = some y → k < n → p x y = true) → Q (.inl e))
    (q2 : ∀ (k : Nat) x y, l[k]? = some x → m[k]? = some y → k < n → p x y = false → (∀ (j : Nat) x y, l[j]? = some x → m[j]? = some y → j < k → p x y = true) → Q (.inr (bad k))) : Tot (lpO step 0) Q := by
  refine Tot.count n (fun k s => s = (k : Int) ∧ ∀ (j : Nat) x y, l[j]? = some x → m[j]? = some y → j < k → p x y = true) ?_ ⟨rfl, fun j _ _ _ _ hj => absurd hj (by omega)⟩
  rintro k _ hk ⟨rfl, hall⟩
  rcases Nat.lt_or_ge k n with g | g
  · obtain ⟨x, hx⟩ := get_lt (l := l) (i := k) (by omega)
    obtain ⟨y, hy⟩ := get_lt (l := m) (i := k) (by omega)
    rw [h1 k x y hx hy g]
    cases e : p x y with
    | true =>
      simp only [if_true, tot_some, Sum.elim_inl]
      refine ⟨g, by omega, fun j x' y' hx' hy' hj => ?_⟩
      rcases Nat.lt_or_ge j k with g' | g'
      · exact hall j x' y' hx' hy' g'
      · have : j = k := by omega
        subst this
        rw [hx] at hx'; rw [hy] at hy'
        cases hx'; cases hy'; exact e
    | false =>
      simp only [Bool.false_eq_true, if_false, tot_some, Sum.elim_inr]
      exact q2 k x y hx hy g e hall
  · have : k = n := by omega
    subst this
    rw [h2]
    simp only [tot_some, Sum.elim_inr]
    exact q1 fun j x y hx hy hj => hall j x y hx hy hj
theorem eq_of_get {α : Type} : ∀ {l m : List α}, l.length = m.length → (∀ (k : Nat) x y, l[k]? = some x → m[k]? = some y → k < l.length → x = y) → l = m
  | [], [], _, _ => rfl
  | a :: l, b :: m, h, k => by
    have h0 := k 0 a b rfl rfl (by simp)
    subst h0
    rw [eq_of_get (l := l) (m := m) (by simpa using h) fun j x y hx hy hj => k (j + 1) x y (by simpa using hx) (by simpa using hy) (by simp; omega)]
  | [], _ :: _, h, _ => by simp at h
  | _ :: _, [], h, _ => by simp at h
theorem Equal_ints_spec (a b : List Int) (h : a.length ≤ 1000000000) : F_slices_Equal___int64_int64_ a b = some (decide (a = b)) := by
  unfold F_slices_Equal___int64_int64_
  apply Tot.eq
  simp only [List.length_map, tot_cond, tot_some, tot_bind, Bool.not_eq_true', Bool.not_eq_false', decide_eq_true_eq, decide_eq_false_iff_not]
  refine ⟨fun hne => ?_, fun heq => ?_⟩
  · have : a ≠ b := fun e => hne (by rw [e])
    simp [this]
  · have hl : a.length = b.length := by omega
    refine zip_loop (l := a) (m := b) a.length (fun x y => decide (x = y)) (bad := fun _ => false) (e := ()) (Nat.le_refl _) (by omega) (fun k x y hx hy hk => ?_) (by simp) (fun hall => ?_) (fun k x y hx hy hk e _ => ?_)
    · simp only [Int.ofNat_lt, hk, decide_true, cond_true, idxO, Int.toNat_natCast, hx, hy, Option.bind_some, letO, Int.natCast_nonneg, if_true]
      rw [w64 (by omega) (by omega)]
      cases decide (x = y) <;> rfl
    · have : a = b := eq_of_get hl fun k x y hx hy hk => by simpa using hall k x y hx hy hk
      simp [this, tot_some]
    · have : a ≠ b := by
        rintro rfl
        rw [hx] at hy; cases hy
        simp at e
      simp [this, tot_some]
theorem sameArray_spec (a b : TArray) (h : a.Cells.length ≤ 1000000000) : Tot (F_view_sameArray a b) fun r => (r = true ↔ a = b) := by
  unfold F_view_sameArray
  obtain ⟨k1, r1, ⟨p1, q1⟩, c1⟩ := a
  obtain ⟨k2, r2, ⟨p2, q2⟩, c2⟩ := b
  rw [Equal_ints_spec _ _ h]
  simp only [tot_cond, tot_some, tot_bind, decide_eq_true_eq, decide_eq_false_iff_not, Bool.and_eq_true, Bool.and_eq_false_iff, and_true, TArray.mk.injEq, Prod.mk.injEq, Bool.false_eq_true, false_iff, not_and, Bool.true_eq_false, or_false]
  refine ⟨fun e1 => ⟨fun e2 => ⟨fun e3 => by simp [e1, e2, e3], fun e3 _ _ h4 h5 => ?_⟩, fun e2 _ h => absurd h e2⟩, fun e1 h => absurd h e1⟩
  rcases e3 with e3 | e3
  · exact absurd h4 (fun h => e3 h.1)
  · exact absurd h4 (fun h => e3 h.2)
end Go.Sx.O
namespace Go.Sx.O
open Go
theorem indexByte_none {l : List UInt8} {c : UInt8} (h : c ∉ l) : Lib.indexByte l c = -1 := by
  induction l with
  | nil => rfl
  | cons a l ih =>
    simp only [List.mem_cons, not_or] at h
    have : (a == c) = false := by simp; exact fun e => h.1 e.symm
    simp [Lib.indexByte, this, ih h.2]
theorem hi_enc {r : Int} (h0 : 128 ≤ r) (h1 : r < 256) : ∃ x y, (Utf8.encode r).data.toList = [x, y] ∧ 128 ≤ y.toNat := by
  refine ⟨UInt8.ofNat (0xC0 + r.toNat / 64), UInt8.ofNat (0x80 + r.toNat % 64), ?_, ?_⟩
  · have hv : Utf8.valid r = true := by unfold Utf8.valid; simp; omega
    unfold Utf8.encode
    simp only [hv, if_true]
    rw [if_neg (by omega), if_pos (by omega)]
  · rw [UInt8.toNat_ofNat']; omega
theorem IndexRune_total (s : List UInt8) (r : Int) (hs : ∀ c ∈ s, c.toNat < 128) (hl : s.length ≤ 1000) (h0 : 0 ≤ r) (h1 : r < 256) : Tot (F_strings_IndexRune s r) fun _ => True := by
  unfold F_strings_IndexRune
  have e0 : decide (0 ≤ r) = true := by simp [h0]
  simp only [e0, cond_true]
  rw [tot_cond]
  refine ⟨fun _ => ?_, fun h2 => ?_⟩
  · rw [tot_let, tot_bind]
    unfold F_strings_IndexByte F_internal_stringslite_IndexByte
    simp only [Option.bind_some, tot_some]
  · simp only [decide_eq_false_iff_not] at h2
    obtain ⟨x, y, exy, hy⟩ := hi_enc (r := r) (by omega) h1
    have e1 : decide (r = 65533) = false := by simp; omega
    simp only [e1, cond_false, exy]
    rw [tot_bind]
    refine (ValidRune_total r).mono fun v _ => ?_
    rw [tot_cond]
    refine ⟨fun _ => .mk trivial, fun _ => ?_⟩
    rw [tot_let]
    have e2 : IntKind.wrap .i64 (((List.length [x, y] : Nat) : Int) - 1) = 1 := rfl
    rw [e2, tot_bind]
    refine Tot.loop (fun _ => 0) (fun _ => True) (fun _ _ => ?_) trivial
    rw [tot_cond]
    refine ⟨fun h3 => ?_, fun _ => ?_⟩
    · simp only [decide_eq_true_eq] at h3
      obtain ⟨c, hc⟩ := get_lt (l := s) (i := 1) (by omega)
      have hc' := hs c (List.mem_of_getElem? hc)
      have e3 : (1 : Int).toNat = 1 := rfl
      simp only [tot_idx, e3]
      refine ⟨by omega, c, hc, by omega, y, rfl, ?_⟩
      have e4 : decide ((c.toNat : Int) = (y.toNat : Int)) = false := by simp; omega
      simp only [e4, Bool.not_false, cond_true]
      rw [tot_let]
      have e5 : IntKind.wrap .i64 (1 + 1) = 2 := rfl
      rw [e5, tot_side]
      refine ⟨by omega, ?_⟩
      simp only [tot_idx, e3]
      refine ⟨by omega, y, rfl, ?_⟩
      unfold F_strings_IndexByte F_internal_stringslite_IndexByte
      simp only [Option.bind_some]
      have hn : ((y.toNat : Int).toNat.toUInt8) = y := by simp
      rw [hn, indexByte_none (fun hm => by
        have := hs y (List.mem_of_mem_take (List.mem_of_mem_drop hm))
        omega)]
      have e6 : decide ((-1 : Int) < 0) = true := rfl
      simp only [e6, cond_true, tot_some, Sum.elim_inr]
    · simp only [tot_some, Sum.elim_inr, Sum.elim_inl]
theorem ContainsRune_total (s : List UInt8) (r : Int) (hs : ∀ c ∈ s, c.toNat < 128) (hl : s.length ≤ 1000) (h0 : 0 ≤ r) (h1 : r < 256) : Tot (F_strings_ContainsRune s r) fun _ => True := by
  unfold F_strings_ContainsRune
  rw [tot_bind]
  exact (IndexRune_total s r hs hl h0 h1).mono fun _ _ => .mk trivial
theorem wrap_i32 {r : Int} (h0 : 0 ≤ r) (h1 : r < 256) : IntKind.wrap .i32 r = r := by
  simp only [IntKind.wrap, IntKind.signed, IntKind.bits]
  have h3 : (2 : Int) ^ 32 = 4294967296 := by decide
  have h4 : (2 : Int) ^ (32 - 1) = 2147483648 := by decide
  simp only [h3, h4, Bool.true_and, decide_eq_true_eq, ge_iff_le]
  split <;> omega
theorem runes_is_total (r : Int) : Tot (F_runes_is r) fun _ => True := by
  unfold F_runes_is
  rw [tot_let, tot_let, tot_cond]
  refine ⟨fun _ => ?_, fun _ => .mk trivial⟩
  rw [tot_let, tot_bind]
  exact (ValidRune_total _).mono fun _ _ => .mk trivial
theorem class_loop {cs : List (List UInt8)} (hcs : cs.length = 10) (h : ∀ s ∈ cs, s.length ≤ 1000 ∧ ∀ c ∈ s, c.toNat < 128) (r : Int) (h0 : 0 ≤ r) (h1 : r < 256) {Q : Unit ⊕ (Int × Int) → Prop} (hQ : ∀ x, Q x) :
    Tot (lpO (fun (s : Int) => cond (decide (s < 10)) (idxO cs s fun x => letO (IntKind.wrap IntKind.i32 r) fun y => Option.bind (F_strings_ContainsRune x y) fun z => cond z (some (Sum.inr (Sum.inr (s, (0 : Int))))) (letO (IntKind.wrap IntKind.i64 (s + 1)) fun u => some (Sum.inl u))) (some (Sum.inr (Sum.inl ())))) 0) Q := by
  refine Tot.count 10 (fun k s => s = (k : Int)) ?_ rfl
  rintro k _ hk rfl
  simp only [tot_cond, tot_some, tot_let, tot_idx, tot_bind, Sum.elim_inl, Sum.elim_inr, decide_eq_true_eq, decide_eq_false_iff_not, Int.toNat_natCast]
  refine ⟨fun hlt => ?_, fun _ => hQ _⟩
  obtain ⟨x, hx⟩ := get_lt (l := cs) (i := k) (by omega)
  have hx' := h x (List.mem_of_getElem? hx)
  refine ⟨by omega, x, hx, ?_⟩
  rw [wrap_i32 h0 h1]
  refine (ContainsRune_total x r hx'.2 hx'.1 h0 h1).mono fun _ _ => ⟨fun _ => hQ _, fun _ => ?_⟩
  rw [w64 (by omega) (by omega)]
  exact ⟨by omega, by omega⟩
theorem Class_total (r : Int) (h0 : 0 ≤ r) (h1 : r < 256) : Tot (F_runes_Class r) fun _ => True := by
  unfold F_runes_Class F_runes_classes
  rw [tot_bind]
  refine (runes_is_total r).mono fun v _ => ?_
  simp only [Option.bind_some]
  have L := class_loop (cs := [[], [32], [10], [40, 91], [41, 93], [34], [], [45], [], [60, 61]]) rfl (by decide) r h0 h1 (Q := fun a => Tot (Sum.elim (fun _ => some ((10 : Int), (0 : Int))) some a) fun _ => True) (fun x => by cases x <;> exact .mk trivial)
  simp only [tot_cond, tot_some, implies_true, true_and, tot_bind]
  exact fun _ => ⟨fun _ _ => ⟨fun _ _ => L, fun _ => L⟩, fun _ => ⟨fun _ _ => L, fun _ => L⟩⟩
theorem prims_Find_total (s : List UInt8) : Tot (F_prims_Find s) fun _ => True := by
  unfold F_prims_Find
  simp only [tot_bind, tot_cond, tot_some, Sum.elim_inl, Sum.elim_inr, implies_true, and_self]
theorem byte_class (c : UInt8) : Tot (F_runes_Class (IntKind.wrap .i64 (c.toNat : Int))) fun _ => True := by
  have := c.toNat_lt
  rw [w64 (by omega) (by omega)]
  exact Class_total _ (by omega) (by omega)
theorem lexer_word_total (s : List UInt8) (h : s.length ≤ 1000000) : Tot (F_lexer_Check (TLxToken.mk 1 0 0 0 s)) fun _ => True := by
  unfold F_lexer_Check
  dsimp only
  have e1 : decide ((1 : Int) = 1) = true := rfl
  have e2 : decide ((1 : Int) < 1) = false := rfl
  have e3 : decide ((9 : Int) < 1) = false := rfl
  have e4 : decide ((0 : Int) = 0) = true := rfl
  have e5 : decide (s = s) = true := by simp
  simp only [e2, e3, decide_true, cond_true, cond_false, Option.bind_some, Sum.elim_inl, Bool.and_self, Bool.not_true]
  rw [tot_bind]
  have Q : ∀ x : Int ⊕ Int, Tot (Sum.elim (fun (n : Int) => cond (decide (n < (s.length : Int))) (some (3 : Int)) (some (0 : Int))) some x) fun _ => True := by
    intro x
    cases x with
    | inl n => simp only [Sum.elim_inl, tot_cond, tot_some, implies_true, and_self]
    | inr n => exact .mk trivial
  refine Tot.mono (Q := fun _ => True) ?_ fun x _ => Q x
  rw [tot_cond]
  refine ⟨fun _ => .mk trivial, fun h1 => ?_⟩
  simp only [decide_eq_false_iff_not] at h1
  obtain ⟨c, hc⟩ := get_lt (l := s) (i := 0) (by omega)
  have e0 : (0 : Int).toNat = 0 := rfl
  simp only [tot_idx, tot_let, tot_bind, e0]
  refine ⟨by omega, c, hc, (byte_class c).mono fun x _ => ?_⟩
  rw [tot_cond]
  refine ⟨fun _ => .mk trivial, fun _ => ?_⟩
  simp only [tot_idx, tot_let, tot_bind, e0]
  refine ⟨by omega, c, hc, (byte_class c).mono fun y _ => ?_⟩
  refine Tot.loop (fun (p : Int × Int) => s.length - p.2.toNat) (fun (p : Int × Int) => 0 ≤ p.2 ∧ p.2 ≤ (s.length : Int) ∧ (p.1 = 8 ∨ p.1 = 6 → p.2 < (s.length : Int))) ?_ ⟨by simp, by simp, fun _ => by simp only; omega⟩
  rintro ⟨k, a⟩ ⟨h2, h3, h4⟩
  simp only at h2 h3 h4
  have round : (k = 8 ∨ k = 6) → ∀ {Q : (Bool × Int × Int) ⊕ (Int ⊕ Int) → Prop}, Tot (letO (IntKind.wrap .i64 (a + 1)) fun (u : Int) => cond (decide ((s.length : Int) ≤ u)) (some (Sum.inl ((10 : Int), u))) (idxO s u fun (v : UInt8) => letO (IntKind.wrap .i64 (v.toNat : Int)) fun (z : Int) => Option.bind (F_runes_Class z) fun r => some (Sum.inl (r.1, u)))) (Sum.elim (fun (s' : Int × Int) => (0 ≤ s'.2 ∧ s'.2 ≤ (s.length : Int) ∧ (s'.1 = 8 ∨ s'.1 = 6 → s'.2 < (s.length : Int))) ∧ s.length - s'.2.toNat < s.length - a.toNat) Q) := by
    intro hk Q
    have hlt := h4 hk
    rw [tot_let, w64 (by omega) (by omega), tot_cond]
    refine ⟨fun g => ?_, fun g => ?_⟩
    · simp only [decide_eq_true_eq] at g
      simp only [tot_some, Sum.elim_inl]
      exact ⟨⟨by omega, by omega, fun e => by omega⟩, by omega⟩
    · simp only [decide_eq_false_iff_not] at g
      obtain ⟨d, hd⟩ := get_lt (l := s) (i := (a + 1).toNat) (by omega)
      simp only [tot_idx, tot_let, tot_bind]
      refine ⟨by omega, d, hd, (byte_class d).mono fun z _ => ?_⟩
      simp only [tot_some, Sum.elim_inl]
      exact ⟨⟨by omega, by omega, fun e => by omega⟩, by omega⟩
  rw [tot_cond]
  refine ⟨fun g => round (.inl (by simpa using g)), fun g => ?_⟩
  rw [tot_cond]
  refine ⟨fun g' => round (.inr (by simpa using g')), fun g' => ?_⟩
  simp only [tot_some, Sum.elim_inr, Sum.elim_inl, tot_side, tot_cond, implies_true, and_self, and_true]
  omega
theorem expr_Name_total (s : List UInt8) (h : s.length ≤ 1000000) : Tot (F_expr_Name s) fun _ => True := by
  unfold F_expr_Name
  simp only [tot_cond, tot_some, implies_true, true_and, tot_bind]
  intros
  exact (prims_Find_total s).mono fun _ _ _ => (lexer_word_total s h).mono fun _ _ => trivial
end Go.Sx.O
namespace Go.Sx.O
open Go
structure TraceIn (t : TEvTrace) : Prop where
  events : t.Events.length ≤ 60
  log : t.Log.length ≤ 60
  event : ∀ v ∈ t.Events, v.Channel.length ≤ 100 ∧ v.Value.Cells.length ≤ 450
theorem same_spec (a b : TEvEvent) (h : a.Value.Cells.length ≤ 450) : Tot (F_view_same a b) fun r => (r = true ↔ a = b) := by
  unfold F_view_same
  obtain ⟨k1, s1, p1, l1, c1, v1, e1⟩ := a
  obtain ⟨k2, s2, p2, l2, c2, v2, e2⟩ := b
  simp only [tot_cond, tot_some, tot_bind, decide_eq_true_eq, decide_eq_false_iff_not, TEvEvent.mk.injEq, Bool.false_eq_true, false_iff, not_and]
  refine ⟨fun h1 => ⟨fun h2 => ⟨fun h3 => ⟨fun h4 => ⟨fun h5 => ⟨fun h6 => ?_, fun h6 _ _ _ _ _ _ h => h6 h⟩, fun h5 _ _ _ _ h => absurd h h5⟩, fun h4 _ _ _ h => absurd h h4⟩, fun h3 _ _ h => absurd h h3⟩, fun h2 _ h => absurd h h2⟩, fun h1 h => absurd h h1⟩
  refine (sameArray_spec v1 v2 (by simp only at h; omega)).mono fun r hr => ?_
  rw [hr]
  simp [h1, h2, h3, h4, h5, h6]
theorem bad_total (l : TLattice) (v : TEvEvent) (least most : Int) (last : Bool) (h : v.Channel.length ≤ 100) (h2 : v.Value.Cells.length ≤ 450) : Tot (F_view_bad l v least most last) fun r => r = 0 → isLab l v.Label = true := by
  unfold F_view_bad
  rw [label_spec]
  rw [Option.bind_some, tot_cond]
  refine ⟨fun _ => .mk fun e => absurd e (by decide), fun hl => ?_⟩
  have hl' : isLab l v.Label = true := by cases e : isLab l v.Label <;> simp_all
  simp only [hl', implies_true]
  simp only [tot_cond, tot_some, tot_bind, implies_true, true_and, and_true]
  intros
  refine ⟨fun _ => ?_, fun _ _ => ?_⟩
  · exact (expr_Name_total _ (by omega)).mono fun _ _ _ => (arrays_Check_total _ (by omega)).mono fun _ _ => trivial
  · exact (sameArray_spec _ _ (by omega)).mono fun _ _ => trivial
noncomputable def trR (l : TLattice) (t : TEvTrace) : Int × Int := (F_view_Check l t).getD (0, 0)
theorem view_Check_total {l : TLattice} {t : TEvTrace} (hl : LatIn l) (ht : TraceIn t) : Tot (F_view_Check l t) fun r => r.2 = 0 → (latR l).2 = 0 ∧ ∀ v ∈ t.Events, isLab l v.Label = true := by
  unfold F_view_Check
  rw [Check_eq hl, Option.bind_some]
  simp only [List.length_map]
  rw [tot_cond]
  refine ⟨fun h => .mk fun e => by simp at h; exact absurd e h, fun h0 => ?_⟩
  have h0' : (latR l).2 = 0 := by simpa using h0
  rw [tot_cond]
  refine ⟨fun _ => .mk fun e => absurd e (by decide), fun h1 => ?_⟩
  rw [tot_let, tot_bind]
  have hev := ht.events
  refine Tot.count t.Events.length (fun k s => s.1 = (k : Int) ∧ ∀ v ∈ t.Events.take k, isLab l v.Label = true) ?_ ⟨rfl, by simp⟩
  rintro k ⟨i, least⟩ hk ⟨hi, hall⟩
  simp only at hi hall
  subst hi
  simp only [tot_cond, tot_some, tot_let, tot_idx, tot_bind, Sum.elim_inl, Sum.elim_inr, decide_eq_true_eq, decide_eq_false_iff_not, Int.toNat_natCast]
  refine ⟨fun hlt => ?_, fun hlt => ?_⟩
  · obtain ⟨v, hv⟩ := get_lt (l := t.Events) (i := k) (by omega)
    have hm := List.mem_of_getElem? hv
    refine ⟨by omega, v, hv, ?_⟩
    refine (bad_total l v least t.Steps _ (ht.event v hm).1 (ht.event v hm).2).mono fun x hx => ⟨fun hne e => ?_, fun heq => ?_⟩
    · simp at hne; exact absurd e hne
    · rw [w64 (by omega) (by omega)]
      refine ⟨by omega, by omega, fun u hu => ?_⟩
      rw [List.take_add_one, hv] at hu
      rcases List.mem_append.1 hu with hu | hu
      · exact hall u hu
      · simp at hu; subst hu; exact hx (by simpa using heq)
  · have hlog := ht.log
    rw [List.take_of_length_le (by omega)] at hall
    refine Tot.count t.Log.length (fun k s => s = (k : Int)) ?_ rfl
    rintro j _ hj rfl
    simp only [tot_cond, tot_some, tot_let, tot_idx, tot_bind, Sum.elim_inl, Sum.elim_inr, decide_eq_true_eq, decide_eq_false_iff_not, Int.toNat_natCast]
    refine ⟨fun hlt' => ?_, fun _ _ => ⟨h0', hall⟩⟩
    obtain ⟨x, hx⟩ := get_lt (l := t.Log) (i := j) (by omega)
    refine ⟨by omega, x, hx, ?_⟩
    rw [label_spec, tot_some]
    have step : (j < t.Log.length ∧ IntKind.wrap .i64 ((j : Int) + 1) = ((j + 1 : Nat) : Int)) := by
      rw [w64 (by omega) (by omega)]; exact ⟨by omega, by omega⟩
    refine ⟨fun _ e => absurd e (by decide), fun _ => ?_⟩
    rw [label_spec, tot_some]
    refine ⟨fun _ e => absurd e (by decide), fun _ => ⟨fun _ e => absurd e (by decide), fun _ => ⟨fun _ e => absurd e (by decide), fun _ => ⟨fun _ e => absurd e (by decide), fun _ => ⟨fun _ e => absurd e (by decide), fun _ => ⟨fun _ e => absurd e (by decide), fun _ => ⟨fun _ e => absurd e (by decide), fun _ => ⟨fun _ => ⟨fun _ e => absurd e (by decide), fun _ => step⟩, fun _ => step⟩⟩⟩⟩⟩⟩⟩⟩
theorem vCheck_eq {l : TLattice} {t : TEvTrace} (hl : LatIn l) (ht : TraceIn t) : F_view_Check l t = some (trR l t) := by
  obtain ⟨r, e, _⟩ := view_Check_total hl ht
  unfold trR; rw [e]; rfl
theorem tr_ok {l : TLattice} {t : TEvTrace} (hl : LatIn l) (ht : TraceIn t) (h : (trR l t).2 = 0) : (latR l).2 = 0 ∧ ∀ v ∈ t.Events, isLab l v.Label = true := by
  obtain ⟨r, e, q⟩ := view_Check_total hl ht
  have := vCheck_eq hl ht
  rw [e] at this; cases this
  exact q h
noncomputable def vask (l : TLattice) (o : Int) : List TEvTrace → Int
  | [] => if isLab l o then 0 else 7
  | t :: r => if (trR l t).2 = 0 then vask l o r else (trR l t).2
theorem vasked_spec {l : TLattice} (hl : LatIn l) (o : Int) (ts : List TEvTrace) (ht : ∀ t ∈ ts, TraceIn t) (hn : ts.length ≤ 3) : F_view_asked l o ts = some (vask l o ts) := by
  unfold F_view_asked
  apply Tot.eq
  simp only [tot_bind, List.length_map]
  refine Tot.count ts.length (fun k s => s = (k : Int) ∧ vask l o (ts.drop k) = vask l o ts) ?_ ⟨rfl, rfl⟩
  rintro k _ hk ⟨rfl, hv⟩
  simp only [tot_cond, tot_some, tot_let, tot_idx, tot_bind, Sum.elim_inl, Sum.elim_inr, decide_eq_true_eq, decide_eq_false_iff_not, Int.toNat_natCast]
  refine ⟨fun hlt => ?_, fun hlt => ?_⟩
  · obtain ⟨t, hx⟩ := get_lt (l := ts) (i := k) (by omega)
    refine ⟨by omega, t, hx, ?_⟩
    rw [vCheck_eq hl (ht t (List.mem_of_getElem? hx)), tot_some]
    have hd : ts.drop k = t :: ts.drop (k + 1) := by
      have hlt' : k < ts.length := by omega
      rw [List.drop_eq_getElem_cons hlt']
      congr 1
      rw [List.getElem?_eq_getElem hlt'] at hx; exact Option.some.inj hx
    rw [hd] at hv
    unfold vask at hv
    rw [w64 (by omega) (by omega)]
    by_cases h0 : (trR l t).2 = 0
    · rw [if_pos h0] at hv
      refine ⟨fun h => by simp [h0] at h, fun _ => ⟨by omega, by omega, ?_⟩⟩
      rw [hv]
      cases ts with
      | nil => simp at hx
      | cons a r => rfl
    · rw [if_neg h0] at hv
      refine ⟨fun _ => ?_, fun h => by simp [h0] at h⟩
      rw [hv]
      cases ts with
      | nil => simp at hx
      | cons a r => rfl
  · rw [label_spec, tot_some]
    rw [List.drop_of_length_le (by omega)] at hv
    have hv' : (if isLab l o then (0 : Int) else 7) = vask l o ts := hv
    cases e : isLab l o with
    | true =>
      rw [e] at hv'
      exact ⟨fun h => by simp at h, fun _ => by simpa using hv'⟩
    | false =>
      rw [e] at hv'
      exact ⟨fun _ => by simpa using hv', fun h => by simp at h⟩
end Go.Sx.O
namespace Go.Sx.O
open Go
theorem EqualFunc_spec (a b : List TEvEvent) (h : a.length ≤ 60) (hv : ∀ v ∈ a, v.Value.Cells.length ≤ 450) : Tot (F_slices_EqualFunc___api_EvEvent___api_EvEvent_api_EvEvent_api_EvEvent_ a b) fun r => (r = true ↔ a = b) := by
  unfold F_slices_EqualFunc___api_EvEvent___api_EvEvent_api_EvEvent_api_EvEvent_
  simp only [List.length_map, tot_cond, tot_some, tot_bind, Bool.not_eq_true', Bool.not_eq_false', decide_eq_true_eq, decide_eq_false_iff_not]
  refine ⟨fun hne => ?_, fun heq => ?_⟩
  · have : a ≠ b := fun e => hne (by rw [e])
    simp [this]
  · have hl : a.length = b.length := by omega
    open Classical in
    refine zip_loop (l := a) (m := b) a.length (fun x y => decide (x = y)) (bad := fun _ => false) (e := ()) (Nat.le_refl _) (by omega) (fun k x y hx hy hk => ?_) (by simp) (fun hall => ?_) (fun k x y hx hy hk e _ => ?_)
    · obtain ⟨r, e, hr⟩ := same_spec x y (hv x (List.mem_of_getElem? hx))
      simp only [Int.ofNat_lt, hk, decide_true, cond_true, idxO, Int.toNat_natCast, hx, hy, Option.bind_some, letO, Int.natCast_nonneg, if_true, e]
      rw [w64 (by omega) (by omega)]
      by_cases hxy : x = y
      · have : r = true := hr.2 hxy
        simp [hxy, this]
      · have : r = false := by cases r <;> simp_all
        simp [hxy, this]
    · have : a = b := eq_of_get hl fun k x y hx hy hk => by simpa using hall k x y hx hy hk
      simp [this, tot_some]
    · have : a ≠ b := by
        rintro rfl
        rw [hx] at hy; cases hy
        simp at e
      simp [this, tot_some]
def agreeP (a b : List TReEntry) : Prop := ∀ (k : Nat) x y, a[k]? = some x → b[k]? = some y → x.Value = y.Value
theorem agreeP.symm {a b : List TReEntry} (h : agreeP a b) : agreeP b a := fun k x y hx hy => (h k y x hy hx).symm
theorem agreeP.refl (a : List TReEntry) : agreeP a a := fun k x y hx hy => by rw [hx] at hy; cases hy; rfl
theorem differ_re_spec (a b : List TReEntry) (h : a.length ≤ 60) : Tot (F_view_differ_api_ReEntry_ a b) fun r => (r = min (a.length : Int) (b.length : Int) ↔ agreeP a b) := by
  unfold F_view_differ_api_ReEntry_
  simp only [List.length_map, tot_bind]
  have hmin : min (a.length : Int) (b.length : Int) = ((min a.length b.length : Nat) : Int) := by omega
  rw [hmin]
  refine zip_loop (l := a) (m := b) (min a.length b.length) (fun x y => decide (x.Value = y.Value)) (bad := fun k => k) (e := ()) (by omega) (by omega) (fun k x y hx hy hk => ?_) (by simp) (fun hall => ?_) (fun k x y hx hy hk e _ => ?_)
  · have e : F_view_Agree_1 x y = some (decide (x.Value = y.Value)) := by
      unfold F_view_Agree_1
      congr 1
      obtain ⟨⟩ := x
      obtain ⟨⟩ := y
      rw [Bool.eq_iff_iff]
      simp [Prod.ext_iff]
    simp only [Int.ofNat_lt, hk, decide_true, cond_true, idxO, Int.toNat_natCast, hx, hy, Option.bind_some, letO, Int.natCast_nonneg, if_true, e]
    rw [w64 (by omega) (by omega)]
    cases decide (x.Value = y.Value) <;> rfl
  · simp only [Sum.elim_inl, tot_some, true_iff]
    intro k x y hx hy
    have h1 : k < a.length := by
      rcases Nat.lt_or_ge k a.length with g | g
      · exact g
      · rw [List.getElem?_eq_none g] at hx; cases hx
    have h2 : k < b.length := by
      rcases Nat.lt_or_ge k b.length with g | g
      · exact g
      · rw [List.getElem?_eq_none g] at hy; cases hy
    simpa using hall k x y hx hy (by omega)
  · simp only [Sum.elim_inr, tot_some]
    constructor
    · intro hh; omega
    · intro hh
      have := hh k x y hx hy
      simp [this] at e
noncomputable def seenE (l : TLattice) (t : TEvTrace) (o : Int) : List TEvEvent := t.Events.filter fun v => sees l v.Label o
noncomputable def seenL (l : TLattice) (t : TEvTrace) (o : Int) : List TReEntry := t.Log.filter fun v => sees l v.Goal o
theorem seenE_len {l : TLattice} {t : TEvTrace} {o : Int} (ht : TraceIn t) : (seenE l t o).length ≤ 60 := Nat.le_trans (List.length_filter_le _ _) ht.events
theorem seenL_len {l : TLattice} {t : TEvTrace} {o : Int} (ht : TraceIn t) : (seenL l t o).length ≤ 60 := Nat.le_trans (List.length_filter_le _ _) ht.log
theorem seenE_val {l : TLattice} {t : TEvTrace} {o : Int} (ht : TraceIn t) : ∀ v ∈ seenE l t o, v.Value.Cells.length ≤ 450 := fun v hv => (ht.event v (List.mem_filter.1 hv).1).2
theorem Events_spec {l : TLattice} {t : TEvTrace} (hl : LatIn l) (ht : TraceIn t) (o : Int) : F_view_Events l t o = some (if vask l o [t] = 0 then seenE l t o else [], vask l o [t]) := by
  unfold F_view_Events
  rw [vasked_spec hl o [t] (by simpa using ht) (by simp), Option.bind_some]
  by_cases h : vask l o [t] = 0
  · rw [events_spec hl t o (by have := ht.events; omega)]
    simp [h, seenE]
  · simp [h]
theorem Alike_spec {l : TLattice} {a b : TEvTrace} (hl : LatIn l) (ha : TraceIn a) (hb : TraceIn b) (o : Int) : Tot (F_view_Alike l a b o) fun r => r.2 = vask l o [a, b] ∧ (r.2 = 0 → (r.1 = true ↔ seenE l a o = seenE l b o)) := by
  unfold F_view_Alike
  rw [vasked_spec hl o [a, b] (by intro t ht; simp at ht; rcases ht with rfl | rfl <;> assumption) (by simp), Option.bind_some, tot_cond]
  refine ⟨fun h => .mk ⟨rfl, fun e => ?_⟩, fun h => ?_⟩
  · simp at h; exact absurd e h
  · rw [events_spec hl a o (by have := ha.events; omega), events_spec hl b o (by have := hb.events; omega), Option.bind_some, Option.bind_some, tot_bind]
    refine (EqualFunc_spec (seenE l a o) (seenE l b o) (seenE_len ha) (seenE_val ha)).mono fun r hr => .mk ⟨?_, fun _ => hr⟩
    simp at h; exact h.symm
theorem Agree_spec {l : TLattice} {a b : TEvTrace} (hl : LatIn l) (ha : TraceIn a) (hb : TraceIn b) (o : Int) : Tot (F_view_Agree l a b o) fun r => r.2 = vask l o [a, b] ∧ (r.2 = 0 → (r.1 = true ↔ agreeP (seenL l a o) (seenL l b o))) := by
  unfold F_view_Agree
  rw [vasked_spec hl o [a, b] (by intro t ht; simp at ht; rcases ht with rfl | rfl <;> assumption) (by simp), Option.bind_some, tot_cond]
  refine ⟨fun h => .mk ⟨rfl, fun e => ?_⟩, fun h => ?_⟩
  · simp at h; exact absurd e h
  · rw [entries_spec hl a o (by have := ha.log; omega), entries_spec hl b o (by have := hb.log; omega), Option.bind_some, Option.bind_some, tot_bind]
    refine (differ_re_spec (seenL l a o) (seenL l b o) (seenL_len ha)).mono fun r hr => .mk ⟨?_, fun _ => ?_⟩
    · simp at h; exact h.symm
    · simp only [List.length_map, decide_eq_true_eq]
      exact hr
theorem vask_nil {l : TLattice} {o : Int} {ts : List TEvTrace} : vask l o ts = 0 ↔ isLab l o = true ∧ ∀ t ∈ ts, (trR l t).2 = 0 := by
  induction ts with
  | nil => unfold vask; cases isLab l o <;> simp
  | cons t r ih =>
    unfold vask
    by_cases h : (trR l t).2 = 0
    · simp [h, ih]
    · simp [h]
end Go.Sx.O
