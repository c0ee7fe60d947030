/-
  THE PLAIN STRUCT TYPES, and their symbolic values. Printed by a program. An own text.
  WHAT THE LIBRARY's BODILESS FUNCTIONS RETURN. An own text.
  DATA AS THEY COME: numbers in their kinds' ranges. Printed by a program. An own text.
  PLAIN FUNCTIONS: what the program computes. Printed by a program. An own text.
  PLAIN LAWS of the library's functions and of words, lattice. An own text.
  PLAIN LAWS: slices.Index, strings.Trim, words.Name. An own text.
  PLAIN LAWS: strings.Trim over ASCII, words.Name. An own text.
  PLAIN LAWS: bits; lattice.named, .of, .bound. An own text.
  PLAIN LAWS: lattice.of, .bound, .Check, .Leq. An own text.
  PLAIN LAWS: lattice.Leq; what an observer sees. An own text.
  PLAIN LAWS: shapes, arrays; arrays and events that are the same. An own text.
  PLAIN LAWS: expr.Name returns. An own text.
  PLAIN LAWS: view. An own text.
  PLAIN LAWS: view's functions. An own text.
  PLAIN LAW: ViewEqual returns true. An own text.
-/
import Derived.Test.YtcgehmlhafjfkaaGreatDoorA5
import Derived.Lib.Bytealg
namespace Go.Sx.O
structure Tlexer_reader where
  s_ : List UInt8
  at_ : Int
def enc_Tlexer_reader (x : Tlexer_reader) : SV := .agg [SV.str x.s_, (SV.int .i64) x.at_]
structure TLattice where
  Names : List (List UInt8)
  Up : List (Int)
def enc_TLattice (x : TLattice) : SV := .agg [(encSl 1 SV.str) x.Names, (encSl 1 (SV.int .u8)) x.Up]
structure TLxToken where
  Kind : Int
  From : Int
  To : Int
  N : Int
  S : List UInt8
def enc_TLxToken (x : TLxToken) : SV := .agg [(SV.int .i64) x.Kind, (SV.int .i64) x.From, (SV.int .i64) x.To, (SV.int .i64) x.N, SV.str x.S]
structure Tlattice_order where
  n_ : Int
  up_ : List (Int)
  down_ : List (Int)
def enc_Tlattice_order (x : Tlattice_order) : SV := .agg [(SV.int .i64) x.n_, (encA 8 1 (SV.int .u8)) x.up_, (encA 8 1 (SV.int .u8)) x.down_]
structure TArray where
  Kind : Int
  Rank : Int
  Lens : (Int) × (Int)
  Cells : List (Int)
def enc_TArray (x : TArray) : SV := .agg [(SV.int .i64) x.Kind, (SV.int .i64) x.Rank, (encA2 1 (SV.int .i64)) x.Lens, (encSl 1 (SV.int .i64)) x.Cells]
structure TWsVar where
  Name : List UInt8
  Value : TArray
def enc_TWsVar (x : TWsVar) : SV := .agg [SV.str x.Name, enc_TArray x.Value]
structure TReEntry where
  Site : Int
  Fold : Int
  From : Int
  Goal : Int
  Cells : Int
  Value : (Int) × (Int)
def enc_TReEntry (x : TReEntry) : SV := .agg [(SV.int .i64) x.Site, (SV.int .i64) x.Fold, (SV.int .i64) x.From, (SV.int .i64) x.Goal, (SV.int .i64) x.Cells, (encA2 1 (SV.int .i64)) x.Value]
structure TEvEvent where
  Kind : Int
  Site : Int
  Steps : Int
  Label : Int
  Channel : List UInt8
  Value : TArray
  E : Int
def enc_TEvEvent (x : TEvEvent) : SV := .agg [(SV.int .i64) x.Kind, (SV.int .i64) x.Site, (SV.int .i64) x.Steps, (SV.int .i64) x.Label, SV.str x.Channel, enc_TArray x.Value, (SV.int .i64) x.E]
structure TEvTrace where
  Events : List (TEvEvent)
  Log : List (TReEntry)
  Vars : List (TWsVar)
  Steps : Int
def enc_TEvTrace (x : TEvTrace) : SV := .agg [(encSl 11 enc_TEvEvent) x.Events, (encSl 7 enc_TReEntry) x.Log, (encSl 6 enc_TWsVar) x.Vars, (SV.int .i64) x.Steps]
end Go.Sx.O
namespace Go.Sx.O
noncomputable def F_internal_stringslite_IndexByte (a0 : List UInt8) (a1 : Int) : Option Int := some (Go.Lib.indexByte a0 a1.toNat.toUInt8)
end Go.Sx.O
namespace Go.Sx.O
open Go
def inK (k : IntKind) (n : Int) : Prop := k.min ≤ n ∧ n ≤ k.max
def allW {α : Type} (W : α → Prop) (l : List α) : Prop := ∀ x ∈ l, W x
def w2 {α : Type} (W : α → Prop) (p : α × α) : Prop := W p.1 ∧ W p.2
def w3 {α : Type} (W : α → Prop) (p : α × α × α) : Prop := W p.1 ∧ W p.2.1 ∧ W p.2.2
def wN {α : Type} (n : Nat) (W : α → Prop) (l : List α) : Prop := l.length = n ∧ ∀ x ∈ l, W x
structure W_Tlexer_reader (x : Tlexer_reader) : Prop where
  s_ : (fun _ => True) x.s_
  at_ : (inK .i64) x.at_
structure W_TLattice (x : TLattice) : Prop where
  Names : (allW (fun _ => True)) x.Names
  Up : (allW (inK .u8)) x.Up
structure W_TLxToken (x : TLxToken) : Prop where
  Kind : (inK .i64) x.Kind
  From : (inK .i64) x.From
  To : (inK .i64) x.To
  N : (inK .i64) x.N
  S : (fun _ => True) x.S
structure W_Tlattice_order (x : Tlattice_order) : Prop where
  n_ : (inK .i64) x.n_
  up_ : (wN 8 (inK .u8)) x.up_
  down_ : (wN 8 (inK .u8)) x.down_
structure W_TArray (x : TArray) : Prop where
  Kind : (inK .i64) x.Kind
  Rank : (inK .i64) x.Rank
  Lens : (w2 (inK .i64)) x.Lens
  Cells : (allW (inK .i64)) x.Cells
structure W_TWsVar (x : TWsVar) : Prop where
  Name : (fun _ => True) x.Name
  Value : W_TArray x.Value
structure W_TReEntry (x : TReEntry) : Prop where
  Site : (inK .i64) x.Site
  Fold : (inK .i64) x.Fold
  From : (inK .i64) x.From
  Goal : (inK .i64) x.Goal
  Cells : (inK .i64) x.Cells
  Value : (w2 (inK .i64)) x.Value
structure W_TEvEvent (x : TEvEvent) : Prop where
  Kind : (inK .i64) x.Kind
  Site : (inK .i64) x.Site
  Steps : (inK .i64) x.Steps
  Label : (inK .i64) x.Label
  Channel : (fun _ => True) x.Channel
  Value : W_TArray x.Value
  E : (inK .i64) x.E
structure W_TEvTrace (x : TEvTrace) : Prop where
  Events : (allW W_TEvEvent) x.Events
  Log : (allW W_TReEntry) x.Log
  Vars : (allW W_TWsVar) x.Vars
  Steps : (inK .i64) x.Steps
end Go.Sx.O
namespace Go.Sx.O
noncomputable def F_invigilatorlaw20_Large (a0 : TLattice) : Option (Bool) :=
 Option.bind (
  lpO (fun (s3 : Int) =>
  cond (decide (s3 < (↑(List.length (List.map SV.str a0.Names)) : Int)))
  (cond (decide (s3 < (30 : Int)))
  (idxO (a0.Names) (s3) fun x9 =>
  cond (decide ((50 : Int) < (↑(List.length x9) : Int)))
  (some (Sum.inr (Sum.inr (true))))
  (letO (IntKind.wrap IntKind.i64 (s3 + (1 : Int))) fun x11 =>
  some (Sum.inl (x11))))
  (some (Sum.inr (Sum.inl ((decide (s3 < (30 : Int)), s3))))))
  (some (Sum.inr (Sum.inl ((false, s3)))))) ((0 : Int)))
  (Sum.elim (fun (s1 : Bool × Int) =>
  cond (decide ((20 : Int) < (↑(List.length (List.map SV.str a0.Names)) : Int)))
  (some (true))
  (some (decide ((20 : Int) < (↑(List.length (List.map (SV.int IntKind.u8) a0.Up)) : Int))))) some)
noncomputable def F_invigilatorlaw31_far (a0 : TEvTrace) : Option (Bool) :=
 Option.bind (
  lpO (fun (s17 : Int) =>
  cond (decide (s17 < (↑(List.length (List.map enc_TEvEvent a0.Events)) : Int)))
  (cond (decide (s17 < (70 : Int)))
  (idxO (a0.Events) (s17) fun x25 =>
  cond (decide ((100 : Int) < (↑(List.length x25.Channel) : Int)))
  (some (Sum.inr (Sum.inr (true))))
  (idxO (a0.Events) (s17) fun x27 =>
  cond (decide ((450 : Int) < (↑(List.length (List.map (SV.int IntKind.i64) x27.Value.Cells)) : Int)))
  (some (Sum.inr (Sum.inr (true))))
  (letO (IntKind.wrap IntKind.i64 (s17 + (1 : Int))) fun x29 =>
  some (Sum.inl (x29)))))
  (some (Sum.inr (Sum.inl ((decide (s17 < (70 : Int)), s17))))))
  (some (Sum.inr (Sum.inl ((false, s17)))))) ((0 : Int)))
  (Sum.elim (fun (s15 : Bool × Int) =>
  cond (decide ((60 : Int) < (↑(List.length (List.map enc_TEvEvent a0.Events)) : Int)))
  (some (true))
  (some (decide ((60 : Int) < (↑(List.length (List.map enc_TReEntry a0.Log)) : Int))))) some)
noncomputable def F_strings_trimRightByte (a0 : List UInt8) (a1 : Int) : Option (List UInt8) :=
 Option.bind (
  lpO (fun (s61 : List UInt8) =>
  cond (decide ((0 : Int) < (↑(List.length s61) : Int)))
  (letO (IntKind.wrap IntKind.i64 ((↑(List.length s61) : Int) - (1 : Int))) fun x68 =>
  idxO (s61) (x68) fun x69 =>
  cond (decide ((↑(UInt8.toNat x69) : Int) = a1))
  (letO (IntKind.wrap IntKind.i64 ((↑(List.length s61) : Int) - (1 : Int))) fun x71 =>
  sideO ((0 : Int) ≤ x71 ∧ x71 ≤ (↑(List.length s61) : Int)) (
  some (Sum.inl (List.drop (Int.toNat (0 : Int)) (List.take (Int.toNat x71) s61)))))
  (some (Sum.inr (Sum.inl ((decide ((↑(UInt8.toNat x69) : Int) = a1), s61))))))
  (some (Sum.inr (Sum.inl ((false, s61)))))) (a0))
  (Sum.elim (fun (s59 : Bool × List UInt8) =>
  some (s59.snd)) some)
noncomputable def F_strings_trimLeftByte (a0 : List UInt8) (a1 : Int) : Option (List UInt8) :=
 Option.bind (
  lpO (fun (s76 : List UInt8) =>
  cond (decide ((0 : Int) < (↑(List.length s76) : Int)))
  (idxO (s76) ((0 : Int)) fun x81 =>
  cond (decide ((↑(UInt8.toNat x81) : Int) = a1))
  (sideO ((0 : Int) ≤ (1 : Int) ∧ (1 : Int) ≤ (↑(List.length s76) : Int)) (
  some (Sum.inl (List.drop (Int.toNat (1 : Int)) (List.take (Int.toNat (↑(List.length s76) : Int)) s76)))))
  (some (Sum.inr (Sum.inl ((decide ((↑(UInt8.toNat x81) : Int) = a1), s76))))))
  (some (Sum.inr (Sum.inl ((false, s76)))))) (a0))
  (Sum.elim (fun (s74 : Bool × List UInt8) =>
  some (s74.snd)) some)
noncomputable def F_strings_makeASCIISet (a0 : List UInt8) : Option (List Bool × Bool) :=
 Option.bind (
  lpO (fun (s86 : Int × List Bool) =>
  cond (decide (s86.fst < (↑(List.length a0) : Int)))
  (idxO (a0) (s86.fst) fun x92 =>
  cond (decide ((128 : Int) ≤ (↑(UInt8.toNat x92) : Int)))
  (some (Sum.inr (Sum.inr ((s86.snd, false)))))
  (sideO ((0 : Int) ≤ (↑(UInt8.toNat x92) : Int) ∧ (↑(UInt8.toNat x92) : Int) < (↑(256 : Nat) : Int)) (
  idxO (s86.snd) ((↑(Int.toNat (↑(UInt8.toNat x92) : Int)) : Int)) fun x94 =>
  letO (IntKind.wrap IntKind.i64 (s86.fst + (1 : Int))) fun x95 =>
  some (Sum.inl ((x95, List.set s86.snd (Int.toNat (↑(UInt8.toNat x92) : Int)) true))))))
  (some (Sum.inr (Sum.inl ((decide (s86.fst < (↑(List.length a0) : Int)), s86)))))) (((0 : Int), List.replicate (256 : Nat) false)))
  (Sum.elim (fun (s84 : Bool × Int × List Bool) =>
  some ((s84.snd.snd, true))) some)
noncomputable def F__Pstrings_asciiSet__contains (a0 : List Bool) (a1 : Int) : Option (Bool) :=
 sideO ((0 : Int) ≤ a1 ∧ a1 < (↑(256 : Nat) : Int)) (
  idxO (a0) ((↑(Int.toNat a1) : Int)) fun x103 =>
  some (x103))
noncomputable def F_strings_trimRightASCII (a0 : List UInt8) (a1 : List Bool) : Option (List UInt8) :=
 Option.bind (
  lpO (fun (s100 : List UInt8) =>
  cond (decide ((0 : Int) < (↑(List.length s100) : Int)))
  (letO (IntKind.wrap IntKind.i64 ((↑(List.length s100) : Int) - (1 : Int))) fun x108 =>
  idxO (s100) (x108) fun x109 =>
  Option.bind (F__Pstrings_asciiSet__contains (a1) ((↑(UInt8.toNat x109) : Int))) fun x110 =>
  cond (!x110)
  (some (Sum.inr (Sum.inl ((decide ((0 : Int) < (↑(List.length s100) : Int)), s100)))))
  (letO (IntKind.wrap IntKind.i64 ((↑(List.length s100) : Int) - (1 : Int))) fun x112 =>
  sideO ((0 : Int) ≤ x112 ∧ x112 ≤ (↑(List.length s100) : Int)) (
  some (Sum.inl (List.drop (Int.toNat (0 : Int)) (List.take (Int.toNat x112) s100))))))
  (some (Sum.inr (Sum.inl ((decide ((0 : Int) < (↑(List.length s100) : Int)), s100)))))) (a0))
  (Sum.elim (fun (s98 : Bool × List UInt8) =>
  some (s98.snd)) some)
noncomputable def F_strings_trimLeftASCII (a0 : List UInt8) (a1 : List Bool) : Option (List UInt8) :=
 Option.bind (
  lpO (fun (s116 : List UInt8) =>
  cond (decide ((0 : Int) < (↑(List.length s116) : Int)))
  (idxO (s116) ((0 : Int)) fun x122 =>
  Option.bind (F__Pstrings_asciiSet__contains (a1) ((↑(UInt8.toNat x122) : Int))) fun x123 =>
  cond (!x123)
  (some (Sum.inr (Sum.inl ((decide ((0 : Int) < (↑(List.length s116) : Int)), s116)))))
  (sideO ((0 : Int) ≤ (1 : Int) ∧ (1 : Int) ≤ (↑(List.length s116) : Int)) (
  some (Sum.inl (List.drop (Int.toNat (1 : Int)) (List.take (Int.toNat (↑(List.length s116) : Int)) s116))))))
  (some (Sum.inr (Sum.inl ((decide ((0 : Int) < (↑(List.length s116) : Int)), s116)))))) (a0))
  (Sum.elim (fun (s114 : Bool × List UInt8) =>
  some (s114.snd)) some)
noncomputable def F_unicode_utf8_RuneStart (a0 : Int) : Option (Bool) :=
 some (!decide (bits BinOp.and IntKind.u8 a0 (192 : Int) = (128 : Int)))
noncomputable def F_unicode_utf8_decodeRuneInStringSlow (a0 : List UInt8) : Option (Int × Int) :=
 cond (decide ((↑(List.length a0) : Int) < (1 : Int)))
  (some (((65533 : Int), (0 : Int))))
  (idxO (a0) ((0 : Int)) fun x160 =>
  none)
noncomputable def F_unicode_utf8_DecodeRuneInString (a0 : List UInt8) : Option (Int × Int) :=
 cond (!decide (a0 = (ByteArray.mk #[]).data.toList))
  (idxO (a0) ((0 : Int)) fun x155 =>
  cond (decide ((↑(UInt8.toNat x155) : Int) < (128 : Int)))
  (idxO (a0) ((0 : Int)) fun x157 =>
  letO (IntKind.wrap IntKind.i32 (↑(UInt8.toNat x157) : Int)) fun x158 =>
  some ((x158, (1 : Int))))
  (Option.bind (F_unicode_utf8_decodeRuneInStringSlow (a0)) fun x161 =>
  some (x161)))
  (Option.bind (F_unicode_utf8_decodeRuneInStringSlow (a0)) fun x162 =>
  some (x162))
noncomputable def F_unicode_utf8_DecodeLastRuneInString (a0 : List UInt8) : Option (Int × Int) :=
 cond (decide ((↑(List.length a0) : Int) = (0 : Int)))
  (some (((65533 : Int), (0 : Int))))
  (letO (IntKind.wrap IntKind.i64 ((↑(List.length a0) : Int) - (1 : Int))) fun x134 =>
  idxO (a0) (x134) fun x135 =>
  letO (IntKind.wrap IntKind.i32 (↑(UInt8.toNat x135) : Int)) fun x136 =>
  cond (decide (x136 < (128 : Int)))
  (some ((x136, (1 : Int))))
  (letO (IntKind.wrap IntKind.i64 ((↑(List.length a0) : Int) - (4 : Int))) fun x138 =>
  letO (IntKind.wrap IntKind.i64 (x134 - (1 : Int))) fun x139 =>
  Option.bind (
  lpO (fun (s142 : Int) =>
  cond (decide (max x138 (0 : Int) ≤ s142))
  (idxO (a0) (s142) fun x149 =>
  Option.bind (F_unicode_utf8_RuneStart ((↑(UInt8.toNat x149) : Int))) fun x150 =>
  cond (x150)
  (some (Sum.inr (Sum.inl ((decide (max x138 (0 : Int) ≤ s142), s142)))))
  (letO (IntKind.wrap IntKind.i64 (s142 - (1 : Int))) fun x152 =>
  some (Sum.inl (x152))))
  (some (Sum.inr (Sum.inl ((decide (max x138 (0 : Int) ≤ s142), s142)))))) (x139))
  (Sum.elim (fun (s140 : Bool × Int) =>
  cond (decide (s140.snd < (0 : Int)))
  (sideO ((0 : Int) ≤ (0 : Int) ∧ (0 : Int) ≤ (↑(List.length a0) : Int) ∧ (↑(List.length a0) : Int) ≤ (↑(List.length a0) : Int)) (
  Option.bind (F_unicode_utf8_DecodeRuneInString (List.drop (Int.toNat (0 : Int)) (List.take (Int.toNat (↑(List.length a0) : Int)) a0))) fun x163 =>
  letO (IntKind.wrap IntKind.i64 ((0 : Int) + x163.snd)) fun x164 =>
  cond (!decide (x164 = (↑(List.length a0) : Int)))
  (some (((65533 : Int), (1 : Int))))
  (some (x163))))
  (sideO ((0 : Int) ≤ s140.snd ∧ s140.snd ≤ (↑(List.length a0) : Int) ∧ (↑(List.length a0) : Int) ≤ (↑(List.length a0) : Int)) (
  Option.bind (F_unicode_utf8_DecodeRuneInString (List.drop (Int.toNat s140.snd) (List.take (Int.toNat (↑(List.length a0) : Int)) a0))) fun x166 =>
  letO (IntKind.wrap IntKind.i64 (s140.snd + x166.snd)) fun x167 =>
  cond (!decide (x167 = (↑(List.length a0) : Int)))
  (some (((65533 : Int), (1 : Int))))
  (some (x166))))) some)))
noncomputable def F_strings_IndexByte (a0 : List UInt8) (a1 : Int) : Option (Int) :=
 Option.bind (F_internal_stringslite_IndexByte (a0) (a1)) fun x173 =>
  some (x173)
noncomputable def F_unicode_utf8_ValidRune (a0 : Int) : Option (Bool) :=
 cond (decide ((0 : Int) ≤ a0))
  (cond (decide (a0 < (55296 : Int)))
  (some (true))
  (cond (decide ((57343 : Int) < a0))
  (cond (decide (a0 ≤ (1114111 : Int)))
  (some (true))
  (some (false)))
  (some (false))))
  (cond (decide ((57343 : Int) < a0))
  (cond (decide (a0 ≤ (1114111 : Int)))
  (some (true))
  (some (false)))
  (some (false)))
noncomputable def F_strings_IndexRune (a0 : List UInt8) (a1 : Int) : Option (Int) :=
 cond (decide ((0 : Int) ≤ a1))
  (cond (decide (a1 < (128 : Int)))
  (letO (IntKind.wrap IntKind.u8 a1) fun x172 =>
  Option.bind (F_strings_IndexByte (a0) (x172)) fun x174 =>
  some (x174))
  (cond (decide (a1 = (65533 : Int)))
  (none)
  (Option.bind (F_unicode_utf8_ValidRune (a1)) fun x182 =>
  cond (!x182)
  (some ((-1 : Int)))
  (letO (IntKind.wrap IntKind.i64 ((↑(List.length (Utf8.encode a1).data.toList) : Int) - (1 : Int))) fun x184 =>
  Option.bind (
  lpO (fun (s187 : Unit) =>
  cond (decide (x184 < (↑(List.length a0) : Int)))
  (idxO (a0) (x184) fun x189 =>
  idxO ((Utf8.encode a1).data.toList) (x184) fun x190 =>
  cond (!decide ((↑(UInt8.toNat x189) : Int) = (↑(UInt8.toNat x190) : Int)))
  (letO (IntKind.wrap IntKind.i64 (x184 + (1 : Int))) fun x192 =>
  sideO ((0 : Int) ≤ x192 ∧ x192 ≤ (↑(List.length a0) : Int)) (
  idxO ((Utf8.encode a1).data.toList) (x184) fun x193 =>
  Option.bind (F_strings_IndexByte (List.drop (Int.toNat x192) (List.take (Int.toNat (↑(List.length a0) : Int)) a0)) ((↑(UInt8.toNat x193) : Int))) fun x194 =>
  cond (decide (x194 < (0 : Int)))
  (some (Sum.inr (Sum.inr ((-1 : Int)))))
  (letO (IntKind.wrap IntKind.i64 (x194 + (1 : Int))) fun x196 =>
  letO (IntKind.wrap IntKind.i64 (x184 + x196)) fun x197 =>
  Option.bind (
  lpO (fun (s200 : Int) =>
  cond (decide (s200 < (↑(List.length (Utf8.encode a1).data.toList) : Int)))
  (letO (IntKind.wrap IntKind.i64 (x197 - s200)) fun x208 =>
  idxO (a0) (x208) fun x209 =>
  letO (IntKind.wrap IntKind.i64 (x184 - s200)) fun x210 =>
  idxO ((Utf8.encode a1).data.toList) (x210) fun x211 =>
  cond (!decide ((↑(UInt8.toNat x209) : Int) = (↑(UInt8.toNat x211) : Int)))
  (none)
  (letO (IntKind.wrap IntKind.i64 (s200 + (1 : Int))) fun x213 =>
  some (Sum.inl (x213))))
  (some (Sum.inr (Sum.inl ((decide (s200 < (↑(List.length (Utf8.encode a1).data.toList) : Int)), s200)))))) ((1 : Int)))
  (Sum.elim (fun (s198 : Bool × Int) =>
  letO (IntKind.wrap IntKind.i64 (x197 - x184)) fun x214 =>
  some (Sum.inr (Sum.inr (x214)))) some))))
  (Option.bind (
  lpO (fun (s217 : Int) =>
  cond (decide (s217 < (↑(List.length (Utf8.encode a1).data.toList) : Int)))
  (letO (IntKind.wrap IntKind.i64 (x184 - s217)) fun x225 =>
  idxO (a0) (x225) fun x226 =>
  letO (IntKind.wrap IntKind.i64 (x184 - s217)) fun x227 =>
  idxO ((Utf8.encode a1).data.toList) (x227) fun x228 =>
  cond (!decide ((↑(UInt8.toNat x226) : Int) = (↑(UInt8.toNat x228) : Int)))
  (none)
  (letO (IntKind.wrap IntKind.i64 (s217 + (1 : Int))) fun x230 =>
  some (Sum.inl (x230))))
  (some (Sum.inr (Sum.inl ((decide (s217 < (↑(List.length (Utf8.encode a1).data.toList) : Int)), s217)))))) ((1 : Int)))
  (Sum.elim (fun (s215 : Bool × Int) =>
  letO (IntKind.wrap IntKind.i64 (x184 - x184)) fun x231 =>
  some (Sum.inr (Sum.inr (x231)))) some)))
  (some (Sum.inr (Sum.inl (()))))) (()))
  (Sum.elim (fun (s185 : Unit) =>
  some ((-1 : Int))) some)))))
  (cond (decide (a1 = (65533 : Int)))
  (none)
  (Option.bind (F_unicode_utf8_ValidRune (a1)) fun x233 =>
  cond (!x233)
  (some ((-1 : Int)))
  (letO (IntKind.wrap IntKind.i64 ((↑(List.length (Utf8.encode a1).data.toList) : Int) - (1 : Int))) fun x235 =>
  Option.bind (
  lpO (fun (s238 : Unit) =>
  cond (decide (x235 < (↑(List.length a0) : Int)))
  (idxO (a0) (x235) fun x240 =>
  idxO ((Utf8.encode a1).data.toList) (x235) fun x241 =>
  cond (!decide ((↑(UInt8.toNat x240) : Int) = (↑(UInt8.toNat x241) : Int)))
  (letO (IntKind.wrap IntKind.i64 (x235 + (1 : Int))) fun x243 =>
  sideO ((0 : Int) ≤ x243 ∧ x243 ≤ (↑(List.length a0) : Int)) (
  idxO ((Utf8.encode a1).data.toList) (x235) fun x244 =>
  Option.bind (F_strings_IndexByte (List.drop (Int.toNat x243) (List.take (Int.toNat (↑(List.length a0) : Int)) a0)) ((↑(UInt8.toNat x244) : Int))) fun x245 =>
  cond (decide (x245 < (0 : Int)))
  (some (Sum.inr (Sum.inr ((-1 : Int)))))
  (letO (IntKind.wrap IntKind.i64 (x245 + (1 : Int))) fun x247 =>
  letO (IntKind.wrap IntKind.i64 (x235 + x247)) fun x248 =>
  Option.bind (
  lpO (fun (s251 : Int) =>
  cond (decide (s251 < (↑(List.length (Utf8.encode a1).data.toList) : Int)))
  (letO (IntKind.wrap IntKind.i64 (x248 - s251)) fun x259 =>
  idxO (a0) (x259) fun x260 =>
  letO (IntKind.wrap IntKind.i64 (x235 - s251)) fun x261 =>
  idxO ((Utf8.encode a1).data.toList) (x261) fun x262 =>
  cond (!decide ((↑(UInt8.toNat x260) : Int) = (↑(UInt8.toNat x262) : Int)))
  (none)
  (letO (IntKind.wrap IntKind.i64 (s251 + (1 : Int))) fun x264 =>
  some (Sum.inl (x264))))
  (some (Sum.inr (Sum.inl ((decide (s251 < (↑(List.length (Utf8.encode a1).data.toList) : Int)), s251)))))) ((1 : Int)))
  (Sum.elim (fun (s249 : Bool × Int) =>
  letO (IntKind.wrap IntKind.i64 (x248 - x235)) fun x265 =>
  some (Sum.inr (Sum.inr (x265)))) some))))
  (Option.bind (
  lpO (fun (s268 : Int) =>
  cond (decide (s268 < (↑(List.length (Utf8.encode a1).data.toList) : Int)))
  (letO (IntKind.wrap IntKind.i64 (x235 - s268)) fun x276 =>
  idxO (a0) (x276) fun x277 =>
  letO (IntKind.wrap IntKind.i64 (x235 - s268)) fun x278 =>
  idxO ((Utf8.encode a1).data.toList) (x278) fun x279 =>
  cond (!decide ((↑(UInt8.toNat x277) : Int) = (↑(UInt8.toNat x279) : Int)))
  (none)
  (letO (IntKind.wrap IntKind.i64 (s268 + (1 : Int))) fun x281 =>
  some (Sum.inl (x281))))
  (some (Sum.inr (Sum.inl ((decide (s268 < (↑(List.length (Utf8.encode a1).data.toList) : Int)), s268)))))) ((1 : Int)))
  (Sum.elim (fun (s266 : Bool × Int) =>
  letO (IntKind.wrap IntKind.i64 (x235 - x235)) fun x282 =>
  some (Sum.inr (Sum.inr (x282)))) some)))
  (some (Sum.inr (Sum.inl (()))))) (()))
  (Sum.elim (fun (s236 : Unit) =>
  some ((-1 : Int))) some))))
noncomputable def F_strings_ContainsRune (a0 : List UInt8) (a1 : Int) : Option (Bool) :=
 Option.bind (F_strings_IndexRune (a0) (a1)) fun x283 =>
  some (decide ((0 : Int) ≤ x283))
noncomputable def F_strings_trimRightUnicode (a0 : List UInt8) (a1 : List UInt8) : Option (List UInt8) :=
 Option.bind (
  lpO (fun (s128 : List UInt8) =>
  cond (decide ((0 : Int) < (↑(List.length s128) : Int)))
  (letO (IntKind.wrap IntKind.i64 ((↑(List.length s128) : Int) - (1 : Int))) fun x142 =>
  idxO (s128) (x142) fun x143 =>
  letO (IntKind.wrap IntKind.i32 (↑(UInt8.toNat x143) : Int)) fun x144 =>
  cond (decide ((128 : Int) ≤ x144))
  (Option.bind (F_unicode_utf8_DecodeLastRuneInString (s128)) fun x146 =>
  Option.bind (F_strings_ContainsRune (a1) (x146.fst)) fun x147 =>
  cond (!x147)
  (some (Sum.inr (Sum.inl ((decide ((0 : Int) < (↑(List.length s128) : Int)), s128)))))
  (letO (IntKind.wrap IntKind.i64 ((↑(List.length s128) : Int) - x146.snd)) fun x149 =>
  sideO ((0 : Int) ≤ x149 ∧ x149 ≤ (↑(List.length s128) : Int)) (
  some (Sum.inl (List.drop (Int.toNat (0 : Int)) (List.take (Int.toNat x149) s128))))))
  (Option.bind (F_strings_ContainsRune (a1) (x144)) fun x150 =>
  cond (!x150)
  (some (Sum.inr (Sum.inl ((decide ((0 : Int) < (↑(List.length s128) : Int)), s128)))))
  (letO (IntKind.wrap IntKind.i64 ((↑(List.length s128) : Int) - (1 : Int))) fun x152 =>
  sideO ((0 : Int) ≤ x152 ∧ x152 ≤ (↑(List.length s128) : Int)) (
  some (Sum.inl (List.drop (Int.toNat (0 : Int)) (List.take (Int.toNat x152) s128)))))))
  (some (Sum.inr (Sum.inl ((decide ((0 : Int) < (↑(List.length s128) : Int)), s128)))))) (a0))
  (Sum.elim (fun (s126 : Bool × List UInt8) =>
  some (s126.snd)) some)
noncomputable def F_strings_trimLeftUnicode (a0 : List UInt8) (a1 : List UInt8) : Option (List UInt8) :=
 Option.bind (
  lpO (fun (s156 : List UInt8) =>
  cond (decide ((0 : Int) < (↑(List.length s156) : Int)))
  (Option.bind (F_unicode_utf8_DecodeRuneInString (s156)) fun x162 =>
  Option.bind (F_strings_ContainsRune (a1) (x162.fst)) fun x163 =>
  cond (!x163)
  (some (Sum.inr (Sum.inl ((decide ((0 : Int) < (↑(List.length s156) : Int)), s156)))))
  (sideO ((0 : Int) ≤ x162.snd ∧ x162.snd ≤ (↑(List.length s156) : Int)) (
  some (Sum.inl (List.drop (Int.toNat x162.snd) (List.take (Int.toNat (↑(List.length s156) : Int)) s156))))))
  (some (Sum.inr (Sum.inl ((decide ((0 : Int) < (↑(List.length s156) : Int)), s156)))))) (a0))
  (Sum.elim (fun (s154 : Bool × List UInt8) =>
  some (s154.snd)) some)
noncomputable def F_strings_Trim (a0 : List UInt8) (a1 : List UInt8) : Option (List UInt8) :=
 cond (decide (a0 = (ByteArray.mk #[]).data.toList))
  (some (a0))
  (cond (decide (a1 = (ByteArray.mk #[]).data.toList))
  (some (a0))
  (cond (decide ((↑(List.length a1) : Int) = (1 : Int)))
  (idxO (a1) ((0 : Int)) fun x56 =>
  cond (decide ((↑(UInt8.toNat x56) : Int) < (128 : Int)))
  (idxO (a1) ((0 : Int)) fun x58 =>
  Option.bind (F_strings_trimRightByte (a0) ((↑(UInt8.toNat x58) : Int))) fun x72 =>
  idxO (a1) ((0 : Int)) fun x73 =>
  Option.bind (F_strings_trimLeftByte (x72) ((↑(UInt8.toNat x73) : Int))) fun x83 =>
  some (x83))
  (Option.bind (F_strings_makeASCIISet (a1)) fun x96 =>
  cond (x96.snd)
  (Option.bind (F_strings_trimRightASCII (a0) (x96.fst)) fun x113 =>
  Option.bind (F_strings_trimLeftASCII (x113) (x96.fst)) fun x125 =>
  some (x125))
  (Option.bind (F_strings_trimRightUnicode (a0) (a1)) fun x153 =>
  Option.bind (F_strings_trimLeftUnicode (x153) (a1)) fun x165 =>
  some (x165))))
  (Option.bind (F_strings_makeASCIISet (a1)) fun x166 =>
  cond (x166.snd)
  (Option.bind (F_strings_trimRightASCII (a0) (x166.fst)) fun x168 =>
  Option.bind (F_strings_trimLeftASCII (x168) (x166.fst)) fun x169 =>
  some (x169))
  (Option.bind (F_strings_trimRightUnicode (a0) (a1)) fun x170 =>
  Option.bind (F_strings_trimLeftUnicode (x170) (a1)) fun x171 =>
  some (x171)))))
noncomputable def F_words_Name (a0 : List UInt8) : Option (Bool) :=
 cond (decide (a0 = (ByteArray.mk #[]).data.toList))
  (some (false))
  (cond (decide ((16 : Int) < (↑(List.length a0) : Int)))
  (some (false))
  (idxO (a0) ((0 : Int)) fun x49 =>
  cond (decide ((↑(UInt8.toNat x49) : Int) < (97 : Int)))
  (some (false))
  (idxO (a0) ((0 : Int)) fun x51 =>
  cond (decide ((122 : Int) < (↑(UInt8.toNat x51) : Int)))
  (some (false))
  (Option.bind (F_strings_Trim (a0) ((ByteArray.mk #[(97 : UInt8), (98 : UInt8), (99 : UInt8), (100 : UInt8), (101 : UInt8), (102 : UInt8), (103 : UInt8), (104 : UInt8), (105 : UInt8), (106 : UInt8), (107 : UInt8), (108 : UInt8), (109 : UInt8), (110 : UInt8), (111 : UInt8), (112 : UInt8), (113 : UInt8), (114 : UInt8), (115 : UInt8), (116 : UInt8), (117 : UInt8), (118 : UInt8), (119 : UInt8), (120 : UInt8), (121 : UInt8), (122 : UInt8), (48 : UInt8), (49 : UInt8), (50 : UInt8), (51 : UInt8), (52 : UInt8), (53 : UInt8), (54 : UInt8), (55 : UInt8), (56 : UInt8), (57 : UInt8), (45 : UInt8)]).data.toList)) fun x172 =>
  some (decide (x172 = (ByteArray.mk #[]).data.toList))))))
noncomputable def F_slices_Index___string_string_ (a0 : List (List UInt8)) (a1 : List UInt8) : Option (Int) :=
 Option.bind (
  lpO (fun (s177 : Int) =>
  cond (decide (s177 < (↑(List.length (List.map SV.str a0)) : Int)))
  (idxO (a0) (s177) fun x182 =>
  cond (decide (a1 = x182))
  (some (Sum.inr (Sum.inr (s177))))
  (letO (IntKind.wrap IntKind.i64 (s177 + (1 : Int))) fun x184 =>
  some (Sum.inl (x184))))
  (some (Sum.inr (Sum.inl ((decide (s177 < (↑(List.length (List.map SV.str a0)) : Int)), s177)))))) ((0 : Int)))
  (Sum.elim (fun (s175 : Bool × Int) =>
  some ((-1 : Int))) some)
noncomputable def F_slices_Contains___string_string_ (a0 : List (List UInt8)) (a1 : List UInt8) : Option (Bool) :=
 Option.bind (F_slices_Index___string_string_ (a0) (a1)) fun x185 =>
  some (decide ((0 : Int) ≤ x185))
noncomputable def F_lattice_named (a0 : List (List UInt8)) : Option (Int × Int) :=
 cond (decide ((↑(List.length (List.map SV.str a0)) : Int) < (1 : Int)))
  (some (((-1 : Int), (3 : Int))))
  (cond (decide ((8 : Int) < (↑(List.length (List.map SV.str a0)) : Int)))
  (some (((-1 : Int), (3 : Int))))
  (Option.bind (
  lpO (fun (s45 : Int) =>
  cond (decide (s45 < (↑(List.length (List.map SV.str a0)) : Int)))
  (idxO (a0) (s45) fun x53 =>
  Option.bind (F_words_Name (x53)) fun x54 =>
  cond (!x54)
  (some (Sum.inr (Sum.inr ((s45, (6 : Int))))))
  (sideO ((0 : Int) ≤ s45 ∧ s45 ≤ (↑(List.length (List.map SV.str a0)) : Int)) (
  Option.bind (F_slices_Contains___string_string_ (List.drop (Int.toNat (0 : Int)) (List.take (Int.toNat s45) a0)) (x53)) fun x56 =>
  cond (x56)
  (some (Sum.inr (Sum.inr ((s45, (8 : Int))))))
  (letO (IntKind.wrap IntKind.i64 (s45 + (1 : Int))) fun x58 =>
  some (Sum.inl (x58))))))
  (some (Sum.inr (Sum.inl ((decide (s45 < (↑(List.length (List.map SV.str a0)) : Int)), s45)))))) ((0 : Int)))
  (Sum.elim (fun (s43 : Bool × Int) =>
  some (((0 : Int), (0 : Int)))) some)))
noncomputable def F_math_bits_Len8 (a0 : Int) : Option (Int) :=
 idxO ((ByteArray.mk (List.toArray (List.append (List.append [(0 : UInt8), (1 : UInt8), (2 : UInt8), (2 : UInt8), (3 : UInt8), (3 : UInt8), (3 : UInt8), (3 : UInt8), (4 : UInt8), (4 : UInt8), (4 : UInt8), (4 : UInt8), (4 : UInt8), (4 : UInt8), (4 : UInt8), (4 : UInt8), (5 : UInt8), (5 : UInt8), (5 : UInt8), (5 : UInt8), (5 : UInt8), (5 : UInt8), (5 : UInt8), (5 : UInt8), (5 : UInt8), (5 : UInt8), (5 : UInt8), (5 : UInt8), (5 : UInt8), (5 : UInt8), (5 : UInt8), (5 : UInt8), (6 : UInt8), (6 : UInt8), (6 : UInt8), (6 : UInt8), (6 : UInt8), (6 : UInt8), (6 : UInt8), (6 : UInt8), (6 : UInt8), (6 : UInt8), (6 : UInt8), (6 : UInt8), (6 : UInt8), (6 : UInt8), (6 : UInt8), (6 : UInt8), (6 : UInt8), (6 : UInt8), (6 : UInt8), (6 : UInt8), (6 : UInt8), (6 : UInt8), (6 : UInt8), (6 : UInt8), (6 : UInt8), (6 : UInt8), (6 : UInt8), (6 : UInt8), (6 : UInt8), (6 : UInt8), (6 : UInt8), (6 : UInt8)] [(7 : UInt8), (7 : UInt8), (7 : UInt8), (7 : UInt8), (7 : UInt8), (7 : UInt8), (7 : UInt8), (7 : UInt8), (7 : UInt8), (7 : UInt8), (7 : UInt8), (7 : UInt8), (7 : UInt8), (7 : UInt8), (7 : UInt8), (7 : UInt8), (7 : UInt8), (7 : UInt8), (7 : UInt8), (7 : UInt8), (7 : UInt8), (7 : UInt8), (7 : UInt8), (7 : UInt8), (7 : UInt8), (7 : UInt8), (7 : UInt8), (7 : UInt8), (7 : UInt8), (7 : UInt8), (7 : UInt8), (7 : UInt8), (7 : UInt8), (7 : UInt8), (7 : UInt8), (7 : UInt8), (7 : UInt8), (7 : UInt8), (7 : UInt8), (7 : UInt8), (7 : UInt8), (7 : UInt8), (7 : UInt8), (7 : UInt8), (7 : UInt8), (7 : UInt8), (7 : UInt8), (7 : UInt8), (7 : UInt8), (7 : UInt8), (7 : UInt8), (7 : UInt8), (7 : UInt8), (7 : UInt8), (7 : UInt8), (7 : UInt8), (7 : UInt8), (7 : UInt8), (7 : UInt8), (7 : UInt8), (7 : UInt8), (7 : UInt8), (7 : UInt8), (7 : UInt8)]) (List.append [(8 : UInt8), (8 : UInt8), (8 : UInt8), (8 : UInt8), (8 : UInt8), (8 : UInt8), (8 : UInt8), (8 : UInt8), (8 : UInt8), (8 : UInt8), (8 : UInt8), (8 : UInt8), (8 : UInt8), (8 : UInt8), (8 : UInt8), (8 : UInt8), (8 : UInt8), (8 : UInt8), (8 : UInt8), (8 : UInt8), (8 : UInt8), (8 : UInt8), (8 : UInt8), (8 : UInt8), (8 : UInt8), (8 : UInt8), (8 : UInt8), (8 : UInt8), (8 : UInt8), (8 : UInt8), (8 : UInt8), (8 : UInt8), (8 : UInt8), (8 : UInt8), (8 : UInt8), (8 : UInt8), (8 : UInt8), (8 : UInt8), (8 : UInt8), (8 : UInt8), (8 : UInt8), (8 : UInt8), (8 : UInt8), (8 : UInt8), (8 : UInt8), (8 : UInt8), (8 : UInt8), (8 : UInt8), (8 : UInt8), (8 : UInt8), (8 : UInt8), (8 : UInt8), (8 : UInt8), (8 : UInt8), (8 : UInt8), (8 : UInt8), (8 : UInt8), (8 : UInt8), (8 : UInt8), (8 : UInt8), (8 : UInt8), (8 : UInt8), (8 : UInt8), (8 : UInt8)] [(8 : UInt8), (8 : UInt8), (8 : UInt8), (8 : UInt8), (8 : UInt8), (8 : UInt8), (8 : UInt8), (8 : UInt8), (8 : UInt8), (8 : UInt8), (8 : UInt8), (8 : UInt8), (8 : UInt8), (8 : UInt8), (8 : UInt8), (8 : UInt8), (8 : UInt8), (8 : UInt8), (8 : UInt8), (8 : UInt8), (8 : UInt8), (8 : UInt8), (8 : UInt8), (8 : UInt8), (8 : UInt8), (8 : UInt8), (8 : UInt8), (8 : UInt8), (8 : UInt8), (8 : UInt8), (8 : UInt8), (8 : UInt8), (8 : UInt8), (8 : UInt8), (8 : UInt8), (8 : UInt8), (8 : UInt8), (8 : UInt8), (8 : UInt8), (8 : UInt8), (8 : UInt8), (8 : UInt8), (8 : UInt8), (8 : UInt8), (8 : UInt8), (8 : UInt8), (8 : UInt8), (8 : UInt8), (8 : UInt8), (8 : UInt8), (8 : UInt8), (8 : UInt8), (8 : UInt8), (8 : UInt8), (8 : UInt8), (8 : UInt8), (8 : UInt8), (8 : UInt8), (8 : UInt8), (8 : UInt8), (8 : UInt8), (8 : UInt8), (8 : UInt8), (8 : UInt8)])))).data.toList) (a0) fun x68 =>
  letO (IntKind.wrap IntKind.i64 (↑(UInt8.toNat x68) : Int)) fun x69 =>
  some (x69)
noncomputable def F_lattice_of (a0 : TLattice) : Option (Tlattice_order) :=
 Option.bind (
  lpO (fun (s141 : Int × List Int × List Int) =>
  cond (decide (s141.fst < (↑(List.length (List.map (SV.int IntKind.u8) a0.Up)) : Int)))
  (idxO (a0.Up) (s141.fst) fun x155 =>
  sideO ((0 : Int) ≤ s141.fst ∧ s141.fst < (↑(8 : Nat) : Int)) (
  idxO (s141.snd.fst) ((↑(Int.toNat s141.fst) : Int)) fun x156 =>
  Option.bind (
  lpO (fun (s159 : Int × List Int) =>
  cond (decide (s159.fst < (↑(List.length (List.map SV.str a0.Names)) : Int)))
  (sideO ((0 : Int) ≤ s159.fst ∧ s159.fst < (↑(8 : Nat) : Int)) (
  idxO (s159.snd) ((↑(Int.toNat s159.fst) : Int)) fun x165 =>
  sideO ((0 : Int) ≤ s159.fst) (
  sideO ((0 : Int) ≤ s141.fst) (
  letO (IntKind.wrap IntKind.u8 (bits BinOp.and IntKind.u8 (Int.fdiv x155 ((2 : Int) ^ min (Int.toNat s159.fst) (IntKind.bits IntKind.u8))) (1 : Int) * (2 : Int) ^ min (Int.toNat s141.fst) (IntKind.bits IntKind.u8))) fun x166 =>
  sideO ((0 : Int) ≤ s159.fst ∧ s159.fst < (↑(8 : Nat) : Int)) (
  idxO (s159.snd) ((↑(Int.toNat s159.fst) : Int)) fun x167 =>
  letO (IntKind.wrap IntKind.i64 (s159.fst + (1 : Int))) fun x168 =>
  some (Sum.inl ((x168, List.set s159.snd (Int.toNat s159.fst) (bits BinOp.or IntKind.u8 x165 x166)))))))))
  (some (Sum.inr (Sum.inl ((decide (s159.fst < (↑(List.length (List.map SV.str a0.Names)) : Int)), s159)))))) (((0 : Int), s141.snd.snd)))
  (Sum.elim (fun (s157 : Bool × Int × List Int) =>
  letO (IntKind.wrap IntKind.i64 (s141.fst + (1 : Int))) fun x169 =>
  some (Sum.inl ((x169, List.set s141.snd.fst (Int.toNat s141.fst) x155, s157.snd.snd)))) some)))
  (some (Sum.inr (Sum.inl ((decide (s141.fst < (↑(List.length (List.map (SV.int IntKind.u8) a0.Up)) : Int)), s141)))))) (((0 : Int), [(0 : Int), (0 : Int), (0 : Int), (0 : Int), (0 : Int), (0 : Int), (0 : Int), (0 : Int)], [(0 : Int), (0 : Int), (0 : Int), (0 : Int), (0 : Int), (0 : Int), (0 : Int), (0 : Int)])))
  (Sum.elim (fun (s139 : Bool × Int × List Int × List Int) =>
  some (Tlattice_order.mk (↑(List.length (List.map SV.str a0.Names)) : Int) s139.snd.snd.fst s139.snd.snd.snd)) some)
noncomputable def F_lattice_bound_lattice_ups_ (a0 : List Int) (a1 : Int) (a2 : Int) (a3 : Int) : Option (Int) :=
 sideO ((0 : Int) ≤ a2 ∧ a2 < (↑(8 : Nat) : Int)) (
  idxO (a0) ((↑(Int.toNat a2) : Int)) fun x176 =>
  sideO ((0 : Int) ≤ a3 ∧ a3 < (↑(8 : Nat) : Int)) (
  idxO (a0) ((↑(Int.toNat a3) : Int)) fun x177 =>
  Option.bind (
  lpO (fun (s180 : Int) =>
  cond (decide (s180 < a1))
  (sideO ((0 : Int) ≤ s180) (
  cond (decide (bits BinOp.and IntKind.u8 (Int.fdiv (bits BinOp.and IntKind.u8 x176 x177) ((2 : Int) ^ min (Int.toNat s180) (IntKind.bits IntKind.u8))) (1 : Int) = (1 : Int)))
  (sideO ((0 : Int) ≤ s180 ∧ s180 < (↑(8 : Nat) : Int)) (
  idxO (a0) ((↑(Int.toNat s180) : Int)) fun x187 =>
  cond (decide (x187 = bits BinOp.and IntKind.u8 x176 x177))
  (some (Sum.inr (Sum.inr (s180))))
  (letO (IntKind.wrap IntKind.i64 (s180 + (1 : Int))) fun x189 =>
  some (Sum.inl (x189)))))
  (letO (IntKind.wrap IntKind.i64 (s180 + (1 : Int))) fun x190 =>
  some (Sum.inl (x190)))))
  (some (Sum.inr (Sum.inl ((decide (s180 < a1), s180)))))) ((0 : Int)))
  (Sum.elim (fun (s178 : Bool × Int) =>
  some ((-1 : Int))) some)))
noncomputable def F_lattice_bound_lattice_downs_ (a0 : List Int) (a1 : Int) (a2 : Int) (a3 : Int) : Option (Int) :=
 sideO ((0 : Int) ≤ a2 ∧ a2 < (↑(8 : Nat) : Int)) (
  idxO (a0) ((↑(Int.toNat a2) : Int)) fun x193 =>
  sideO ((0 : Int) ≤ a3 ∧ a3 < (↑(8 : Nat) : Int)) (
  idxO (a0) ((↑(Int.toNat a3) : Int)) fun x194 =>
  Option.bind (
  lpO (fun (s197 : Int) =>
  cond (decide (s197 < a1))
  (sideO ((0 : Int) ≤ s197) (
  cond (decide (bits BinOp.and IntKind.u8 (Int.fdiv (bits BinOp.and IntKind.u8 x193 x194) ((2 : Int) ^ min (Int.toNat s197) (IntKind.bits IntKind.u8))) (1 : Int) = (1 : Int)))
  (sideO ((0 : Int) ≤ s197 ∧ s197 < (↑(8 : Nat) : Int)) (
  idxO (a0) ((↑(Int.toNat s197) : Int)) fun x204 =>
  cond (decide (x204 = bits BinOp.and IntKind.u8 x193 x194))
  (some (Sum.inr (Sum.inr (s197))))
  (letO (IntKind.wrap IntKind.i64 (s197 + (1 : Int))) fun x206 =>
  some (Sum.inl (x206)))))
  (letO (IntKind.wrap IntKind.i64 (s197 + (1 : Int))) fun x207 =>
  some (Sum.inl (x207)))))
  (some (Sum.inr (Sum.inl ((decide (s197 < a1), s197)))))) ((0 : Int)))
  (Sum.elim (fun (s195 : Bool × Int) =>
  some ((-1 : Int))) some)))
noncomputable def F_lattice_Check (a0 : TLattice) : Option (Int × Int) :=
 Option.bind (F_lattice_named (a0.Names)) fun x59 =>
  cond (!decide (x59.snd = (0 : Int)))
  (some (x59))
  (cond (!decide ((↑(List.length (List.map (SV.int IntKind.u8) a0.Up)) : Int) = (↑(List.length (List.map SV.str a0.Names)) : Int)))
  (some (((-1 : Int), (6 : Int))))
  (sideO ((0 : Int) ≤ (↑(List.length (List.map SV.str a0.Names)) : Int)) (
  letO (IntKind.wrap IntKind.u8 ((1 : Int) * (2 : Int) ^ min (Int.toNat (↑(List.length (List.map SV.str a0.Names)) : Int)) (IntKind.bits IntKind.u8))) fun x62 =>
  letO (IntKind.wrap IntKind.u8 (x62 - (1 : Int))) fun x63 =>
  Option.bind (
  lpO (fun (s66 : Int) =>
  cond (decide (s66 < (↑(List.length (List.map (SV.int IntKind.u8) a0.Up)) : Int)))
  (idxO (a0.Up) (s66) fun x96 =>
  Option.bind (F_math_bits_Len8 (x96)) fun x97 =>
  cond (decide ((↑(List.length (List.map SV.str a0.Names)) : Int) < x97))
  (some (Sum.inr (Sum.inr ((s66, (6 : Int))))))
  (sideO ((0 : Int) ≤ s66) (
  cond (decide (bits BinOp.and IntKind.u8 (Int.fdiv x96 ((2 : Int) ^ min (Int.toNat s66) (IntKind.bits IntKind.u8))) (1 : Int) = (0 : Int)))
  (some (Sum.inr (Sum.inr ((s66, (6 : Int))))))
  (Option.bind (
  lpO (fun (s102 : Int) =>
  cond (decide (s102 < (↑(List.length (List.map (SV.int IntKind.u8) a0.Up)) : Int)))
  (idxO (a0.Up) (s102) fun x120 =>
  sideO ((0 : Int) ≤ s102) (
  cond (decide (bits BinOp.and IntKind.u8 (Int.fdiv x96 ((2 : Int) ^ min (Int.toNat s102) (IntKind.bits IntKind.u8))) (1 : Int) = (0 : Int)))
  (letO (IntKind.wrap IntKind.i64 ((↑(List.length (List.map SV.str a0.Names)) : Int) - (1 : Int))) fun x122 =>
  cond (decide (s102 = x122))
  (letO (IntKind.wrap IntKind.i64 (s66 + (1 : Int))) fun x124 =>
  some (Sum.inr (Sum.inr (Sum.inl (x124)))))
  (letO (IntKind.wrap IntKind.i64 (s102 + (1 : Int))) fun x125 =>
  some (Sum.inl (x125))))
  (cond (!decide (s102 = s66))
  (sideO ((0 : Int) ≤ s66) (
  cond (decide (bits BinOp.and IntKind.u8 (Int.fdiv x120 ((2 : Int) ^ min (Int.toNat s66) (IntKind.bits IntKind.u8))) (1 : Int) = (1 : Int)))
  (some (Sum.inr (Sum.inr (Sum.inr (Sum.inr ((s66, (6 : Int))))))))
  (cond (!decide (bits BinOp.andNot IntKind.u8 (bits BinOp.and IntKind.u8 x120 x63) x96 = (0 : Int)))
  (some (Sum.inr (Sum.inr (Sum.inr (Sum.inr ((s66, (6 : Int))))))))
  (letO (IntKind.wrap IntKind.i64 ((↑(List.length (List.map SV.str a0.Names)) : Int) - (1 : Int))) fun x129 =>
  cond (decide (s102 = x129))
  (letO (IntKind.wrap IntKind.i64 (s66 + (1 : Int))) fun x131 =>
  some (Sum.inr (Sum.inr (Sum.inl (x131)))))
  (letO (IntKind.wrap IntKind.i64 (s102 + (1 : Int))) fun x132 =>
  some (Sum.inl (x132)))))))
  (cond (!decide (bits BinOp.andNot IntKind.u8 (bits BinOp.and IntKind.u8 x120 x63) x96 = (0 : Int)))
  (some (Sum.inr (Sum.inr (Sum.inr (Sum.inr ((s66, (6 : Int))))))))
  (letO (IntKind.wrap IntKind.i64 ((↑(List.length (List.map SV.str a0.Names)) : Int) - (1 : Int))) fun x134 =>
  cond (decide (s102 = x134))
  (letO (IntKind.wrap IntKind.i64 (s66 + (1 : Int))) fun x136 =>
  some (Sum.inr (Sum.inr (Sum.inl (x136)))))
  (letO (IntKind.wrap IntKind.i64 (s102 + (1 : Int))) fun x137 =>
  some (Sum.inl (x137))))))))
  (some (Sum.inr (Sum.inl ((decide (s102 < (↑(List.length (List.map (SV.int IntKind.u8) a0.Up)) : Int)), s102)))))) ((0 : Int)))
  (Sum.elim (fun (s100 : Bool × Int) =>
  letO (IntKind.wrap IntKind.i64 (s66 + (1 : Int))) fun x138 =>
  some (Sum.inl (x138))) some)))))
  (some (Sum.inr (Sum.inl ((decide (s66 < (↑(List.length (List.map (SV.int IntKind.u8) a0.Up)) : Int)), s66)))))) ((0 : Int)))
  (Sum.elim (fun (s64 : Bool × Int) =>
  Option.bind (F_lattice_of (a0)) fun x170 =>
  Option.bind (
  lpO (fun (s173 : Int) =>
  cond (decide (s173 < (↑(List.length (List.map SV.str a0.Names)) : Int)))
  (Option.bind (
  lpO (fun (s191 : Int) =>
  cond (decide (s191 < (↑(List.length (List.map SV.str a0.Names)) : Int)))
  (Option.bind (F_lattice_bound_lattice_ups_ (x170.up_) ((↑(List.length (List.map SV.str a0.Names)) : Int)) (s173) (s191)) fun x198 =>
  cond (decide (x198 < (0 : Int)))
  (some (Sum.inr (Sum.inr (Sum.inr (Sum.inr ((s173, (4 : Int))))))))
  (Option.bind (F_lattice_bound_lattice_downs_ (x170.down_) ((↑(List.length (List.map SV.str a0.Names)) : Int)) (s173) (s191)) fun x200 =>
  cond (decide (x200 < (0 : Int)))
  (some (Sum.inr (Sum.inr (Sum.inr (Sum.inr ((s173, (4 : Int))))))))
  (letO (IntKind.wrap IntKind.i64 (s191 + (1 : Int))) fun x202 =>
  some (Sum.inl (x202)))))
  (some (Sum.inr (Sum.inl ((decide (s191 < (↑(List.length (List.map SV.str a0.Names)) : Int)), s191)))))) ((0 : Int)))
  (Sum.elim (fun (s189 : Bool × Int) =>
  letO (IntKind.wrap IntKind.i64 (s173 + (1 : Int))) fun x203 =>
  some (Sum.inl (x203))) some))
  (some (Sum.inr (Sum.inl ((decide (s173 < (↑(List.length (List.map SV.str a0.Names)) : Int)), s173)))))) ((0 : Int)))
  (Sum.elim (fun (s171 : Bool × Int) =>
  some (((0 : Int), (0 : Int)))) some)) some))))
noncomputable def F_view_label (a0 : TLattice) (a1 : Int) : Option (Bool) :=
 cond (decide ((0 : Int) ≤ a1))
  (some (decide (a1 < (↑(List.length (List.map SV.str a0.Names)) : Int))))
  (some (false))
noncomputable def F_prims_Find (a0 : List UInt8) : Option (Int × Int) :=
 Option.bind (
  cond (decide ([(110 : UInt8), (101 : UInt8), (103 : UInt8)] = a0))
  (some (Sum.inr (((1 : Int), (0 : Int)))))
  (cond (decide ([(97 : UInt8), (98 : UInt8), (115 : UInt8)] = a0))
  (some (Sum.inr (((2 : Int), (0 : Int)))))
  (cond (decide ([(110 : UInt8), (111 : UInt8), (116 : UInt8)] = a0))
  (some (Sum.inr (((3 : Int), (0 : Int)))))
  (cond (decide ([(115 : UInt8), (104 : UInt8), (97 : UInt8), (112 : UInt8), (101 : UInt8)] = a0))
  (some (Sum.inr (((4 : Int), (0 : Int)))))
  (cond (decide ([(114 : UInt8), (97 : UInt8), (118 : UInt8), (101 : UInt8), (108 : UInt8)] = a0))
  (some (Sum.inr (((5 : Int), (0 : Int)))))
  (cond (decide ([(114 : UInt8), (101 : UInt8), (118 : UInt8), (101 : UInt8), (114 : UInt8), (115 : UInt8), (101 : UInt8)] = a0))
  (some (Sum.inr (((6 : Int), (0 : Int)))))
  (cond (decide ([(102 : UInt8), (108 : UInt8), (105 : UInt8), (112 : UInt8)] = a0))
  (some (Sum.inr (((7 : Int), (0 : Int)))))
  (cond (decide ([(105 : UInt8), (111 : UInt8), (116 : UInt8), (97 : UInt8)] = a0))
  (some (Sum.inr (((8 : Int), (0 : Int)))))
  (cond (decide ([(115 : UInt8), (117 : UInt8), (109 : UInt8)] = a0))
  (some (Sum.inr (((9 : Int), (0 : Int)))))
  (cond (decide ([(108 : UInt8), (101 : UInt8), (97 : UInt8), (115 : UInt8), (116 : UInt8)] = a0))
  (some (Sum.inr (((10 : Int), (0 : Int)))))
  (cond (decide ([(109 : UInt8), (111 : UInt8), (115 : UInt8), (116 : UInt8)] = a0))
  (some (Sum.inr (((11 : Int), (0 : Int)))))
  (cond (decide ([(99 : UInt8), (111 : UInt8), (117 : UInt8), (110 : UInt8), (116 : UInt8)] = a0))
  (some (Sum.inr (((12 : Int), (0 : Int)))))
  (cond (decide ([(115 : UInt8), (99 : UInt8), (97 : UInt8), (110 : UInt8)] = a0))
  (some (Sum.inr (((13 : Int), (0 : Int)))))
  (cond (decide ([(103 : UInt8), (114 : UInt8), (97 : UInt8), (100 : UInt8), (101 : UInt8)] = a0))
  (some (Sum.inr (((14 : Int), (0 : Int)))))
  (cond (decide ([(97 : UInt8), (100 : UInt8), (100 : UInt8)] = a0))
  (some (Sum.inr (((15 : Int), (0 : Int)))))
  (cond (decide ([(115 : UInt8), (117 : UInt8), (98 : UInt8)] = a0))
  (some (Sum.inr (((16 : Int), (0 : Int)))))
  (cond (decide ([(109 : UInt8), (117 : UInt8), (108 : UInt8)] = a0))
  (some (Sum.inr (((17 : Int), (0 : Int)))))
  (cond (decide ([(100 : UInt8), (105 : UInt8), (118 : UInt8)] = a0))
  (some (Sum.inr (((18 : Int), (0 : Int)))))
  (cond (decide ([(109 : UInt8), (111 : UInt8), (100 : UInt8)] = a0))
  (some (Sum.inr (((19 : Int), (0 : Int)))))
  (cond (decide ([(112 : UInt8), (108 : UInt8), (117 : UInt8), (115 : UInt8)] = a0))
  (some (Sum.inr (((20 : Int), (0 : Int)))))
  (cond (decide ([(109 : UInt8), (105 : UInt8), (110 : UInt8), (117 : UInt8), (115 : UInt8)] = a0))
  (some (Sum.inr (((21 : Int), (0 : Int)))))
  (cond (decide ([(116 : UInt8), (105 : UInt8), (109 : UInt8), (101 : UInt8), (115 : UInt8)] = a0))
  (some (Sum.inr (((22 : Int), (0 : Int)))))
  (cond (decide ([(101 : UInt8), (113 : UInt8)] = a0))
  (some (Sum.inr (((23 : Int), (0 : Int)))))
  (cond (decide ([(110 : UInt8), (101 : UInt8)] = a0))
  (some (Sum.inr (((24 : Int), (0 : Int)))))
  (cond (decide ([(108 : UInt8), (116 : UInt8)] = a0))
  (some (Sum.inr (((25 : Int), (0 : Int)))))
  (cond (decide ([(108 : UInt8), (101 : UInt8)] = a0))
  (some (Sum.inr (((26 : Int), (0 : Int)))))
  (cond (decide ([(103 : UInt8), (116 : UInt8)] = a0))
  (some (Sum.inr (((27 : Int), (0 : Int)))))
  (cond (decide ([(103 : UInt8), (101 : UInt8)] = a0))
  (some (Sum.inr (((28 : Int), (0 : Int)))))
  (cond (decide ([(97 : UInt8), (110 : UInt8), (100 : UInt8)] = a0))
  (some (Sum.inr (((29 : Int), (0 : Int)))))
  (cond (decide ([(111 : UInt8), (114 : UInt8)] = a0))
  (some (Sum.inr (((30 : Int), (0 : Int)))))
  (cond (decide ([(109 : UInt8), (105 : UInt8), (110 : UInt8)] = a0))
  (some (Sum.inr (((31 : Int), (0 : Int)))))
  (cond (decide ([(109 : UInt8), (97 : UInt8), (120 : UInt8)] = a0))
  (some (Sum.inr (((32 : Int), (0 : Int)))))
  (cond (decide ([(116 : UInt8), (97 : UInt8), (107 : UInt8), (101 : UInt8)] = a0))
  (some (Sum.inr (((33 : Int), (0 : Int)))))
  (cond (decide ([(100 : UInt8), (114 : UInt8), (111 : UInt8), (112 : UInt8)] = a0))
  (some (Sum.inr (((34 : Int), (0 : Int)))))
  (cond (decide ([(102 : UInt8), (105 : UInt8), (108 : UInt8), (108 : UInt8)] = a0))
  (some (Sum.inr (((35 : Int), (0 : Int)))))
  (cond (decide ([(103 : UInt8), (114 : UInt8), (105 : UInt8), (100 : UInt8)] = a0))
  (some (Sum.inr (((36 : Int), (0 : Int)))))
  (cond (decide ([(99 : UInt8), (97 : UInt8), (116 : UInt8)] = a0))
  (some (Sum.inr (((37 : Int), (0 : Int)))))
  (cond (decide ([(97 : UInt8), (116 : UInt8)] = a0))
  (some (Sum.inr (((38 : Int), (0 : Int)))))
  (cond (decide ([(105 : UInt8), (110 : UInt8)] = a0))
  (some (Sum.inr (((39 : Int), (0 : Int)))))
  (cond (decide ([(112 : UInt8), (105 : UInt8), (99 : UInt8), (107 : UInt8)] = a0))
  (some (Sum.inr (((40 : Int), (0 : Int)))))
  (some (Sum.inl (())))))))))))))))))))))))))))))))))))))))))))
  (Sum.elim (fun (s234 : Unit) =>
  some (((0 : Int), (4 : Int)))) some)
noncomputable def F_runes_is (a0 : Int) : Option (Bool) :=
 letO (IntKind.wrap IntKind.i32 a0) fun x293 =>
  letO (IntKind.wrap IntKind.i64 x293) fun x294 =>
  cond (decide (a0 = x294))
  (letO (IntKind.wrap IntKind.i32 a0) fun x296 =>
  Option.bind (F_unicode_utf8_ValidRune (x296)) fun x297 =>
  some (x297))
  (some (false))
noncomputable def F_runes_classes : Option (List (List UInt8)) :=
 some ([[], (ByteArray.mk #[(32 : UInt8)]).data.toList, (ByteArray.mk #[(10 : UInt8)]).data.toList, (ByteArray.mk #[(40 : UInt8), (91 : UInt8)]).data.toList, (ByteArray.mk #[(41 : UInt8), (93 : UInt8)]).data.toList, (ByteArray.mk #[(34 : UInt8)]).data.toList, [], (ByteArray.mk #[(45 : UInt8)]).data.toList, [], (ByteArray.mk #[(60 : UInt8), (61 : UInt8)]).data.toList])
noncomputable def F_runes_Class (a0 : Int) : Option (Int × Int) :=
 Option.bind (F_runes_is (a0)) fun x298 =>
  cond (!x298)
  (some (((0 : Int), (7 : Int))))
  (cond (decide ((48 : Int) ≤ a0))
  (cond (decide (a0 ≤ (57 : Int)))
  (some (((6 : Int), (0 : Int))))
  (cond (decide ((97 : Int) ≤ a0))
  (cond (decide (a0 ≤ (122 : Int)))
  (some (((8 : Int), (0 : Int))))
  (Option.bind (F_runes_classes) fun x304 =>
  Option.bind (
  lpO (fun (s307 : Int) =>
  cond (decide (s307 < (10 : Int)))
  (idxO (x304) (s307) fun x313 =>
  letO (IntKind.wrap IntKind.i32 a0) fun x314 =>
  Option.bind (F_strings_ContainsRune (x313) (x314)) fun x315 =>
  cond (x315)
  (some (Sum.inr (Sum.inr ((s307, (0 : Int))))))
  (letO (IntKind.wrap IntKind.i64 (s307 + (1 : Int))) fun x317 =>
  some (Sum.inl (x317))))
  (some (Sum.inr (Sum.inl ((decide (s307 < (10 : Int)), s307)))))) ((0 : Int)))
  (Sum.elim (fun (s305 : Bool × Int) =>
  some (((10 : Int), (0 : Int)))) some)))
  (Option.bind (F_runes_classes) fun x318 =>
  Option.bind (
  lpO (fun (s321 : Int) =>
  cond (decide (s321 < (10 : Int)))
  (idxO (x318) (s321) fun x327 =>
  letO (IntKind.wrap IntKind.i32 a0) fun x328 =>
  Option.bind (F_strings_ContainsRune (x327) (x328)) fun x329 =>
  cond (x329)
  (some (Sum.inr (Sum.inr ((s321, (0 : Int))))))
  (letO (IntKind.wrap IntKind.i64 (s321 + (1 : Int))) fun x331 =>
  some (Sum.inl (x331))))
  (some (Sum.inr (Sum.inl ((decide (s321 < (10 : Int)), s321)))))) ((0 : Int)))
  (Sum.elim (fun (s319 : Bool × Int) =>
  some (((10 : Int), (0 : Int)))) some))))
  (cond (decide ((97 : Int) ≤ a0))
  (cond (decide (a0 ≤ (122 : Int)))
  (some (((8 : Int), (0 : Int))))
  (Option.bind (F_runes_classes) fun x334 =>
  Option.bind (
  lpO (fun (s337 : Int) =>
  cond (decide (s337 < (10 : Int)))
  (idxO (x334) (s337) fun x343 =>
  letO (IntKind.wrap IntKind.i32 a0) fun x344 =>
  Option.bind (F_strings_ContainsRune (x343) (x344)) fun x345 =>
  cond (x345)
  (some (Sum.inr (Sum.inr ((s337, (0 : Int))))))
  (letO (IntKind.wrap IntKind.i64 (s337 + (1 : Int))) fun x347 =>
  some (Sum.inl (x347))))
  (some (Sum.inr (Sum.inl ((decide (s337 < (10 : Int)), s337)))))) ((0 : Int)))
  (Sum.elim (fun (s335 : Bool × Int) =>
  some (((10 : Int), (0 : Int)))) some)))
  (Option.bind (F_runes_classes) fun x348 =>
  Option.bind (
  lpO (fun (s351 : Int) =>
  cond (decide (s351 < (10 : Int)))
  (idxO (x348) (s351) fun x357 =>
  letO (IntKind.wrap IntKind.i32 a0) fun x358 =>
  Option.bind (F_strings_ContainsRune (x357) (x358)) fun x359 =>
  cond (x359)
  (some (Sum.inr (Sum.inr ((s351, (0 : Int))))))
  (letO (IntKind.wrap IntKind.i64 (s351 + (1 : Int))) fun x361 =>
  some (Sum.inl (x361))))
  (some (Sum.inr (Sum.inl ((decide (s351 < (10 : Int)), s351)))))) ((0 : Int)))
  (Sum.elim (fun (s349 : Bool × Int) =>
  some (((10 : Int), (0 : Int)))) some))))
noncomputable def F_unicode_utf8_word_string_ (a0 : List UInt8) : Option (Int) :=
 idxO (a0) ((0 : Int)) fun x406 =>
  letO (IntKind.wrap IntKind.u64 (↑(UInt8.toNat x406) : Int)) fun x407 =>
  idxO (a0) ((1 : Int)) fun x408 =>
  letO (IntKind.wrap IntKind.u64 (↑(UInt8.toNat x408) : Int)) fun x409 =>
  letO (IntKind.wrap IntKind.u64 (x409 * (2 : Int) ^ min (Int.toNat (8 : Int)) (IntKind.bits IntKind.u64))) fun x410 =>
  idxO (a0) ((2 : Int)) fun x411 =>
  letO (IntKind.wrap IntKind.u64 (↑(UInt8.toNat x411) : Int)) fun x412 =>
  letO (IntKind.wrap IntKind.u64 (x412 * (2 : Int) ^ min (Int.toNat (16 : Int)) (IntKind.bits IntKind.u64))) fun x413 =>
  idxO (a0) ((3 : Int)) fun x414 =>
  letO (IntKind.wrap IntKind.u64 (↑(UInt8.toNat x414) : Int)) fun x415 =>
  letO (IntKind.wrap IntKind.u64 (x415 * (2 : Int) ^ min (Int.toNat (24 : Int)) (IntKind.bits IntKind.u64))) fun x416 =>
  idxO (a0) ((4 : Int)) fun x417 =>
  letO (IntKind.wrap IntKind.u64 (↑(UInt8.toNat x417) : Int)) fun x418 =>
  letO (IntKind.wrap IntKind.u64 (x418 * (2 : Int) ^ min (Int.toNat (32 : Int)) (IntKind.bits IntKind.u64))) fun x419 =>
  idxO (a0) ((5 : Int)) fun x420 =>
  letO (IntKind.wrap IntKind.u64 (↑(UInt8.toNat x420) : Int)) fun x421 =>
  letO (IntKind.wrap IntKind.u64 (x421 * (2 : Int) ^ min (Int.toNat (40 : Int)) (IntKind.bits IntKind.u64))) fun x422 =>
  idxO (a0) ((6 : Int)) fun x423 =>
  letO (IntKind.wrap IntKind.u64 (↑(UInt8.toNat x423) : Int)) fun x424 =>
  letO (IntKind.wrap IntKind.u64 (x424 * (2 : Int) ^ min (Int.toNat (48 : Int)) (IntKind.bits IntKind.u64))) fun x425 =>
  idxO (a0) ((7 : Int)) fun x426 =>
  letO (IntKind.wrap IntKind.u64 (↑(UInt8.toNat x426) : Int)) fun x427 =>
  letO (IntKind.wrap IntKind.u64 (x427 * (2 : Int) ^ min (Int.toNat (56 : Int)) (IntKind.bits IntKind.u64))) fun x428 =>
  some (bits BinOp.or IntKind.u64 (bits BinOp.or IntKind.u64 (bits BinOp.or IntKind.u64 (bits BinOp.or IntKind.u64 (bits BinOp.or IntKind.u64 (bits BinOp.or IntKind.u64 (bits BinOp.or IntKind.u64 x407 x410) x413) x416) x419) x422) x425) x428)
noncomputable def F_unicode_utf8_ValidString (a0 : List UInt8) : Option (Bool) :=
 Option.bind (
  lpO (fun (s402 : List UInt8) =>
  cond (decide ((0 : Int) < (↑(List.length s402) : Int)))
  (idxO (s402) ((0 : Int)) fun x429 =>
  cond (decide ((↑(UInt8.toNat x429) : Int) < (128 : Int)))
  (sideO ((0 : Int) ≤ (1 : Int) ∧ (1 : Int) ≤ (↑(List.length s402) : Int)) (
  cond (decide ((8 : Int) < (↑(List.length (List.drop (Int.toNat (1 : Int)) (List.take (Int.toNat (↑(List.length s402) : Int)) s402))) : Int)))
  (Option.bind (F_unicode_utf8_word_string_ (List.drop (Int.toNat (1 : Int)) (List.take (Int.toNat (↑(List.length s402) : Int)) s402))) fun x432 =>
  cond (decide (bits BinOp.and IntKind.u64 x432 (9259542123273814144 : Int) = (0 : Int)))
  (sideO ((0 : Int) ≤ (8 : Int) ∧ (8 : Int) ≤ (↑(List.length (List.drop (Int.toNat (1 : Int)) (List.take (Int.toNat (↑(List.length s402) : Int)) s402))) : Int)) (
  cond (decide ((16 : Int) < (↑(List.length (List.drop (Int.toNat (8 : Int)) (List.take (Int.toNat (↑(List.length (List.drop (Int.toNat (1 : Int)) (List.take (Int.toNat (↑(List.length s402) : Int)) s402))) : Int)) (List.drop (Int.toNat (1 : Int)) (List.take (Int.toNat (↑(List.length s402) : Int)) s402))))) : Int)))
  (Option.bind (F_unicode_utf8_word_string_ (List.drop (Int.toNat (8 : Int)) (List.take (Int.toNat (↑(List.length (List.drop (Int.toNat (1 : Int)) (List.take (Int.toNat (↑(List.length s402) : Int)) s402))) : Int)) (List.drop (Int.toNat (1 : Int)) (List.take (Int.toNat (↑(List.length s402) : Int)) s402))))) fun x435 =>
  sideO ((0 : Int) ≤ (8 : Int) ∧ (8 : Int) ≤ (↑(List.length (List.drop (Int.toNat (8 : Int)) (List.take (Int.toNat (↑(List.length (List.drop (Int.toNat (1 : Int)) (List.take (Int.toNat (↑(List.length s402) : Int)) s402))) : Int)) (List.drop (Int.toNat (1 : Int)) (List.take (Int.toNat (↑(List.length s402) : Int)) s402))))) : Int)) (
  Option.bind (F_unicode_utf8_word_string_ (List.drop (Int.toNat (8 : Int)) (List.take (Int.toNat (↑(List.length (List.drop (Int.toNat (8 : Int)) (List.take (Int.toNat (↑(List.length (List.drop (Int.toNat (1 : Int)) (List.take (Int.toNat (↑(List.length s402) : Int)) s402))) : Int)) (List.drop (Int.toNat (1 : Int)) (List.take (Int.toNat (↑(List.length s402) : Int)) s402))))) : Int)) (List.drop (Int.toNat (8 : Int)) (List.take (Int.toNat (↑(List.length (List.drop (Int.toNat (1 : Int)) (List.take (Int.toNat (↑(List.length s402) : Int)) s402))) : Int)) (List.drop (Int.toNat (1 : Int)) (List.take (Int.toNat (↑(List.length s402) : Int)) s402))))))) fun x436 =>
  cond (decide (bits BinOp.and IntKind.u64 (bits BinOp.or IntKind.u64 x435 x436) (9259542123273814144 : Int) = (0 : Int)))
  (sideO ((0 : Int) ≤ (16 : Int) ∧ (16 : Int) ≤ (↑(List.length (List.drop (Int.toNat (8 : Int)) (List.take (Int.toNat (↑(List.length (List.drop (Int.toNat (1 : Int)) (List.take (Int.toNat (↑(List.length s402) : Int)) s402))) : Int)) (List.drop (Int.toNat (1 : Int)) (List.take (Int.toNat (↑(List.length s402) : Int)) s402))))) : Int)) (
  Option.bind (
  lpO (fun (s440 : List UInt8) =>
  cond (decide ((32 : Int) < (↑(List.length s440) : Int)))
  (Option.bind (F_unicode_utf8_word_string_ (s440)) fun x448 =>
  sideO ((0 : Int) ≤ (8 : Int) ∧ (8 : Int) ≤ (↑(List.length s440) : Int)) (
  Option.bind (F_unicode_utf8_word_string_ (List.drop (Int.toNat (8 : Int)) (List.take (Int.toNat (↑(List.length s440) : Int)) s440))) fun x449 =>
  sideO ((0 : Int) ≤ (16 : Int) ∧ (16 : Int) ≤ (↑(List.length s440) : Int)) (
  Option.bind (F_unicode_utf8_word_string_ (List.drop (Int.toNat (16 : Int)) (List.take (Int.toNat (↑(List.length s440) : Int)) s440))) fun x450 =>
  sideO ((0 : Int) ≤ (24 : Int) ∧ (24 : Int) ≤ (↑(List.length s440) : Int)) (
  Option.bind (F_unicode_utf8_word_string_ (List.drop (Int.toNat (24 : Int)) (List.take (Int.toNat (↑(List.length s440) : Int)) s440))) fun x451 =>
  cond (decide (bits BinOp.and IntKind.u64 (bits BinOp.or IntKind.u64 (bits BinOp.or IntKind.u64 x448 x449) (bits BinOp.or IntKind.u64 x450 x451)) (9259542123273814144 : Int) = (0 : Int)))
  (sideO ((0 : Int) ≤ (32 : Int) ∧ (32 : Int) ≤ (↑(List.length s440) : Int)) (
  some (Sum.inl (List.drop (Int.toNat (32 : Int)) (List.take (Int.toNat (↑(List.length s440) : Int)) s440)))))
  (some (Sum.inr (Sum.inl ((decide (bits BinOp.and IntKind.u64 (bits BinOp.or IntKind.u64 (bits BinOp.or IntKind.u64 x448 x449) (bits BinOp.or IntKind.u64 x450 x451)) (9259542123273814144 : Int) = (0 : Int)), s440)))))))))
  (some (Sum.inr (Sum.inl ((false, s440)))))) (List.drop (Int.toNat (16 : Int)) (List.take (Int.toNat (↑(List.length (List.drop (Int.toNat (8 : Int)) (List.take (Int.toNat (↑(List.length (List.drop (Int.toNat (1 : Int)) (List.take (Int.toNat (↑(List.length s402) : Int)) s402))) : Int)) (List.drop (Int.toNat (1 : Int)) (List.take (Int.toNat (↑(List.length s402) : Int)) s402))))) : Int)) (List.drop (Int.toNat (8 : Int)) (List.take (Int.toNat (↑(List.length (List.drop (Int.toNat (1 : Int)) (List.take (Int.toNat (↑(List.length s402) : Int)) s402))) : Int)) (List.drop (Int.toNat (1 : Int)) (List.take (Int.toNat (↑(List.length s402) : Int)) s402)))))))
  (Sum.elim (fun (s438 : Bool × List UInt8) =>
  some (Sum.inl (s438.snd))) some)))
  (some (Sum.inl (List.drop (Int.toNat (8 : Int)) (List.take (Int.toNat (↑(List.length (List.drop (Int.toNat (1 : Int)) (List.take (Int.toNat (↑(List.length s402) : Int)) s402))) : Int)) (List.drop (Int.toNat (1 : Int)) (List.take (Int.toNat (↑(List.length s402) : Int)) s402))))))))
  (some (Sum.inl (List.drop (Int.toNat (8 : Int)) (List.take (Int.toNat (↑(List.length (List.drop (Int.toNat (1 : Int)) (List.take (Int.toNat (↑(List.length s402) : Int)) s402))) : Int)) (List.drop (Int.toNat (1 : Int)) (List.take (Int.toNat (↑(List.length s402) : Int)) s402))))))))
  (some (Sum.inl (List.drop (Int.toNat (1 : Int)) (List.take (Int.toNat (↑(List.length s402) : Int)) s402)))))
  (some (Sum.inl (List.drop (Int.toNat (1 : Int)) (List.take (Int.toNat (↑(List.length s402) : Int)) s402))))))
  (none))
  (some (Sum.inr (Sum.inl ((decide ((0 : Int) < (↑(List.length s402) : Int)), s402)))))) (a0))
  (Sum.elim (fun (s400 : Bool × List UInt8) =>
  some (true)) some)
noncomputable def F_lexer_Check (a0 : TLxToken) : Option (Int) :=
 Option.bind (
  cond (decide (a0.Kind = (1 : Int)))
  (some (Sum.inl ((decide (a0.Kind = (1 : Int)), (0 : Int), a0.S))))
  (cond (decide (a0.Kind = (3 : Int)))
  (some (Sum.inl ((decide (a0.Kind = (3 : Int)), (0 : Int), a0.S))))
  (cond (decide (a0.Kind = (2 : Int)))
  (some (Sum.inl ((decide (a0.Kind = (3 : Int)), a0.N, []))))
  (some (Sum.inl ((decide (a0.Kind = (3 : Int)), (0 : Int), [])))))))
  (Sum.elim (fun (s279 : Bool × Int × List UInt8) =>
  cond (decide (a0.Kind < (1 : Int)))
  (some ((2 : Int)))
  (cond (decide ((9 : Int) < a0.Kind))
  (some ((2 : Int)))
  (cond (!(decide (a0.Kind = a0.Kind) && (decide (a0.From = a0.From) && (decide (a0.To = a0.To) && (decide (a0.N = s279.snd.fst) && (decide (a0.S = s279.snd.snd) && true))))))
  (some ((2 : Int)))
  (Option.bind (
  cond (decide (a0.Kind = (1 : Int)))
  (cond (decide ((↑(List.length a0.S) : Int) ≤ (0 : Int)))
  (some (Sum.inr ((6 : Int))))
  (idxO (a0.S) ((0 : Int)) fun x292 =>
  letO (IntKind.wrap IntKind.i64 (↑(UInt8.toNat x292) : Int)) fun x293 =>
  Option.bind (F_runes_Class (x293)) fun x294 =>
  cond (!decide (x294.fst = (8 : Int)))
  (some (Sum.inr ((6 : Int))))
  (idxO (a0.S) ((0 : Int)) fun x298 =>
  letO (IntKind.wrap IntKind.i64 (↑(UInt8.toNat x298) : Int)) fun x299 =>
  Option.bind (F_runes_Class (x299)) fun x300 =>
  Option.bind (
  lpO (fun (s303 : Int × Int) =>
  cond (decide (s303.fst = (8 : Int)))
  (letO (IntKind.wrap IntKind.i64 (s303.snd + (1 : Int))) fun x317 =>
  cond (decide ((↑(List.length a0.S) : Int) ≤ x317))
  (some (Sum.inl (((10 : Int), x317))))
  (idxO (a0.S) (x317) fun x320 =>
  letO (IntKind.wrap IntKind.i64 (↑(UInt8.toNat x320) : Int)) fun x321 =>
  Option.bind (F_runes_Class (x321)) fun x322 =>
  some (Sum.inl ((x322.fst, x317)))))
  (cond (decide (s303.fst = (6 : Int)))
  (letO (IntKind.wrap IntKind.i64 (s303.snd + (1 : Int))) fun x324 =>
  cond (decide ((↑(List.length a0.S) : Int) ≤ x324))
  (some (Sum.inl (((10 : Int), x324))))
  (idxO (a0.S) (x324) fun x327 =>
  letO (IntKind.wrap IntKind.i64 (↑(UInt8.toNat x327) : Int)) fun x328 =>
  Option.bind (F_runes_Class (x328)) fun x329 =>
  some (Sum.inl ((x329.fst, x324)))))
  (some (Sum.inr (Sum.inl ((decide (s303.fst = (6 : Int)), s303))))))) ((x300.fst, (0 : Int))))
  (Sum.elim (fun (s301 : Bool × Int × Int) =>
  sideO ((0 : Int) ≤ (0 : Int) ∧ (0 : Int) ≤ s301.snd.snd ∧ s301.snd.snd ≤ (↑(List.length a0.S) : Int)) (
  cond (!decide (List.drop (Int.toNat (0 : Int)) (List.take (Int.toNat s301.snd.snd) a0.S) = a0.S))
  (some (Sum.inr ((6 : Int))))
  (some (Sum.inl ((16 : Int)))))) some))))
  (cond (decide (a0.Kind = (3 : Int)))
  (Option.bind (F_unicode_utf8_ValidString (a0.S)) fun x332 =>
  cond (!x332)
  (some (Sum.inr ((6 : Int))))
  (some (Sum.inl ((2000 : Int)))))
  (some (Sum.inl ((0 : Int))))))
  (Sum.elim (fun (s287 : Int) =>
  cond (decide (s287 < (↑(List.length a0.S) : Int)))
  (some ((3 : Int)))
  (some ((0 : Int)))) some))))) some)
noncomputable def F_expr_Name (a0 : List UInt8) : Option (Bool) :=
 cond (decide (a0 = (ByteArray.mk #[(118 : UInt8), (97 : UInt8), (114 : UInt8)]).data.toList))
  (some (false))
  (cond (decide (a0 = (ByteArray.mk #[(100 : UInt8), (101 : UInt8), (102 : UInt8)]).data.toList))
  (some (false))
  (cond (decide (a0 = (ByteArray.mk #[(111 : UInt8), (117 : UInt8), (116 : UInt8)]).data.toList))
  (some (false))
  (cond (decide (a0 = (ByteArray.mk #[(105 : UInt8), (102 : UInt8)]).data.toList))
  (some (false))
  (cond (decide (a0 = (ByteArray.mk #[(101 : UInt8), (108 : UInt8), (115 : UInt8), (101 : UInt8)]).data.toList))
  (some (false))
  (cond (decide (a0 = (ByteArray.mk #[(119 : UInt8), (104 : UInt8), (105 : UInt8), (108 : UInt8), (101 : UInt8)]).data.toList))
  (some (false))
  (cond (decide (a0 = (ByteArray.mk #[(101 : UInt8), (110 : UInt8), (100 : UInt8)]).data.toList))
  (some (false))
  (cond (decide (a0 = (ByteArray.mk #[(114 : UInt8), (101 : UInt8), (108 : UInt8), (101 : UInt8), (97 : UInt8), (115 : UInt8), (101 : UInt8)]).data.toList))
  (some (false))
  (cond (decide (a0 = (ByteArray.mk #[(105 : UInt8), (110 : UInt8), (116 : UInt8)]).data.toList))
  (some (false))
  (cond (decide (a0 = (ByteArray.mk #[(99 : UInt8), (104 : UInt8), (97 : UInt8), (114 : UInt8)]).data.toList))
  (some (false))
  (Option.bind (F_prims_Find (a0)) fun x277 =>
  cond (decide (x277.snd = (0 : Int)))
  (some (false))
  (Option.bind (F_lexer_Check (TLxToken.mk (1 : Int) (0 : Int) (0 : Int) (0 : Int) a0)) fun x335 =>
  some (decide (x335 = (0 : Int))))))))))))))
noncomputable def F_shapes_Check_1 (a0 : Int) : Option (Bool) :=
 some (decide (a0 < (0 : Int)))
noncomputable def F_slices_IndexFunc___int_int_ (a0 : List Int) : Option (Int) :=
 Option.bind (
  lpO (fun (s344 : Int) =>
  cond (decide (s344 < (↑(List.length (List.map (SV.int IntKind.i64) a0)) : Int)))
  (idxO (a0) (s344) fun x350 =>
  Option.bind (F_shapes_Check_1 (x350)) fun x351 =>
  cond (x351)
  (some (Sum.inr (Sum.inr (s344))))
  (letO (IntKind.wrap IntKind.i64 (s344 + (1 : Int))) fun x353 =>
  some (Sum.inl (x353))))
  (some (Sum.inr (Sum.inl ((decide (s344 < (↑(List.length (List.map (SV.int IntKind.i64) a0)) : Int)), s344)))))) ((0 : Int)))
  (Sum.elim (fun (s342 : Bool × Int) =>
  some ((-1 : Int))) some)
noncomputable def F_slices_ContainsFunc___int_int_ (a0 : List Int) : Option (Bool) :=
 Option.bind (F_slices_IndexFunc___int_int_ (a0)) fun x354 =>
  some (decide ((0 : Int) ≤ x354))
noncomputable def F_shapes_Check_2 (a0 : Int) : Option (Bool) :=
 some (!decide (a0 = (0 : Int)))
noncomputable def F_slices_IndexFunc___int_int__v1 (a0 : List Int) : Option (Int) :=
 Option.bind (
  lpO (fun (s359 : Int) =>
  cond (decide (s359 < (↑(List.length (List.map (SV.int IntKind.i64) a0)) : Int)))
  (idxO (a0) (s359) fun x365 =>
  Option.bind (F_shapes_Check_2 (x365)) fun x366 =>
  cond (x366)
  (some (Sum.inr (Sum.inr (s359))))
  (letO (IntKind.wrap IntKind.i64 (s359 + (1 : Int))) fun x368 =>
  some (Sum.inl (x368))))
  (some (Sum.inr (Sum.inl ((decide (s359 < (↑(List.length (List.map (SV.int IntKind.i64) a0)) : Int)), s359)))))) ((0 : Int)))
  (Sum.elim (fun (s357 : Bool × Int) =>
  some ((-1 : Int))) some)
noncomputable def F_slices_ContainsFunc___int_int__v1 (a0 : List Int) : Option (Bool) :=
 Option.bind (F_slices_IndexFunc___int_int__v1 (a0)) fun x369 =>
  some (decide ((0 : Int) ≤ x369))
noncomputable def F_shapes_Check_3 (a0 : Int) : Option (Bool) :=
 some (decide ((400 : Int) < a0))
noncomputable def F_slices_IndexFunc___int_int__v2 (a0 : List Int) : Option (Int) :=
 Option.bind (
  lpO (fun (s374 : Int) =>
  cond (decide (s374 < (↑(List.length (List.map (SV.int IntKind.i64) a0)) : Int)))
  (idxO (a0) (s374) fun x380 =>
  Option.bind (F_shapes_Check_3 (x380)) fun x381 =>
  cond (x381)
  (some (Sum.inr (Sum.inr (s374))))
  (letO (IntKind.wrap IntKind.i64 (s374 + (1 : Int))) fun x383 =>
  some (Sum.inl (x383))))
  (some (Sum.inr (Sum.inl ((decide (s374 < (↑(List.length (List.map (SV.int IntKind.i64) a0)) : Int)), s374)))))) ((0 : Int)))
  (Sum.elim (fun (s372 : Bool × Int) =>
  some ((-1 : Int))) some)
noncomputable def F_slices_ContainsFunc___int_int__v2 (a0 : List Int) : Option (Bool) :=
 Option.bind (F_slices_IndexFunc___int_int__v2 (a0)) fun x384 =>
  some (decide ((0 : Int) ≤ x384))
noncomputable def F_shapes_product (a0 : Int) (a1 : Int × Int) : Option (Int) :=
 cond (decide (a0 = (2 : Int)))
  (letO (IntKind.wrap IntKind.i64 ((1 : Int) * a1.snd)) fun x388 =>
  letO (IntKind.wrap IntKind.i64 (x388 * a1.fst)) fun x389 =>
  some (x389))
  (cond (decide (a0 = (1 : Int)))
  (letO (IntKind.wrap IntKind.i64 ((1 : Int) * a1.fst)) fun x391 =>
  some (x391))
  (some ((1 : Int))))
noncomputable def F_shapes_Check (a0 : Int) (a1 : Int × Int) : Option (Int) :=
 cond (decide (a0 < (0 : Int)))
  (some ((7 : Int)))
  (cond (decide ((2 : Int) < a0))
  (some ((7 : Int)))
  (sideO ((0 : Int) ≤ a0 ∧ a0 ≤ (↑(2 : Nat) : Int)) (
  sideO ((0 : Int) ≤ a0 ∧ a0 ≤ (↑(2 : Nat) : Int)) (
  Option.bind (F_slices_ContainsFunc___int_int_ (List.drop (Int.toNat (0 : Int)) (List.take (Int.toNat a0) [a1.fst, a1.snd]))) fun x355 =>
  cond (x355)
  (some ((7 : Int)))
  (Option.bind (F_slices_ContainsFunc___int_int__v1 (List.drop (Int.toNat a0) (List.take (Int.toNat (↑(2 : Nat) : Int)) [a1.fst, a1.snd]))) fun x370 =>
  cond (x370)
  (some ((6 : Int)))
  (Option.bind (F_slices_ContainsFunc___int_int__v2 (List.drop (Int.toNat (0 : Int)) (List.take (Int.toNat a0) [a1.fst, a1.snd]))) fun x385 =>
  cond (x385)
  (some ((15 : Int)))
  (Option.bind (F_shapes_product (a0) (a1)) fun x392 =>
  cond (decide ((400 : Int) < x392))
  (some ((15 : Int)))
  (some ((0 : Int))))))))))
noncomputable def F_shapes_Cells (a0 : Int) (a1 : Int × Int) : Option (Int × Int) :=
 Option.bind (F_shapes_Check (a0) (a1)) fun x394 =>
  cond (!decide (x394 = (0 : Int)))
  (some (((0 : Int), x394)))
  (Option.bind (F_shapes_product (a0) (a1)) fun x396 =>
  some ((x396, (0 : Int))))
noncomputable def F_arrays_right (a0 : Int) (a1 : Int) : Option (Bool) :=
 cond (decide (a0 = (1 : Int)))
  (some (true))
  (cond (decide ((0 : Int) ≤ a1))
  (cond (decide (a1 ≤ (1114111 : Int)))
  (letO (IntKind.wrap IntKind.i32 a1) fun x407 =>
  Option.bind (F_unicode_utf8_ValidRune (x407)) fun x408 =>
  some (x408))
  (some (false)))
  (some (false)))
noncomputable def F_arrays_Check_1 (a0 : Int) (a1 : TArray) : Option (Bool) :=
 Option.bind (F_arrays_right (a1.Kind) (a0)) fun x409 =>
  some (!x409)
noncomputable def F_slices_IndexFunc___int64_int64_ (a0 : List Int) (a1 : TArray) : Option (Int) :=
 Option.bind (
  lpO (fun (s402 : Int) =>
  cond (decide (s402 < (↑(List.length (List.map (SV.int IntKind.i64) a0)) : Int)))
  (idxO (a0) (s402) fun x408 =>
  Option.bind (F_arrays_Check_1 (x408) (a1)) fun x409 =>
  cond (x409)
  (some (Sum.inr (Sum.inr (s402))))
  (letO (IntKind.wrap IntKind.i64 (s402 + (1 : Int))) fun x411 =>
  some (Sum.inl (x411))))
  (some (Sum.inr (Sum.inl ((decide (s402 < (↑(List.length (List.map (SV.int IntKind.i64) a0)) : Int)), s402)))))) ((0 : Int)))
  (Sum.elim (fun (s400 : Bool × Int) =>
  some ((-1 : Int))) some)
noncomputable def F_slices_ContainsFunc___int64_int64_ (a0 : List Int) (a1 : TArray) : Option (Bool) :=
 Option.bind (F_slices_IndexFunc___int64_int64_ (a0) (a1)) fun x412 =>
  some (decide ((0 : Int) ≤ x412))
noncomputable def F_arrays_Check (a0 : TArray) : Option (Int) :=
 cond (!decide (a0.Kind = (1 : Int)))
  (cond (!decide (a0.Kind = (2 : Int)))
  (some ((2 : Int)))
  (Option.bind (F_shapes_Cells (a0.Rank) (a0.Lens)) fun x397 =>
  cond (!decide (x397.snd = (0 : Int)))
  (some (x397.snd))
  (cond (!decide ((↑(List.length (List.map (SV.int IntKind.i64) a0.Cells)) : Int) = x397.fst))
  (some ((6 : Int)))
  (Option.bind (F_slices_ContainsFunc___int64_int64_ (a0.Cells) (a0)) fun x413 =>
  cond (x413)
  (some ((7 : Int)))
  (some ((0 : Int)))))))
  (Option.bind (F_shapes_Cells (a0.Rank) (a0.Lens)) fun x415 =>
  cond (!decide (x415.snd = (0 : Int)))
  (some (x415.snd))
  (cond (!decide ((↑(List.length (List.map (SV.int IntKind.i64) a0.Cells)) : Int) = x415.fst))
  (some ((6 : Int)))
  (Option.bind (F_slices_ContainsFunc___int64_int64_ (a0.Cells) (a0)) fun x418 =>
  cond (x418)
  (some ((7 : Int)))
  (some ((0 : Int))))))
noncomputable def F_slices_Equal___int64_int64_ (a0 : List Int) (a1 : List Int) : Option (Bool) :=
 cond (!decide ((↑(List.length (List.map (SV.int IntKind.i64) a0)) : Int) = (↑(List.length (List.map (SV.int IntKind.i64) a1)) : Int)))
  (some (false))
  (Option.bind (
  lpO (fun (s429 : Int) =>
  cond (decide (s429 < (↑(List.length (List.map (SV.int IntKind.i64) a0)) : Int)))
  (idxO (a0) (s429) fun x435 =>
  idxO (a1) (s429) fun x436 =>
  cond (!decide (x435 = x436))
  (some (Sum.inr (Sum.inr (false))))
  (letO (IntKind.wrap IntKind.i64 (s429 + (1 : Int))) fun x438 =>
  some (Sum.inl (x438))))
  (some (Sum.inr (Sum.inl ((decide (s429 < (↑(List.length (List.map (SV.int IntKind.i64) a0)) : Int)), s429)))))) ((0 : Int)))
  (Sum.elim (fun (s427 : Bool × Int) =>
  some (true)) some))
noncomputable def F_view_sameArray (a0 : TArray) (a1 : TArray) : Option (Bool) :=
 cond (decide (a0.Kind = a1.Kind))
  (cond (decide (a0.Rank = a1.Rank))
  (cond (decide (a0.Lens.fst = a1.Lens.fst) && (decide (a0.Lens.snd = a1.Lens.snd) && true))
  (Option.bind (F_slices_Equal___int64_int64_ (a0.Cells) (a1.Cells)) fun x439 =>
  some (x439))
  (some (false)))
  (some (false)))
  (some (false))
noncomputable def F_view_bad (a0 : TLattice) (a1 : TEvEvent) (a2 : Int) (a3 : Int) (a4 : Bool) : Option (Int) :=
 Option.bind (F_view_label (a0) (a1.Label)) fun x213 =>
  cond (!x213)
  (some ((7 : Int)))
  (cond (decide (a1.Site < (0 : Int)))
  (some ((7 : Int)))
  (cond (decide ((1000000000 : Int) < a1.Site))
  (some ((7 : Int)))
  (cond (decide (a1.Steps < a2))
  (some ((7 : Int)))
  (cond (decide (a3 < a1.Steps))
  (some ((7 : Int)))
  (cond (decide (a1.Kind < (1 : Int)))
  (some ((6 : Int)))
  (cond (decide ((4 : Int) < a1.Kind))
  (some ((6 : Int)))
  (cond (decide (a1.Kind = (1 : Int)) == a4)
  (some ((6 : Int)))
  (cond (!(!decide (a1.E = (0 : Int))) == decide (a1.Kind = (2 : Int)))
  (some ((6 : Int)))
  (cond (decide (a1.Kind = (1 : Int)))
  (Option.bind (F_expr_Name (a1.Channel)) fun x336 =>
  cond (!x336)
  (some ((6 : Int)))
  (Option.bind (F_arrays_Check (a1.Value)) fun x420 =>
  cond (!decide (x420 = (0 : Int)))
  (some ((6 : Int)))
  (some ((0 : Int)))))
  (cond (!decide (a1.Channel = (ByteArray.mk #[]).data.toList))
  (some ((6 : Int)))
  (Option.bind (F_view_sameArray (a1.Value) (TArray.mk (0 : Int) (0 : Int) ((0 : Int), (0 : Int)) [])) fun x440 =>
  cond (!x440)
  (some ((6 : Int)))
  (some ((0 : Int))))))))))))))
noncomputable def F_view_Check (a0 : TLattice) (a1 : TEvTrace) : Option (Int × Int) :=
 Option.bind (F_lattice_Check (a0)) fun x204 =>
  cond (!decide (x204.snd = (0 : Int)))
  (some (((-1 : Int), x204.snd)))
  (cond (decide ((↑(List.length (List.map enc_TEvEvent a1.Events)) : Int) = (0 : Int)))
  (some (((-1 : Int), (6 : Int))))
  (letO (IntKind.wrap IntKind.i64 ((↑(List.length (List.map enc_TEvEvent a1.Events)) : Int) - (1 : Int))) fun x207 =>
  Option.bind (
  lpO (fun (s210 : Int × Int) =>
  cond (decide (s210.fst < (↑(List.length (List.map enc_TEvEvent a1.Events)) : Int)))
  (idxO (a1.Events) (s210.fst) fun x216 =>
  Option.bind (F_view_bad (a0) (x216) (s210.snd) (a1.Steps) (decide (s210.fst = x207))) fun x217 =>
  cond (!decide (x217 = (0 : Int)))
  (some (Sum.inr (Sum.inr ((s210.fst, x217)))))
  (letO (IntKind.wrap IntKind.i64 (s210.fst + (1 : Int))) fun x219 =>
  some (Sum.inl ((x219, x216.Steps)))))
  (some (Sum.inr (Sum.inl ((decide (s210.fst < (↑(List.length (List.map enc_TEvEvent a1.Events)) : Int)), s210)))))) (((0 : Int), (0 : Int))))
  (Sum.elim (fun (s208 : Bool × Int × Int) =>
  Option.bind (
  lpO (fun (s222 : Int) =>
  cond (decide (s222 < (↑(List.length (List.map enc_TReEntry a1.Log)) : Int)))
  (idxO (a1.Log) (s222) fun x238 =>
  Option.bind (F_view_label (a0) (x238.From)) fun x239 =>
  cond (!x239)
  (some (Sum.inr (Sum.inr (((↑(List.length (List.map enc_TEvEvent a1.Events)) : Int), (7 : Int))))))
  (Option.bind (F_view_label (a0) (x238.Goal)) fun x241 =>
  cond (!x241)
  (some (Sum.inr (Sum.inr (((↑(List.length (List.map enc_TEvEvent a1.Events)) : Int), (7 : Int))))))
  (cond (decide (x238.Fold < (1 : Int)))
  (some (Sum.inr (Sum.inr (((↑(List.length (List.map enc_TEvEvent a1.Events)) : Int), (6 : Int))))))
  (cond (decide ((4 : Int) < x238.Fold))
  (some (Sum.inr (Sum.inr (((↑(List.length (List.map enc_TEvEvent a1.Events)) : Int), (6 : Int))))))
  (cond (decide (x238.Cells < (0 : Int)))
  (some (Sum.inr (Sum.inr (((↑(List.length (List.map enc_TEvEvent a1.Events)) : Int), (6 : Int))))))
  (cond (decide ((400 : Int) < x238.Cells))
  (some (Sum.inr (Sum.inr (((↑(List.length (List.map enc_TEvEvent a1.Events)) : Int), (6 : Int))))))
  (cond (decide (x238.Site < (0 : Int)))
  (some (Sum.inr (Sum.inr (((↑(List.length (List.map enc_TEvEvent a1.Events)) : Int), (6 : Int))))))
  (cond (decide ((1000000000 : Int) < x238.Site))
  (some (Sum.inr (Sum.inr (((↑(List.length (List.map enc_TEvEvent a1.Events)) : Int), (6 : Int))))))
  (cond (!decide (x238.Value.fst = (1 : Int)))
  (cond (!(decide (x238.Value.fst = (0 : Int)) && (decide (x238.Value.snd = (0 : Int)) && true)))
  (some (Sum.inr (Sum.inr (((↑(List.length (List.map enc_TEvEvent a1.Events)) : Int), (6 : Int))))))
  (letO (IntKind.wrap IntKind.i64 (s222 + (1 : Int))) fun x251 =>
  some (Sum.inl (x251))))
  (letO (IntKind.wrap IntKind.i64 (s222 + (1 : Int))) fun x252 =>
  some (Sum.inl (x252))))))))))))
  (some (Sum.inr (Sum.inl ((decide (s222 < (↑(List.length (List.map enc_TReEntry a1.Log)) : Int)), s222)))))) ((0 : Int)))
  (Sum.elim (fun (s220 : Bool × Int) =>
  some (((0 : Int), (0 : Int)))) some)) some)))
noncomputable def F_view_asked (a0 : TLattice) (a1 : Int) (a2 : List TEvTrace) : Option (Int) :=
 Option.bind (
  lpO (fun (s39 : Int) =>
  cond (decide (s39 < (↑(List.length (List.map enc_TEvTrace a2)) : Int)))
  (idxO (a2) (s39) fun x45 =>
  Option.bind (F_view_Check (a0) (x45)) fun x46 =>
  cond (!decide (x46.snd = (0 : Int)))
  (some (Sum.inr (Sum.inr (x46.snd))))
  (letO (IntKind.wrap IntKind.i64 (s39 + (1 : Int))) fun x48 =>
  some (Sum.inl (x48))))
  (some (Sum.inr (Sum.inl ((decide (s39 < (↑(List.length (List.map enc_TEvTrace a2)) : Int)), s39)))))) ((0 : Int)))
  (Sum.elim (fun (s37 : Bool × Int) =>
  Option.bind (F_view_label (a0) (a1)) fun x49 =>
  cond (!x49)
  (some ((7 : Int)))
  (some ((0 : Int)))) some)
noncomputable def F_view_seen_api_EvEvent_ (a0 : TLattice) (a1 : Int) (a2 : List TEvEvent) : Option (List TEvEvent × TLattice × Unit × Int) :=
 some ((a2, a0, (), a1))
noncomputable def F_view_events_1 (a0 : TEvEvent) : Option (Int) :=
 some (a0.Label)
noncomputable def F_lattice_asked (a0 : TLattice) (a1 : List Int) : Option (Int) :=
 Option.bind (F_lattice_Check (a0)) fun x60 =>
  cond (!decide (x60.snd = (0 : Int)))
  (some (x60.snd))
  (Option.bind (
  lpO (fun (s64 : Int) =>
  cond (decide (s64 < (↑(List.length (List.map (SV.int IntKind.i64) a1)) : Int)))
  (idxO (a1) (s64) fun x70 =>
  cond (decide (x70 < (0 : Int)))
  (some (Sum.inr (Sum.inr ((7 : Int)))))
  (cond (decide ((↑(List.length (List.map SV.str a0.Names)) : Int) ≤ x70))
  (some (Sum.inr (Sum.inr ((7 : Int)))))
  (letO (IntKind.wrap IntKind.i64 (s64 + (1 : Int))) fun x73 =>
  some (Sum.inl (x73)))))
  (some (Sum.inr (Sum.inl ((decide (s64 < (↑(List.length (List.map (SV.int IntKind.i64) a1)) : Int)), s64)))))) ((0 : Int)))
  (Sum.elim (fun (s62 : Bool × Int) =>
  some ((0 : Int))) some))
noncomputable def F_lattice_Leq (a0 : TLattice) (a1 : Int) (a2 : Int) : Option (Bool × Int) :=
 Option.bind (F_lattice_asked (a0) ([a1, a2])) fun x74 =>
  cond (!decide (x74 = (0 : Int)))
  (some ((false, x74)))
  (idxO (a0.Up) (a1) fun x76 =>
  sideO ((0 : Int) ≤ a2) (
  some ((decide (bits BinOp.and IntKind.u8 (Int.fdiv x76 ((2 : Int) ^ min (Int.toNat a2) (IntKind.bits IntKind.u8))) (1 : Int) = (1 : Int)), (0 : Int)))))
noncomputable def F_slices_AppendSeq___api_EvEvent_api_EvEvent_ (a1 : List TEvEvent × TLattice × Unit × Int) : Option (List TEvEvent) :=
 Option.bind (
  lpO (fun (s57 : Int × List TEvEvent) =>
  cond (decide (s57.fst < (↑(List.length (List.map enc_TEvEvent a1.fst)) : Int)))
  (idxO (a1.fst) (s57.fst) fun x73 =>
  Option.bind (F_view_events_1 (x73)) fun x74 =>
  Option.bind (F_lattice_Leq (a1.snd.fst) (x74) (a1.snd.snd.snd)) fun x75 =>
  cond (decide (x75.snd = (0 : Int)))
  (cond (x75.fst)
  (sideO ((List.length (List.map enc_TEvEvent s57.snd) + (1 : Nat)) * (112 : Nat) ≤ (70368744177664 : Nat)) (
  letO (IntKind.wrap IntKind.i64 (s57.fst + (1 : Int))) fun x79 =>
  some (Sum.inl ((x79, s57.snd ++ [x73])))))
  (letO (IntKind.wrap IntKind.i64 (s57.fst + (1 : Int))) fun x80 =>
  some (Sum.inl ((x80, s57.snd)))))
  (letO (IntKind.wrap IntKind.i64 (s57.fst + (1 : Int))) fun x81 =>
  some (Sum.inl ((x81, s57.snd)))))
  (some (Sum.inr (Sum.inl ((decide (s57.fst < (↑(List.length (List.map enc_TEvEvent a1.fst)) : Int)), s57)))))) (((0 : Int), [])))
  (Sum.elim (fun (s55 : Bool × Int × List TEvEvent) =>
  some (s55.snd.snd)) some)
noncomputable def F_slices_Collect_api_EvEvent_ (a0 : List TEvEvent × TLattice × Unit × Int) : Option (List TEvEvent) :=
 Option.bind (F_slices_AppendSeq___api_EvEvent_api_EvEvent_ ((a0.fst, a0.snd.fst, (), a0.snd.snd.snd))) fun x82 =>
  some (x82)
noncomputable def F_view_events (a0 : TLattice) (a1 : TEvTrace) (a2 : Int) : Option (List TEvEvent) :=
 Option.bind (F_view_seen_api_EvEvent_ (a0) (a2) (a1.Events)) fun x53 =>
  Option.bind (F_slices_Collect_api_EvEvent_ ((x53.fst, x53.snd.fst, (), x53.snd.snd.snd))) fun x83 =>
  some (x83)
noncomputable def F_view_same (a0 : TEvEvent) (a1 : TEvEvent) : Option (Bool) :=
 cond (decide (a0.Kind = a1.Kind))
  (cond (decide (a0.Site = a1.Site))
  (cond (decide (a0.Steps = a1.Steps))
  (cond (decide (a0.Label = a1.Label))
  (cond (decide (a0.Channel = a1.Channel))
  (cond (decide (a0.E = a1.E))
  (Option.bind (F_view_sameArray (a0.Value) (a1.Value)) fun x98 =>
  some (x98))
  (some (false)))
  (some (false)))
  (some (false)))
  (some (false)))
  (some (false)))
  (some (false))
noncomputable def F_slices_EqualFunc___api_EvEvent___api_EvEvent_api_EvEvent_api_EvEvent_ (a0 : List TEvEvent) (a1 : List TEvEvent) : Option (Bool) :=
 cond (!decide ((↑(List.length (List.map enc_TEvEvent a0)) : Int) = (↑(List.length (List.map enc_TEvEvent a1)) : Int)))
  (some (false))
  (Option.bind (
  lpO (fun (s89 : Int) =>
  cond (decide (s89 < (↑(List.length (List.map enc_TEvEvent a0)) : Int)))
  (idxO (a0) (s89) fun x96 =>
  idxO (a1) (s89) fun x97 =>
  Option.bind (F_view_same (x96) (x97)) fun x98 =>
  cond (!x98)
  (some (Sum.inr (Sum.inr (false))))
  (letO (IntKind.wrap IntKind.i64 (s89 + (1 : Int))) fun x100 =>
  some (Sum.inl (x100))))
  (some (Sum.inr (Sum.inl ((decide (s89 < (↑(List.length (List.map enc_TEvEvent a0)) : Int)), s89)))))) ((0 : Int)))
  (Sum.elim (fun (s87 : Bool × Int) =>
  some (true)) some))
noncomputable def F_view_Alike (a0 : TLattice) (a1 : TEvTrace) (a2 : TEvTrace) (a3 : Int) : Option (Bool × Int) :=
 Option.bind (F_view_asked (a0) (a3) ([a1, a2])) fun x51 =>
  cond (!decide (x51 = (0 : Int)))
  (some ((false, x51)))
  (Option.bind (F_view_events (a0) (a1) (a3)) fun x84 =>
  Option.bind (F_view_events (a0) (a2) (a3)) fun x85 =>
  Option.bind (F_slices_EqualFunc___api_EvEvent___api_EvEvent_api_EvEvent_api_EvEvent_ (x84) (x85)) fun x101 =>
  some ((x101, (0 : Int))))
noncomputable def F_view_seen_api_ReEntry_ (a0 : TLattice) (a1 : Int) (a2 : List TReEntry) : Option (List TReEntry × TLattice × Unit × Int) :=
 some ((a2, a0, (), a1))
noncomputable def F_view_entries_1 (a0 : TReEntry) : Option (Int) :=
 some (a0.Goal)
noncomputable def F_slices_AppendSeq___api_ReEntry_api_ReEntry_ (a1 : List TReEntry × TLattice × Unit × Int) : Option (List TReEntry) :=
 Option.bind (
  lpO (fun (s123 : Int × List TReEntry) =>
  cond (decide (s123.fst < (↑(List.length (List.map enc_TReEntry a1.fst)) : Int)))
  (idxO (a1.fst) (s123.fst) fun x139 =>
  Option.bind (F_view_entries_1 (x139)) fun x140 =>
  Option.bind (F_lattice_Leq (a1.snd.fst) (x140) (a1.snd.snd.snd)) fun x141 =>
  cond (decide (x141.snd = (0 : Int)))
  (cond (x141.fst)
  (sideO ((List.length (List.map enc_TReEntry s123.snd) + (1 : Nat)) * (56 : Nat) ≤ (70368744177664 : Nat)) (
  letO (IntKind.wrap IntKind.i64 (s123.fst + (1 : Int))) fun x145 =>
  some (Sum.inl ((x145, s123.snd ++ [x139])))))
  (letO (IntKind.wrap IntKind.i64 (s123.fst + (1 : Int))) fun x146 =>
  some (Sum.inl ((x146, s123.snd)))))
  (letO (IntKind.wrap IntKind.i64 (s123.fst + (1 : Int))) fun x147 =>
  some (Sum.inl ((x147, s123.snd)))))
  (some (Sum.inr (Sum.inl ((decide (s123.fst < (↑(List.length (List.map enc_TReEntry a1.fst)) : Int)), s123)))))) (((0 : Int), [])))
  (Sum.elim (fun (s121 : Bool × Int × List TReEntry) =>
  some (s121.snd.snd)) some)
noncomputable def F_slices_Collect_api_ReEntry_ (a0 : List TReEntry × TLattice × Unit × Int) : Option (List TReEntry) :=
 Option.bind (F_slices_AppendSeq___api_ReEntry_api_ReEntry_ ((a0.fst, a0.snd.fst, (), a0.snd.snd.snd))) fun x148 =>
  some (x148)
noncomputable def F_view_entries (a0 : TLattice) (a1 : TEvTrace) (a2 : Int) : Option (List TReEntry) :=
 Option.bind (F_view_seen_api_ReEntry_ (a0) (a2) (a1.Log)) fun x119 =>
  Option.bind (F_slices_Collect_api_ReEntry_ ((x119.fst, x119.snd.fst, (), x119.snd.snd.snd))) fun x149 =>
  some (x149)
noncomputable def F_view_Agree_1 (a0 : TReEntry) (a1 : TReEntry) : Option (Bool) :=
 some (decide (a0.Value.fst = a1.Value.fst) && (decide (a0.Value.snd = a1.Value.snd) && true))
noncomputable def F_view_differ_api_ReEntry_ (a0 : List TReEntry) (a1 : List TReEntry) : Option (Int) :=
 Option.bind (
  lpO (fun (s154 : Int) =>
  cond (decide (s154 < min (↑(List.length (List.map enc_TReEntry a0)) : Int) (↑(List.length (List.map enc_TReEntry a1)) : Int)))
  (idxO (a0) (s154) fun x161 =>
  idxO (a1) (s154) fun x162 =>
  Option.bind (F_view_Agree_1 (x161) (x162)) fun x163 =>
  cond (!x163)
  (some (Sum.inr (Sum.inr (s154))))
  (letO (IntKind.wrap IntKind.i64 (s154 + (1 : Int))) fun x165 =>
  some (Sum.inl (x165))))
  (some (Sum.inr (Sum.inl ((decide (s154 < min (↑(List.length (List.map enc_TReEntry a0)) : Int) (↑(List.length (List.map enc_TReEntry a1)) : Int)), s154)))))) ((0 : Int)))
  (Sum.elim (fun (s152 : Bool × Int) =>
  some (min (↑(List.length (List.map enc_TReEntry a0)) : Int) (↑(List.length (List.map enc_TReEntry a1)) : Int))) some)
noncomputable def F_view_Agree (a0 : TLattice) (a1 : TEvTrace) (a2 : TEvTrace) (a3 : Int) : Option (Bool × Int) :=
 Option.bind (F_view_asked (a0) (a3) ([a1, a2])) fun x117 =>
  cond (!decide (x117 = (0 : Int)))
  (some ((false, x117)))
  (Option.bind (F_view_entries (a0) (a1) (a3)) fun x150 =>
  Option.bind (F_view_entries (a0) (a2) (a3)) fun x151 =>
  Option.bind (F_view_differ_api_ReEntry_ (x150) (x151)) fun x166 =>
  some ((decide (x166 = min (↑(List.length (List.map enc_TReEntry x150)) : Int) (↑(List.length (List.map enc_TReEntry x151)) : Int)), (0 : Int))))
noncomputable def F_view_differ_api_EvEvent_ (a0 : List TEvEvent) (a1 : List TEvEvent) : Option (Int) :=
 Option.bind (
  lpO (fun (s176 : Int) =>
  cond (decide (s176 < min (↑(List.length (List.map enc_TEvEvent a0)) : Int) (↑(List.length (List.map enc_TEvEvent a1)) : Int)))
  (idxO (a0) (s176) fun x183 =>
  idxO (a1) (s176) fun x184 =>
  Option.bind (F_view_same (x183) (x184)) fun x185 =>
  cond (!x185)
  (some (Sum.inr (Sum.inr (s176))))
  (letO (IntKind.wrap IntKind.i64 (s176 + (1 : Int))) fun x187 =>
  some (Sum.inl (x187))))
  (some (Sum.inr (Sum.inl ((decide (s176 < min (↑(List.length (List.map enc_TEvEvent a0)) : Int) (↑(List.length (List.map enc_TEvEvent a1)) : Int)), s176)))))) ((0 : Int)))
  (Sum.elim (fun (s174 : Bool × Int) =>
  some (min (↑(List.length (List.map enc_TEvEvent a0)) : Int) (↑(List.length (List.map enc_TEvEvent a1)) : Int))) some)
noncomputable def F_view_Differ (a0 : TLattice) (a1 : TEvTrace) (a2 : TEvTrace) (a3 : Int) : Option (Int × Int) :=
 Option.bind (F_view_asked (a0) (a3) ([a1, a2])) fun x170 =>
  cond (!decide (x170 = (0 : Int)))
  (some (((0 : Int), x170)))
  (Option.bind (F_view_events (a0) (a1) (a3)) fun x172 =>
  Option.bind (F_view_events (a0) (a2) (a3)) fun x173 =>
  Option.bind (F_view_differ_api_EvEvent_ (x172) (x173)) fun x188 =>
  some ((x188, (0 : Int))))
noncomputable def F_view_Events (a0 : TLattice) (a1 : TEvTrace) (a2 : Int) : Option (List TEvEvent × Int) :=
 Option.bind (F_view_asked (a0) (a2) ([a1])) fun x190 =>
  cond (!decide (x190 = (0 : Int)))
  (some (([], x190)))
  (Option.bind (F_view_events (a0) (a1) (a2)) fun x192 =>
  some ((x192, (0 : Int))))
noncomputable def F_invigilatorlaw31_ViewEqual (a0 : TLattice) (a1 : TEvTrace × TEvTrace × TEvTrace) (a2 : Int) : Option (Bool) :=
 Option.bind (F_invigilatorlaw20_Large (a0)) fun x13 =>
  cond (x13)
  (some (true))
  (Option.bind (F_invigilatorlaw31_far (a1.fst)) fun x31 =>
  cond (x31)
  (some (true))
  (Option.bind (F_invigilatorlaw31_far (a1.snd.fst)) fun x33 =>
  cond (x33)
  (some (true))
  (Option.bind (F_invigilatorlaw31_far (a1.snd.snd)) fun x35 =>
  cond (x35)
  (some (true))
  (Option.bind (F_view_Alike (a0) (a1.fst) (a1.snd.fst) (a2)) fun x102 =>
  Option.bind (F_view_Alike (a0) (a1.snd.fst) (a1.snd.snd) (a2)) fun x103 =>
  cond (!decide (x102.snd = (0 : Int)))
  (some (true))
  (cond (!decide (x103.snd = (0 : Int)))
  (some (true))
  (Option.bind (F_view_Alike (a0) (a1.fst) (a1.snd.snd) (a2)) fun x106 =>
  Option.bind (F_view_Alike (a0) (a1.snd.fst) (a1.fst) (a2)) fun x107 =>
  Option.bind (F_view_Alike (a0) (a1.fst) (a1.fst) (a2)) fun x108 =>
  cond (!decide (x106.snd = (0 : Int)))
  (some (false))
  (cond (!decide (x107.snd = (0 : Int)))
  (some (false))
  (cond (!decide (x108.snd = (0 : Int)))
  (some (false))
  (cond (!x108.fst)
  (some (false))
  (cond (!x102.fst == x107.fst)
  (some (false))
  (cond (x102.fst)
  (cond (x103.fst)
  (cond (!x106.fst)
  (some (false))
  (Option.bind (F_view_Agree (a0) (a1.fst) (a1.snd.fst) (a2)) fun x167 =>
  Option.bind (F_view_Agree (a0) (a1.snd.fst) (a1.fst) (a2)) fun x168 =>
  Option.bind (F_view_Agree (a0) (a1.fst) (a1.fst) (a2)) fun x169 =>
  Option.bind (F_view_Differ (a0) (a1.fst) (a1.snd.fst) (a2)) fun x189 =>
  Option.bind (F_view_Events (a0) (a1.fst) (a2)) fun x193 =>
  Option.bind (F_view_Events (a0) (a1.snd.fst) (a2)) fun x194 =>
  cond (decide (x167.snd = (0 : Int)))
  (cond (decide (x168.snd = (0 : Int)))
  (cond (decide (x169.snd = (0 : Int)))
  (cond (decide (x189.snd = (0 : Int)))
  (cond (x167.fst == x168.fst)
  (cond (x169.fst)
  (cond (decide (x189.fst = (↑(List.length (List.map enc_TEvEvent x193.fst)) : Int)))
  (cond (x102.fst == decide (x189.fst = (↑(List.length (List.map enc_TEvEvent x194.fst)) : Int)))
  (some (true))
  (some (false)))
  (cond (!x102.fst)
  (some (true))
  (some (false))))
  (some (false)))
  (some (false)))
  (some (false)))
  (some (false)))
  (some (false)))
  (some (false))))
  (Option.bind (F_view_Agree (a0) (a1.fst) (a1.snd.fst) (a2)) fun x204 =>
  Option.bind (F_view_Agree (a0) (a1.snd.fst) (a1.fst) (a2)) fun x205 =>
  Option.bind (F_view_Agree (a0) (a1.fst) (a1.fst) (a2)) fun x206 =>
  Option.bind (F_view_Differ (a0) (a1.fst) (a1.snd.fst) (a2)) fun x207 =>
  Option.bind (F_view_Events (a0) (a1.fst) (a2)) fun x208 =>
  Option.bind (F_view_Events (a0) (a1.snd.fst) (a2)) fun x209 =>
  cond (decide (x204.snd = (0 : Int)))
  (cond (decide (x205.snd = (0 : Int)))
  (cond (decide (x206.snd = (0 : Int)))
  (cond (decide (x207.snd = (0 : Int)))
  (cond (x204.fst == x205.fst)
  (cond (x206.fst)
  (cond (decide (x207.fst = (↑(List.length (List.map enc_TEvEvent x208.fst)) : Int)))
  (cond (x102.fst == decide (x207.fst = (↑(List.length (List.map enc_TEvEvent x209.fst)) : Int)))
  (some (true))
  (some (false)))
  (cond (!x102.fst)
  (some (true))
  (some (false))))
  (some (false)))
  (some (false)))
  (some (false)))
  (some (false)))
  (some (false)))
  (some (false))))
  (Option.bind (F_view_Agree (a0) (a1.fst) (a1.snd.fst) (a2)) fun x219 =>
  Option.bind (F_view_Agree (a0) (a1.snd.fst) (a1.fst) (a2)) fun x220 =>
  Option.bind (F_view_Agree (a0) (a1.fst) (a1.fst) (a2)) fun x221 =>
  Option.bind (F_view_Differ (a0) (a1.fst) (a1.snd.fst) (a2)) fun x222 =>
  Option.bind (F_view_Events (a0) (a1.fst) (a2)) fun x223 =>
  Option.bind (F_view_Events (a0) (a1.snd.fst) (a2)) fun x224 =>
  cond (decide (x219.snd = (0 : Int)))
  (cond (decide (x220.snd = (0 : Int)))
  (cond (decide (x221.snd = (0 : Int)))
  (cond (decide (x222.snd = (0 : Int)))
  (cond (x219.fst == x220.fst)
  (cond (x221.fst)
  (cond (decide (x222.fst = (↑(List.length (List.map enc_TEvEvent x223.fst)) : Int)))
  (cond (x102.fst == decide (x222.fst = (↑(List.length (List.map enc_TEvEvent x224.fst)) : Int)))
  (some (true))
  (some (false)))
  (cond (!x102.fst)
  (some (true))
  (some (false))))
  (some (false)))
  (some (false)))
  (some (false)))
  (some (false)))
  (some (false)))
  (some (false))))))))))))))
end Go.Sx.O
namespace Go.Sx.O
open Go
theorem Large_spec (l : TLattice) : Tot (F_invigilatorlaw20_Large l) fun r => r = false → l.Names.length ≤ 20 ∧ l.Up.length ≤ 20 ∧ ∀ s ∈ l.Names, s.length ≤ 50 := by
  unfold F_invigilatorlaw20_Large
  simp only [tot_bind, List.length_map]
  refine Tot.count l.Names.length (fun k s => s = (k : Int) ∧ k ≤ 30 ∧ ∀ x ∈ l.Names.take k, x.length ≤ 50) ?_ ⟨rfl, by omega, by simp⟩
  rintro k _ hk ⟨rfl, h30, hall⟩
  simp only [tot_some, tot_cond, tot_let, tot_idx, Sum.elim_inl, Sum.elim_inr, decide_eq_true_eq, decide_eq_false_iff_not, Int.toNat_natCast]
  refine ⟨fun h1 => ⟨fun h2 => ⟨by omega, _, List.getElem?_eq_getElem (by omega), fun h3 => by simp, fun h3 => ?_⟩, fun h2 => ?_⟩, fun h1 => ?_⟩
  · rw [w64 (by omega) (by omega)]
    refine ⟨by omega, by omega, by omega, fun x hx => ?_⟩
    rw [List.take_add_one, List.getElem?_eq_getElem (by omega)] at hx
    rcases List.mem_append.1 hx with hx | hx
    · exact hall x hx
    · simp at hx; subst hx; omega
  · refine ⟨fun h => by simp, fun h hh => ?_⟩
    simp at hh
    omega
  · refine ⟨fun h => by simp, fun h hh => ?_⟩
    simp at hh
    refine ⟨by omega, by omega, ?_⟩
    rw [List.take_of_length_le (by omega)] at hall
    exact hall
theorem far_spec (t : TEvTrace) : Tot (F_invigilatorlaw31_far t) fun r => r = false → t.Events.length ≤ 60 ∧ t.Log.length ≤ 60 ∧ ∀ v ∈ t.Events, v.Channel.length ≤ 100 ∧ v.Value.Cells.length ≤ 450 := by
  unfold F_invigilatorlaw31_far
  simp only [tot_bind, List.length_map]
  refine Tot.count t.Events.length (fun k s => s = (k : Int) ∧ k ≤ 70 ∧ ∀ v ∈ t.Events.take k, v.Channel.length ≤ 100 ∧ v.Value.Cells.length ≤ 450) ?_ ⟨rfl, by omega, by simp⟩
  rintro k _ hk ⟨rfl, h30, hall⟩
  simp only [tot_some, tot_cond, tot_let, tot_idx, Sum.elim_inl, Sum.elim_inr, decide_eq_true_eq, decide_eq_false_iff_not, Int.toNat_natCast]
  refine ⟨fun h1 => ⟨fun h2 => ⟨by omega, _, List.getElem?_eq_getElem (by omega), fun h3 => by simp, fun h3 => ⟨by omega, _, List.getElem?_eq_getElem (by omega), fun h4 => by simp, fun h4 => ?_⟩⟩, fun h2 => ?_⟩, fun h1 => ?_⟩
  · rw [w64 (by omega) (by omega)]
    refine ⟨by omega, by omega, by omega, fun x hx => ?_⟩
    rw [List.take_add_one, List.getElem?_eq_getElem (by omega)] at hx
    rcases List.mem_append.1 hx with hx | hx
    · exact hall x hx
    · simp at hx; subst hx; omega
  · refine ⟨fun h => by simp, fun h hh => ?_⟩
    simp at hh
    omega
  · refine ⟨fun h => by simp, fun h hh => ?_⟩
    simp at hh
    refine ⟨by omega, by omega, ?_⟩
    rw [List.take_of_length_le (by omega)] at hall
    exact hall
theorem find_loop {α : Type} {l : List α} (p : α → Bool) {step : Int → Option (Int ⊕ ((Bool × Int) ⊕ Int))} {e : Int → Bool}
    (h1 : ∀ (k : Nat) x, l[k]? = some x → step (k : Int) = if p x then some (.inr (.inr (k : Int))) else some (.inl ((k : Int) + 1)))
    (h2 : step (l.length : Int) = some (.inr (.inl (e l.length, (l.length : Int))))) :
    lpO step 0 = (match l.findIdx? p with | some i => some (.inr (i : Int)) | none => some (.inl (e l.length, (l.length : Int)))) := by
  have key : ∀ j k, j + k = l.length → lpO step (k : Int) = (match (l.drop k).findIdx? p with | some i => some (.inr ((k + i : Nat) : Int)) | none => some (.inl (e l.length, (l.length : Int)))) := by
    intro j
    induction j with
    | zero =>
      intro k hk
      rw [lpO_eq]
      have : k = l.length := by omega
      subst this
      rw [h2]
      simp
    | succ j ih =>
      intro k hk
      have hlt : k < l.length := by omega
      rw [lpO_eq, h1 k _ (List.getElem?_eq_getElem hlt), List.drop_eq_getElem_cons hlt, List.findIdx?_cons]
      split
      · simp
      · have := ih (k + 1) (by omega)
        simp only [Option.bind_some, Sum.elim_inl]
        push_cast at this
        rw [this]
        cases (l.drop (k + 1)).findIdx? p with
        | none => rfl
        | some i => simp; omega
  have := key l.length 0 (by omega)
  simpa using this
end Go.Sx.O
namespace Go.Sx.O
open Go
theorem dropWhile_nil {α : Type} {p : α → Bool} : ∀ {l : List α}, l.dropWhile p = [] ↔ ∀ x ∈ l, p x = true
  | [] => by simp
  | a :: l => by
    rw [List.dropWhile_cons]
    cases h : p a with
    | true => simp [h, dropWhile_nil (l := l)]
    | false => simp [h]
theorem Index_strings_spec (l : List (List UInt8)) (s : List UInt8) (hl : l.length ≤ 1000000000) :
    F_slices_Index___string_string_ l s = some (match l.findIdx? (fun x => decide (s = x)) with | some i => (i : Int) | none => -1) := by
  unfold F_slices_Index___string_string_
  rw [find_loop (l := l) (fun x => decide (s = x)) (e := fun i => decide (i < (l.length : Int))) ?_ ?_]
  · cases l.findIdx? (fun x => decide (s = x)) <;> rfl
  · intro k x hx
    have hlt : k < l.length := by
      by_cases h : k < l.length
      · exact h
      · rw [List.getElem?_eq_none (by omega)] at hx; cases hx
    simp only [List.length_map, Int.ofNat_lt, hlt, decide_true, cond_true, idxO, Int.toNat_natCast, hx, Option.bind_some, letO, Int.natCast_nonneg, if_true]
    rw [w64 (by omega) (by omega)]
    cases decide (s = x) <;> rfl
  · simp
theorem Contains_strings_spec (l : List (List UInt8)) (s : List UInt8) (hl : l.length ≤ 1000000000) :
    F_slices_Contains___string_string_ l s = some (decide (s ∈ l)) := by
  unfold F_slices_Contains___string_string_
  rw [Index_strings_spec l s hl]
  cases h : l.findIdx? (fun x => decide (s = x)) with
  | none =>
    have := List.findIdx?_eq_none_iff.1 h
    simp only [Option.bind_some]
    congr 1
    have hn : s ∉ l := fun hm => by have := this s hm; simp at this
    simp [hn]
  | some i =>
    have := List.findIdx?_eq_some_iff_getElem.1 h
    obtain ⟨hi, h1, _⟩ := this
    have hm : s ∈ l := by
      have e : s = l[i] := by simpa using h1
      rw [e]; exact List.getElem_mem hi
    simp [hm]
def inSet (set : List Bool) (c : UInt8) : Bool := set.getD c.toNat false
theorem contains_spec (set : List Bool) (c : UInt8) (h : set.length = 256) : F__Pstrings_asciiSet__contains set (c.toNat : Int) = some (inSet set c) := by
  unfold F__Pstrings_asciiSet__contains
  have hc : c.toNat < 256 := c.toNat_lt
  have h2 : set[c.toNat]? = some (set[c.toNat]'(by omega)) := List.getElem?_eq_getElem _
  have h3 : (c.toNat : Int) < 256 := by omega
  simp [sideO, idxO, inSet, h2, h3]
def trimR (p : UInt8 → Bool) (s : List UInt8) : List UInt8 := (s.reverse.dropWhile p).reverse
theorem trimR_all {p : UInt8 → Bool} {s : List UInt8} : (trimR p s).dropWhile p = [] ↔ ∀ c ∈ s, p c = true := by
  unfold trimR
  constructor
  · intro h c hc
    have h1 : ∀ c ∈ (s.reverse.dropWhile p).reverse, p c = true := dropWhile_nil.1 h
    have h2 : s.reverse.dropWhile p = [] := by
      cases e : s.reverse.dropWhile p with
      | nil => rfl
      | cons a r =>
        have := List.head?_dropWhile_not p s.reverse
        rw [e] at this
        simp at this
        rw [e] at h1
        rw [h1 a (by simp)] at this
        cases this
    exact dropWhile_nil.1 h2 c (by simpa using hc)
  · intro h
    have : s.reverse.dropWhile p = [] := dropWhile_nil.2 fun c hc => h c (by simpa using hc)
    rw [this]; rfl
theorem trimRightASCII_spec (s : List UInt8) (set : List Bool) (h : set.length = 256) (hs : s.length ≤ 1000000000) : F_strings_trimRightASCII s set = some (trimR (inSet set) s) := by
  unfold F_strings_trimRightASCII
  apply Tot.eq
  simp only [tot_bind]
  refine Tot.loop (fun s => s.length) (fun r => r.length ≤ 1000000000 ∧ trimR (inSet set) r = trimR (inSet set) s) ?_ ⟨hs, rfl⟩
  rintro r ⟨hr, he⟩
  simp only [tot_some, tot_cond, tot_let, tot_idx, tot_side, tot_bind, Sum.elim_inl, Sum.elim_inr, decide_eq_true_eq, decide_eq_false_iff_not]
  refine ⟨fun h1 => ?_, fun h1 => ?_⟩
  · have h0 : r ≠ [] := by rintro rfl; simp at h1
    rw [w64 (by omega) (by omega)]
    have e1 : ((r.length : Int) - 1).toNat = r.length - 1 := by omega
    rw [e1]
    refine ⟨by omega, _, List.getElem?_eq_getElem (by omega), ?_⟩
    rw [contains_spec set _ h]
    simp only [tot_some, Bool.not_eq_true', Bool.not_eq_false']
    have hr2 : r = r.dropLast ++ [r[r.length - 1]'(by omega)] := by
      rw [← List.getLast_eq_getElem h0]; exact (List.dropLast_concat_getLast h0).symm
    refine ⟨fun h2 => ?_, fun h2 => ⟨⟨by omega, by omega⟩, ⟨by simp; omega, ?_⟩, by simp; omega⟩⟩
    · rw [← he]
      unfold trimR
      rw [hr2]
      simp [h2]
    · rw [← he]
      simp only [Int.toNat_zero, List.drop_zero]
      rw [← List.dropLast_eq_take]
      conv => rhs; rw [hr2]
      unfold trimR
      simp [h2]
  · have h0 : r = [] := List.length_eq_zero_iff.1 (by omega)
    rw [← he, h0]; rfl
theorem trimLeftASCII_spec (s : List UInt8) (set : List Bool) (h : set.length = 256) (hs : s.length ≤ 1000000000) : F_strings_trimLeftASCII s set = some (s.dropWhile (inSet set)) := by
  unfold F_strings_trimLeftASCII
  apply Tot.eq
  simp only [tot_bind]
  refine Tot.loop (fun s => s.length) (fun r => r.length ≤ 1000000000 ∧ r.dropWhile (inSet set) = s.dropWhile (inSet set)) ?_ ⟨hs, rfl⟩
  rintro r ⟨hr, he⟩
  simp only [tot_some, tot_cond, tot_let, tot_idx, tot_side, tot_bind, Sum.elim_inl, Sum.elim_inr, decide_eq_true_eq, decide_eq_false_iff_not]
  cases r with
  | nil => simp [← he]
  | cons a r =>
    refine ⟨fun h1 => ⟨by omega, a, rfl, ?_⟩, fun h1 => absurd h1 (by simp)⟩
    rw [contains_spec set _ h]
    simp only [tot_some, Bool.not_eq_true', Bool.not_eq_false']
    refine ⟨fun h2 => ?_, fun h2 => ⟨by simp; omega, ⟨?_, ?_⟩, ?_⟩⟩
    · rw [← he]; simp [h2]
    · simp at hr ⊢; omega
    · rw [← he]; simp [h2]
    · simp
end Go.Sx.O
namespace Go.Sx.O
open Go
theorem inSet_set {set : List Bool} {c d : UInt8} (h : set.length = 256) : inSet (set.set c.toNat true) d = (decide (d = c) || inSet set d) := by
  have hc : c.toNat < 256 := c.toNat_lt
  unfold inSet
  rw [List.getD_eq_getElem?_getD, List.getD_eq_getElem?_getD, List.getElem?_set]
  by_cases e : c.toNat = d.toNat
  · have : d = c := (UInt8.toNat_inj.1 e).symm
    subst this
    simp [h, hc]
  · have : d ≠ c := fun e' => e (by rw [e'])
    simp [e, this]
theorem makeASCIISet_spec (cs : List UInt8) (h : ∀ c ∈ cs, c.toNat < 128) (hs : cs.length ≤ 1000000000) : Tot (F_strings_makeASCIISet cs) fun r => r.2 = true ∧ r.1.length = 256 ∧ ∀ d, inSet r.1 d = decide (d ∈ cs) := by
  unfold F_strings_makeASCIISet
  simp only [tot_bind]
  refine Tot.count cs.length (fun k s => s.1 = (k : Int) ∧ s.2.length = 256 ∧ ∀ d, inSet s.2 d = decide (d ∈ cs.take k)) ?_ ⟨rfl, List.length_replicate, fun d => ?_⟩
  · rintro k ⟨i, set⟩ hk ⟨h0, h1, h2⟩
    simp only at h0 h1 h2
    subst h0
    simp only [tot_some, tot_cond, tot_let, tot_idx, tot_side, Sum.elim_inl, Sum.elim_inr, decide_eq_true_eq, decide_eq_false_iff_not, Int.toNat_natCast]
    refine ⟨fun hlt => ⟨by omega, _, List.getElem?_eq_getElem (by omega), fun h3 => ?_, fun h3 => ?_⟩, fun hlt => ?_⟩
    · have := h cs[k] (List.getElem_mem _)
      omega
    · have hc : cs[k].toNat < 256 := (cs[k]'(by omega)).toNat_lt
      refine ⟨⟨by omega, by omega⟩, by omega, _, List.getElem?_eq_getElem (by omega), ?_⟩
      rw [w64 (by omega) (by omega)]
      refine ⟨by omega, by omega, by simpa using h1, fun d => ?_⟩
      have hm : d ∈ cs.take (k + 1) ↔ d ∈ cs.take k ∨ d = cs[k] := by
        rw [List.take_add_one, List.getElem?_eq_getElem (by omega), List.mem_append]
        simp
      rw [inSet_set h1, h2, Bool.eq_iff_iff]
      simp only [Bool.or_eq_true, decide_eq_true_eq, hm]
      exact or_comm
    · refine ⟨trivial, h1, fun d => ?_⟩
      rw [h2, List.take_of_length_le (by omega)]
  · unfold inSet
    rw [List.getD_eq_getElem?_getD, List.getElem?_replicate]
    split <;> simp
theorem Trim_spec (s cs : List UInt8) (h : ∀ c ∈ cs, c.toNat < 128) (h1 : 2 ≤ cs.length) (hs : cs.length ≤ 1000000000) (hl : s.length ≤ 1000000000) :
    F_strings_Trim s cs = some ((trimR (fun c => decide (c ∈ cs)) s).dropWhile (fun c => decide (c ∈ cs))) := by
  unfold F_strings_Trim
  have e0 : (ByteArray.mk #[]).data.toList = [] := rfl
  simp only [e0]
  cases s with
  | nil => simp [trimR]
  | cons a r =>
    have e1 : decide (a :: r = []) = false := by simp
    have e2 : decide (cs = []) = false := by cases cs <;> simp at h1 ⊢
    have e3 : decide ((cs.length : Int) = 1) = false := by simp; omega
    simp only [e1, e2, e3, cond_false]
    obtain ⟨x, hx, hx1, hx2, hx3⟩ := makeASCIISet_spec cs h hs
    have e4 : inSet x.1 = fun c => decide (c ∈ cs) := funext hx3
    rw [hx]
    simp only [Option.bind_some, hx1, cond_true]
    rw [trimRightASCII_spec _ _ hx2 hl]
    simp only [Option.bind_some]
    rw [trimLeftASCII_spec _ _ hx2 (by
      refine Nat.le_trans ?_ hl
      unfold trimR
      rw [List.length_reverse]
      refine Nat.le_trans (List.dropWhile_sublist _).length_le (by simp))]
    rw [e4]
    rfl
def wordSet : List UInt8 := [97, 98, 99, 100, 101, 102, 103, 104, 105, 106, 107, 108, 109, 110, 111, 112, 113, 114, 115, 116, 117, 118, 119, 120, 121, 122, 48, 49, 50, 51, 52, 53, 54, 55, 56, 57, 45]
def wname (s : List UInt8) : Bool := decide (s.length ≤ 16) && (match s with | [] => false | c :: _ => decide (97 ≤ c.toNat) && decide (c.toNat ≤ 122)) && s.all fun c => decide (c ∈ wordSet)
theorem Name_spec (s : List UInt8) (hl : s.length ≤ 1000000000) : F_words_Name s = some (wname s) := by
  unfold F_words_Name
  have e0 : (ByteArray.mk #[]).data.toList = [] := rfl
  simp only [e0]
  rw [Trim_spec s _ (by decide) (by decide) (by decide) hl]
  cases s with
  | nil => rfl
  | cons a r =>
    have e1 : decide (a :: r = []) = false := by simp
    simp only [e1, cond_false, Option.bind_some]
    have e5 : idxO (a :: r) 0 = fun f => (f a : Option Bool) := rfl
    simp only [e5]
    unfold wname
    by_cases h1 : (16 : Int) < ((a :: r).length : Int)
    · have : ¬ (a :: r).length ≤ 16 := by omega
      simp only [h1, decide_true, cond_true, this, decide_false, Bool.false_and]
    · have h1' : (a :: r).length ≤ 16 := by omega
      simp only [h1, decide_false, cond_false, h1', decide_true, Bool.true_and]
      by_cases h2 : (a.toNat : Int) < 97
      · have : ¬ 97 ≤ a.toNat := by omega
        simp only [h2, decide_true, cond_true, this, decide_false, Bool.false_and]
      · have h2' : 97 ≤ a.toNat := by omega
        simp only [h2, decide_false, cond_false, h2', decide_true, Bool.true_and]
        by_cases h3 : (122 : Int) < (a.toNat : Int)
        · have : ¬ a.toNat ≤ 122 := by omega
          simp only [h3, decide_true, cond_true, this, decide_false, Bool.false_and]
        · have h3' : a.toNat ≤ 122 := by omega
          simp only [h3, decide_false, cond_false, h3', decide_true, Bool.true_and]
          congr 1
          rw [Bool.eq_iff_iff, decide_eq_true_eq, trimR_all, List.all_eq_true]
          rfl
end Go.Sx.O
namespace Go.Sx.O
open Go
theorem bit_at : ∀ u : Fin 256, ∀ b : Fin 9, bits .and .u8 (Int.fdiv (u.val : Int) (2 ^ min b.val (IntKind.bits .u8))) 1 = if Nat.testBit u b then 1 else 0 := by decide +kernel
theorem bitAt {u : Int} {b : Nat} (h0 : 0 ≤ u) (h1 : u < 256) (hb : b ≤ 8) : bits .and .u8 (Int.fdiv u (2 ^ min b (IntKind.bits .u8))) 1 = if u.toNat.testBit b then 1 else 0 := by
  have := bit_at ⟨u.toNat, by omega⟩ ⟨b, by omega⟩
  simp only at this
  rw [Int.toNat_of_nonneg h0] at this
  exact this
theorem ofInt_u8 {u : Int} (h0 : 0 ≤ u) : BitVec.ofInt 8 u = BitVec.ofNat 8 u.toNat := by
  conv => lhs; rw [← Int.toNat_of_nonneg h0]
  exact BitVec.ofInt_natCast 8 u.toNat
theorem wrap_u8 {n : Nat} (h : n < 256) : IntKind.wrap .u8 (n : Int) = n := by
  simp only [IntKind.wrap, IntKind.signed, IntKind.bits, Bool.false_and]
  have h3 : (2 : Int) ^ 8 = 256 := by decide
  simp only [h3]
  have : (n : Int) % 256 = n := by omega
  simp [this]
theorem bits_and {a b : Int} (ha : 0 ≤ a) (ha' : a < 256) (hb : 0 ≤ b) (hb' : b < 256) : bits .and .u8 a b = ((a.toNat &&& b.toNat : Nat) : Int) := by
  have e : bits .and .u8 a b = IntKind.wrap .u8 ((BitVec.ofInt 8 a &&& BitVec.ofInt 8 b).toNat : Int) := rfl
  rw [e, ofInt_u8 ha, ofInt_u8 hb]
  rw [wrap_u8 (BitVec.isLt _)]
  rw [BitVec.toNat_and, BitVec.toNat_ofNat, BitVec.toNat_ofNat, Nat.mod_eq_of_lt (by omega), Nat.mod_eq_of_lt (by omega)]
theorem bits_or {a b : Int} (ha : 0 ≤ a) (ha' : a < 256) (hb : 0 ≤ b) (hb' : b < 256) : bits .or .u8 a b = ((a.toNat ||| b.toNat : Nat) : Int) := by
  have e : bits .or .u8 a b = IntKind.wrap .u8 ((BitVec.ofInt 8 a ||| BitVec.ofInt 8 b).toNat : Int) := rfl
  rw [e, ofInt_u8 ha, ofInt_u8 hb]
  rw [wrap_u8 (BitVec.isLt _)]
  rw [BitVec.toNat_or, BitVec.toNat_ofNat, BitVec.toNat_ofNat, Nat.mod_eq_of_lt (by omega), Nat.mod_eq_of_lt (by omega)]
theorem bits_andNot {a b : Int} (ha : 0 ≤ a) (ha' : a < 256) (hb : 0 ≤ b) (hb' : b < 256) : bits .andNot .u8 a b = 0 ↔ ∀ i, a.toNat.testBit i = true → b.toNat.testBit i = true := by
  have e : bits .andNot .u8 a b = IntKind.wrap .u8 ((BitVec.ofInt 8 a &&& ~~~BitVec.ofInt 8 b).toNat : Int) := rfl
  rw [e, ofInt_u8 ha, ofInt_u8 hb]
  rw [wrap_u8 (BitVec.isLt _)]
  have hbit : ∀ i, (BitVec.ofNat 8 a.toNat &&& ~~~BitVec.ofNat 8 b.toNat).getLsbD i = (decide (i < 8) && a.toNat.testBit i && !(b.toNat.testBit i)) := by
    intro i
    rw [BitVec.getLsbD_and, BitVec.getLsbD_not, BitVec.getLsbD_ofNat, BitVec.getLsbD_ofNat]
    cases decide (i < 8) <;> simp
  have h8 : ∀ i, a.toNat.testBit i = true → i < 8 := by
    intro i hi
    rcases Nat.lt_or_ge i 8 with g | g
    · exact g
    · rw [Nat.testBit_lt_two_pow (Nat.lt_of_lt_of_le (show a.toNat < 2 ^ 8 by omega) (Nat.pow_le_pow_right (by omega) g))] at hi
      cases hi
  constructor
  · intro h i hi
    have h0 : (BitVec.ofNat 8 a.toNat &&& ~~~BitVec.ofNat 8 b.toNat).toNat = 0 := Int.ofNat_eq_zero.1 h
    have h1 := hbit i
    rw [← BitVec.testBit_toNat, h0, Nat.zero_testBit] at h1
    have := h8 i hi
    simp [this, hi] at h1
    exact h1
  · intro h
    have h1 : (BitVec.ofNat 8 a.toNat &&& ~~~BitVec.ofNat 8 b.toNat).toNat = 0 := by
      apply Nat.eq_of_testBit_eq
      intro i
      rw [BitVec.testBit_toNat, hbit i, Nat.zero_testBit]
      cases hi : a.toNat.testBit i with
      | false => simp
      | true => simp [h i hi]
    rw [h1]; rfl
theorem and_lt {a b : Nat} (h : a < 256) : a &&& b < 256 := Nat.lt_of_le_of_lt Nat.and_le_left h
theorem or_lt {a b : Nat} (h : a < 256) (k : b < 256) : a ||| b < 256 := Nat.or_lt_two_pow (n := 8) h k
theorem named_total (ns : List (List UInt8)) (h : ns.length ≤ 20) (hn : ∀ s ∈ ns, s.length ≤ 50) : Tot (F_lattice_named ns) fun r => r.2 = 0 → 1 ≤ ns.length ∧ ns.length ≤ 8 := by
  unfold F_lattice_named
  simp only [tot_cond, tot_some, tot_bind, List.length_map, decide_eq_true_eq, decide_eq_false_iff_not]
  refine ⟨fun _ h => absurd h (by decide), fun h1 => ⟨fun _ h => absurd h (by decide), fun h2 => ?_⟩⟩
  refine Tot.count ns.length (fun k s => s = (k : Int)) ?_ rfl
  rintro k _ hk rfl
  simp only [tot_some, tot_cond, tot_let, tot_idx, tot_side, tot_bind, Sum.elim_inl, Sum.elim_inr, decide_eq_true_eq, decide_eq_false_iff_not, Int.toNat_natCast]
  refine ⟨fun hlt => ⟨by omega, _, List.getElem?_eq_getElem (by omega), ?_⟩, fun hlt => fun _ => by omega⟩
  rw [Name_spec _ (by have := hn ns[k] (List.getElem_mem _); omega), tot_some]
  refine ⟨fun _ h => absurd h (by decide), fun _ => ⟨⟨by omega, by omega⟩, ?_⟩⟩
  rw [Contains_strings_spec _ _ (by simp; omega), tot_some]
  refine ⟨fun _ h => absurd h (by decide), fun _ => ?_⟩
  rw [w64 (by omega) (by omega)]
  exact ⟨by omega, by omega⟩
end Go.Sx.O
namespace Go.Sx.O
open Go
def U8s (l : List Int) : Prop := ∀ x ∈ l, 0 ≤ x ∧ x < 256
theorem U8s.get {l : List Int} (h : U8s l) {i : Nat} {x : Int} (hx : l[i]? = some x) : 0 ≤ x ∧ x < 256 := h x (List.mem_of_getElem? hx)
theorem U8s.set {l : List Int} (h : U8s l) {i : Nat} {x : Int} (h0 : 0 ≤ x) (h1 : x < 256) : U8s (l.set i x) := by
  intro y hy
  rcases List.mem_or_eq_of_mem_set hy with g | g
  · exact h y g
  · subst g; exact ⟨h0, h1⟩
theorem mod_u8 {e : Int} : 0 ≤ IntKind.wrap .u8 e ∧ IntKind.wrap .u8 e < 256 := by
  simp only [IntKind.wrap, IntKind.signed, IntKind.bits, Bool.false_and]
  have h3 : (2 : Int) ^ 8 = 256 := by decide
  simp only [h3]
  refine ⟨?_, ?_⟩ <;> simp <;> omega
theorem orU {a b : Int} (ha : 0 ≤ a) (ha' : a < 256) (hb : 0 ≤ b) (hb' : b < 256) : 0 ≤ bits .or .u8 a b ∧ bits .or .u8 a b < 256 := by
  rw [bits_or ha ha' hb hb']
  have := or_lt (a := a.toNat) (b := b.toNat) (by omega) (by omega)
  omega
theorem andU {a b : Int} (ha : 0 ≤ a) (ha' : a < 256) (hb : 0 ≤ b) (hb' : b < 256) : 0 ≤ bits .and .u8 a b ∧ bits .and .u8 a b < 256 := by
  rw [bits_and ha ha' hb hb']
  have := and_lt (a := a.toNat) (b := b.toNat) (by omega)
  omega
theorem get_lt {α : Type} {l : List α} {i : Nat} (h : i < l.length) : ∃ x, l[i]? = some x := ⟨_, List.getElem?_eq_getElem h⟩
theorem of_total (l : TLattice) (hu : U8s l.Up) (hn : l.Names.length ≤ 8) (hl : l.Up.length ≤ 8) :
    Tot (F_lattice_of l) fun o => o.n_ = l.Names.length ∧ o.up_.length = 8 ∧ o.down_.length = 8 ∧ U8s o.up_ ∧ U8s o.down_ := by
  unfold F_lattice_of
  simp only [tot_bind, List.length_map]
  refine Tot.count l.Up.length (fun k s => s.1 = (k : Int) ∧ s.2.1.length = 8 ∧ s.2.2.length = 8 ∧ U8s s.2.1 ∧ U8s s.2.2) ?_ ⟨rfl, rfl, rfl, by intro x hx; simp at hx; omega, by intro x hx; simp at hx; omega⟩
  rintro k ⟨i, up, down⟩ hk ⟨h0, h1, h2, h3, h4⟩
  simp only at h0 h1 h2 h3 h4
  subst h0
  simp only [tot_some, tot_cond, tot_let, tot_idx, tot_side, tot_bind, Sum.elim_inl, Sum.elim_inr, decide_eq_true_eq, decide_eq_false_iff_not, Int.toNat_natCast]
  refine ⟨fun hlt => ?_, fun hlt => ⟨trivial, h1, h2, h3, h4⟩⟩
  obtain ⟨x, hx⟩ := get_lt (l := l.Up) (i := k) (by omega)
  obtain ⟨y, hy⟩ := get_lt (l := up) (i := k) (by omega)
  refine ⟨by omega, x, hx, ⟨by omega, by omega⟩, by omega, y, hy, ?_⟩
  have hx' := hu.get hx
  refine Tot.count l.Names.length (fun j s => s.1 = (j : Int) ∧ s.2.length = 8 ∧ U8s s.2) ?_ ⟨rfl, h2, h4⟩
  rintro j ⟨i', d⟩ hj ⟨g0, g1, g2⟩
  simp only at g0 g1 g2
  subst g0
  simp only [tot_some, tot_cond, tot_let, tot_idx, tot_side, tot_bind, Sum.elim_inl, Sum.elim_inr, decide_eq_true_eq, decide_eq_false_iff_not, Int.toNat_natCast]
  refine ⟨fun hlt' => ?_, fun _ => ?_⟩
  · obtain ⟨z, hz⟩ := get_lt (l := d) (i := j) (by omega)
    have hz' := g2.get hz
    rw [w64 (by omega) (by omega)]
    refine ⟨⟨by omega, by omega⟩, by omega, z, hz, by omega, by omega, ⟨by omega, by omega⟩, by omega, z, hz, by omega, by omega, by simpa using g1, ?_⟩
    have hw := mod_u8 (e := bits .and .u8 (Int.fdiv x (2 ^ min j (IntKind.bits .u8))) 1 * 2 ^ min k (IntKind.bits .u8))
    have ho := orU hz'.1 hz'.2 hw.1 hw.2
    exact g2.set ho.1 ho.2
  · rw [w64 (by omega) (by omega)]
    exact ⟨by omega, by omega, by simpa using h1, g1, h3.set hx'.1 hx'.2, g2⟩
theorem bound_ups_total (m : List Int) (n : Nat) (a b : Nat) (hm : m.length = 8) (hu : U8s m) (hn : n ≤ 8) (ha : a < n) (hb : b < n) : Tot (F_lattice_bound_lattice_ups_ m n a b) fun _ => True := by
  unfold F_lattice_bound_lattice_ups_
  obtain ⟨x, hx⟩ := get_lt (l := m) (i := a) (by omega)
  obtain ⟨y, hy⟩ := get_lt (l := m) (i := b) (by omega)
  simp only [tot_some, tot_cond, tot_let, tot_idx, tot_side, tot_bind, Int.toNat_natCast]
  refine ⟨⟨by omega, by omega⟩, by omega, x, hx, ⟨by omega, by omega⟩, by omega, y, hy, ?_⟩
  refine Tot.count n (fun k s => s = (k : Int)) ?_ rfl
  rintro k _ hk rfl
  simp only [tot_some, tot_cond, tot_let, tot_idx, tot_side, tot_bind, Sum.elim_inl, Sum.elim_inr, decide_eq_true_eq, decide_eq_false_iff_not, Int.toNat_natCast]
  refine ⟨fun hlt => ⟨by omega, fun _ => ?_, fun _ => ?_⟩, fun _ => trivial⟩
  · obtain ⟨z, hz⟩ := get_lt (l := m) (i := k) (by omega)
    rw [w64 (by omega) (by omega)]
    exact ⟨⟨by omega, by omega⟩, by omega, z, hz, fun _ => trivial, fun _ => ⟨by omega, by omega⟩⟩
  · rw [w64 (by omega) (by omega)]
    exact ⟨by omega, by omega⟩
theorem bound_downs_total (m : List Int) (n : Nat) (a b : Nat) (hm : m.length = 8) (hu : U8s m) (hn : n ≤ 8) (ha : a < n) (hb : b < n) : Tot (F_lattice_bound_lattice_downs_ m n a b) fun _ => True := bound_ups_total m n a b hm hu hn ha hb
theorem Len8_total (x : Int) (h0 : 0 ≤ x) (h1 : x < 256) : Tot (F_math_bits_Len8 x) fun _ => True := by
  unfold F_math_bits_Len8
  rw [tot_idx]
  refine ⟨h0, ?_⟩
  have key : ∀ l : List UInt8, l.length = 256 → ∃ y, l[x.toNat]? = some y ∧ Tot (letO (IntKind.wrap .i64 (y.toNat : Int)) fun z => some z) fun _ => True := by
    intro l hl
    obtain ⟨y, hy⟩ := get_lt (l := l) (i := x.toNat) (by omega)
    exact ⟨y, hy, .mk trivial⟩
  exact key _ (by decide +kernel)
def up (l : TLattice) (a b : Nat) : Bool := (l.Up.getD a 0).toNat.testBit b
def rowOK (l : TLattice) (a b : Nat) : Prop := up l a b = true → (b ≠ a → up l b a = false) ∧ ∀ i, i < l.Names.length → up l b i = true → up l a i = true
structure LatOK (l : TLattice) : Prop where
  pos : 1 ≤ l.Names.length
  le : l.Names.length ≤ 8
  len : l.Up.length = l.Names.length
  u8 : U8s l.Up
  self : ∀ a, a < l.Names.length → up l a a = true
  row : ∀ a, a < l.Names.length → ∀ b, b < l.Names.length → rowOK l a b
theorem up_of {l : TLattice} {a : Nat} {x : Int} (h : l.Up[a]? = some x) (b : Nat) : up l a b = x.toNat.testBit b := by
  unfold up; rw [List.getD_eq_getElem?_getD, h]; rfl
theorem mask_bit (n : Nat) (h : n ≤ 8) (i : Nat) : (IntKind.wrap .u8 (IntKind.wrap .u8 (1 * 2 ^ min n (IntKind.bits .u8)) - 1)).toNat.testBit i = decide (i < n) := by
  have key : ∀ n : Fin 9, (IntKind.wrap .u8 (IntKind.wrap .u8 (1 * 2 ^ min n.val (IntKind.bits .u8)) - 1)).toNat = 2 ^ n.val - 1 := by decide +kernel
  rw [key ⟨n, by omega⟩]
  exact Nat.testBit_two_pow_sub_one n i
theorem Check_lat (l : TLattice) (hu : U8s l.Up) (hn : l.Names.length ≤ 20) (hs : ∀ s ∈ l.Names, s.length ≤ 50) : Tot (F_lattice_Check l) fun r => r.2 = 0 → LatOK l := by
  unfold F_lattice_Check
  simp only [tot_bind, List.length_map]
  refine (named_total l.Names hn hs).mono fun x53 h53 => ?_
  simp only [tot_cond, tot_some, Bool.not_eq_true', Bool.not_eq_false', decide_eq_true_eq, decide_eq_false_iff_not]
  refine ⟨fun h h' => absurd h' h, fun h => ⟨fun _ h' => absurd h' (by decide), fun hlen => ?_⟩⟩
  obtain ⟨p1, p8⟩ := h53 h
  have hlen' : l.Up.length = l.Names.length := by omega
  rw [tot_side, tot_let, tot_let, tot_bind]
  refine ⟨by omega, ?_⟩
  rw [Int.toNat_natCast]
  have hmask := mask_bit l.Names.length p8
  have hm0 := mod_u8 (e := IntKind.wrap .u8 (1 * 2 ^ min l.Names.length (IntKind.bits .u8)) - 1)
  revert hmask hm0
  generalize IntKind.wrap .u8 (IntKind.wrap .u8 (1 * 2 ^ min l.Names.length (IntKind.bits .u8)) - 1) = mask
  intro hmask hm0
  refine Tot.count l.Names.length (fun k s => s = (k : Int) ∧ (∀ a, a < k → up l a a = true) ∧ ∀ a, a < k → ∀ b, b < l.Names.length → rowOK l a b) ?_ ⟨rfl, fun a ha => absurd ha (by omega), fun a ha => absurd ha (by omega)⟩
  rintro k _ hk ⟨rfl, hself, hrow⟩
  simp only [tot_cond, tot_some, tot_let, Sum.elim_inl, Sum.elim_inr, decide_eq_true_eq, decide_eq_false_iff_not]
  refine ⟨fun hlt => ?_, fun hlt => ?_⟩
  · -- a round
    simp only [tot_idx, Int.toNat_natCast]
    obtain ⟨x, hx⟩ := get_lt (l := l.Up) (i := k) (by omega)
    have hx' := hu.get hx
    refine ⟨by omega, x, hx, ?_⟩
    rw [tot_bind]
    refine (Len8_total x hx'.1 hx'.2).mono fun x91 _ => ?_
    simp only [tot_cond, tot_some, tot_side, Sum.elim_inl, Sum.elim_inr, decide_eq_true_eq, decide_eq_false_iff_not, Int.toNat_natCast]
    refine ⟨fun _ h' => absurd h' (by decide), fun _ => ⟨by omega, fun _ h' => absurd h' (by decide), fun hs => ?_⟩⟩
    rw [bitAt hx'.1 hx'.2 (by omega), ← up_of hx] at hs
    have hkk : up l k k = true := by
      cases e : up l k k with
      | true => rfl
      | false => rw [e] at hs; simp at hs
    rw [tot_bind]
    refine Tot.count l.Names.length (fun j s => s = (j : Int) ∧ ∀ b, b < j → rowOK l k b) ?_ ⟨rfl, fun b hb => absurd hb (by omega)⟩
    rintro j _ hj ⟨rfl, hr⟩
    have fin : (∀ b, b < l.Names.length → rowOK l k b) → k < l.Names.length ∧ IntKind.wrap .i64 ((k : Int) + 1) = ((k + 1 : Nat) : Int) ∧ (∀ a, a < k + 1 → up l a a = true) ∧ ∀ a, a < k + 1 → ∀ b, b < l.Names.length → rowOK l a b := by
      intro hall
      rw [w64 (by omega) (by omega)]
      refine ⟨by omega, by omega, fun a ha => ?_, fun a ha => ?_⟩
      · rcases Nat.lt_or_ge a k with g | g
        · exact hself a g
        · have : a = k := by omega
          subst this; exact hkk
      · rcases Nat.lt_or_ge a k with g | g
        · exact hrow a g
        · have : a = k := by omega
          subst this; exact hall
    have ext : ∀ {b}, rowOK l k j → b < j + 1 → rowOK l k b := by
      intro b h hb
      rcases Nat.lt_or_ge b j with g | g
      · exact hr b g
      · have : b = j := by omega
        subst this; exact h
    simp only [tot_cond, tot_some, tot_let, tot_side, Sum.elim_inl, Sum.elim_inr, decide_eq_true_eq, decide_eq_false_iff_not, Bool.not_eq_true', Bool.not_eq_false', Int.toNat_natCast]
    refine ⟨fun hjl => ?_, fun hjl => ?_⟩
    · simp only [tot_idx, Int.toNat_natCast]
      obtain ⟨y, hy⟩ := get_lt (l := l.Up) (i := j) (by omega)
      have hy' := hu.get hy
      refine ⟨by omega, y, hy, ?_⟩
      simp only [tot_cond, tot_some, tot_let, tot_side, Sum.elim_inl, Sum.elim_inr, decide_eq_true_eq, decide_eq_false_iff_not, Bool.not_eq_true', Bool.not_eq_false', Int.toNat_natCast]
      rw [bitAt hx'.1 hx'.2 (by omega), ← up_of hx]
      rw [w64 (e := (l.Names.length : Int) - 1) (by omega) (by omega)]
      have stay : rowOK l k j → ((j : Int) = (l.Names.length : Int) - 1 → k < l.Names.length ∧ IntKind.wrap .i64 ((k : Int) + 1) = ((k + 1 : Nat) : Int) ∧ (∀ a, a < k + 1 → up l a a = true) ∧ ∀ a, a < k + 1 → ∀ b, b < l.Names.length → rowOK l a b) ∧ (¬ (j : Int) = (l.Names.length : Int) - 1 → j < l.Names.length ∧ IntKind.wrap .i64 ((j : Int) + 1) = ((j + 1 : Nat) : Int) ∧ ∀ b, b < j + 1 → rowOK l k b) := by
        intro hrow'
        refine ⟨fun e => fin fun b hb => ext hrow' (by omega), fun e => ?_⟩
        rw [w64 (by omega) (by omega)]
        exact ⟨by omega, by omega, fun b hb => ext hrow' hb⟩
      refine ⟨by omega, fun hb => ?_, fun hb => ⟨fun hne => ⟨by omega, fun _ h' => absurd h' (by decide), fun hba => ⟨fun _ h' => absurd h' (by decide), fun han => ?_⟩⟩, fun heq => ⟨fun _ h' => absurd h' (by decide), fun han => ?_⟩⟩⟩
      · refine stay fun hup => ?_
        rw [hup] at hb; simp at hb
      · refine stay fun _ => ⟨fun _ => ?_, fun i hi hyi => ?_⟩
        · rw [bitAt hy'.1 hy'.2 (by omega), ← up_of hy] at hba
          cases e : up l j k with
          | false => rfl
          | true => rw [e] at hba; simp at hba
        · rw [bits_and hy'.1 hy'.2 hm0.1 hm0.2] at han
          have hand := and_lt (a := y.toNat) (b := mask.toNat) (by omega)
          have := (bits_andNot (by omega) (by omega) hx'.1 hx'.2).1 han i (by
            rw [Int.toNat_natCast, Nat.testBit_and, hmask, ← up_of hy, hyi]; simp [hi])
          rw [up_of hx]; exact this
      · refine stay fun _ => ⟨fun hne => absurd (by omega) hne, fun i hi hyi => ?_⟩
        rw [bits_and hy'.1 hy'.2 hm0.1 hm0.2] at han
        have hand := and_lt (a := y.toNat) (b := mask.toNat) (by omega)
        have := (bits_andNot (by omega) (by omega) hx'.1 hx'.2).1 han i (by
          rw [Int.toNat_natCast, Nat.testBit_and, hmask, ← up_of hy, hyi]; simp [hi])
        rw [up_of hx]; exact this
    · exact fin fun b hb => hr b (by omega)
  · -- the end
    have hk' : k = l.Names.length := by omega
    subst hk'
    have good : LatOK l := ⟨p1, p8, hlen', hu, hself, hrow⟩
    rw [tot_bind]
    refine (of_total l hu p8 (by omega)).mono fun o ho => ?_
    obtain ⟨_, o1, o2, o3, o4⟩ := ho
    rw [tot_bind]
    refine Tot.count l.Names.length (fun j s => s = (j : Int)) ?_ rfl
    rintro j _ hj rfl
    simp only [tot_cond, tot_some, tot_let, tot_bind, Sum.elim_inl, Sum.elim_inr, decide_eq_true_eq, decide_eq_false_iff_not]
    refine ⟨fun hlt => ?_, fun _ _ => good⟩
    refine Tot.count l.Names.length (fun i s => s = (i : Int)) ?_ rfl
    rintro i _ hi rfl
    simp only [tot_cond, tot_some, tot_let, tot_bind, Sum.elim_inl, Sum.elim_inr, decide_eq_true_eq, decide_eq_false_iff_not]
    refine ⟨fun hlt' => ?_, fun _ => ?_⟩
    · refine (bound_ups_total _ _ _ _ o1 o3 p8 (by omega) (by omega)).mono fun b1 _ => ⟨fun _ h' => absurd h' (by decide), fun _ => ?_⟩
      refine (bound_downs_total _ _ _ _ o2 o4 p8 (by omega) (by omega)).mono fun b2 _ => ⟨fun _ h' => absurd h' (by decide), fun _ => ?_⟩
      rw [w64 (by omega) (by omega)]
      exact ⟨by omega, by omega⟩
    · rw [w64 (by omega) (by omega)]
      exact ⟨by omega, by omega⟩
end Go.Sx.O
namespace Go.Sx.O
open Go
structure LatIn (l : TLattice) : Prop where
  u8 : U8s l.Up
  names : l.Names.length ≤ 20
  name : ∀ s ∈ l.Names, s.length ≤ 50
noncomputable def latR (l : TLattice) : Int × Int := (F_lattice_Check l).getD (0, 0)
theorem Check_eq {l : TLattice} (h : LatIn l) : F_lattice_Check l = some (latR l) := by
  obtain ⟨r, e, _⟩ := Check_lat l h.u8 h.names h.name
  unfold latR; rw [e]; rfl
theorem lat_ok {l : TLattice} (h : LatIn l) (k : (latR l).2 = 0) : LatOK l := by
  obtain ⟨r, e, q⟩ := Check_lat l h.u8 h.names h.name
  have := Check_eq h
  rw [e] at this; cases this
  exact q k
def isLab (l : TLattice) (a : Int) : Bool := decide (0 ≤ a) && decide (a < (l.Names.length : Int))
theorem label_spec (l : TLattice) (a : Int) : F_view_label l a = some (isLab l a) := by
  unfold F_view_label isLab
  rw [List.length_map]
  cases decide (0 ≤ a) <;> rfl
noncomputable def askE (l : TLattice) (xs : List Int) : Int := if (latR l).2 = 0 then (if xs.all (isLab l) then 0 else 7) else (latR l).2
theorem lasked_spec {l : TLattice} (h : LatIn l) (xs : List Int) (hx : xs.length ≤ 1000000000) : F_lattice_asked l xs = some (askE l xs) := by
  unfold F_lattice_asked askE
  rw [Check_eq h]
  simp only [Option.bind_some]
  by_cases h0 : (latR l).2 = 0
  · simp only [h0, decide_true, Bool.not_true, cond_false, if_true]
    apply Tot.eq
    simp only [tot_bind, List.length_map]
    refine Tot.count xs.length (fun k s => s = (k : Int) ∧ (xs.take k).all (isLab l) = true) ?_ ⟨rfl, by simp⟩
    rintro k _ hk ⟨rfl, hall⟩
    simp only [tot_cond, tot_some, tot_let, tot_idx, Sum.elim_inl, Sum.elim_inr, decide_eq_true_eq, decide_eq_false_iff_not, Int.toNat_natCast]
    refine ⟨fun hlt => ?_, fun hlt => ?_⟩
    · obtain ⟨x, hx'⟩ := get_lt (l := xs) (i := k) (by omega)
      have hm := List.mem_of_getElem? hx'
      have bad : isLab l x = false → (7 : Int) = if xs.all (isLab l) = true then 0 else 7 := by
        intro e
        have : xs.all (isLab l) = false := by
          rw [List.all_eq_false]; exact ⟨x, hm, by simp [e]⟩
        simp [this]
      refine ⟨by omega, x, hx', fun g => bad (by unfold isLab; simp; omega), fun g1 => ⟨fun g => bad (by unfold isLab; simp; omega), fun g2 => ?_⟩⟩
      rw [w64 (by omega) (by omega)]
      refine ⟨by omega, by omega, ?_⟩
      rw [List.take_add_one, hx', List.all_append, hall]
      simp [isLab]; omega
    · rw [List.take_of_length_le (by omega)] at hall
      simp [hall]
  · simp only [h0, decide_false, Bool.not_false, cond_true, if_false]
noncomputable def sees (l : TLattice) (a o : Int) : Bool := decide ((latR l).2 = 0) && isLab l a && isLab l o && up l a.toNat o.toNat
theorem Leq_spec {l : TLattice} (h : LatIn l) (a b : Int) : F_lattice_Leq l a b = some (sees l a b, askE l [a, b]) := by
  unfold F_lattice_Leq
  rw [lasked_spec h _ (by simp)]
  simp only [Option.bind_some]
  by_cases h0 : askE l [a, b] = 0
  · simp only [h0, decide_true, Bool.not_true, cond_false]
    unfold askE at h0
    split at h0
    case isFalse h1 => exact absurd h0 h1
    rename_i h1
    split at h0
    case isFalse => cases h0
    rename_i h2
    simp only [List.all_cons, List.all_nil, Bool.and_true, Bool.and_eq_true] at h2
    have ok := lat_ok h h1
    have ha := h2.1
    have hb := h2.2
    unfold isLab at ha hb
    simp only [Bool.and_eq_true, decide_eq_true_eq] at ha hb
    obtain ⟨x, hx⟩ := get_lt (l := l.Up) (i := a.toNat) (by rw [ok.len]; omega)
    have hx' := ok.u8.get hx
    have : b.toNat ≤ 8 := by have := ok.le; omega
    simp only [idxO, ha.1, if_true, hx, Option.bind_some, sideO, hb.1]
    congr 1
    rw [bitAt hx'.1 hx'.2 this]
    unfold sees
    rw [up_of hx]
    simp only [h1, h2.1, h2.2, decide_true, Bool.true_and]
    cases x.toNat.testBit b.toNat <;> simp
  · simp only [h0, decide_false, Bool.not_false, cond_true]
    congr 1
    have : sees l a b = false := by
      unfold askE at h0
      unfold sees
      split at h0
      · rename_i h1
        split at h0
        · exact absurd rfl h0
        · rename_i h2
          simp only [List.all_cons, List.all_nil, Bool.and_true] at h2
          have : (isLab l a && isLab l b) = false := by cases e : (isLab l a && isLab l b) <;> simp_all
          rw [Bool.and_assoc (decide _)]
          simp [this]
      · rename_i h1; simp [h1]
    rw [this]
theorem sees_ok {l : TLattice} {a o : Int} (h : sees l a o = true) : askE l [a, o] = 0 := by
  unfold sees at h
  simp only [Bool.and_eq_true, decide_eq_true_eq] at h
  unfold askE
  simp [h.1.1.1, h.1.1.2, h.1.2]
theorem AppendSeq_ev_spec {l : TLattice} (h : LatIn l) (es : List TEvEvent) (o : Int) (hl : es.length ≤ 1000000) :
    F_slices_AppendSeq___api_EvEvent_api_EvEvent_ (es, l, (), o) = some (es.filter fun v => sees l v.Label o) := by
  unfold F_slices_AppendSeq___api_EvEvent_api_EvEvent_
  apply Tot.eq
  simp only [tot_bind, List.length_map]
  refine Tot.count es.length (fun k s => s.1 = (k : Int) ∧ s.2 = (es.take k).filter fun v => sees l v.Label o) ?_ ⟨rfl, by simp⟩
  rintro k ⟨i, out⟩ hk ⟨h0, h1⟩
  simp only at h0 h1
  subst h0
  simp only [tot_cond, tot_some, tot_let, tot_idx, tot_side, tot_bind, Sum.elim_inl, Sum.elim_inr, decide_eq_true_eq, decide_eq_false_iff_not, Int.toNat_natCast]
  refine ⟨fun hlt => ?_, fun hlt => ?_⟩
  · obtain ⟨x, hx⟩ := get_lt (l := es) (i := k) (by omega)
    refine ⟨by omega, x, hx, ?_⟩
    have e1 : F_view_events_1 x = some x.Label := rfl
    rw [e1, tot_some, Leq_spec h, tot_some]
    have hlen : out.length ≤ k := by
      rw [h1]
      refine Nat.le_trans (List.length_filter_le _ _) (by simp; omega)
    rw [w64 (by omega) (by omega)]
    have hs : ((es.take (k + 1)).filter fun v => sees l v.Label o) = out ++ (if sees l x.Label o = true then [x] else []) := by
      rw [List.take_add_one, hx, List.filter_append, ← h1]
      congr 1
      simp only [Option.toList_some, List.filter_cons, List.filter_nil]
    refine ⟨fun g => ⟨fun g1 => ⟨by omega, by omega, by omega, ?_⟩, fun g1 => ⟨by omega, by omega, ?_⟩⟩, fun g => ⟨by omega, by omega, ?_⟩⟩
    · simp only at g1; rw [hs, g1]; rfl
    · rw [hs]; simp only at g1; rw [g1]; simp
    · rw [hs]
      have : sees l x.Label o = false := by
        cases e : sees l x.Label o with
        | false => rfl
        | true => exact absurd (sees_ok e) g
      rw [this]; simp
  · rw [h1, List.take_of_length_le (by omega)]
theorem events_spec {l : TLattice} (h : LatIn l) (t : TEvTrace) (o : Int) (hl : t.Events.length ≤ 1000000) : F_view_events l t o = some (t.Events.filter fun v => sees l v.Label o) := by
  unfold F_view_events F_view_seen_api_EvEvent_ F_slices_Collect_api_EvEvent_
  simp only [Option.bind_some]
  rw [AppendSeq_ev_spec h _ _ hl]
  rfl
theorem AppendSeq_re_spec {l : TLattice} (h : LatIn l) (es : List TReEntry) (o : Int) (hl : es.length ≤ 1000000) :
    F_slices_AppendSeq___api_ReEntry_api_ReEntry_ (es, l, (), o) = some (es.filter fun v => sees l v.Goal o) := by
  unfold F_slices_AppendSeq___api_ReEntry_api_ReEntry_
  apply Tot.eq
  simp only [tot_bind, List.length_map]
  refine Tot.count es.length (fun k s => s.1 = (k : Int) ∧ s.2 = (es.take k).filter fun v => sees l v.Goal o) ?_ ⟨rfl, by simp⟩
  rintro k ⟨i, out⟩ hk ⟨h0, h1⟩
  simp only at h0 h1
  subst h0
  simp only [tot_cond, tot_some, tot_let, tot_idx, tot_side, tot_bind, Sum.elim_inl, Sum.elim_inr, decide_eq_true_eq, decide_eq_false_iff_not, Int.toNat_natCast]
  refine ⟨fun hlt => ?_, fun hlt => ?_⟩
  · obtain ⟨x, hx⟩ := get_lt (l := es) (i := k) (by omega)
    refine ⟨by omega, x, hx, ?_⟩
    have e1 : F_view_entries_1 x = some x.Goal := rfl
    rw [e1, tot_some, Leq_spec h, tot_some]
    have hlen : out.length ≤ k := by
      rw [h1]
      refine Nat.le_trans (List.length_filter_le _ _) (by simp; omega)
    rw [w64 (by omega) (by omega)]
    have hs : ((es.take (k + 1)).filter fun v => sees l v.Goal o) = out ++ (if sees l x.Goal o = true then [x] else []) := by
      rw [List.take_add_one, hx, List.filter_append, ← h1]
      congr 1
      simp only [Option.toList_some, List.filter_cons, List.filter_nil]
    refine ⟨fun g => ⟨fun g1 => ⟨by omega, by omega, by omega, ?_⟩, fun g1 => ⟨by omega, by omega, ?_⟩⟩, fun g => ⟨by omega, by omega, ?_⟩⟩
    · simp only at g1; rw [hs, g1]; rfl
    · rw [hs]; simp only at g1; rw [g1]; simp
    · rw [hs]
      have : sees l x.Goal o = false := by
        cases e : sees l x.Goal o with
        | false => rfl
        | true => exact absurd (sees_ok e) g
      rw [this]; simp
  · rw [h1, List.take_of_length_le (by omega)]
theorem entries_spec {l : TLattice} (h : LatIn l) (t : TEvTrace) (o : Int) (hl : t.Log.length ≤ 1000000) : F_view_entries l t o = some (t.Log.filter fun v => sees l v.Goal o) := by
  unfold F_view_entries F_view_seen_api_ReEntry_ F_slices_Collect_api_ReEntry_
  simp only [Option.bind_some]
  rw [AppendSeq_re_spec h _ _ hl]
  rfl
end Go.Sx.O
namespace Go.Sx.O
open Go
theorem any_loop {α : Type} {l : List α} (p : α → Bool) {step : Int → Option (Int ⊕ ((Bool × Int) ⊕ Int))} {e : Int → Bool} {G : Option Int}
    (hG : G = (lpO step 0).bind (Sum.elim (fun _ => some (-1)) some))
    (h1 : ∀ (k : Nat) x, l[k]? = some x → k < l.length → step (k : Int) = if p x then some (.inr (.inr (k : Int))) else some (.inl ((k : Int) + 1)))
    (h2 : step (l.length : Int) = some (.inr (.inl (e l.length, (l.length : Int))))) : G.bind (fun x => some (decide (0 ≤ x))) = some (l.any p) := by
  rw [hG, find_loop (l := l) p (e := e) (fun k x hx => h1 k x hx (by
    rcases Nat.lt_or_ge k l.length with g | g
    · exact g
    · rw [List.getElem?_eq_none g] at hx; cases hx)) h2]
  cases h : l.findIdx? p with
  | none =>
    have := List.findIdx?_eq_none_iff.1 h
    simp only [Option.bind_some, Sum.elim_inl]
    have hn : l.any p = false := by rw [List.any_eq_false]; intro x hx; simp [this x hx]
    rw [hn]; rfl
  | some i =>
    obtain ⟨hi, hp, _⟩ := List.findIdx?_eq_some_iff_getElem.1 h
    have hy : l.any p = true := List.any_eq_true.2 ⟨_, List.getElem_mem hi, hp⟩
    simp [hy]
theorem ContainsFunc1 (l : List Int) (h : l.length ≤ 1000000000) : F_slices_ContainsFunc___int_int_ l = some (l.any fun x => decide (x < 0)) := by
  unfold F_slices_ContainsFunc___int_int_ F_slices_IndexFunc___int_int_
  refine any_loop (l := l) (fun x => decide (x < 0)) (e := fun i => decide (i < (l.length : Int))) rfl (fun k x hx hlt => ?_) (by simp)
  simp only [List.length_map, Int.ofNat_lt, hlt, decide_true, cond_true, idxO, Int.toNat_natCast, hx, Option.bind_some, letO, Int.natCast_nonneg, if_true, F_shapes_Check_1]
  rw [w64 (by omega) (by omega)]
  cases decide (x < 0) <;> rfl
theorem ContainsFunc2 (l : List Int) (h : l.length ≤ 1000000000) : F_slices_ContainsFunc___int_int__v1 l = some (l.any fun x => !decide (x = 0)) := by
  unfold F_slices_ContainsFunc___int_int__v1 F_slices_IndexFunc___int_int__v1
  refine any_loop (l := l) (fun x => !decide (x = 0)) (e := fun i => decide (i < (l.length : Int))) rfl (fun k x hx hlt => ?_) (by simp)
  simp only [List.length_map, Int.ofNat_lt, hlt, decide_true, cond_true, idxO, Int.toNat_natCast, hx, Option.bind_some, letO, Int.natCast_nonneg, if_true, F_shapes_Check_2]
  rw [w64 (by omega) (by omega)]
  cases decide (x = 0) <;> rfl
theorem ContainsFunc3 (l : List Int) (h : l.length ≤ 1000000000) : F_slices_ContainsFunc___int_int__v2 l = some (l.any fun x => decide (400 < x)) := by
  unfold F_slices_ContainsFunc___int_int__v2 F_slices_IndexFunc___int_int__v2
  refine any_loop (l := l) (fun x => decide (400 < x)) (e := fun i => decide (i < (l.length : Int))) rfl (fun k x hx hlt => ?_) (by simp)
  simp only [List.length_map, Int.ofNat_lt, hlt, decide_true, cond_true, idxO, Int.toNat_natCast, hx, Option.bind_some, letO, Int.natCast_nonneg, if_true, F_shapes_Check_3]
  rw [w64 (by omega) (by omega)]
  cases decide (400 < x) <;> rfl
theorem product_total (r : Int) (lens : Int × Int) : Tot (F_shapes_product r lens) fun _ => True := by
  unfold F_shapes_product
  simp only [tot_cond, tot_let, tot_some, implies_true, and_self]
theorem shapes_Check_total (r : Int) (lens : Int × Int) : Tot (F_shapes_Check r lens) fun _ => True := by
  unfold F_shapes_Check
  rw [tot_cond]; refine ⟨fun _ => .mk trivial, fun h0 => ?_⟩
  rw [tot_cond]; refine ⟨fun _ => .mk trivial, fun h2 => ?_⟩
  simp only [decide_eq_false_iff_not] at h0 h2
  rw [tot_side, tot_side, tot_bind, ContainsFunc1 _ (by simp; omega), tot_some, tot_cond]
  refine ⟨⟨by omega, by omega⟩, ⟨by omega, by omega⟩, fun _ => .mk trivial, fun _ => ?_⟩
  rw [tot_bind, ContainsFunc2 _ (by simp; omega), tot_some, tot_cond]
  refine ⟨fun _ => .mk trivial, fun _ => ?_⟩
  rw [tot_bind, ContainsFunc3 _ (by simp; omega), tot_some, tot_cond]
  refine ⟨fun _ => .mk trivial, fun _ => ?_⟩
  rw [tot_bind]
  refine (product_total _ _).mono fun _ _ => ?_
  rw [tot_cond]
  exact ⟨fun _ => .mk trivial, fun _ => .mk trivial⟩
theorem shapes_total (r : Int) (lens : Int × Int) : Tot (F_shapes_Cells r lens) fun _ => True := by
  unfold F_shapes_Cells
  rw [tot_bind]
  refine (shapes_Check_total _ _).mono fun _ _ => ?_
  rw [tot_cond]
  refine ⟨fun _ => .mk trivial, fun _ => ?_⟩
  rw [tot_bind]
  exact (product_total _ _).mono fun _ _ => .mk trivial
theorem ValidRune_total (x : Int) : Tot (F_unicode_utf8_ValidRune x) fun _ => True := by
  unfold F_unicode_utf8_ValidRune
  simp only [tot_cond, tot_some, implies_true, and_self]
theorem right_total (k c : Int) : Tot (F_arrays_right k c) fun _ => True := by
  unfold F_arrays_right
  simp only [tot_cond, tot_some, tot_let, tot_bind, implies_true, and_self, true_and, and_true]
  exact fun _ _ _ => (ValidRune_total _).mono fun _ _ => trivial
theorem ContainsFunc4 (l : List Int) (a : TArray) (h : l.length ≤ 1000000000) : Tot (F_slices_ContainsFunc___int64_int64_ l a) fun _ => True := by
  unfold F_slices_ContainsFunc___int64_int64_ F_slices_IndexFunc___int64_int64_
  simp only [tot_bind, tot_some, List.length_map]
  refine Tot.count l.length (fun k s => s = (k : Int)) ?_ rfl
  rintro k _ hk rfl
  simp only [tot_cond, tot_some, tot_let, tot_idx, tot_bind, Sum.elim_inl, Sum.elim_inr, decide_eq_true_eq, decide_eq_false_iff_not, Int.toNat_natCast]
  refine ⟨fun hlt => ?_, fun _ => trivial⟩
  obtain ⟨x, hx⟩ := get_lt (l := l) (i := k) (by omega)
  refine ⟨by omega, x, hx, ?_⟩
  unfold F_arrays_Check_1
  rw [tot_bind]
  refine (right_total _ _).mono fun b _ => ?_
  rw [tot_some]
  refine ⟨fun _ => trivial, fun _ => ?_⟩
  rw [w64 (by omega) (by omega)]
  exact ⟨by omega, by omega⟩
theorem arrays_Check_total (a : TArray) (h : a.Cells.length ≤ 1000000000) : Tot (F_arrays_Check a) fun _ => True := by
  unfold F_arrays_Check
  simp only [tot_cond, tot_some, tot_bind, implies_true, true_and]
  exact ⟨fun _ _ => (shapes_total _ _).mono fun _ _ _ _ => ContainsFunc4 _ _ h, fun _ => (shapes_total _ _).mono fun _ _ _ _ => ContainsFunc4 _ _ h⟩
theorem zip_loop {α β : Type} {l : List α} {m : List β} (n : Nat) (p : α → β → Bool) {τ : Type} {step : Int → Option (Int ⊕ ((Bool × Int) ⊕ τ))} {bad : Int → τ} {e : Bool × Int} {Q : (Bool × Int) ⊕ τ → Prop}
    (hn : n ≤ l.length) (hm : n ≤ m.length)
    (h1 : ∀ (k : Nat) x y, l[k]? = some x → m[k]? = some y → k < n → step (k : Int) = if p x y then some (.inl ((k : Int) + 1)) else some (.inr (.inr (bad k))))
    (h2 : step (n : Int) = some (.inr (.inl e)))
    (q1 : (∀ (k : Nat) x y, l[k]? = some x → m[k]? = some y → k < n → p x y = true) → Q (.inl e))
    (q2 : ∀ (k : Nat) x y, l[k]? = some x → m[k]? = some y → k < n → p x y = false → (∀ (j : Nat) x y, l[j]? = some x → m[j]? = some y → j < k → p x y = true) → Q (.inr (bad k))) : Tot (lpO step 0) Q := by
  refine Tot.count n (fun k s => s = (k : Int) ∧ ∀ (j : Nat) x y, l[j]? = some x → m[j]? = some y → j < k → p x y = true) ?_ ⟨rfl, fun j _ _ _ _ hj => absurd hj (by omega)⟩
  rintro k _ hk ⟨rfl, hall⟩
  rcases Nat.lt_or_ge k n with g | g
  · obtain ⟨x, hx⟩ := get_lt (l := l) (i := k) (by omega)
    obtain ⟨y, hy⟩ := get_lt (l := m) (i := k) (by omega)
    rw [h1 k x y hx hy g]
    cases e : p x y with
    | true =>
      simp only [if_true, tot_some, Sum.elim_inl]
      refine ⟨g, by omega, fun j x' y' hx' hy' hj => ?_⟩
      rcases Nat.lt_or_ge j k with g' | g'
      · exact hall j x' y' hx' hy' g'
      · have : j = k := by omega
        subst this
        rw [hx] at hx'; rw [hy] at hy'
        cases hx'; cases hy'; exact e
    | false =>
      simp only [Bool.false_eq_true, if_false, tot_some, Sum.elim_inr]
      exact q2 k x y hx hy g e hall
  · have : k = n := by omega
    subst this
    rw [h2]
    simp only [tot_some, Sum.elim_inr]
    exact q1 fun j x y hx hy hj => hall j x y hx hy hj
theorem eq_of_get {α : Type} : ∀ {l m : List α}, l.length = m.length → (∀ (k : Nat) x y, l[k]? = some x → m[k]? = some y → k < l.length → x = y) → l = m
  | [], [], _, _ => rfl
  | a :: l, b :: m, h, k => by
    have h0 := k 0 a b rfl rfl (by simp)
    subst h0
    rw [eq_of_get (l := l) (m := m) (by simpa using h) fun j x y hx hy hj => k (j + 1) x y (by simpa using hx) (by simpa using hy) (by simp; omega)]
  | [], _ :: _, h, _ => by simp at h
  | _ :: _, [], h, _ => by simp at h
theorem Equal_ints_spec (a b : List Int) (h : a.length ≤ 1000000000) : F_slices_Equal___int64_int64_ a b = some (decide (a = b)) := by
  unfold F_slices_Equal___int64_int64_
  apply Tot.eq
  simp only [List.length_map, tot_cond, tot_some, tot_bind, Bool.not_eq_true', Bool.not_eq_false', decide_eq_true_eq, decide_eq_false_iff_not]
  refine ⟨fun hne => ?_, fun heq => ?_⟩
  · have : a ≠ b := fun e => hne (by rw [e])
    simp [this]
  · have hl : a.length = b.length := by omega
    refine zip_loop (l := a) (m := b) a.length (fun x y => decide (x = y)) (bad := fun _ => false) (e := (decide ((a.length : Int) < a.length), (a.length : Int))) (Nat.le_refl _) (by omega) (fun k x y hx hy hk => ?_) (by simp) (fun hall => ?_) (fun k x y hx hy hk e _ => ?_)
    · simp only [Int.ofNat_lt, hk, decide_true, cond_true, idxO, Int.toNat_natCast, hx, hy, Option.bind_some, letO, Int.natCast_nonneg, if_true]
      rw [w64 (by omega) (by omega)]
      cases decide (x = y) <;> rfl
    · have : a = b := eq_of_get hl fun k x y hx hy hk => by simpa using hall k x y hx hy hk
      simp [this, tot_some]
    · have : a ≠ b := by
        rintro rfl
        rw [hx] at hy; cases hy
        simp at e
      simp [this, tot_some]
theorem sameArray_spec (a b : TArray) (h : a.Cells.length ≤ 1000000000) : Tot (F_view_sameArray a b) fun r => (r = true ↔ a = b) := by
  unfold F_view_sameArray
  obtain ⟨k1, r1, ⟨p1, q1⟩, c1⟩ := a
  obtain ⟨k2, r2, ⟨p2, q2⟩, c2⟩ := b
  rw [Equal_ints_spec _ _ h]
  simp only [tot_cond, tot_some, tot_bind, decide_eq_true_eq, decide_eq_false_iff_not, Bool.and_eq_true, Bool.and_eq_false_iff, and_true, TArray.mk.injEq, Prod.mk.injEq, Bool.false_eq_true, false_iff, not_and, Bool.true_eq_false, or_false]
  refine ⟨fun e1 => ⟨fun e2 => ⟨fun e3 => by simp [e1, e2, e3], fun e3 _ _ h4 h5 => ?_⟩, fun e2 _ h => absurd h e2⟩, fun e1 h => absurd h e1⟩
  rcases e3 with e3 | e3
  · exact absurd h4 (fun h => e3 h.1)
  · exact absurd h4 (fun h => e3 h.2)
end Go.Sx.O
namespace Go.Sx.O
open Go
theorem indexByte_none {l : List UInt8} {c : UInt8} (h : c ∉ l) : Lib.indexByte l c = -1 := by
  induction l with
  | nil => rfl
  | cons a l ih =>
    simp only [List.mem_cons, not_or] at h
    have : (a == c) = false := by simp; exact fun e => h.1 e.symm
    simp [Lib.indexByte, this, ih h.2]
theorem hi_enc {r : Int} (h0 : 128 ≤ r) (h1 : r < 256) : ∃ x y, (Utf8.encode r).data.toList = [x, y] ∧ 128 ≤ y.toNat := by
  refine ⟨UInt8.ofNat (0xC0 + r.toNat / 64), UInt8.ofNat (0x80 + r.toNat % 64), ?_, ?_⟩
  · have hv : Utf8.valid r = true := by unfold Utf8.valid; simp; omega
    unfold Utf8.encode
    simp only [hv, if_true]
    rw [if_neg (by omega), if_pos (by omega)]
  · rw [UInt8.toNat_ofNat']; omega
theorem IndexRune_total (s : List UInt8) (r : Int) (hs : ∀ c ∈ s, c.toNat < 128) (hl : s.length ≤ 1000) (h0 : 0 ≤ r) (h1 : r < 256) : Tot (F_strings_IndexRune s r) fun _ => True := by
  unfold F_strings_IndexRune
  have e0 : decide (0 ≤ r) = true := by simp [h0]
  simp only [e0, cond_true]
  rw [tot_cond]
  refine ⟨fun _ => ?_, fun h2 => ?_⟩
  · rw [tot_let, tot_bind]
    unfold F_strings_IndexByte F_internal_stringslite_IndexByte
    simp only [Option.bind_some, tot_some]
  · simp only [decide_eq_false_iff_not] at h2
    obtain ⟨x, y, exy, hy⟩ := hi_enc (r := r) (by omega) h1
    have e1 : decide (r = 65533) = false := by simp; omega
    simp only [e1, cond_false, exy]
    rw [tot_bind]
    refine (ValidRune_total r).mono fun v _ => ?_
    rw [tot_cond]
    refine ⟨fun _ => .mk trivial, fun _ => ?_⟩
    rw [tot_let]
    have e2 : IntKind.wrap .i64 (((List.length [x, y] : Nat) : Int) - 1) = 1 := rfl
    rw [e2, tot_bind]
    refine Tot.loop (fun _ => 0) (fun _ => True) (fun _ _ => ?_) trivial
    rw [tot_cond]
    refine ⟨fun h3 => ?_, fun _ => ?_⟩
    · simp only [decide_eq_true_eq] at h3
      obtain ⟨c, hc⟩ := get_lt (l := s) (i := 1) (by omega)
      have hc' := hs c (List.mem_of_getElem? hc)
      have e3 : (1 : Int).toNat = 1 := rfl
      simp only [tot_idx, e3]
      refine ⟨by omega, c, hc, by omega, y, rfl, ?_⟩
      have e4 : decide ((c.toNat : Int) = (y.toNat : Int)) = false := by simp; omega
      simp only [e4, Bool.not_false, cond_true]
      rw [tot_let]
      have e5 : IntKind.wrap .i64 (1 + 1) = 2 := rfl
      rw [e5, tot_side]
      refine ⟨by omega, ?_⟩
      simp only [tot_idx, e3]
      refine ⟨by omega, y, rfl, ?_⟩
      unfold F_strings_IndexByte F_internal_stringslite_IndexByte
      simp only [Option.bind_some]
      have hn : ((y.toNat : Int).toNat.toUInt8) = y := by simp
      rw [hn, indexByte_none (fun hm => by
        have := hs y (List.mem_of_mem_take (List.mem_of_mem_drop hm))
        omega)]
      have e6 : decide ((-1 : Int) < 0) = true := rfl
      simp only [e6, cond_true, tot_some, Sum.elim_inr]
    · simp only [tot_some, Sum.elim_inr, Sum.elim_inl]
theorem ContainsRune_total (s : List UInt8) (r : Int) (hs : ∀ c ∈ s, c.toNat < 128) (hl : s.length ≤ 1000) (h0 : 0 ≤ r) (h1 : r < 256) : Tot (F_strings_ContainsRune s r) fun _ => True := by
  unfold F_strings_ContainsRune
  rw [tot_bind]
  exact (IndexRune_total s r hs hl h0 h1).mono fun _ _ => .mk trivial
theorem wrap_i32 {r : Int} (h0 : 0 ≤ r) (h1 : r < 256) : IntKind.wrap .i32 r = r := by
  simp only [IntKind.wrap, IntKind.signed, IntKind.bits]
  have h3 : (2 : Int) ^ 32 = 4294967296 := by decide
  have h4 : (2 : Int) ^ (32 - 1) = 2147483648 := by decide
  simp only [h3, h4, Bool.true_and, decide_eq_true_eq, ge_iff_le]
  split <;> omega
theorem runes_is_total (r : Int) : Tot (F_runes_is r) fun _ => True := by
  unfold F_runes_is
  rw [tot_let, tot_let, tot_cond]
  refine ⟨fun _ => ?_, fun _ => .mk trivial⟩
  rw [tot_let, tot_bind]
  exact (ValidRune_total _).mono fun _ _ => .mk trivial
theorem class_loop {cs : List (List UInt8)} (hcs : cs.length = 10) (h : ∀ s ∈ cs, s.length ≤ 1000 ∧ ∀ c ∈ s, c.toNat < 128) (r : Int) (h0 : 0 ≤ r) (h1 : r < 256) {Q : (Bool × Int) ⊕ (Int × Int) → Prop} (hQ : ∀ x, Q x) :
    Tot (lpO (fun (s : Int) => cond (decide (s < 10)) (idxO cs s fun x => letO (IntKind.wrap IntKind.i32 r) fun y => Option.bind (F_strings_ContainsRune x y) fun z => cond z (some (Sum.inr (Sum.inr (s, (0 : Int))))) (letO (IntKind.wrap IntKind.i64 (s + 1)) fun u => some (Sum.inl u))) (some (Sum.inr (Sum.inl (decide (s < 10), s))))) 0) Q := by
  refine Tot.count 10 (fun k s => s = (k : Int)) ?_ rfl
  rintro k _ hk rfl
  simp only [tot_cond, tot_some, tot_let, tot_idx, tot_bind, Sum.elim_inl, Sum.elim_inr, decide_eq_true_eq, decide_eq_false_iff_not, Int.toNat_natCast]
  refine ⟨fun hlt => ?_, fun _ => hQ _⟩
  obtain ⟨x, hx⟩ := get_lt (l := cs) (i := k) (by omega)
  have hx' := h x (List.mem_of_getElem? hx)
  refine ⟨by omega, x, hx, ?_⟩
  rw [wrap_i32 h0 h1]
  refine (ContainsRune_total x r hx'.2 hx'.1 h0 h1).mono fun _ _ => ⟨fun _ => hQ _, fun _ => ?_⟩
  rw [w64 (by omega) (by omega)]
  exact ⟨by omega, by omega⟩
theorem Class_total (r : Int) (h0 : 0 ≤ r) (h1 : r < 256) : Tot (F_runes_Class r) fun _ => True := by
  unfold F_runes_Class F_runes_classes
  rw [tot_bind]
  refine (runes_is_total r).mono fun v _ => ?_
  simp only [Option.bind_some]
  have L := class_loop (cs := [[], [32], [10], [40, 91], [41, 93], [34], [], [45], [], [60, 61]]) rfl (by decide) r h0 h1 (Q := fun a => Tot (Sum.elim (fun _ => some ((10 : Int), (0 : Int))) some a) fun _ => True) (fun x => by cases x <;> exact .mk trivial)
  simp only [tot_cond, tot_some, implies_true, true_and, tot_bind]
  exact fun _ => ⟨fun _ _ => ⟨fun _ _ => L, fun _ => L⟩, fun _ => ⟨fun _ _ => L, fun _ => L⟩⟩
theorem prims_Find_total (s : List UInt8) : Tot (F_prims_Find s) fun _ => True := by
  unfold F_prims_Find
  simp only [tot_bind, tot_cond, tot_some, Sum.elim_inl, Sum.elim_inr, implies_true, and_self]
theorem byte_class (c : UInt8) : Tot (F_runes_Class (IntKind.wrap .i64 (c.toNat : Int))) fun _ => True := by
  have := c.toNat_lt
  rw [w64 (by omega) (by omega)]
  exact Class_total _ (by omega) (by omega)
theorem lexer_word_total (s : List UInt8) (h : s.length ≤ 1000000) : Tot (F_lexer_Check (TLxToken.mk 1 0 0 0 s)) fun _ => True := by
  unfold F_lexer_Check
  dsimp only
  have e1 : decide ((1 : Int) = 1) = true := rfl
  have e2 : decide ((1 : Int) < 1) = false := rfl
  have e3 : decide ((9 : Int) < 1) = false := rfl
  have e4 : decide ((0 : Int) = 0) = true := rfl
  have e5 : decide (s = s) = true := by simp
  simp only [e2, e3, decide_true, cond_true, cond_false, Option.bind_some, Sum.elim_inl, Bool.and_self, Bool.not_true]
  rw [tot_bind]
  have Q : ∀ x : Int ⊕ Int, Tot (Sum.elim (fun (n : Int) => cond (decide (n < (s.length : Int))) (some (3 : Int)) (some (0 : Int))) some x) fun _ => True := by
    intro x
    cases x with
    | inl n => simp only [Sum.elim_inl, tot_cond, tot_some, implies_true, and_self]
    | inr n => exact .mk trivial
  refine Tot.mono (Q := fun _ => True) ?_ fun x _ => Q x
  rw [tot_cond]
  refine ⟨fun _ => .mk trivial, fun h1 => ?_⟩
  simp only [decide_eq_false_iff_not] at h1
  obtain ⟨c, hc⟩ := get_lt (l := s) (i := 0) (by omega)
  have e0 : (0 : Int).toNat = 0 := rfl
  simp only [tot_idx, tot_let, tot_bind, e0]
  refine ⟨by omega, c, hc, (byte_class c).mono fun x _ => ?_⟩
  rw [tot_cond]
  refine ⟨fun _ => .mk trivial, fun _ => ?_⟩
  simp only [tot_idx, tot_let, tot_bind, e0]
  refine ⟨by omega, c, hc, (byte_class c).mono fun y _ => ?_⟩
  refine Tot.loop (fun (p : Int × Int) => s.length - p.2.toNat) (fun (p : Int × Int) => 0 ≤ p.2 ∧ p.2 ≤ (s.length : Int) ∧ (p.1 = 8 ∨ p.1 = 6 → p.2 < (s.length : Int))) ?_ ⟨by simp, by simp, fun _ => by simp only; omega⟩
  rintro ⟨k, a⟩ ⟨h2, h3, h4⟩
  simp only at h2 h3 h4
  have round : (k = 8 ∨ k = 6) → ∀ {Q : (Bool × Int × Int) ⊕ (Int ⊕ Int) → Prop}, Tot (letO (IntKind.wrap .i64 (a + 1)) fun (u : Int) => cond (decide ((s.length : Int) ≤ u)) (some (Sum.inl ((10 : Int), u))) (idxO s u fun (v : UInt8) => letO (IntKind.wrap .i64 (v.toNat : Int)) fun (z : Int) => Option.bind (F_runes_Class z) fun r => some (Sum.inl (r.1, u)))) (Sum.elim (fun (s' : Int × Int) => (0 ≤ s'.2 ∧ s'.2 ≤ (s.length : Int) ∧ (s'.1 = 8 ∨ s'.1 = 6 → s'.2 < (s.length : Int))) ∧ s.length - s'.2.toNat < s.length - a.toNat) Q) := by
    intro hk Q
    have hlt := h4 hk
    rw [tot_let, w64 (by omega) (by omega), tot_cond]
    refine ⟨fun g => ?_, fun g => ?_⟩
    · simp only [decide_eq_true_eq] at g
      simp only [tot_some, Sum.elim_inl]
      exact ⟨⟨by omega, by omega, fun e => by omega⟩, by omega⟩
    · simp only [decide_eq_false_iff_not] at g
      obtain ⟨d, hd⟩ := get_lt (l := s) (i := (a + 1).toNat) (by omega)
      simp only [tot_idx, tot_let, tot_bind]
      refine ⟨by omega, d, hd, (byte_class d).mono fun z _ => ?_⟩
      simp only [tot_some, Sum.elim_inl]
      exact ⟨⟨by omega, by omega, fun e => by omega⟩, by omega⟩
  rw [tot_cond]
  refine ⟨fun g => round (.inl (by simpa using g)), fun g => ?_⟩
  rw [tot_cond]
  refine ⟨fun g' => round (.inr (by simpa using g')), fun g' => ?_⟩
  simp only [tot_some, Sum.elim_inr, Sum.elim_inl, tot_side, tot_cond, implies_true, and_self, and_true]
  omega
theorem expr_Name_total (s : List UInt8) (h : s.length ≤ 1000000) : Tot (F_expr_Name s) fun _ => True := by
  unfold F_expr_Name
  simp only [tot_cond, tot_some, implies_true, true_and, tot_bind]
  intros
  exact (prims_Find_total s).mono fun _ _ _ => (lexer_word_total s h).mono fun _ _ => trivial
end Go.Sx.O
namespace Go.Sx.O
open Go
structure TraceIn (t : TEvTrace) : Prop where
  events : t.Events.length ≤ 60
  log : t.Log.length ≤ 60
  event : ∀ v ∈ t.Events, v.Channel.length ≤ 100 ∧ v.Value.Cells.length ≤ 450
theorem same_spec (a b : TEvEvent) (h : a.Value.Cells.length ≤ 450) : Tot (F_view_same a b) fun r => (r = true ↔ a = b) := by
  unfold F_view_same
  obtain ⟨k1, s1, p1, l1, c1, v1, e1⟩ := a
  obtain ⟨k2, s2, p2, l2, c2, v2, e2⟩ := b
  simp only [tot_cond, tot_some, tot_bind, decide_eq_true_eq, decide_eq_false_iff_not, TEvEvent.mk.injEq, Bool.false_eq_true, false_iff, not_and]
  refine ⟨fun h1 => ⟨fun h2 => ⟨fun h3 => ⟨fun h4 => ⟨fun h5 => ⟨fun h6 => ?_, fun h6 _ _ _ _ _ _ h => h6 h⟩, fun h5 _ _ _ _ h => absurd h h5⟩, fun h4 _ _ _ h => absurd h h4⟩, fun h3 _ _ h => absurd h h3⟩, fun h2 _ h => absurd h h2⟩, fun h1 h => absurd h h1⟩
  refine (sameArray_spec v1 v2 (by simp only at h; omega)).mono fun r hr => ?_
  rw [hr]
  simp [h1, h2, h3, h4, h5, h6]
theorem bad_total (l : TLattice) (v : TEvEvent) (least most : Int) (last : Bool) (h : v.Channel.length ≤ 100) (h2 : v.Value.Cells.length ≤ 450) : Tot (F_view_bad l v least most last) fun r => r = 0 → isLab l v.Label = true := by
  unfold F_view_bad
  rw [label_spec]
  rw [Option.bind_some, tot_cond]
  refine ⟨fun _ => .mk fun e => absurd e (by decide), fun hl => ?_⟩
  have hl' : isLab l v.Label = true := by cases e : isLab l v.Label <;> simp_all
  simp only [hl', implies_true]
  simp only [tot_cond, tot_some, tot_bind, implies_true, true_and, and_true]
  intros
  refine ⟨fun _ => ?_, fun _ _ => ?_⟩
  · exact (expr_Name_total _ (by omega)).mono fun _ _ _ => (arrays_Check_total _ (by omega)).mono fun _ _ => trivial
  · exact (sameArray_spec _ _ (by omega)).mono fun _ _ => trivial
noncomputable def trR (l : TLattice) (t : TEvTrace) : Int × Int := (F_view_Check l t).getD (0, 0)
theorem view_Check_total {l : TLattice} {t : TEvTrace} (hl : LatIn l) (ht : TraceIn t) : Tot (F_view_Check l t) fun r => r.2 = 0 → (latR l).2 = 0 ∧ ∀ v ∈ t.Events, isLab l v.Label = true := by
  unfold F_view_Check
  rw [Check_eq hl, Option.bind_some]
  simp only [List.length_map]
  rw [tot_cond]
  refine ⟨fun h => .mk fun e => by simp at h; exact absurd e h, fun h0 => ?_⟩
  have h0' : (latR l).2 = 0 := by simpa using h0
  rw [tot_cond]
  refine ⟨fun _ => .mk fun e => absurd e (by decide), fun h1 => ?_⟩
  rw [tot_let, tot_bind]
  have hev := ht.events
  refine Tot.count t.Events.length (fun k s => s.1 = (k : Int) ∧ ∀ v ∈ t.Events.take k, isLab l v.Label = true) ?_ ⟨rfl, by simp⟩
  rintro k ⟨i, least⟩ hk ⟨hi, hall⟩
  simp only at hi hall
  subst hi
  simp only [tot_cond, tot_some, tot_let, tot_idx, tot_bind, Sum.elim_inl, Sum.elim_inr, decide_eq_true_eq, decide_eq_false_iff_not, Int.toNat_natCast]
  refine ⟨fun hlt => ?_, fun hlt => ?_⟩
  · obtain ⟨v, hv⟩ := get_lt (l := t.Events) (i := k) (by omega)
    have hm := List.mem_of_getElem? hv
    refine ⟨by omega, v, hv, ?_⟩
    refine (bad_total l v least t.Steps _ (ht.event v hm).1 (ht.event v hm).2).mono fun x hx => ⟨fun hne e => ?_, fun heq => ?_⟩
    · simp at hne; exact absurd e hne
    · rw [w64 (by omega) (by omega)]
      refine ⟨by omega, by omega, fun u hu => ?_⟩
      rw [List.take_add_one, hv] at hu
      rcases List.mem_append.1 hu with hu | hu
      · exact hall u hu
      · simp at hu; subst hu; exact hx (by simpa using heq)
  · have hlog := ht.log
    rw [List.take_of_length_le (by omega)] at hall
    refine Tot.count t.Log.length (fun k s => s = (k : Int)) ?_ rfl
    rintro j _ hj rfl
    simp only [tot_cond, tot_some, tot_let, tot_idx, tot_bind, Sum.elim_inl, Sum.elim_inr, decide_eq_true_eq, decide_eq_false_iff_not, Int.toNat_natCast]
    refine ⟨fun hlt' => ?_, fun _ _ => ⟨h0', hall⟩⟩
    obtain ⟨x, hx⟩ := get_lt (l := t.Log) (i := j) (by omega)
    refine ⟨by omega, x, hx, ?_⟩
    rw [label_spec, tot_some]
    have step : (j < t.Log.length ∧ IntKind.wrap .i64 ((j : Int) + 1) = ((j + 1 : Nat) : Int)) := by
      rw [w64 (by omega) (by omega)]; exact ⟨by omega, by omega⟩
    refine ⟨fun _ e => absurd e (by decide), fun _ => ?_⟩
    rw [label_spec, tot_some]
    refine ⟨fun _ e => absurd e (by decide), fun _ => ⟨fun _ e => absurd e (by decide), fun _ => ⟨fun _ e => absurd e (by decide), fun _ => ⟨fun _ e => absurd e (by decide), fun _ => ⟨fun _ e => absurd e (by decide), fun _ => ⟨fun _ e => absurd e (by decide), fun _ => ⟨fun _ e => absurd e (by decide), fun _ => ⟨fun _ => ⟨fun _ e => absurd e (by decide), fun _ => step⟩, fun _ => step⟩⟩⟩⟩⟩⟩⟩⟩
theorem vCheck_eq {l : TLattice} {t : TEvTrace} (hl : LatIn l) (ht : TraceIn t) : F_view_Check l t = some (trR l t) := by
  obtain ⟨r, e, _⟩ := view_Check_total hl ht
  unfold trR; rw [e]; rfl
theorem tr_ok {l : TLattice} {t : TEvTrace} (hl : LatIn l) (ht : TraceIn t) (h : (trR l t).2 = 0) : (latR l).2 = 0 ∧ ∀ v ∈ t.Events, isLab l v.Label = true := by
  obtain ⟨r, e, q⟩ := view_Check_total hl ht
  have := vCheck_eq hl ht
  rw [e] at this; cases this
  exact q h
noncomputable def vask (l : TLattice) (o : Int) : List TEvTrace → Int
  | [] => if isLab l o then 0 else 7
  | t :: r => if (trR l t).2 = 0 then vask l o r else (trR l t).2
theorem vasked_spec {l : TLattice} (hl : LatIn l) (o : Int) (ts : List TEvTrace) (ht : ∀ t ∈ ts, TraceIn t) (hn : ts.length ≤ 3) : F_view_asked l o ts = some (vask l o ts) := by
  unfold F_view_asked
  apply Tot.eq
  simp only [tot_bind, List.length_map]
  refine Tot.count ts.length (fun k s => s = (k : Int) ∧ vask l o (ts.drop k) = vask l o ts) ?_ ⟨rfl, rfl⟩
  rintro k _ hk ⟨rfl, hv⟩
  simp only [tot_cond, tot_some, tot_let, tot_idx, tot_bind, Sum.elim_inl, Sum.elim_inr, decide_eq_true_eq, decide_eq_false_iff_not, Int.toNat_natCast]
  refine ⟨fun hlt => ?_, fun hlt => ?_⟩
  · obtain ⟨t, hx⟩ := get_lt (l := ts) (i := k) (by omega)
    refine ⟨by omega, t, hx, ?_⟩
    rw [vCheck_eq hl (ht t (List.mem_of_getElem? hx)), tot_some]
    have hd : ts.drop k = t :: ts.drop (k + 1) := by
      have hlt' : k < ts.length := by omega
      rw [List.drop_eq_getElem_cons hlt']
      congr 1
      rw [List.getElem?_eq_getElem hlt'] at hx; exact Option.some.inj hx
    rw [hd] at hv
    unfold vask at hv
    rw [w64 (by omega) (by omega)]
    by_cases h0 : (trR l t).2 = 0
    · rw [if_pos h0] at hv
      refine ⟨fun h => by simp [h0] at h, fun _ => ⟨by omega, by omega, ?_⟩⟩
      rw [hv]
      cases ts with
      | nil => simp at hx
      | cons a r => rfl
    · rw [if_neg h0] at hv
      refine ⟨fun _ => ?_, fun h => by simp [h0] at h⟩
      rw [hv]
      cases ts with
      | nil => simp at hx
      | cons a r => rfl
  · rw [label_spec, tot_some]
    rw [List.drop_of_length_le (by omega)] at hv
    have hv' : (if isLab l o then (0 : Int) else 7) = vask l o ts := hv
    cases e : isLab l o with
    | true =>
      rw [e] at hv'
      exact ⟨fun h => by simp at h, fun _ => by simpa using hv'⟩
    | false =>
      rw [e] at hv'
      exact ⟨fun _ => by simpa using hv', fun h => by simp at h⟩
end Go.Sx.O
namespace Go.Sx.O
open Go
theorem EqualFunc_spec (a b : List TEvEvent) (h : a.length ≤ 60) (hv : ∀ v ∈ a, v.Value.Cells.length ≤ 450) : Tot (F_slices_EqualFunc___api_EvEvent___api_EvEvent_api_EvEvent_api_EvEvent_ a b) fun r => (r = true ↔ a = b) := by
  unfold F_slices_EqualFunc___api_EvEvent___api_EvEvent_api_EvEvent_api_EvEvent_
  simp only [List.length_map, tot_cond, tot_some, tot_bind, Bool.not_eq_true', Bool.not_eq_false', decide_eq_true_eq, decide_eq_false_iff_not]
  refine ⟨fun hne => ?_, fun heq => ?_⟩
  · have : a ≠ b := fun e => hne (by rw [e])
    simp [this]
  · have hl : a.length = b.length := by omega
    open Classical in
    refine zip_loop (l := a) (m := b) a.length (fun x y => decide (x = y)) (bad := fun _ => false) (e := (decide ((a.length : Int) < a.length), (a.length : Int))) (Nat.le_refl _) (by omega) (fun k x y hx hy hk => ?_) (by simp) (fun hall => ?_) (fun k x y hx hy hk e _ => ?_)
    · obtain ⟨r, e, hr⟩ := same_spec x y (hv x (List.mem_of_getElem? hx))
      simp only [Int.ofNat_lt, hk, decide_true, cond_true, idxO, Int.toNat_natCast, hx, hy, Option.bind_some, letO, Int.natCast_nonneg, if_true, e]
      rw [w64 (by omega) (by omega)]
      by_cases hxy : x = y
      · have : r = true := hr.2 hxy
        simp [hxy, this]
      · have : r = false := by cases r <;> simp_all
        simp [hxy, this]
    · have : a = b := eq_of_get hl fun k x y hx hy hk => by simpa using hall k x y hx hy hk
      simp [this, tot_some]
    · have : a ≠ b := by
        rintro rfl
        rw [hx] at hy; cases hy
        simp at e
      simp [this, tot_some]
theorem differ_ev_spec (a b : List TEvEvent) (h : a.length ≤ 60) (hv : ∀ v ∈ a, v.Value.Cells.length ≤ 450) : Tot (F_view_differ_api_EvEvent_ a b) fun r => ((r = a.length ∧ r = b.length) ↔ a = b) := by
  unfold F_view_differ_api_EvEvent_
  simp only [List.length_map, tot_bind]
  have hmin : min (a.length : Int) (b.length : Int) = ((min a.length b.length : Nat) : Int) := by omega
  rw [hmin]
  open Classical in
  refine zip_loop (l := a) (m := b) (min a.length b.length) (fun x y => decide (x = y)) (bad := fun k => k) (e := (decide (((min a.length b.length : Nat) : Int) < ((min a.length b.length : Nat) : Int)), ((min a.length b.length : Nat) : Int))) (by omega) (by omega) (fun k x y hx hy hk => ?_) (by simp) (fun hall => ?_) (fun k x y hx hy hk e _ => ?_)
  · obtain ⟨r, e, hr⟩ := same_spec x y (hv x (List.mem_of_getElem? hx))
    simp only [Int.ofNat_lt, hk, decide_true, cond_true, idxO, Int.toNat_natCast, hx, hy, Option.bind_some, letO, Int.natCast_nonneg, if_true, e]
    rw [w64 (by omega) (by omega)]
    by_cases hxy : x = y
    · have : r = true := hr.2 hxy
      simp [hxy, this]
    · have : r = false := by cases r <;> simp_all
      simp [hxy, this]
  · simp only [Sum.elim_inl, tot_some]
    constructor
    · intro hh
      have hl : a.length = b.length := by omega
      exact eq_of_get hl fun k x y hx hy hk => by simpa using hall k x y hx hy (by omega)
    · rintro rfl; omega
  · simp only [Sum.elim_inr, tot_some]
    have hne : a ≠ b := by
      rintro rfl
      rw [hx] at hy; cases hy
      simp at e
    constructor
    · intro hh; omega
    · intro hh; exact absurd hh hne
def agreeP (a b : List TReEntry) : Prop := ∀ (k : Nat) x y, a[k]? = some x → b[k]? = some y → x.Value = y.Value
theorem agreeP.symm {a b : List TReEntry} (h : agreeP a b) : agreeP b a := fun k x y hx hy => (h k y x hy hx).symm
theorem agreeP.refl (a : List TReEntry) : agreeP a a := fun k x y hx hy => by rw [hx] at hy; cases hy; rfl
theorem differ_re_spec (a b : List TReEntry) (h : a.length ≤ 60) : Tot (F_view_differ_api_ReEntry_ a b) fun r => (r = min (a.length : Int) (b.length : Int) ↔ agreeP a b) := by
  unfold F_view_differ_api_ReEntry_
  simp only [List.length_map, tot_bind]
  have hmin : min (a.length : Int) (b.length : Int) = ((min a.length b.length : Nat) : Int) := by omega
  rw [hmin]
  refine zip_loop (l := a) (m := b) (min a.length b.length) (fun x y => decide (x.Value = y.Value)) (bad := fun k => k) (e := (decide (((min a.length b.length : Nat) : Int) < ((min a.length b.length : Nat) : Int)), ((min a.length b.length : Nat) : Int))) (by omega) (by omega) (fun k x y hx hy hk => ?_) (by simp) (fun hall => ?_) (fun k x y hx hy hk e _ => ?_)
  · have e : F_view_Agree_1 x y = some (decide (x.Value = y.Value)) := by
      unfold F_view_Agree_1
      congr 1
      obtain ⟨⟩ := x
      obtain ⟨⟩ := y
      rw [Bool.eq_iff_iff]
      simp [Prod.ext_iff]
    simp only [Int.ofNat_lt, hk, decide_true, cond_true, idxO, Int.toNat_natCast, hx, hy, Option.bind_some, letO, Int.natCast_nonneg, if_true, e]
    rw [w64 (by omega) (by omega)]
    cases decide (x.Value = y.Value) <;> rfl
  · simp only [Sum.elim_inl, tot_some, true_iff]
    intro k x y hx hy
    have h1 : k < a.length := by
      rcases Nat.lt_or_ge k a.length with g | g
      · exact g
      · rw [List.getElem?_eq_none g] at hx; cases hx
    have h2 : k < b.length := by
      rcases Nat.lt_or_ge k b.length with g | g
      · exact g
      · rw [List.getElem?_eq_none g] at hy; cases hy
    simpa using hall k x y hx hy (by omega)
  · simp only [Sum.elim_inr, tot_some]
    constructor
    · intro hh; omega
    · intro hh
      have := hh k x y hx hy
      simp [this] at e
noncomputable def seenE (l : TLattice) (t : TEvTrace) (o : Int) : List TEvEvent := t.Events.filter fun v => sees l v.Label o
noncomputable def seenL (l : TLattice) (t : TEvTrace) (o : Int) : List TReEntry := t.Log.filter fun v => sees l v.Goal o
theorem seenE_len {l : TLattice} {t : TEvTrace} {o : Int} (ht : TraceIn t) : (seenE l t o).length ≤ 60 := Nat.le_trans (List.length_filter_le _ _) ht.events
theorem seenL_len {l : TLattice} {t : TEvTrace} {o : Int} (ht : TraceIn t) : (seenL l t o).length ≤ 60 := Nat.le_trans (List.length_filter_le _ _) ht.log
theorem seenE_val {l : TLattice} {t : TEvTrace} {o : Int} (ht : TraceIn t) : ∀ v ∈ seenE l t o, v.Value.Cells.length ≤ 450 := fun v hv => (ht.event v (List.mem_filter.1 hv).1).2
theorem Events_spec {l : TLattice} {t : TEvTrace} (hl : LatIn l) (ht : TraceIn t) (o : Int) : F_view_Events l t o = some (if vask l o [t] = 0 then seenE l t o else [], vask l o [t]) := by
  unfold F_view_Events
  rw [vasked_spec hl o [t] (by simpa using ht) (by simp), Option.bind_some]
  by_cases h : vask l o [t] = 0
  · rw [events_spec hl t o (by have := ht.events; omega)]
    simp [h, seenE]
  · simp [h]
theorem Alike_spec {l : TLattice} {a b : TEvTrace} (hl : LatIn l) (ha : TraceIn a) (hb : TraceIn b) (o : Int) : Tot (F_view_Alike l a b o) fun r => r.2 = vask l o [a, b] ∧ (r.2 = 0 → (r.1 = true ↔ seenE l a o = seenE l b o)) := by
  unfold F_view_Alike
  rw [vasked_spec hl o [a, b] (by intro t ht; simp at ht; rcases ht with rfl | rfl <;> assumption) (by simp), Option.bind_some, tot_cond]
  refine ⟨fun h => .mk ⟨rfl, fun e => ?_⟩, fun h => ?_⟩
  · simp at h; exact absurd e h
  · rw [events_spec hl a o (by have := ha.events; omega), events_spec hl b o (by have := hb.events; omega), Option.bind_some, Option.bind_some, tot_bind]
    refine (EqualFunc_spec (seenE l a o) (seenE l b o) (seenE_len ha) (seenE_val ha)).mono fun r hr => .mk ⟨?_, fun _ => hr⟩
    simp at h; exact h.symm
theorem Agree_spec {l : TLattice} {a b : TEvTrace} (hl : LatIn l) (ha : TraceIn a) (hb : TraceIn b) (o : Int) : Tot (F_view_Agree l a b o) fun r => r.2 = vask l o [a, b] ∧ (r.2 = 0 → (r.1 = true ↔ agreeP (seenL l a o) (seenL l b o))) := by
  unfold F_view_Agree
  rw [vasked_spec hl o [a, b] (by intro t ht; simp at ht; rcases ht with rfl | rfl <;> assumption) (by simp), Option.bind_some, tot_cond]
  refine ⟨fun h => .mk ⟨rfl, fun e => ?_⟩, fun h => ?_⟩
  · simp at h; exact absurd e h
  · rw [entries_spec hl a o (by have := ha.log; omega), entries_spec hl b o (by have := hb.log; omega), Option.bind_some, Option.bind_some, tot_bind]
    refine (differ_re_spec (seenL l a o) (seenL l b o) (seenL_len ha)).mono fun r hr => .mk ⟨?_, fun _ => ?_⟩
    · simp at h; exact h.symm
    · simp only [List.length_map, decide_eq_true_eq]
      exact hr
theorem Differ_spec {l : TLattice} {a b : TEvTrace} (hl : LatIn l) (ha : TraceIn a) (hb : TraceIn b) (o : Int) : Tot (F_view_Differ l a b o) fun r => r.2 = vask l o [a, b] ∧ (r.2 = 0 → ((r.1 = (seenE l a o).length ∧ r.1 = (seenE l b o).length) ↔ seenE l a o = seenE l b o)) := by
  unfold F_view_Differ
  rw [vasked_spec hl o [a, b] (by intro t ht; simp at ht; rcases ht with rfl | rfl <;> assumption) (by simp), Option.bind_some, tot_cond]
  refine ⟨fun h => .mk ⟨rfl, fun e => ?_⟩, fun h => ?_⟩
  · simp at h; exact absurd e h
  · rw [events_spec hl a o (by have := ha.events; omega), events_spec hl b o (by have := hb.events; omega), Option.bind_some, Option.bind_some, tot_bind]
    refine (differ_ev_spec (seenE l a o) (seenE l b o) (seenE_len ha) (seenE_val ha)).mono fun r hr => .mk ⟨?_, fun _ => hr⟩
    simp at h; exact h.symm
theorem vask_nil {l : TLattice} {o : Int} {ts : List TEvTrace} : vask l o ts = 0 ↔ isLab l o = true ∧ ∀ t ∈ ts, (trR l t).2 = 0 := by
  induction ts with
  | nil => unfold vask; cases isLab l o <;> simp
  | cons t r ih =>
    unfold vask
    by_cases h : (trR l t).2 = 0
    · simp [h, ih]
    · simp [h]
end Go.Sx.O
namespace Go.Sx.O
open Go
theorem ViewEqual_law (l : TLattice) (t : TEvTrace × TEvTrace × TEvTrace) (o : Int) (hu : U8s l.Up) : F_invigilatorlaw31_ViewEqual l t o = some true := by
  obtain ⟨a, b, c⟩ := t
  unfold F_invigilatorlaw31_ViewEqual
  obtain ⟨x0, e0, hl0⟩ := Large_spec l
  obtain ⟨xa, ea, ha0⟩ := far_spec a
  obtain ⟨xb, eb, hb0⟩ := far_spec b
  obtain ⟨xc, ec, hc0⟩ := far_spec c
  simp only [e0, ea, eb, ec, Option.bind_some]
  cases x0 with
  | true => rfl
  | false =>
  cases xa with
  | true => rfl
  | false =>
  cases xb with
  | true => rfl
  | false =>
  cases xc with
  | true => rfl
  | false =>
  simp only [cond_false]
  obtain ⟨n1, n2, n3⟩ := hl0 rfl
  have hl : LatIn l := ⟨hu, n1, n3⟩
  obtain ⟨p1, p2, p3⟩ := ha0 rfl
  have ha : TraceIn a := ⟨p1, p2, p3⟩
  obtain ⟨p1, p2, p3⟩ := hb0 rfl
  have hb : TraceIn b := ⟨p1, p2, p3⟩
  obtain ⟨p1, p2, p3⟩ := hc0 rfl
  have hc : TraceIn c := ⟨p1, p2, p3⟩
  obtain ⟨ab, eab, hab, kab⟩ := Alike_spec hl ha hb o
  obtain ⟨bc, ebc, hbc, kbc⟩ := Alike_spec hl hb hc o
  obtain ⟨ac, eac, hac, kac⟩ := Alike_spec hl ha hc o
  obtain ⟨ba, eba, hba, kba⟩ := Alike_spec hl hb ha o
  obtain ⟨aa, eaa, haa, kaa⟩ := Alike_spec hl ha ha o
  obtain ⟨x, ex, hx, kx⟩ := Agree_spec hl ha hb o
  obtain ⟨y, ey, hy, ky⟩ := Agree_spec hl hb ha o
  obtain ⟨z, ez, hz, kz⟩ := Agree_spec hl ha ha o
  obtain ⟨n, en, hn, kn⟩ := Differ_spec hl ha hb o
  have ep := Events_spec hl ha o
  have eq := Events_spec hl hb o
  simp only [eab, ebc, eac, eba, eaa, ex, ey, ez, en, ep, eq, Option.bind_some]
  by_cases g1 : ab.2 = 0
  case neg => simp [g1]
  by_cases g2 : bc.2 = 0
  case neg => simp [g1, g2]
  have v1 := vask_nil.1 (hab ▸ g1)
  have v2 := vask_nil.1 (hbc ▸ g2)
  have qo := v1.1
  have qa := v1.2 a (by simp)
  have qb := v1.2 b (by simp)
  have qc := v2.2 c (by simp)
  have w : ∀ ts, (∀ t ∈ ts, t = a ∨ t = b ∨ t = c) → vask l o ts = 0 := fun ts h => vask_nil.2 ⟨qo, fun t ht => by rcases h t ht with rfl | rfl | rfl <;> assumption⟩
  have z1 := kab g1
  have z2 := kbc g2
  have g3 : ac.2 = 0 := hac.trans (w _ (by simp))
  have g4 : ba.2 = 0 := hba.trans (w _ (by simp))
  have g5 : aa.2 = 0 := haa.trans (w _ (by simp))
  have g6 : x.2 = 0 := hx.trans (w _ (by simp))
  have g7 : y.2 = 0 := hy.trans (w _ (by simp))
  have g8 : z.2 = 0 := hz.trans (w _ (by simp))
  have g9 : n.2 = 0 := hn.trans (w _ (by simp))
  have z3 := kac g3
  have z4 := kba g4
  have z5 := kaa g5
  have z6 := kx g6
  have z7 := ky g7
  have z8 := kz g8
  have z9 := kn g9
  have u1 : vask l o [a] = 0 := w _ (by simp)
  have u2 : vask l o [b] = 0 := w _ (by simp)
  have f5 : aa.1 = true := z5.2 rfl
  have f4 : ba.1 = ab.1 := Bool.eq_iff_iff.2 (z4.trans ⟨fun h => z1.2 h.symm, fun h => (z1.1 h).symm⟩)
  have f7 : y.1 = x.1 := Bool.eq_iff_iff.2 (z7.trans ⟨fun h => z6.2 h.symm, fun h => (z6.1 h).symm⟩)
  have f8 : z.1 = true := z8.2 (agreeP.refl _)
  simp only [g1, g2, g3, g4, g5, g6, g7, g8, g9, u1, u2, f4, f5, f7, f8, decide_true, Bool.not_true, cond_false, cond_true, if_true, List.length_map, beq_self_eq_true]
  have fin : cond (decide (n.1 = ((seenE l a o).length : Int))) (cond (ab.1 == decide (n.1 = ((seenE l b o).length : Int))) (some true) (some false)) (cond (!ab.1) (some true) (some false)) = some true := by
    by_cases h1 : n.1 = ((seenE l a o).length : Int)
    · by_cases h2 : n.1 = ((seenE l b o).length : Int)
      · have : ab.1 = true := z1.2 (z9.1 ⟨h1, h2⟩)
        simp [h1, this, ← h2]
      · have : ab.1 = false := by
          cases e : ab.1 with
          | false => rfl
          | true => exact absurd (z9.2 (z1.1 e)).2 h2
        simp only [h1, decide_true, cond_true, this]
        have h3 : ¬ ((seenE l a o).length : Int) = ((seenE l b o).length : Int) := fun e => h2 (h1.trans e)
        simp [h3]
    · have : ab.1 = false := by
        cases e : ab.1 with
        | false => rfl
        | true => exact absurd (z9.2 (z1.1 e)).1 h1
      simp [h1, this]
  simp only [fin]
  cases e1 : ab.1 with
  | false => simp
  | true =>
    cases e2 : bc.1 with
    | false => simp
    | true =>
      have : ac.1 = true := z3.2 ((z1.1 e1).trans (z2.1 e2))
      simp [this]
end Go.Sx.O
