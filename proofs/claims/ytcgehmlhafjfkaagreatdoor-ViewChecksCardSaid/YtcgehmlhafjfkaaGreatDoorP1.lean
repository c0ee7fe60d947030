/-
  THE PLAIN STRUCT TYPES, and their symbolic values. Printed by a program. An own text.
  WHAT THE LIBRARY's BODILESS FUNCTIONS RETURN. An own text.
  DATA AS THEY COME: numbers in their kinds' ranges. Printed by a program. An own text.
  PLAIN FUNCTIONS: what the program computes. Printed by a program. An own text.
  PLAIN LAWS of the library's functions and of words, lattice. An own text.
  PLAIN LAWS: slices.Index, strings.Trim, words.Name. An own text.
  PLAIN LAWS: strings.Trim over ASCII, words.Name. An own text.
  PLAIN LAWS: bits; lattice.named, .of, .bound. An own text.
  PLAIN LAWS: lattice.of, .bound, .Check, .Leq. An own text.
  PLAIN LAWS: lattice.Leq; what an observer sees. An own text.
  PLAIN LAWS: shapes, arrays; arrays and events that are the same. An own text.
  PLAIN LAWS: expr.Name returns. An own text.
  PLAIN LAWS: view. An own text.
  PLAIN LAWS: view's functions. An own text.
-/
import Derived.Test.YtcgehmlhafjfkaaGreatDoorA5
import Derived.Lib.Bytealg
namespace Go.Sx.O
structure Tlexer_reader where
  s_ : List UInt8
  at_ : Int
def enc_Tlexer_reader (x : Tlexer_reader) : SV := .agg [SV.str x.s_, (SV.int .i64) x.at_]
structure TLattice where
  Names : List (List UInt8)
  Up : List (Int)
def enc_TLattice (x : TLattice) : SV := .agg [(encSl 1 SV.str) x.Names, (encSl 1 (SV.int .u8)) x.Up]
structure TLxToken where
  Kind : Int
  From : Int
  To : Int
  N : Int
  S : List UInt8
def enc_TLxToken (x : TLxToken) : SV := .agg [(SV.int .i64) x.Kind, (SV.int .i64) x.From, (SV.int .i64) x.To, (SV.int .i64) x.N, SV.str x.S]
structure Tlattice_order where
  n_ : Int
  up_ : List (Int)
  down_ : List (Int)
def enc_Tlattice_order (x : Tlattice_order) : SV := .agg [(SV.int .i64) x.n_, (encA 8 1 (SV.int .u8)) x.up_, (encA 8 1 (SV.int .u8)) x.down_]
structure TArray where
  Kind : Int
  Rank : Int
  Lens : (Int) × (Int)
  Cells : List (Int)
def enc_TArray (x : TArray) : SV := .agg [(SV.int .i64) x.Kind, (SV.int .i64) x.Rank, (encA2 1 (SV.int .i64)) x.Lens, (encSl 1 (SV.int .i64)) x.Cells]
structure TWsVar where
  Name : List UInt8
  Value : TArray
def enc_TWsVar (x : TWsVar) : SV := .agg [SV.str x.Name, enc_TArray x.Value]
structure TReEntry where
  Site : Int
  Fold : Int
  From : Int
  Goal : Int
  Cells : Int
  Value : (Int) × (Int)
def enc_TReEntry (x : TReEntry) : SV := .agg [(SV.int .i64) x.Site, (SV.int .i64) x.Fold, (SV.int .i64) x.From, (SV.int .i64) x.Goal, (SV.int .i64) x.Cells, (encA2 1 (SV.int .i64)) x.Value]
structure TEvEvent where
  Kind : Int
  Site : Int
  Steps : Int
  Label : Int
  Channel : List UInt8
  Value : TArray
  E : Int
def enc_TEvEvent (x : TEvEvent) : SV := .agg [(SV.int .i64) x.Kind, (SV.int .i64) x.Site, (SV.int .i64) x.Steps, (SV.int .i64) x.Label, SV.str x.Channel, enc_TArray x.Value, (SV.int .i64) x.E]
structure TEvTrace where
  Events : List (TEvEvent)
  Log : List (TReEntry)
  Vars : List (TWsVar)
  Steps : Int
def enc_TEvTrace (x : TEvTrace) : SV := .agg [(encSl 11 enc_TEvEvent) x.Events, (encSl 7 enc_TReEntry) x.Log, (encSl 6 enc_TWsVar) x.Vars, (SV.int .i64) x.Steps]
end Go.Sx.O
namespace Go.Sx.O
noncomputable def F_internal_stringslite_IndexByte (a0 : List UInt8) (a1 : Int) : Option Int := some (Go.Lib.indexByte a0 a1.toNat.toUInt8)
end Go.Sx.O
namespace Go.Sx.O
open Go
def inK (k : IntKind) (n : Int) : Prop := k.min ≤ n ∧ n ≤ k.max
def allW {α : Type} (W : α → Prop) (l : List α) : Prop := ∀ x ∈ l, W x
def w2 {α : Type} (W : α → Prop) (p : α × α) : Prop := W p.1 ∧ W p.2
def w3 {α : Type} (W : α → Prop) (p : α × α × α) : Prop := W p.1 ∧ W p.2.1 ∧ W p.2.2
def wN {α : Type} (n : Nat) (W : α → Prop) (l : List α) : Prop := l.length = n ∧ ∀ x ∈ l, W x
structure W_Tlexer_reader (x : Tlexer_reader) : Prop where
  s_ : (fun _ => True) x.s_
  at_ : (inK .i64) x.at_
structure W_TLattice (x : TLattice) : Prop where
  Names : (allW (fun _ => True)) x.Names
  Up : (allW (inK .u8)) x.Up
structure W_TLxToken (x : TLxToken) : Prop where
  Kind : (inK .i64) x.Kind
  From : (inK .i64) x.From
  To : (inK .i64) x.To
  N : (inK .i64) x.N
  S : (fun _ => True) x.S
structure W_Tlattice_order (x : Tlattice_order) : Prop where
  n_ : (inK .i64) x.n_
  up_ : (wN 8 (inK .u8)) x.up_
  down_ : (wN 8 (inK .u8)) x.down_
structure W_TArray (x : TArray) : Prop where
  Kind : (inK .i64) x.Kind
  Rank : (inK .i64) x.Rank
  Lens : (w2 (inK .i64)) x.Lens
  Cells : (allW (inK .i64)) x.Cells
structure W_TWsVar (x : TWsVar) : Prop where
  Name : (fun _ => True) x.Name
  Value : W_TArray x.Value
structure W_TReEntry (x : TReEntry) : Prop where
  Site : (inK .i64) x.Site
  Fold : (inK .i64) x.Fold
  From : (inK .i64) x.From
  Goal : (inK .i64) x.Goal
  Cells : (inK .i64) x.Cells
  Value : (w2 (inK .i64)) x.Value
structure W_TEvEvent (x : TEvEvent) : Prop where
  Kind : (inK .i64) x.Kind
  Site : (inK .i64) x.Site
  Steps : (inK .i64) x.Steps
  Label : (inK .i64) x.Label
  Channel : (fun _ => True) x.Channel
  Value : W_TArray x.Value
  E : (inK .i64) x.E
structure W_TEvTrace (x : TEvTrace) : Prop where
  Events : (allW W_TEvEvent) x.Events
  Log : (allW W_TReEntry) x.Log
  Vars : (allW W_TWsVar) x.Vars
  Steps : (inK .i64) x.Steps
end Go.Sx.O
namespace Go.Sx.O
noncomputable def F_invigilatorlaw20_Large (a0 : TLattice) : Option (Bool) :=
 Option.bind (
  lpO (fun (s3 : Int) =>
  cond (decide (s3 < (↑(List.length (List.map SV.str a0.Names)) : Int)))
  (cond (decide (s3 < 30))
  (idxO (a0.Names) (s3) fun x9 =>
  cond (decide (50 < (↑(List.length x9) : Int)))
  (some (Sum.inr (Sum.inr (true))))
  (letO (IntKind.wrap IntKind.i64 (s3 + 1)) fun x11 =>
  some (Sum.inl (x11))))
  (some (Sum.inr (Sum.inl (())))))
  (some (Sum.inr (Sum.inl (()))))) (0))
  (Sum.elim (fun (s1 : Unit) =>
  cond (decide (20 < (↑(List.length (List.map SV.str a0.Names)) : Int)))
  (some (true))
  (some (decide (20 < (↑(List.length (List.map (SV.int IntKind.u8) a0.Up)) : Int))))) some)
noncomputable def F_invigilatorlaw31_far (a0 : TEvTrace) : Option (Bool) :=
 Option.bind (
  lpO (fun (s17 : Int) =>
  cond (decide (s17 < (↑(List.length (List.map enc_TEvEvent a0.Events)) : Int)))
  (cond (decide (s17 < 70))
  (idxO (a0.Events) (s17) fun x25 =>
  cond (decide (100 < (↑(List.length x25.Channel) : Int)))
  (some (Sum.inr (Sum.inr (true))))
  (idxO (a0.Events) (s17) fun x27 =>
  cond (decide (450 < (↑(List.length (List.map (SV.int IntKind.i64) x27.Value.Cells)) : Int)))
  (some (Sum.inr (Sum.inr (true))))
  (letO (IntKind.wrap IntKind.i64 (s17 + 1)) fun x29 =>
  some (Sum.inl (x29)))))
  (some (Sum.inr (Sum.inl (())))))
  (some (Sum.inr (Sum.inl (()))))) (0))
  (Sum.elim (fun (s15 : Unit) =>
  cond (decide (60 < (↑(List.length (List.map enc_TEvEvent a0.Events)) : Int)))
  (some (true))
  (some (decide (60 < (↑(List.length (List.map enc_TReEntry a0.Log)) : Int))))) some)
noncomputable def F_strings_trimRightByte (a0 : List UInt8) (a1 : Int) : Option (List UInt8) :=
 Option.bind (
  lpO (fun (s53 : List UInt8) =>
  cond (decide (0 < (↑(List.length s53) : Int)))
  (letO (IntKind.wrap IntKind.i64 ((↑(List.length s53) : Int) - 1)) fun x60 =>
  idxO (s53) (x60) fun x61 =>
  cond (decide ((↑(UInt8.toNat x61) : Int) = a1))
  (letO (IntKind.wrap IntKind.i64 ((↑(List.length s53) : Int) - 1)) fun x63 =>
  sideO ((0 : Int) ≤ x63 ∧ x63 ≤ (↑(List.length s53) : Int)) (
  some (Sum.inl (List.drop (Int.toNat 0) (List.take (Int.toNat x63) s53)))))
  (some (Sum.inr (Sum.inl (s53)))))
  (some (Sum.inr (Sum.inl (s53))))) (a0))
  (Sum.elim (fun (s51 : List UInt8) =>
  some (s51)) some)
noncomputable def F_strings_trimLeftByte (a0 : List UInt8) (a1 : Int) : Option (List UInt8) :=
 Option.bind (
  lpO (fun (s68 : List UInt8) =>
  cond (decide (0 < (↑(List.length s68) : Int)))
  (idxO (s68) (0) fun x73 =>
  cond (decide ((↑(UInt8.toNat x73) : Int) = a1))
  (sideO ((0 : Int) ≤ (1 : Int) ∧ (1 : Int) ≤ (↑(List.length s68) : Int)) (
  some (Sum.inl (List.drop (Int.toNat 1) (List.take (Int.toNat (↑(List.length s68) : Int)) s68)))))
  (some (Sum.inr (Sum.inl (s68)))))
  (some (Sum.inr (Sum.inl (s68))))) (a0))
  (Sum.elim (fun (s66 : List UInt8) =>
  some (s66)) some)
noncomputable def F_strings_makeASCIISet (a0 : List UInt8) : Option (List Bool × Bool) :=
 Option.bind (
  lpO (fun (s78 : Int × List Bool) =>
  cond (decide (s78.fst < (↑(List.length a0) : Int)))
  (idxO (a0) (s78.fst) fun x84 =>
  cond (decide (128 ≤ (↑(UInt8.toNat x84) : Int)))
  (some (Sum.inr (Sum.inr ((s78.snd, false)))))
  (sideO ((0 : Int) ≤ (↑(UInt8.toNat x84) : Int) ∧ (↑(UInt8.toNat x84) : Int) < (↑(256 : Nat) : Int)) (
  idxO (s78.snd) ((↑(Int.toNat (↑(UInt8.toNat x84) : Int)) : Int)) fun x86 =>
  letO (IntKind.wrap IntKind.i64 (s78.fst + 1)) fun x87 =>
  some (Sum.inl ((x87, List.set s78.snd (Int.toNat (↑(UInt8.toNat x84) : Int)) true))))))
  (some (Sum.inr (Sum.inl (s78.snd))))) ((0, List.replicate 256 false)))
  (Sum.elim (fun (s76 : List Bool) =>
  some ((s76, true))) some)
noncomputable def F__Pstrings_asciiSet__contains (a0 : List Bool) (a1 : Int) : Option (Bool) :=
 sideO ((0 : Int) ≤ a1 ∧ a1 < (↑(256 : Nat) : Int)) (
  idxO (a0) ((↑(Int.toNat a1) : Int)) fun x95 =>
  some (x95))
noncomputable def F_strings_trimRightASCII (a0 : List UInt8) (a1 : List Bool) : Option (List UInt8) :=
 Option.bind (
  lpO (fun (s92 : List UInt8) =>
  cond (decide (0 < (↑(List.length s92) : Int)))
  (letO (IntKind.wrap IntKind.i64 ((↑(List.length s92) : Int) - 1)) fun x100 =>
  idxO (s92) (x100) fun x101 =>
  Option.bind (F__Pstrings_asciiSet__contains (a1) ((↑(UInt8.toNat x101) : Int))) fun x102 =>
  cond (!x102)
  (some (Sum.inr (Sum.inl (s92))))
  (letO (IntKind.wrap IntKind.i64 ((↑(List.length s92) : Int) - 1)) fun x104 =>
  sideO ((0 : Int) ≤ x104 ∧ x104 ≤ (↑(List.length s92) : Int)) (
  some (Sum.inl (List.drop (Int.toNat 0) (List.take (Int.toNat x104) s92))))))
  (some (Sum.inr (Sum.inl (s92))))) (a0))
  (Sum.elim (fun (s90 : List UInt8) =>
  some (s90)) some)
noncomputable def F_strings_trimLeftASCII (a0 : List UInt8) (a1 : List Bool) : Option (List UInt8) :=
 Option.bind (
  lpO (fun (s108 : List UInt8) =>
  cond (decide (0 < (↑(List.length s108) : Int)))
  (idxO (s108) (0) fun x114 =>
  Option.bind (F__Pstrings_asciiSet__contains (a1) ((↑(UInt8.toNat x114) : Int))) fun x115 =>
  cond (!x115)
  (some (Sum.inr (Sum.inl (s108))))
  (sideO ((0 : Int) ≤ (1 : Int) ∧ (1 : Int) ≤ (↑(List.length s108) : Int)) (
  some (Sum.inl (List.drop (Int.toNat 1) (List.take (Int.toNat (↑(List.length s108) : Int)) s108))))))
  (some (Sum.inr (Sum.inl (s108))))) (a0))
  (Sum.elim (fun (s106 : List UInt8) =>
  some (s106)) some)
noncomputable def F_unicode_utf8_RuneStart (a0 : Int) : Option (Bool) :=
 some (!decide (bits BinOp.and IntKind.u8 a0 192 = 128))
noncomputable def F_unicode_utf8_decodeRuneInStringSlow (a0 : List UInt8) : Option (Int × Int) :=
 cond (decide ((↑(List.length a0) : Int) < 1))
  (some ((65533, 0)))
  (idxO (a0) (0) fun x152 =>
  none)
noncomputable def F_unicode_utf8_DecodeRuneInString (a0 : List UInt8) : Option (Int × Int) :=
 cond (!decide (a0 = (ByteArray.mk #[]).data.toList))
  (idxO (a0) (0) fun x147 =>
  cond (decide ((↑(UInt8.toNat x147) : Int) < 128))
  (idxO (a0) (0) fun x149 =>
  letO (IntKind.wrap IntKind.i32 (↑(UInt8.toNat x149) : Int)) fun x150 =>
  some ((x150, 1)))
  (Option.bind (F_unicode_utf8_decodeRuneInStringSlow (a0)) fun x153 =>
  some (x153)))
  (Option.bind (F_unicode_utf8_decodeRuneInStringSlow (a0)) fun x154 =>
  some (x154))
noncomputable def F_unicode_utf8_DecodeLastRuneInString (a0 : List UInt8) : Option (Int × Int) :=
 cond (decide ((↑(List.length a0) : Int) = 0))
  (some ((65533, 0)))
  (letO (IntKind.wrap IntKind.i64 ((↑(List.length a0) : Int) - 1)) fun x126 =>
  idxO (a0) (x126) fun x127 =>
  letO (IntKind.wrap IntKind.i32 (↑(UInt8.toNat x127) : Int)) fun x128 =>
  cond (decide (x128 < 128))
  (some ((x128, 1)))
  (letO (IntKind.wrap IntKind.i64 ((↑(List.length a0) : Int) - 4)) fun x130 =>
  letO (IntKind.wrap IntKind.i64 (x126 - 1)) fun x131 =>
  Option.bind (
  lpO (fun (s134 : Int) =>
  cond (decide (max x130 0 ≤ s134))
  (idxO (a0) (s134) fun x141 =>
  Option.bind (F_unicode_utf8_RuneStart ((↑(UInt8.toNat x141) : Int))) fun x142 =>
  cond (x142)
  (some (Sum.inr (Sum.inl (s134))))
  (letO (IntKind.wrap IntKind.i64 (s134 - 1)) fun x144 =>
  some (Sum.inl (x144))))
  (some (Sum.inr (Sum.inl (s134))))) (x131))
  (Sum.elim (fun (s132 : Int) =>
  cond (decide (s132 < 0))
  (sideO ((0 : Int) ≤ (0 : Int) ∧ (0 : Int) ≤ (↑(List.length a0) : Int) ∧ (↑(List.length a0) : Int) ≤ (↑(List.length a0) : Int)) (
  Option.bind (F_unicode_utf8_DecodeRuneInString (List.drop (Int.toNat 0) (List.take (Int.toNat (↑(List.length a0) : Int)) a0))) fun x155 =>
  letO (IntKind.wrap IntKind.i64 (0 + x155.snd)) fun x156 =>
  cond (!decide (x156 = (↑(List.length a0) : Int)))
  (some ((65533, 1)))
  (some (x155))))
  (sideO ((0 : Int) ≤ s132 ∧ s132 ≤ (↑(List.length a0) : Int) ∧ (↑(List.length a0) : Int) ≤ (↑(List.length a0) : Int)) (
  Option.bind (F_unicode_utf8_DecodeRuneInString (List.drop (Int.toNat s132) (List.take (Int.toNat (↑(List.length a0) : Int)) a0))) fun x158 =>
  letO (IntKind.wrap IntKind.i64 (s132 + x158.snd)) fun x159 =>
  cond (!decide (x159 = (↑(List.length a0) : Int)))
  (some ((65533, 1)))
  (some (x158))))) some)))
noncomputable def F_strings_IndexByte (a0 : List UInt8) (a1 : Int) : Option (Int) :=
 Option.bind (F_internal_stringslite_IndexByte (a0) (a1)) fun x165 =>
  some (x165)
noncomputable def F_unicode_utf8_ValidRune (a0 : Int) : Option (Bool) :=
 cond (decide (0 ≤ a0))
  (cond (decide (a0 < 55296))
  (some (true))
  (cond (decide (57343 < a0))
  (cond (decide (a0 ≤ 1114111))
  (some (true))
  (some (false)))
  (some (false))))
  (cond (decide (57343 < a0))
  (cond (decide (a0 ≤ 1114111))
  (some (true))
  (some (false)))
  (some (false)))
noncomputable def F_strings_IndexRune (a0 : List UInt8) (a1 : Int) : Option (Int) :=
 cond (decide (0 ≤ a1))
  (cond (decide (a1 < 128))
  (letO (IntKind.wrap IntKind.u8 a1) fun x164 =>
  Option.bind (F_strings_IndexByte (a0) (x164)) fun x166 =>
  some (x166))
  (cond (decide (a1 = 65533))
  (none)
  (Option.bind (F_unicode_utf8_ValidRune (a1)) fun x174 =>
  cond (!x174)
  (some ((-1 : Int)))
  (letO (IntKind.wrap IntKind.i64 ((↑(List.length (Utf8.encode a1).data.toList) : Int) - 1)) fun x176 =>
  Option.bind (
  lpO (fun (s179 : Unit) =>
  cond (decide (x176 < (↑(List.length a0) : Int)))
  (idxO (a0) (x176) fun x181 =>
  idxO ((Utf8.encode a1).data.toList) (x176) fun x182 =>
  cond (!decide ((↑(UInt8.toNat x181) : Int) = (↑(UInt8.toNat x182) : Int)))
  (letO (IntKind.wrap IntKind.i64 (x176 + 1)) fun x184 =>
  sideO ((0 : Int) ≤ x184 ∧ x184 ≤ (↑(List.length a0) : Int)) (
  idxO ((Utf8.encode a1).data.toList) (x176) fun x185 =>
  Option.bind (F_strings_IndexByte (List.drop (Int.toNat x184) (List.take (Int.toNat (↑(List.length a0) : Int)) a0)) ((↑(UInt8.toNat x185) : Int))) fun x186 =>
  cond (decide (x186 < 0))
  (some (Sum.inr (Sum.inr ((-1 : Int)))))
  (letO (IntKind.wrap IntKind.i64 (x186 + 1)) fun x188 =>
  letO (IntKind.wrap IntKind.i64 (x176 + x188)) fun x189 =>
  Option.bind (
  lpO (fun (s192 : Int) =>
  cond (decide (s192 < (↑(List.length (Utf8.encode a1).data.toList) : Int)))
  (letO (IntKind.wrap IntKind.i64 (x189 - s192)) fun x200 =>
  idxO (a0) (x200) fun x201 =>
  letO (IntKind.wrap IntKind.i64 (x176 - s192)) fun x202 =>
  idxO ((Utf8.encode a1).data.toList) (x202) fun x203 =>
  cond (!decide ((↑(UInt8.toNat x201) : Int) = (↑(UInt8.toNat x203) : Int)))
  (none)
  (letO (IntKind.wrap IntKind.i64 (s192 + 1)) fun x205 =>
  some (Sum.inl (x205))))
  (some (Sum.inr (Sum.inl (()))))) (1))
  (Sum.elim (fun (s190 : Unit) =>
  letO (IntKind.wrap IntKind.i64 (x189 - x176)) fun x206 =>
  some (Sum.inr (Sum.inr (x206)))) some))))
  (Option.bind (
  lpO (fun (s209 : Int) =>
  cond (decide (s209 < (↑(List.length (Utf8.encode a1).data.toList) : Int)))
  (letO (IntKind.wrap IntKind.i64 (x176 - s209)) fun x217 =>
  idxO (a0) (x217) fun x218 =>
  letO (IntKind.wrap IntKind.i64 (x176 - s209)) fun x219 =>
  idxO ((Utf8.encode a1).data.toList) (x219) fun x220 =>
  cond (!decide ((↑(UInt8.toNat x218) : Int) = (↑(UInt8.toNat x220) : Int)))
  (none)
  (letO (IntKind.wrap IntKind.i64 (s209 + 1)) fun x222 =>
  some (Sum.inl (x222))))
  (some (Sum.inr (Sum.inl (()))))) (1))
  (Sum.elim (fun (s207 : Unit) =>
  letO (IntKind.wrap IntKind.i64 (x176 - x176)) fun x223 =>
  some (Sum.inr (Sum.inr (x223)))) some)))
  (some (Sum.inr (Sum.inl (()))))) (()))
  (Sum.elim (fun (s177 : Unit) =>
  some ((-1 : Int))) some)))))
  (cond (decide (a1 = 65533))
  (none)
  (Option.bind (F_unicode_utf8_ValidRune (a1)) fun x225 =>
  cond (!x225)
  (some ((-1 : Int)))
  (letO (IntKind.wrap IntKind.i64 ((↑(List.length (Utf8.encode a1).data.toList) : Int) - 1)) fun x227 =>
  Option.bind (
  lpO (fun (s230 : Unit) =>
  cond (decide (x227 < (↑(List.length a0) : Int)))
  (idxO (a0) (x227) fun x232 =>
  idxO ((Utf8.encode a1).data.toList) (x227) fun x233 =>
  cond (!decide ((↑(UInt8.toNat x232) : Int) = (↑(UInt8.toNat x233) : Int)))
  (letO (IntKind.wrap IntKind.i64 (x227 + 1)) fun x235 =>
  sideO ((0 : Int) ≤ x235 ∧ x235 ≤ (↑(List.length a0) : Int)) (
  idxO ((Utf8.encode a1).data.toList) (x227) fun x236 =>
  Option.bind (F_strings_IndexByte (List.drop (Int.toNat x235) (List.take (Int.toNat (↑(List.length a0) : Int)) a0)) ((↑(UInt8.toNat x236) : Int))) fun x237 =>
  cond (decide (x237 < 0))
  (some (Sum.inr (Sum.inr ((-1 : Int)))))
  (letO (IntKind.wrap IntKind.i64 (x237 + 1)) fun x239 =>
  letO (IntKind.wrap IntKind.i64 (x227 + x239)) fun x240 =>
  Option.bind (
  lpO (fun (s243 : Int) =>
  cond (decide (s243 < (↑(List.length (Utf8.encode a1).data.toList) : Int)))
  (letO (IntKind.wrap IntKind.i64 (x240 - s243)) fun x251 =>
  idxO (a0) (x251) fun x252 =>
  letO (IntKind.wrap IntKind.i64 (x227 - s243)) fun x253 =>
  idxO ((Utf8.encode a1).data.toList) (x253) fun x254 =>
  cond (!decide ((↑(UInt8.toNat x252) : Int) = (↑(UInt8.toNat x254) : Int)))
  (none)
  (letO (IntKind.wrap IntKind.i64 (s243 + 1)) fun x256 =>
  some (Sum.inl (x256))))
  (some (Sum.inr (Sum.inl (()))))) (1))
  (Sum.elim (fun (s241 : Unit) =>
  letO (IntKind.wrap IntKind.i64 (x240 - x227)) fun x257 =>
  some (Sum.inr (Sum.inr (x257)))) some))))
  (Option.bind (
  lpO (fun (s260 : Int) =>
  cond (decide (s260 < (↑(List.length (Utf8.encode a1).data.toList) : Int)))
  (letO (IntKind.wrap IntKind.i64 (x227 - s260)) fun x268 =>
  idxO (a0) (x268) fun x269 =>
  letO (IntKind.wrap IntKind.i64 (x227 - s260)) fun x270 =>
  idxO ((Utf8.encode a1).data.toList) (x270) fun x271 =>
  cond (!decide ((↑(UInt8.toNat x269) : Int) = (↑(UInt8.toNat x271) : Int)))
  (none)
  (letO (IntKind.wrap IntKind.i64 (s260 + 1)) fun x273 =>
  some (Sum.inl (x273))))
  (some (Sum.inr (Sum.inl (()))))) (1))
  (Sum.elim (fun (s258 : Unit) =>
  letO (IntKind.wrap IntKind.i64 (x227 - x227)) fun x274 =>
  some (Sum.inr (Sum.inr (x274)))) some)))
  (some (Sum.inr (Sum.inl (()))))) (()))
  (Sum.elim (fun (s228 : Unit) =>
  some ((-1 : Int))) some))))
noncomputable def F_strings_ContainsRune (a0 : List UInt8) (a1 : Int) : Option (Bool) :=
 Option.bind (F_strings_IndexRune (a0) (a1)) fun x275 =>
  some (decide (0 ≤ x275))
noncomputable def F_strings_trimRightUnicode (a0 : List UInt8) (a1 : List UInt8) : Option (List UInt8) :=
 Option.bind (
  lpO (fun (s120 : List UInt8) =>
  cond (decide (0 < (↑(List.length s120) : Int)))
  (letO (IntKind.wrap IntKind.i64 ((↑(List.length s120) : Int) - 1)) fun x134 =>
  idxO (s120) (x134) fun x135 =>
  letO (IntKind.wrap IntKind.i32 (↑(UInt8.toNat x135) : Int)) fun x136 =>
  cond (decide (128 ≤ x136))
  (Option.bind (F_unicode_utf8_DecodeLastRuneInString (s120)) fun x138 =>
  Option.bind (F_strings_ContainsRune (a1) (x138.fst)) fun x139 =>
  cond (!x139)
  (some (Sum.inr (Sum.inl (s120))))
  (letO (IntKind.wrap IntKind.i64 ((↑(List.length s120) : Int) - x138.snd)) fun x141 =>
  sideO ((0 : Int) ≤ x141 ∧ x141 ≤ (↑(List.length s120) : Int)) (
  some (Sum.inl (List.drop (Int.toNat 0) (List.take (Int.toNat x141) s120))))))
  (Option.bind (F_strings_ContainsRune (a1) (x136)) fun x142 =>
  cond (!x142)
  (some (Sum.inr (Sum.inl (s120))))
  (letO (IntKind.wrap IntKind.i64 ((↑(List.length s120) : Int) - 1)) fun x144 =>
  sideO ((0 : Int) ≤ x144 ∧ x144 ≤ (↑(List.length s120) : Int)) (
  some (Sum.inl (List.drop (Int.toNat 0) (List.take (Int.toNat x144) s120)))))))
  (some (Sum.inr (Sum.inl (s120))))) (a0))
  (Sum.elim (fun (s118 : List UInt8) =>
  some (s118)) some)
noncomputable def F_strings_trimLeftUnicode (a0 : List UInt8) (a1 : List UInt8) : Option (List UInt8) :=
 Option.bind (
  lpO (fun (s148 : List UInt8) =>
  cond (decide (0 < (↑(List.length s148) : Int)))
  (Option.bind (F_unicode_utf8_DecodeRuneInString (s148)) fun x154 =>
  Option.bind (F_strings_ContainsRune (a1) (x154.fst)) fun x155 =>
  cond (!x155)
  (some (Sum.inr (Sum.inl (s148))))
  (sideO ((0 : Int) ≤ x154.snd ∧ x154.snd ≤ (↑(List.length s148) : Int)) (
  some (Sum.inl (List.drop (Int.toNat x154.snd) (List.take (Int.toNat (↑(List.length s148) : Int)) s148))))))
  (some (Sum.inr (Sum.inl (s148))))) (a0))
  (Sum.elim (fun (s146 : List UInt8) =>
  some (s146)) some)
noncomputable def F_strings_Trim (a0 : List UInt8) (a1 : List UInt8) : Option (List UInt8) :=
 cond (decide (a0 = (ByteArray.mk #[]).data.toList))
  (some (a0))
  (cond (decide (a1 = (ByteArray.mk #[]).data.toList))
  (some (a0))
  (cond (decide ((↑(List.length a1) : Int) = 1))
  (idxO (a1) (0) fun x48 =>
  cond (decide ((↑(UInt8.toNat x48) : Int) < 128))
  (idxO (a1) (0) fun x50 =>
  Option.bind (F_strings_trimRightByte (a0) ((↑(UInt8.toNat x50) : Int))) fun x64 =>
  idxO (a1) (0) fun x65 =>
  Option.bind (F_strings_trimLeftByte (x64) ((↑(UInt8.toNat x65) : Int))) fun x75 =>
  some (x75))
  (Option.bind (F_strings_makeASCIISet (a1)) fun x88 =>
  cond (x88.snd)
  (Option.bind (F_strings_trimRightASCII (a0) (x88.fst)) fun x105 =>
  Option.bind (F_strings_trimLeftASCII (x105) (x88.fst)) fun x117 =>
  some (x117))
  (Option.bind (F_strings_trimRightUnicode (a0) (a1)) fun x145 =>
  Option.bind (F_strings_trimLeftUnicode (x145) (a1)) fun x157 =>
  some (x157))))
  (Option.bind (F_strings_makeASCIISet (a1)) fun x158 =>
  cond (x158.snd)
  (Option.bind (F_strings_trimRightASCII (a0) (x158.fst)) fun x160 =>
  Option.bind (F_strings_trimLeftASCII (x160) (x158.fst)) fun x161 =>
  some (x161))
  (Option.bind (F_strings_trimRightUnicode (a0) (a1)) fun x162 =>
  Option.bind (F_strings_trimLeftUnicode (x162) (a1)) fun x163 =>
  some (x163)))))
noncomputable def F_words_Name (a0 : List UInt8) : Option (Bool) :=
 cond (decide (a0 = (ByteArray.mk #[]).data.toList))
  (some (false))
  (cond (decide (16 < (↑(List.length a0) : Int)))
  (some (false))
  (idxO (a0) (0) fun x41 =>
  cond (decide ((↑(UInt8.toNat x41) : Int) < 97))
  (some (false))
  (idxO (a0) (0) fun x43 =>
  cond (decide (122 < (↑(UInt8.toNat x43) : Int)))
  (some (false))
  (Option.bind (F_strings_Trim (a0) ((ByteArray.mk #[97, 98, 99, 100, 101, 102, 103, 104, 105, 106, 107, 108, 109, 110, 111, 112, 113, 114, 115, 116, 117, 118, 119, 120, 121, 122, 48, 49, 50, 51, 52, 53, 54, 55, 56, 57, 45]).data.toList)) fun x164 =>
  some (decide (x164 = (ByteArray.mk #[]).data.toList))))))
noncomputable def F_slices_Index___string_string_ (a0 : List (List UInt8)) (a1 : List UInt8) : Option (Int) :=
 Option.bind (
  lpO (fun (s169 : Int) =>
  cond (decide (s169 < (↑(List.length (List.map SV.str a0)) : Int)))
  (idxO (a0) (s169) fun x174 =>
  cond (decide (a1 = x174))
  (some (Sum.inr (Sum.inr (s169))))
  (letO (IntKind.wrap IntKind.i64 (s169 + 1)) fun x176 =>
  some (Sum.inl (x176))))
  (some (Sum.inr (Sum.inl (()))))) (0))
  (Sum.elim (fun (s167 : Unit) =>
  some ((-1 : Int))) some)
noncomputable def F_slices_Contains___string_string_ (a0 : List (List UInt8)) (a1 : List UInt8) : Option (Bool) :=
 Option.bind (F_slices_Index___string_string_ (a0) (a1)) fun x177 =>
  some (decide (0 ≤ x177))
noncomputable def F_lattice_named (a0 : List (List UInt8)) : Option (Int × Int) :=
 cond (decide ((↑(List.length (List.map SV.str a0)) : Int) < 1))
  (some (((-1 : Int), 3)))
  (cond (decide (8 < (↑(List.length (List.map SV.str a0)) : Int)))
  (some (((-1 : Int), 3)))
  (Option.bind (
  lpO (fun (s37 : Int) =>
  cond (decide (s37 < (↑(List.length (List.map SV.str a0)) : Int)))
  (idxO (a0) (s37) fun x45 =>
  Option.bind (F_words_Name (x45)) fun x46 =>
  cond (!x46)
  (some (Sum.inr (Sum.inr ((s37, 6)))))
  (sideO ((0 : Int) ≤ s37 ∧ s37 ≤ (↑(List.length (List.map SV.str a0)) : Int)) (
  Option.bind (F_slices_Contains___string_string_ (List.drop (Int.toNat 0) (List.take (Int.toNat s37) a0)) (x45)) fun x48 =>
  cond (x48)
  (some (Sum.inr (Sum.inr ((s37, 8)))))
  (letO (IntKind.wrap IntKind.i64 (s37 + 1)) fun x50 =>
  some (Sum.inl (x50))))))
  (some (Sum.inr (Sum.inl (()))))) (0))
  (Sum.elim (fun (s35 : Unit) =>
  some ((0, 0))) some)))
noncomputable def F_math_bits_Len8 (a0 : Int) : Option (Int) :=
 idxO ((ByteArray.mk (List.toArray (List.append (List.append [(0 : UInt8), (1 : UInt8), (2 : UInt8), (2 : UInt8), (3 : UInt8), (3 : UInt8), (3 : UInt8), (3 : UInt8), (4 : UInt8), (4 : UInt8), (4 : UInt8), (4 : UInt8), (4 : UInt8), (4 : UInt8), (4 : UInt8), (4 : UInt8), (5 : UInt8), (5 : UInt8), (5 : UInt8), (5 : UInt8), (5 : UInt8), (5 : UInt8), (5 : UInt8), (5 : UInt8), (5 : UInt8), (5 : UInt8), (5 : UInt8), (5 : UInt8), (5 : UInt8), (5 : UInt8), (5 : UInt8), (5 : UInt8), (6 : UInt8), (6 : UInt8), (6 : UInt8), (6 : UInt8), (6 : UInt8), (6 : UInt8), (6 : UInt8), (6 : UInt8), (6 : UInt8), (6 : UInt8), (6 : UInt8), (6 : UInt8), (6 : UInt8), (6 : UInt8), (6 : UInt8), (6 : UInt8), (6 : UInt8), (6 : UInt8), (6 : UInt8), (6 : UInt8), (6 : UInt8), (6 : UInt8), (6 : UInt8), (6 : UInt8), (6 : UInt8), (6 : UInt8), (6 : UInt8), (6 : UInt8), (6 : UInt8), (6 : UInt8), (6 : UInt8), (6 : UInt8)] [(7 : UInt8), (7 : UInt8), (7 : UInt8), (7 : UInt8), (7 : UInt8), (7 : UInt8), (7 : UInt8), (7 : UInt8), (7 : UInt8), (7 : UInt8), (7 : UInt8), (7 : UInt8), (7 : UInt8), (7 : UInt8), (7 : UInt8), (7 : UInt8), (7 : UInt8), (7 : UInt8), (7 : UInt8), (7 : UInt8), (7 : UInt8), (7 : UInt8), (7 : UInt8), (7 : UInt8), (7 : UInt8), (7 : UInt8), (7 : UInt8), (7 : UInt8), (7 : UInt8), (7 : UInt8), (7 : UInt8), (7 : UInt8), (7 : UInt8), (7 : UInt8), (7 : UInt8), (7 : UInt8), (7 : UInt8), (7 : UInt8), (7 : UInt8), (7 : UInt8), (7 : UInt8), (7 : UInt8), (7 : UInt8), (7 : UInt8), (7 : UInt8), (7 : UInt8), (7 : UInt8), (7 : UInt8), (7 : UInt8), (7 : UInt8), (7 : UInt8), (7 : UInt8), (7 : UInt8), (7 : UInt8), (7 : UInt8), (7 : UInt8), (7 : UInt8), (7 : UInt8), (7 : UInt8), (7 : UInt8), (7 : UInt8), (7 : UInt8), (7 : UInt8), (7 : UInt8)]) (List.append [(8 : UInt8), (8 : UInt8), (8 : UInt8), (8 : UInt8), (8 : UInt8), (8 : UInt8), (8 : UInt8), (8 : UInt8), (8 : UInt8), (8 : UInt8), (8 : UInt8), (8 : UInt8), (8 : UInt8), (8 : UInt8), (8 : UInt8), (8 : UInt8), (8 : UInt8), (8 : UInt8), (8 : UInt8), (8 : UInt8), (8 : UInt8), (8 : UInt8), (8 : UInt8), (8 : UInt8), (8 : UInt8), (8 : UInt8), (8 : UInt8), (8 : UInt8), (8 : UInt8), (8 : UInt8), (8 : UInt8), (8 : UInt8), (8 : UInt8), (8 : UInt8), (8 : UInt8), (8 : UInt8), (8 : UInt8), (8 : UInt8), (8 : UInt8), (8 : UInt8), (8 : UInt8), (8 : UInt8), (8 : UInt8), (8 : UInt8), (8 : UInt8), (8 : UInt8), (8 : UInt8), (8 : UInt8), (8 : UInt8), (8 : UInt8), (8 : UInt8), (8 : UInt8), (8 : UInt8), (8 : UInt8), (8 : UInt8), (8 : UInt8), (8 : UInt8), (8 : UInt8), (8 : UInt8), (8 : UInt8), (8 : UInt8), (8 : UInt8), (8 : UInt8), (8 : UInt8)] [(8 : UInt8), (8 : UInt8), (8 : UInt8), (8 : UInt8), (8 : UInt8), (8 : UInt8), (8 : UInt8), (8 : UInt8), (8 : UInt8), (8 : UInt8), (8 : UInt8), (8 : UInt8), (8 : UInt8), (8 : UInt8), (8 : UInt8), (8 : UInt8), (8 : UInt8), (8 : UInt8), (8 : UInt8), (8 : UInt8), (8 : UInt8), (8 : UInt8), (8 : UInt8), (8 : UInt8), (8 : UInt8), (8 : UInt8), (8 : UInt8), (8 : UInt8), (8 : UInt8), (8 : UInt8), (8 : UInt8), (8 : UInt8), (8 : UInt8), (8 : UInt8), (8 : UInt8), (8 : UInt8), (8 : UInt8), (8 : UInt8), (8 : UInt8), (8 : UInt8), (8 : UInt8), (8 : UInt8), (8 : UInt8), (8 : UInt8), (8 : UInt8), (8 : UInt8), (8 : UInt8), (8 : UInt8), (8 : UInt8), (8 : UInt8), (8 : UInt8), (8 : UInt8), (8 : UInt8), (8 : UInt8), (8 : UInt8), (8 : UInt8), (8 : UInt8), (8 : UInt8), (8 : UInt8), (8 : UInt8), (8 : UInt8), (8 : UInt8), (8 : UInt8), (8 : UInt8)])))).data.toList) (a0) fun x60 =>
  letO (IntKind.wrap IntKind.i64 (↑(UInt8.toNat x60) : Int)) fun x61 =>
  some (x61)
noncomputable def F_lattice_of (a0 : TLattice) : Option (Tlattice_order) :=
 Option.bind (
  lpO (fun (s133 : Int × List Int × List Int) =>
  cond (decide (s133.fst < (↑(List.length (List.map (SV.int IntKind.u8) a0.Up)) : Int)))
  (idxO (a0.Up) (s133.fst) fun x147 =>
  sideO ((0 : Int) ≤ s133.fst ∧ s133.fst < (↑(8 : Nat) : Int)) (
  idxO (s133.snd.fst) ((↑(Int.toNat s133.fst) : Int)) fun x148 =>
  Option.bind (
  lpO (fun (s151 : Int × List Int) =>
  cond (decide (s151.fst < (↑(List.length (List.map SV.str a0.Names)) : Int)))
  (sideO ((0 : Int) ≤ s151.fst ∧ s151.fst < (↑(8 : Nat) : Int)) (
  idxO (s151.snd) ((↑(Int.toNat s151.fst) : Int)) fun x157 =>
  sideO ((0 : Int) ≤ s151.fst) (
  sideO ((0 : Int) ≤ s133.fst) (
  letO (IntKind.wrap IntKind.u8 (bits BinOp.and IntKind.u8 (Int.fdiv x147 (2 ^ min (Int.toNat s151.fst) (IntKind.bits IntKind.u8))) 1 * 2 ^ min (Int.toNat s133.fst) (IntKind.bits IntKind.u8))) fun x158 =>
  sideO ((0 : Int) ≤ s151.fst ∧ s151.fst < (↑(8 : Nat) : Int)) (
  idxO (s151.snd) ((↑(Int.toNat s151.fst) : Int)) fun x159 =>
  letO (IntKind.wrap IntKind.i64 (s151.fst + 1)) fun x160 =>
  some (Sum.inl ((x160, List.set s151.snd (Int.toNat s151.fst) (bits BinOp.or IntKind.u8 x157 x158)))))))))
  (some (Sum.inr (Sum.inl (s151.snd))))) ((0, s133.snd.snd)))
  (Sum.elim (fun (s149 : List Int) =>
  letO (IntKind.wrap IntKind.i64 (s133.fst + 1)) fun x161 =>
  some (Sum.inl ((x161, List.set s133.snd.fst (Int.toNat s133.fst) x147, s149)))) some)))
  (some (Sum.inr (Sum.inl (s133.snd))))) ((0, [0, 0, 0, 0, 0, 0, 0, 0], [0, 0, 0, 0, 0, 0, 0, 0])))
  (Sum.elim (fun (s131 : List Int × List Int) =>
  some (Tlattice_order.mk (↑(List.length (List.map SV.str a0.Names)) : Int) s131.fst s131.snd)) some)
noncomputable def F_lattice_bound_lattice_ups_ (a0 : List Int) (a1 : Int) (a2 : Int) (a3 : Int) : Option (Int) :=
 sideO ((0 : Int) ≤ a2 ∧ a2 < (↑(8 : Nat) : Int)) (
  idxO (a0) ((↑(Int.toNat a2) : Int)) fun x168 =>
  sideO ((0 : Int) ≤ a3 ∧ a3 < (↑(8 : Nat) : Int)) (
  idxO (a0) ((↑(Int.toNat a3) : Int)) fun x169 =>
  Option.bind (
  lpO (fun (s172 : Int) =>
  cond (decide (s172 < a1))
  (sideO ((0 : Int) ≤ s172) (
  cond (decide (bits BinOp.and IntKind.u8 (Int.fdiv (bits BinOp.and IntKind.u8 x168 x169) (2 ^ min (Int.toNat s172) (IntKind.bits IntKind.u8))) 1 = 1))
  (sideO ((0 : Int) ≤ s172 ∧ s172 < (↑(8 : Nat) : Int)) (
  idxO (a0) ((↑(Int.toNat s172) : Int)) fun x179 =>
  cond (decide (x179 = bits BinOp.and IntKind.u8 x168 x169))
  (some (Sum.inr (Sum.inr (s172))))
  (letO (IntKind.wrap IntKind.i64 (s172 + 1)) fun x181 =>
  some (Sum.inl (x181)))))
  (letO (IntKind.wrap IntKind.i64 (s172 + 1)) fun x182 =>
  some (Sum.inl (x182)))))
  (some (Sum.inr (Sum.inl (()))))) (0))
  (Sum.elim (fun (s170 : Unit) =>
  some ((-1 : Int))) some)))
noncomputable def F_lattice_bound_lattice_downs_ (a0 : List Int) (a1 : Int) (a2 : Int) (a3 : Int) : Option (Int) :=
 sideO ((0 : Int) ≤ a2 ∧ a2 < (↑(8 : Nat) : Int)) (
  idxO (a0) ((↑(Int.toNat a2) : Int)) fun x185 =>
  sideO ((0 : Int) ≤ a3 ∧ a3 < (↑(8 : Nat) : Int)) (
  idxO (a0) ((↑(Int.toNat a3) : Int)) fun x186 =>
  Option.bind (
  lpO (fun (s189 : Int) =>
  cond (decide (s189 < a1))
  (sideO ((0 : Int) ≤ s189) (
  cond (decide (bits BinOp.and IntKind.u8 (Int.fdiv (bits BinOp.and IntKind.u8 x185 x186) (2 ^ min (Int.toNat s189) (IntKind.bits IntKind.u8))) 1 = 1))
  (sideO ((0 : Int) ≤ s189 ∧ s189 < (↑(8 : Nat) : Int)) (
  idxO (a0) ((↑(Int.toNat s189) : Int)) fun x196 =>
  cond (decide (x196 = bits BinOp.and IntKind.u8 x185 x186))
  (some (Sum.inr (Sum.inr (s189))))
  (letO (IntKind.wrap IntKind.i64 (s189 + 1)) fun x198 =>
  some (Sum.inl (x198)))))
  (letO (IntKind.wrap IntKind.i64 (s189 + 1)) fun x199 =>
  some (Sum.inl (x199)))))
  (some (Sum.inr (Sum.inl (()))))) (0))
  (Sum.elim (fun (s187 : Unit) =>
  some ((-1 : Int))) some)))
noncomputable def F_lattice_Check (a0 : TLattice) : Option (Int × Int) :=
 Option.bind (F_lattice_named (a0.Names)) fun x51 =>
  cond (!decide (x51.snd = 0))
  (some (x51))
  (cond (!decide ((↑(List.length (List.map (SV.int IntKind.u8) a0.Up)) : Int) = (↑(List.length (List.map SV.str a0.Names)) : Int)))
  (some (((-1 : Int), 6)))
  (sideO ((0 : Int) ≤ (↑(List.length (List.map SV.str a0.Names)) : Int)) (
  letO (IntKind.wrap IntKind.u8 (1 * 2 ^ min (Int.toNat (↑(List.length (List.map SV.str a0.Names)) : Int)) (IntKind.bits IntKind.u8))) fun x54 =>
  letO (IntKind.wrap IntKind.u8 (x54 - 1)) fun x55 =>
  Option.bind (
  lpO (fun (s58 : Int) =>
  cond (decide (s58 < (↑(List.length (List.map (SV.int IntKind.u8) a0.Up)) : Int)))
  (idxO (a0.Up) (s58) fun x88 =>
  Option.bind (F_math_bits_Len8 (x88)) fun x89 =>
  cond (decide ((↑(List.length (List.map SV.str a0.Names)) : Int) < x89))
  (some (Sum.inr (Sum.inr ((s58, 6)))))
  (sideO ((0 : Int) ≤ s58) (
  cond (decide (bits BinOp.and IntKind.u8 (Int.fdiv x88 (2 ^ min (Int.toNat s58) (IntKind.bits IntKind.u8))) 1 = 0))
  (some (Sum.inr (Sum.inr ((s58, 6)))))
  (Option.bind (
  lpO (fun (s94 : Int) =>
  cond (decide (s94 < (↑(List.length (List.map (SV.int IntKind.u8) a0.Up)) : Int)))
  (idxO (a0.Up) (s94) fun x112 =>
  sideO ((0 : Int) ≤ s94) (
  cond (decide (bits BinOp.and IntKind.u8 (Int.fdiv x88 (2 ^ min (Int.toNat s94) (IntKind.bits IntKind.u8))) 1 = 0))
  (letO (IntKind.wrap IntKind.i64 ((↑(List.length (List.map SV.str a0.Names)) : Int) - 1)) fun x114 =>
  cond (decide (s94 = x114))
  (letO (IntKind.wrap IntKind.i64 (s58 + 1)) fun x116 =>
  some (Sum.inr (Sum.inr (Sum.inl (x116)))))
  (letO (IntKind.wrap IntKind.i64 (s94 + 1)) fun x117 =>
  some (Sum.inl (x117))))
  (cond (!decide (s94 = s58))
  (sideO ((0 : Int) ≤ s58) (
  cond (decide (bits BinOp.and IntKind.u8 (Int.fdiv x112 (2 ^ min (Int.toNat s58) (IntKind.bits IntKind.u8))) 1 = 1))
  (some (Sum.inr (Sum.inr (Sum.inr (Sum.inr ((s58, 6)))))))
  (cond (!decide (bits BinOp.andNot IntKind.u8 (bits BinOp.and IntKind.u8 x112 x55) x88 = 0))
  (some (Sum.inr (Sum.inr (Sum.inr (Sum.inr ((s58, 6)))))))
  (letO (IntKind.wrap IntKind.i64 ((↑(List.length (List.map SV.str a0.Names)) : Int) - 1)) fun x121 =>
  cond (decide (s94 = x121))
  (letO (IntKind.wrap IntKind.i64 (s58 + 1)) fun x123 =>
  some (Sum.inr (Sum.inr (Sum.inl (x123)))))
  (letO (IntKind.wrap IntKind.i64 (s94 + 1)) fun x124 =>
  some (Sum.inl (x124)))))))
  (cond (!decide (bits BinOp.andNot IntKind.u8 (bits BinOp.and IntKind.u8 x112 x55) x88 = 0))
  (some (Sum.inr (Sum.inr (Sum.inr (Sum.inr ((s58, 6)))))))
  (letO (IntKind.wrap IntKind.i64 ((↑(List.length (List.map SV.str a0.Names)) : Int) - 1)) fun x126 =>
  cond (decide (s94 = x126))
  (letO (IntKind.wrap IntKind.i64 (s58 + 1)) fun x128 =>
  some (Sum.inr (Sum.inr (Sum.inl (x128)))))
  (letO (IntKind.wrap IntKind.i64 (s94 + 1)) fun x129 =>
  some (Sum.inl (x129))))))))
  (some (Sum.inr (Sum.inl (()))))) (0))
  (Sum.elim (fun (s92 : Unit) =>
  letO (IntKind.wrap IntKind.i64 (s58 + 1)) fun x130 =>
  some (Sum.inl (x130))) some)))))
  (some (Sum.inr (Sum.inl (()))))) (0))
  (Sum.elim (fun (s56 : Unit) =>
  Option.bind (F_lattice_of (a0)) fun x162 =>
  Option.bind (
  lpO (fun (s165 : Int) =>
  cond (decide (s165 < (↑(List.length (List.map SV.str a0.Names)) : Int)))
  (Option.bind (
  lpO (fun (s183 : Int) =>
  cond (decide (s183 < (↑(List.length (List.map SV.str a0.Names)) : Int)))
  (Option.bind (F_lattice_bound_lattice_ups_ (x162.up_) ((↑(List.length (List.map SV.str a0.Names)) : Int)) (s165) (s183)) fun x190 =>
  cond (decide (x190 < 0))
  (some (Sum.inr (Sum.inr (Sum.inr (Sum.inr ((s165, 4)))))))
  (Option.bind (F_lattice_bound_lattice_downs_ (x162.down_) ((↑(List.length (List.map SV.str a0.Names)) : Int)) (s165) (s183)) fun x192 =>
  cond (decide (x192 < 0))
  (some (Sum.inr (Sum.inr (Sum.inr (Sum.inr ((s165, 4)))))))
  (letO (IntKind.wrap IntKind.i64 (s183 + 1)) fun x194 =>
  some (Sum.inl (x194)))))
  (some (Sum.inr (Sum.inl (()))))) (0))
  (Sum.elim (fun (s181 : Unit) =>
  letO (IntKind.wrap IntKind.i64 (s165 + 1)) fun x195 =>
  some (Sum.inl (x195))) some))
  (some (Sum.inr (Sum.inl (()))))) (0))
  (Sum.elim (fun (s163 : Unit) =>
  some ((0, 0))) some)) some))))
noncomputable def F_view_label (a0 : TLattice) (a1 : Int) : Option (Bool) :=
 cond (decide (0 ≤ a1))
  (some (decide (a1 < (↑(List.length (List.map SV.str a0.Names)) : Int))))
  (some (false))
noncomputable def F_prims_Find (a0 : List UInt8) : Option (Int × Int) :=
 Option.bind (
  cond (decide ([(110 : UInt8), (101 : UInt8), (103 : UInt8)] = a0))
  (some (Sum.inr ((1, 0))))
  (cond (decide ([(97 : UInt8), (98 : UInt8), (115 : UInt8)] = a0))
  (some (Sum.inr ((2, 0))))
  (cond (decide ([(110 : UInt8), (111 : UInt8), (116 : UInt8)] = a0))
  (some (Sum.inr ((3, 0))))
  (cond (decide ([(115 : UInt8), (104 : UInt8), (97 : UInt8), (112 : UInt8), (101 : UInt8)] = a0))
  (some (Sum.inr ((4, 0))))
  (cond (decide ([(114 : UInt8), (97 : UInt8), (118 : UInt8), (101 : UInt8), (108 : UInt8)] = a0))
  (some (Sum.inr ((5, 0))))
  (cond (decide ([(114 : UInt8), (101 : UInt8), (118 : UInt8), (101 : UInt8), (114 : UInt8), (115 : UInt8), (101 : UInt8)] = a0))
  (some (Sum.inr ((6, 0))))
  (cond (decide ([(102 : UInt8), (108 : UInt8), (105 : UInt8), (112 : UInt8)] = a0))
  (some (Sum.inr ((7, 0))))
  (cond (decide ([(105 : UInt8), (111 : UInt8), (116 : UInt8), (97 : UInt8)] = a0))
  (some (Sum.inr ((8, 0))))
  (cond (decide ([(115 : UInt8), (117 : UInt8), (109 : UInt8)] = a0))
  (some (Sum.inr ((9, 0))))
  (cond (decide ([(108 : UInt8), (101 : UInt8), (97 : UInt8), (115 : UInt8), (116 : UInt8)] = a0))
  (some (Sum.inr ((10, 0))))
  (cond (decide ([(109 : UInt8), (111 : UInt8), (115 : UInt8), (116 : UInt8)] = a0))
  (some (Sum.inr ((11, 0))))
  (cond (decide ([(99 : UInt8), (111 : UInt8), (117 : UInt8), (110 : UInt8), (116 : UInt8)] = a0))
  (some (Sum.inr ((12, 0))))
  (cond (decide ([(115 : UInt8), (99 : UInt8), (97 : UInt8), (110 : UInt8)] = a0))
  (some (Sum.inr ((13, 0))))
  (cond (decide ([(103 : UInt8), (114 : UInt8), (97 : UInt8), (100 : UInt8), (101 : UInt8)] = a0))
  (some (Sum.inr ((14, 0))))
  (cond (decide ([(97 : UInt8), (100 : UInt8), (100 : UInt8)] = a0))
  (some (Sum.inr ((15, 0))))
  (cond (decide ([(115 : UInt8), (117 : UInt8), (98 : UInt8)] = a0))
  (some (Sum.inr ((16, 0))))
  (cond (decide ([(109 : UInt8), (117 : UInt8), (108 : UInt8)] = a0))
  (some (Sum.inr ((17, 0))))
  (cond (decide ([(100 : UInt8), (105 : UInt8), (118 : UInt8)] = a0))
  (some (Sum.inr ((18, 0))))
  (cond (decide ([(109 : UInt8), (111 : UInt8), (100 : UInt8)] = a0))
  (some (Sum.inr ((19, 0))))
  (cond (decide ([(112 : UInt8), (108 : UInt8), (117 : UInt8), (115 : UInt8)] = a0))
  (some (Sum.inr ((20, 0))))
  (cond (decide ([(109 : UInt8), (105 : UInt8), (110 : UInt8), (117 : UInt8), (115 : UInt8)] = a0))
  (some (Sum.inr ((21, 0))))
  (cond (decide ([(116 : UInt8), (105 : UInt8), (109 : UInt8), (101 : UInt8), (115 : UInt8)] = a0))
  (some (Sum.inr ((22, 0))))
  (cond (decide ([(101 : UInt8), (113 : UInt8)] = a0))
  (some (Sum.inr ((23, 0))))
  (cond (decide ([(110 : UInt8), (101 : UInt8)] = a0))
  (some (Sum.inr ((24, 0))))
  (cond (decide ([(108 : UInt8), (116 : UInt8)] = a0))
  (some (Sum.inr ((25, 0))))
  (cond (decide ([(108 : UInt8), (101 : UInt8)] = a0))
  (some (Sum.inr ((26, 0))))
  (cond (decide ([(103 : UInt8), (116 : UInt8)] = a0))
  (some (Sum.inr ((27, 0))))
  (cond (decide ([(103 : UInt8), (101 : UInt8)] = a0))
  (some (Sum.inr ((28, 0))))
  (cond (decide ([(97 : UInt8), (110 : UInt8), (100 : UInt8)] = a0))
  (some (Sum.inr ((29, 0))))
  (cond (decide ([(111 : UInt8), (114 : UInt8)] = a0))
  (some (Sum.inr ((30, 0))))
  (cond (decide ([(109 : UInt8), (105 : UInt8), (110 : UInt8)] = a0))
  (some (Sum.inr ((31, 0))))
  (cond (decide ([(109 : UInt8), (97 : UInt8), (120 : UInt8)] = a0))
  (some (Sum.inr ((32, 0))))
  (cond (decide ([(116 : UInt8), (97 : UInt8), (107 : UInt8), (101 : UInt8)] = a0))
  (some (Sum.inr ((33, 0))))
  (cond (decide ([(100 : UInt8), (114 : UInt8), (111 : UInt8), (112 : UInt8)] = a0))
  (some (Sum.inr ((34, 0))))
  (cond (decide ([(102 : UInt8), (105 : UInt8), (108 : UInt8), (108 : UInt8)] = a0))
  (some (Sum.inr ((35, 0))))
  (cond (decide ([(103 : UInt8), (114 : UInt8), (105 : UInt8), (100 : UInt8)] = a0))
  (some (Sum.inr ((36, 0))))
  (cond (decide ([(99 : UInt8), (97 : UInt8), (116 : UInt8)] = a0))
  (some (Sum.inr ((37, 0))))
  (cond (decide ([(97 : UInt8), (116 : UInt8)] = a0))
  (some (Sum.inr ((38, 0))))
  (cond (decide ([(105 : UInt8), (110 : UInt8)] = a0))
  (some (Sum.inr ((39, 0))))
  (cond (decide ([(112 : UInt8), (105 : UInt8), (99 : UInt8), (107 : UInt8)] = a0))
  (some (Sum.inr ((40, 0))))
  (some (Sum.inl (())))))))))))))))))))))))))))))))))))))))))))
  (Sum.elim (fun (s226 : Unit) =>
  some ((0, 4))) some)
noncomputable def F_runes_is (a0 : Int) : Option (Bool) :=
 letO (IntKind.wrap IntKind.i32 a0) fun x285 =>
  letO (IntKind.wrap IntKind.i64 x285) fun x286 =>
  cond (decide (a0 = x286))
  (letO (IntKind.wrap IntKind.i32 a0) fun x288 =>
  Option.bind (F_unicode_utf8_ValidRune (x288)) fun x289 =>
  some (x289))
  (some (false))
noncomputable def F_runes_classes : Option (List (List UInt8)) :=
 some ([[], (ByteArray.mk #[32]).data.toList, (ByteArray.mk #[10]).data.toList, (ByteArray.mk #[40, 91]).data.toList, (ByteArray.mk #[41, 93]).data.toList, (ByteArray.mk #[34]).data.toList, [], (ByteArray.mk #[45]).data.toList, [], (ByteArray.mk #[60, 61]).data.toList])
noncomputable def F_runes_Class (a0 : Int) : Option (Int × Int) :=
 Option.bind (F_runes_is (a0)) fun x290 =>
  cond (!x290)
  (some ((0, 7)))
  (cond (decide (48 ≤ a0))
  (cond (decide (a0 ≤ 57))
  (some ((6, 0)))
  (cond (decide (97 ≤ a0))
  (cond (decide (a0 ≤ 122))
  (some ((8, 0)))
  (Option.bind (F_runes_classes) fun x296 =>
  Option.bind (
  lpO (fun (s299 : Int) =>
  cond (decide (s299 < 10))
  (idxO (x296) (s299) fun x305 =>
  letO (IntKind.wrap IntKind.i32 a0) fun x306 =>
  Option.bind (F_strings_ContainsRune (x305) (x306)) fun x307 =>
  cond (x307)
  (some (Sum.inr (Sum.inr ((s299, 0)))))
  (letO (IntKind.wrap IntKind.i64 (s299 + 1)) fun x309 =>
  some (Sum.inl (x309))))
  (some (Sum.inr (Sum.inl (()))))) (0))
  (Sum.elim (fun (s297 : Unit) =>
  some ((10, 0))) some)))
  (Option.bind (F_runes_classes) fun x310 =>
  Option.bind (
  lpO (fun (s313 : Int) =>
  cond (decide (s313 < 10))
  (idxO (x310) (s313) fun x319 =>
  letO (IntKind.wrap IntKind.i32 a0) fun x320 =>
  Option.bind (F_strings_ContainsRune (x319) (x320)) fun x321 =>
  cond (x321)
  (some (Sum.inr (Sum.inr ((s313, 0)))))
  (letO (IntKind.wrap IntKind.i64 (s313 + 1)) fun x323 =>
  some (Sum.inl (x323))))
  (some (Sum.inr (Sum.inl (()))))) (0))
  (Sum.elim (fun (s311 : Unit) =>
  some ((10, 0))) some))))
  (cond (decide (97 ≤ a0))
  (cond (decide (a0 ≤ 122))
  (some ((8, 0)))
  (Option.bind (F_runes_classes) fun x326 =>
  Option.bind (
  lpO (fun (s329 : Int) =>
  cond (decide (s329 < 10))
  (idxO (x326) (s329) fun x335 =>
  letO (IntKind.wrap IntKind.i32 a0) fun x336 =>
  Option.bind (F_strings_ContainsRune (x335) (x336)) fun x337 =>
  cond (x337)
  (some (Sum.inr (Sum.inr ((s329, 0)))))
  (letO (IntKind.wrap IntKind.i64 (s329 + 1)) fun x339 =>
  some (Sum.inl (x339))))
  (some (Sum.inr (Sum.inl (()))))) (0))
  (Sum.elim (fun (s327 : Unit) =>
  some ((10, 0))) some)))
  (Option.bind (F_runes_classes) fun x340 =>
  Option.bind (
  lpO (fun (s343 : Int) =>
  cond (decide (s343 < 10))
  (idxO (x340) (s343) fun x349 =>
  letO (IntKind.wrap IntKind.i32 a0) fun x350 =>
  Option.bind (F_strings_ContainsRune (x349) (x350)) fun x351 =>
  cond (x351)
  (some (Sum.inr (Sum.inr ((s343, 0)))))
  (letO (IntKind.wrap IntKind.i64 (s343 + 1)) fun x353 =>
  some (Sum.inl (x353))))
  (some (Sum.inr (Sum.inl (()))))) (0))
  (Sum.elim (fun (s341 : Unit) =>
  some ((10, 0))) some))))
noncomputable def F_unicode_utf8_word_string_ (a0 : List UInt8) : Option (Int) :=
 idxO (a0) (0) fun x398 =>
  letO (IntKind.wrap IntKind.u64 (↑(UInt8.toNat x398) : Int)) fun x399 =>
  idxO (a0) (1) fun x400 =>
  letO (IntKind.wrap IntKind.u64 (↑(UInt8.toNat x400) : Int)) fun x401 =>
  letO (IntKind.wrap IntKind.u64 (x401 * 2 ^ min (Int.toNat 8) (IntKind.bits IntKind.u64))) fun x402 =>
  idxO (a0) (2) fun x403 =>
  letO (IntKind.wrap IntKind.u64 (↑(UInt8.toNat x403) : Int)) fun x404 =>
  letO (IntKind.wrap IntKind.u64 (x404 * 2 ^ min (Int.toNat 16) (IntKind.bits IntKind.u64))) fun x405 =>
  idxO (a0) (3) fun x406 =>
  letO (IntKind.wrap IntKind.u64 (↑(UInt8.toNat x406) : Int)) fun x407 =>
  letO (IntKind.wrap IntKind.u64 (x407 * 2 ^ min (Int.toNat 24) (IntKind.bits IntKind.u64))) fun x408 =>
  idxO (a0) (4) fun x409 =>
  letO (IntKind.wrap IntKind.u64 (↑(UInt8.toNat x409) : Int)) fun x410 =>
  letO (IntKind.wrap IntKind.u64 (x410 * 2 ^ min (Int.toNat 32) (IntKind.bits IntKind.u64))) fun x411 =>
  idxO (a0) (5) fun x412 =>
  letO (IntKind.wrap IntKind.u64 (↑(UInt8.toNat x412) : Int)) fun x413 =>
  letO (IntKind.wrap IntKind.u64 (x413 * 2 ^ min (Int.toNat 40) (IntKind.bits IntKind.u64))) fun x414 =>
  idxO (a0) (6) fun x415 =>
  letO (IntKind.wrap IntKind.u64 (↑(UInt8.toNat x415) : Int)) fun x416 =>
  letO (IntKind.wrap IntKind.u64 (x416 * 2 ^ min (Int.toNat 48) (IntKind.bits IntKind.u64))) fun x417 =>
  idxO (a0) (7) fun x418 =>
  letO (IntKind.wrap IntKind.u64 (↑(UInt8.toNat x418) : Int)) fun x419 =>
  letO (IntKind.wrap IntKind.u64 (x419 * 2 ^ min (Int.toNat 56) (IntKind.bits IntKind.u64))) fun x420 =>
  some (bits BinOp.or IntKind.u64 (bits BinOp.or IntKind.u64 (bits BinOp.or IntKind.u64 (bits BinOp.or IntKind.u64 (bits BinOp.or IntKind.u64 (bits BinOp.or IntKind.u64 (bits BinOp.or IntKind.u64 x399 x402) x405) x408) x411) x414) x417) x420)
noncomputable def F_unicode_utf8_ValidString (a0 : List UInt8) : Option (Bool) :=
 Option.bind (
  lpO (fun (s394 : List UInt8) =>
  cond (decide (0 < (↑(List.length s394) : Int)))
  (idxO (s394) (0) fun x421 =>
  cond (decide ((↑(UInt8.toNat x421) : Int) < 128))
  (sideO ((0 : Int) ≤ (1 : Int) ∧ (1 : Int) ≤ (↑(List.length s394) : Int)) (
  cond (decide (8 < (↑(List.length (List.drop (Int.toNat 1) (List.take (Int.toNat (↑(List.length s394) : Int)) s394))) : Int)))
  (Option.bind (F_unicode_utf8_word_string_ (List.drop (Int.toNat 1) (List.take (Int.toNat (↑(List.length s394) : Int)) s394))) fun x424 =>
  cond (decide (bits BinOp.and IntKind.u64 x424 9259542123273814144 = 0))
  (sideO ((0 : Int) ≤ (8 : Int) ∧ (8 : Int) ≤ (↑(List.length (List.drop (Int.toNat (1 : Int)) (List.take (Int.toNat (↑(List.length s394) : Int)) s394))) : Int)) (
  cond (decide (16 < (↑(List.length (List.drop (Int.toNat 8) (List.take (Int.toNat (↑(List.length (List.drop (Int.toNat 1) (List.take (Int.toNat (↑(List.length s394) : Int)) s394))) : Int)) (List.drop (Int.toNat 1) (List.take (Int.toNat (↑(List.length s394) : Int)) s394))))) : Int)))
  (Option.bind (F_unicode_utf8_word_string_ (List.drop (Int.toNat 8) (List.take (Int.toNat (↑(List.length (List.drop (Int.toNat 1) (List.take (Int.toNat (↑(List.length s394) : Int)) s394))) : Int)) (List.drop (Int.toNat 1) (List.take (Int.toNat (↑(List.length s394) : Int)) s394))))) fun x427 =>
  sideO ((0 : Int) ≤ (8 : Int) ∧ (8 : Int) ≤ (↑(List.length (List.drop (Int.toNat (8 : Int)) (List.take (Int.toNat (↑(List.length (List.drop (Int.toNat (1 : Int)) (List.take (Int.toNat (↑(List.length s394) : Int)) s394))) : Int)) (List.drop (Int.toNat (1 : Int)) (List.take (Int.toNat (↑(List.length s394) : Int)) s394))))) : Int)) (
  Option.bind (F_unicode_utf8_word_string_ (List.drop (Int.toNat 8) (List.take (Int.toNat (↑(List.length (List.drop (Int.toNat 8) (List.take (Int.toNat (↑(List.length (List.drop (Int.toNat 1) (List.take (Int.toNat (↑(List.length s394) : Int)) s394))) : Int)) (List.drop (Int.toNat 1) (List.take (Int.toNat (↑(List.length s394) : Int)) s394))))) : Int)) (List.drop (Int.toNat 8) (List.take (Int.toNat (↑(List.length (List.drop (Int.toNat 1) (List.take (Int.toNat (↑(List.length s394) : Int)) s394))) : Int)) (List.drop (Int.toNat 1) (List.take (Int.toNat (↑(List.length s394) : Int)) s394))))))) fun x428 =>
  cond (decide (bits BinOp.and IntKind.u64 (bits BinOp.or IntKind.u64 x427 x428) 9259542123273814144 = 0))
  (sideO ((0 : Int) ≤ (16 : Int) ∧ (16 : Int) ≤ (↑(List.length (List.drop (Int.toNat (8 : Int)) (List.take (Int.toNat (↑(List.length (List.drop (Int.toNat (1 : Int)) (List.take (Int.toNat (↑(List.length s394) : Int)) s394))) : Int)) (List.drop (Int.toNat (1 : Int)) (List.take (Int.toNat (↑(List.length s394) : Int)) s394))))) : Int)) (
  Option.bind (
  lpO (fun (s432 : List UInt8) =>
  cond (decide (32 < (↑(List.length s432) : Int)))
  (Option.bind (F_unicode_utf8_word_string_ (s432)) fun x440 =>
  sideO ((0 : Int) ≤ (8 : Int) ∧ (8 : Int) ≤ (↑(List.length s432) : Int)) (
  Option.bind (F_unicode_utf8_word_string_ (List.drop (Int.toNat 8) (List.take (Int.toNat (↑(List.length s432) : Int)) s432))) fun x441 =>
  sideO ((0 : Int) ≤ (16 : Int) ∧ (16 : Int) ≤ (↑(List.length s432) : Int)) (
  Option.bind (F_unicode_utf8_word_string_ (List.drop (Int.toNat 16) (List.take (Int.toNat (↑(List.length s432) : Int)) s432))) fun x442 =>
  sideO ((0 : Int) ≤ (24 : Int) ∧ (24 : Int) ≤ (↑(List.length s432) : Int)) (
  Option.bind (F_unicode_utf8_word_string_ (List.drop (Int.toNat 24) (List.take (Int.toNat (↑(List.length s432) : Int)) s432))) fun x443 =>
  cond (decide (bits BinOp.and IntKind.u64 (bits BinOp.or IntKind.u64 (bits BinOp.or IntKind.u64 x440 x441) (bits BinOp.or IntKind.u64 x442 x443)) 9259542123273814144 = 0))
  (sideO ((0 : Int) ≤ (32 : Int) ∧ (32 : Int) ≤ (↑(List.length s432) : Int)) (
  some (Sum.inl (List.drop (Int.toNat 32) (List.take (Int.toNat (↑(List.length s432) : Int)) s432)))))
  (some (Sum.inr (Sum.inl (s432))))))))
  (some (Sum.inr (Sum.inl (s432))))) (List.drop (Int.toNat 16) (List.take (Int.toNat (↑(List.length (List.drop (Int.toNat 8) (List.take (Int.toNat (↑(List.length (List.drop (Int.toNat 1) (List.take (Int.toNat (↑(List.length s394) : Int)) s394))) : Int)) (List.drop (Int.toNat 1) (List.take (Int.toNat (↑(List.length s394) : Int)) s394))))) : Int)) (List.drop (Int.toNat 8) (List.take (Int.toNat (↑(List.length (List.drop (Int.toNat 1) (List.take (Int.toNat (↑(List.length s394) : Int)) s394))) : Int)) (List.drop (Int.toNat 1) (List.take (Int.toNat (↑(List.length s394) : Int)) s394)))))))
  (Sum.elim (fun (s430 : List UInt8) =>
  some (Sum.inl (s430))) some)))
  (some (Sum.inl (List.drop (Int.toNat 8) (List.take (Int.toNat (↑(List.length (List.drop (Int.toNat 1) (List.take (Int.toNat (↑(List.length s394) : Int)) s394))) : Int)) (List.drop (Int.toNat 1) (List.take (Int.toNat (↑(List.length s394) : Int)) s394))))))))
  (some (Sum.inl (List.drop (Int.toNat 8) (List.take (Int.toNat (↑(List.length (List.drop (Int.toNat 1) (List.take (Int.toNat (↑(List.length s394) : Int)) s394))) : Int)) (List.drop (Int.toNat 1) (List.take (Int.toNat (↑(List.length s394) : Int)) s394))))))))
  (some (Sum.inl (List.drop (Int.toNat 1) (List.take (Int.toNat (↑(List.length s394) : Int)) s394)))))
  (some (Sum.inl (List.drop (Int.toNat 1) (List.take (Int.toNat (↑(List.length s394) : Int)) s394))))))
  (none))
  (some (Sum.inr (Sum.inl (()))))) (a0))
  (Sum.elim (fun (s392 : Unit) =>
  some (true)) some)
noncomputable def F_lexer_Check (a0 : TLxToken) : Option (Int) :=
 Option.bind (
  cond (decide (a0.Kind = 1))
  (some (Sum.inl ((0, a0.S))))
  (cond (decide (a0.Kind = 3))
  (some (Sum.inl ((0, a0.S))))
  (cond (decide (a0.Kind = 2))
  (some (Sum.inl ((a0.N, []))))
  (some (Sum.inl ((0, [])))))))
  (Sum.elim (fun (s271 : Int × List UInt8) =>
  cond (decide (a0.Kind < 1))
  (some (2))
  (cond (decide (9 < a0.Kind))
  (some (2))
  (cond (!(decide (a0.Kind = a0.Kind) && (decide (a0.From = a0.From) && (decide (a0.To = a0.To) && (decide (a0.N = s271.fst) && (decide (a0.S = s271.snd) && true))))))
  (some (2))
  (Option.bind (
  cond (decide (a0.Kind = 1))
  (cond (decide ((↑(List.length a0.S) : Int) ≤ 0))
  (some (Sum.inr (6)))
  (idxO (a0.S) (0) fun x284 =>
  letO (IntKind.wrap IntKind.i64 (↑(UInt8.toNat x284) : Int)) fun x285 =>
  Option.bind (F_runes_Class (x285)) fun x286 =>
  cond (!decide (x286.fst = 8))
  (some (Sum.inr (6)))
  (idxO (a0.S) (0) fun x290 =>
  letO (IntKind.wrap IntKind.i64 (↑(UInt8.toNat x290) : Int)) fun x291 =>
  Option.bind (F_runes_Class (x291)) fun x292 =>
  Option.bind (
  lpO (fun (s295 : Int × Int) =>
  cond (decide (s295.fst = 8))
  (letO (IntKind.wrap IntKind.i64 (s295.snd + 1)) fun x309 =>
  cond (decide ((↑(List.length a0.S) : Int) ≤ x309))
  (some (Sum.inl ((10, x309))))
  (idxO (a0.S) (x309) fun x312 =>
  letO (IntKind.wrap IntKind.i64 (↑(UInt8.toNat x312) : Int)) fun x313 =>
  Option.bind (F_runes_Class (x313)) fun x314 =>
  some (Sum.inl ((x314.fst, x309)))))
  (cond (decide (s295.fst = 6))
  (letO (IntKind.wrap IntKind.i64 (s295.snd + 1)) fun x316 =>
  cond (decide ((↑(List.length a0.S) : Int) ≤ x316))
  (some (Sum.inl ((10, x316))))
  (idxO (a0.S) (x316) fun x319 =>
  letO (IntKind.wrap IntKind.i64 (↑(UInt8.toNat x319) : Int)) fun x320 =>
  Option.bind (F_runes_Class (x320)) fun x321 =>
  some (Sum.inl ((x321.fst, x316)))))
  (some (Sum.inr (Sum.inl ((decide (s295.fst = 6), s295))))))) ((x292.fst, 0)))
  (Sum.elim (fun (s293 : Bool × Int × Int) =>
  sideO ((0 : Int) ≤ (0 : Int) ∧ (0 : Int) ≤ s293.snd.snd ∧ s293.snd.snd ≤ (↑(List.length a0.S) : Int)) (
  cond (!decide (List.drop (Int.toNat 0) (List.take (Int.toNat s293.snd.snd) a0.S) = a0.S))
  (some (Sum.inr (6)))
  (some (Sum.inl (16))))) some))))
  (cond (decide (a0.Kind = 3))
  (Option.bind (F_unicode_utf8_ValidString (a0.S)) fun x324 =>
  cond (!x324)
  (some (Sum.inr (6)))
  (some (Sum.inl (2000))))
  (some (Sum.inl (0)))))
  (Sum.elim (fun (s279 : Int) =>
  cond (decide (s279 < (↑(List.length a0.S) : Int)))
  (some (3))
  (some (0))) some))))) some)
noncomputable def F_expr_Name (a0 : List UInt8) : Option (Bool) :=
 cond (decide (a0 = (ByteArray.mk #[118, 97, 114]).data.toList))
  (some (false))
  (cond (decide (a0 = (ByteArray.mk #[100, 101, 102]).data.toList))
  (some (false))
  (cond (decide (a0 = (ByteArray.mk #[111, 117, 116]).data.toList))
  (some (false))
  (cond (decide (a0 = (ByteArray.mk #[105, 102]).data.toList))
  (some (false))
  (cond (decide (a0 = (ByteArray.mk #[101, 108, 115, 101]).data.toList))
  (some (false))
  (cond (decide (a0 = (ByteArray.mk #[119, 104, 105, 108, 101]).data.toList))
  (some (false))
  (cond (decide (a0 = (ByteArray.mk #[101, 110, 100]).data.toList))
  (some (false))
  (cond (decide (a0 = (ByteArray.mk #[114, 101, 108, 101, 97, 115, 101]).data.toList))
  (some (false))
  (cond (decide (a0 = (ByteArray.mk #[105, 110, 116]).data.toList))
  (some (false))
  (cond (decide (a0 = (ByteArray.mk #[99, 104, 97, 114]).data.toList))
  (some (false))
  (Option.bind (F_prims_Find (a0)) fun x269 =>
  cond (decide (x269.snd = 0))
  (some (false))
  (Option.bind (F_lexer_Check (TLxToken.mk 1 0 0 0 a0)) fun x327 =>
  some (decide (x327 = 0)))))))))))))
noncomputable def F_shapes_Check_1 (a0 : Int) : Option (Bool) :=
 some (decide (a0 < 0))
noncomputable def F_slices_IndexFunc___int_int_ (a0 : List Int) : Option (Int) :=
 Option.bind (
  lpO (fun (s336 : Int) =>
  cond (decide (s336 < (↑(List.length (List.map (SV.int IntKind.i64) a0)) : Int)))
  (idxO (a0) (s336) fun x342 =>
  Option.bind (F_shapes_Check_1 (x342)) fun x343 =>
  cond (x343)
  (some (Sum.inr (Sum.inr (s336))))
  (letO (IntKind.wrap IntKind.i64 (s336 + 1)) fun x345 =>
  some (Sum.inl (x345))))
  (some (Sum.inr (Sum.inl (()))))) (0))
  (Sum.elim (fun (s334 : Unit) =>
  some ((-1 : Int))) some)
noncomputable def F_slices_ContainsFunc___int_int_ (a0 : List Int) : Option (Bool) :=
 Option.bind (F_slices_IndexFunc___int_int_ (a0)) fun x346 =>
  some (decide (0 ≤ x346))
noncomputable def F_shapes_Check_2 (a0 : Int) : Option (Bool) :=
 some (!decide (a0 = 0))
noncomputable def F_slices_IndexFunc___int_int__v1 (a0 : List Int) : Option (Int) :=
 Option.bind (
  lpO (fun (s351 : Int) =>
  cond (decide (s351 < (↑(List.length (List.map (SV.int IntKind.i64) a0)) : Int)))
  (idxO (a0) (s351) fun x357 =>
  Option.bind (F_shapes_Check_2 (x357)) fun x358 =>
  cond (x358)
  (some (Sum.inr (Sum.inr (s351))))
  (letO (IntKind.wrap IntKind.i64 (s351 + 1)) fun x360 =>
  some (Sum.inl (x360))))
  (some (Sum.inr (Sum.inl (()))))) (0))
  (Sum.elim (fun (s349 : Unit) =>
  some ((-1 : Int))) some)
noncomputable def F_slices_ContainsFunc___int_int__v1 (a0 : List Int) : Option (Bool) :=
 Option.bind (F_slices_IndexFunc___int_int__v1 (a0)) fun x361 =>
  some (decide (0 ≤ x361))
noncomputable def F_shapes_Check_3 (a0 : Int) : Option (Bool) :=
 some (decide (400 < a0))
noncomputable def F_slices_IndexFunc___int_int__v2 (a0 : List Int) : Option (Int) :=
 Option.bind (
  lpO (fun (s366 : Int) =>
  cond (decide (s366 < (↑(List.length (List.map (SV.int IntKind.i64) a0)) : Int)))
  (idxO (a0) (s366) fun x372 =>
  Option.bind (F_shapes_Check_3 (x372)) fun x373 =>
  cond (x373)
  (some (Sum.inr (Sum.inr (s366))))
  (letO (IntKind.wrap IntKind.i64 (s366 + 1)) fun x375 =>
  some (Sum.inl (x375))))
  (some (Sum.inr (Sum.inl (()))))) (0))
  (Sum.elim (fun (s364 : Unit) =>
  some ((-1 : Int))) some)
noncomputable def F_slices_ContainsFunc___int_int__v2 (a0 : List Int) : Option (Bool) :=
 Option.bind (F_slices_IndexFunc___int_int__v2 (a0)) fun x376 =>
  some (decide (0 ≤ x376))
noncomputable def F_shapes_product (a0 : Int) (a1 : Int × Int) : Option (Int) :=
 cond (decide (a0 = 2))
  (letO (IntKind.wrap IntKind.i64 (1 * a1.snd)) fun x380 =>
  letO (IntKind.wrap IntKind.i64 (x380 * a1.fst)) fun x381 =>
  some (x381))
  (cond (decide (a0 = 1))
  (letO (IntKind.wrap IntKind.i64 (1 * a1.fst)) fun x383 =>
  some (x383))
  (some (1)))
noncomputable def F_shapes_Check (a0 : Int) (a1 : Int × Int) : Option (Int) :=
 cond (decide (a0 < 0))
  (some (7))
  (cond (decide (2 < a0))
  (some (7))
  (sideO ((0 : Int) ≤ a0 ∧ a0 ≤ (↑(2 : Nat) : Int)) (
  sideO ((0 : Int) ≤ a0 ∧ a0 ≤ (↑(2 : Nat) : Int)) (
  Option.bind (F_slices_ContainsFunc___int_int_ (List.drop (Int.toNat 0) (List.take (Int.toNat a0) [a1.fst, a1.snd]))) fun x347 =>
  cond (x347)
  (some (7))
  (Option.bind (F_slices_ContainsFunc___int_int__v1 (List.drop (Int.toNat a0) (List.take (Int.toNat (↑2 : Int)) [a1.fst, a1.snd]))) fun x362 =>
  cond (x362)
  (some (6))
  (Option.bind (F_slices_ContainsFunc___int_int__v2 (List.drop (Int.toNat 0) (List.take (Int.toNat a0) [a1.fst, a1.snd]))) fun x377 =>
  cond (x377)
  (some (15))
  (Option.bind (F_shapes_product (a0) (a1)) fun x384 =>
  cond (decide (400 < x384))
  (some (15))
  (some (0)))))))))
noncomputable def F_shapes_Cells (a0 : Int) (a1 : Int × Int) : Option (Int × Int) :=
 Option.bind (F_shapes_Check (a0) (a1)) fun x386 =>
  cond (!decide (x386 = 0))
  (some ((0, x386)))
  (Option.bind (F_shapes_product (a0) (a1)) fun x388 =>
  some ((x388, 0)))
noncomputable def F_arrays_right (a0 : Int) (a1 : Int) : Option (Bool) :=
 cond (decide (a0 = 1))
  (some (true))
  (cond (decide (0 ≤ a1))
  (cond (decide (a1 ≤ 1114111))
  (letO (IntKind.wrap IntKind.i32 a1) fun x399 =>
  Option.bind (F_unicode_utf8_ValidRune (x399)) fun x400 =>
  some (x400))
  (some (false)))
  (some (false)))
noncomputable def F_arrays_Check_1 (a0 : Int) (a1 : TArray) : Option (Bool) :=
 Option.bind (F_arrays_right (a1.Kind) (a0)) fun x401 =>
  some (!x401)
noncomputable def F_slices_IndexFunc___int64_int64_ (a0 : List Int) (a1 : TArray) : Option (Int) :=
 Option.bind (
  lpO (fun (s394 : Int) =>
  cond (decide (s394 < (↑(List.length (List.map (SV.int IntKind.i64) a0)) : Int)))
  (idxO (a0) (s394) fun x400 =>
  Option.bind (F_arrays_Check_1 (x400) (a1)) fun x401 =>
  cond (x401)
  (some (Sum.inr (Sum.inr (s394))))
  (letO (IntKind.wrap IntKind.i64 (s394 + 1)) fun x403 =>
  some (Sum.inl (x403))))
  (some (Sum.inr (Sum.inl (()))))) (0))
  (Sum.elim (fun (s392 : Unit) =>
  some ((-1 : Int))) some)
noncomputable def F_slices_ContainsFunc___int64_int64_ (a0 : List Int) (a1 : TArray) : Option (Bool) :=
 Option.bind (F_slices_IndexFunc___int64_int64_ (a0) (a1)) fun x404 =>
  some (decide (0 ≤ x404))
noncomputable def F_arrays_Check (a0 : TArray) : Option (Int) :=
 cond (!decide (a0.Kind = 1))
  (cond (!decide (a0.Kind = 2))
  (some (2))
  (Option.bind (F_shapes_Cells (a0.Rank) (a0.Lens)) fun x389 =>
  cond (!decide (x389.snd = 0))
  (some (x389.snd))
  (cond (!decide ((↑(List.length (List.map (SV.int IntKind.i64) a0.Cells)) : Int) = x389.fst))
  (some (6))
  (Option.bind (F_slices_ContainsFunc___int64_int64_ (a0.Cells) (a0)) fun x405 =>
  cond (x405)
  (some (7))
  (some (0))))))
  (Option.bind (F_shapes_Cells (a0.Rank) (a0.Lens)) fun x407 =>
  cond (!decide (x407.snd = 0))
  (some (x407.snd))
  (cond (!decide ((↑(List.length (List.map (SV.int IntKind.i64) a0.Cells)) : Int) = x407.fst))
  (some (6))
  (Option.bind (F_slices_ContainsFunc___int64_int64_ (a0.Cells) (a0)) fun x410 =>
  cond (x410)
  (some (7))
  (some (0)))))
noncomputable def F_slices_Equal___int64_int64_ (a0 : List Int) (a1 : List Int) : Option (Bool) :=
 cond (!decide ((↑(List.length (List.map (SV.int IntKind.i64) a0)) : Int) = (↑(List.length (List.map (SV.int IntKind.i64) a1)) : Int)))
  (some (false))
  (Option.bind (
  lpO (fun (s421 : Int) =>
  cond (decide (s421 < (↑(List.length (List.map (SV.int IntKind.i64) a0)) : Int)))
  (idxO (a0) (s421) fun x427 =>
  idxO (a1) (s421) fun x428 =>
  cond (!decide (x427 = x428))
  (some (Sum.inr (Sum.inr (false))))
  (letO (IntKind.wrap IntKind.i64 (s421 + 1)) fun x430 =>
  some (Sum.inl (x430))))
  (some (Sum.inr (Sum.inl (()))))) (0))
  (Sum.elim (fun (s419 : Unit) =>
  some (true)) some))
noncomputable def F_view_sameArray (a0 : TArray) (a1 : TArray) : Option (Bool) :=
 cond (decide (a0.Kind = a1.Kind))
  (cond (decide (a0.Rank = a1.Rank))
  (cond (decide (a0.Lens.fst = a1.Lens.fst) && (decide (a0.Lens.snd = a1.Lens.snd) && true))
  (Option.bind (F_slices_Equal___int64_int64_ (a0.Cells) (a1.Cells)) fun x431 =>
  some (x431))
  (some (false)))
  (some (false)))
  (some (false))
noncomputable def F_view_bad (a0 : TLattice) (a1 : TEvEvent) (a2 : Int) (a3 : Int) (a4 : Bool) : Option (Int) :=
 Option.bind (F_view_label (a0) (a1.Label)) fun x205 =>
  cond (!x205)
  (some (7))
  (cond (decide (a1.Site < 0))
  (some (7))
  (cond (decide (1000000000 < a1.Site))
  (some (7))
  (cond (decide (a1.Steps < a2))
  (some (7))
  (cond (decide (a3 < a1.Steps))
  (some (7))
  (cond (decide (a1.Kind < 1))
  (some (6))
  (cond (decide (4 < a1.Kind))
  (some (6))
  (cond (decide (a1.Kind = 1) == a4)
  (some (6))
  (cond (!(!decide (a1.E = 0)) == decide (a1.Kind = 2))
  (some (6))
  (cond (decide (a1.Kind = 1))
  (Option.bind (F_expr_Name (a1.Channel)) fun x328 =>
  cond (!x328)
  (some (6))
  (Option.bind (F_arrays_Check (a1.Value)) fun x412 =>
  cond (!decide (x412 = 0))
  (some (6))
  (some (0))))
  (cond (!decide (a1.Channel = (ByteArray.mk #[]).data.toList))
  (some (6))
  (Option.bind (F_view_sameArray (a1.Value) (TArray.mk 0 0 (0, 0) [])) fun x432 =>
  cond (!x432)
  (some (6))
  (some (0)))))))))))))
noncomputable def F_view_Check (a0 : TLattice) (a1 : TEvTrace) : Option (Int × Int) :=
 Option.bind (F_lattice_Check (a0)) fun x196 =>
  cond (!decide (x196.snd = 0))
  (some (((-1 : Int), x196.snd)))
  (cond (decide ((↑(List.length (List.map enc_TEvEvent a1.Events)) : Int) = 0))
  (some (((-1 : Int), 6)))
  (letO (IntKind.wrap IntKind.i64 ((↑(List.length (List.map enc_TEvEvent a1.Events)) : Int) - 1)) fun x199 =>
  Option.bind (
  lpO (fun (s202 : Int × Int) =>
  cond (decide (s202.fst < (↑(List.length (List.map enc_TEvEvent a1.Events)) : Int)))
  (idxO (a1.Events) (s202.fst) fun x208 =>
  Option.bind (F_view_bad (a0) (x208) (s202.snd) (a1.Steps) (decide (s202.fst = x199))) fun x209 =>
  cond (!decide (x209 = 0))
  (some (Sum.inr (Sum.inr ((s202.fst, x209)))))
  (letO (IntKind.wrap IntKind.i64 (s202.fst + 1)) fun x211 =>
  some (Sum.inl ((x211, x208.Steps)))))
  (some (Sum.inr (Sum.inl (()))))) ((0, 0)))
  (Sum.elim (fun (s200 : Unit) =>
  Option.bind (
  lpO (fun (s214 : Int) =>
  cond (decide (s214 < (↑(List.length (List.map enc_TReEntry a1.Log)) : Int)))
  (idxO (a1.Log) (s214) fun x230 =>
  Option.bind (F_view_label (a0) (x230.From)) fun x231 =>
  cond (!x231)
  (some (Sum.inr (Sum.inr (((↑(List.length (List.map enc_TEvEvent a1.Events)) : Int), 7)))))
  (Option.bind (F_view_label (a0) (x230.Goal)) fun x233 =>
  cond (!x233)
  (some (Sum.inr (Sum.inr (((↑(List.length (List.map enc_TEvEvent a1.Events)) : Int), 7)))))
  (cond (decide (x230.Fold < 1))
  (some (Sum.inr (Sum.inr (((↑(List.length (List.map enc_TEvEvent a1.Events)) : Int), 6)))))
  (cond (decide (4 < x230.Fold))
  (some (Sum.inr (Sum.inr (((↑(List.length (List.map enc_TEvEvent a1.Events)) : Int), 6)))))
  (cond (decide (x230.Cells < 0))
  (some (Sum.inr (Sum.inr (((↑(List.length (List.map enc_TEvEvent a1.Events)) : Int), 6)))))
  (cond (decide (400 < x230.Cells))
  (some (Sum.inr (Sum.inr (((↑(List.length (List.map enc_TEvEvent a1.Events)) : Int), 6)))))
  (cond (decide (x230.Site < 0))
  (some (Sum.inr (Sum.inr (((↑(List.length (List.map enc_TEvEvent a1.Events)) : Int), 6)))))
  (cond (decide (1000000000 < x230.Site))
  (some (Sum.inr (Sum.inr (((↑(List.length (List.map enc_TEvEvent a1.Events)) : Int), 6)))))
  (cond (!decide (x230.Value.fst = 1))
  (cond (!(decide (x230.Value.fst = 0) && (decide (x230.Value.snd = 0) && true)))
  (some (Sum.inr (Sum.inr (((↑(List.length (List.map enc_TEvEvent a1.Events)) : Int), 6)))))
  (letO (IntKind.wrap IntKind.i64 (s214 + 1)) fun x243 =>
  some (Sum.inl (x243))))
  (letO (IntKind.wrap IntKind.i64 (s214 + 1)) fun x244 =>
  some (Sum.inl (x244))))))))))))
  (some (Sum.inr (Sum.inl (()))))) (0))
  (Sum.elim (fun (s212 : Unit) =>
  some ((0, 0))) some)) some)))
noncomputable def F_invigilatorref01_lower (a0 : Int) : Option (Bool) :=
 cond (decide (97 ≤ a0))
  (some (decide (a0 ≤ 122)))
  (some (false))
noncomputable def F_invigilatorref01_digit (a0 : Int) : Option (Bool) :=
 cond (decide (48 ≤ a0))
  (some (decide (a0 ≤ 57)))
  (some (false))
noncomputable def F_invigilatorref01_Name (a0 : List UInt8) : Option (Bool) :=
 cond (decide ((↑(List.length a0) : Int) < 1))
  (some (false))
  (cond (decide (16 < (↑(List.length a0) : Int)))
  (some (false))
  (idxO (a0) (0) fun x254 =>
  Option.bind (F_invigilatorref01_lower ((↑(UInt8.toNat x254) : Int))) fun x256 =>
  cond (!x256)
  (some (false))
  (Option.bind (
  lpO (fun (s260 : Int) =>
  cond (decide (s260 < (↑(List.length a0) : Int)))
  (idxO (a0) (s260) fun x271 =>
  Option.bind (F_invigilatorref01_lower ((↑(UInt8.toNat x271) : Int))) fun x272 =>
  cond (!x272)
  (idxO (a0) (s260) fun x274 =>
  Option.bind (F_invigilatorref01_digit ((↑(UInt8.toNat x274) : Int))) fun x275 =>
  cond (!x275)
  (idxO (a0) (s260) fun x277 =>
  cond (!decide ((↑(UInt8.toNat x277) : Int) = 45))
  (some (Sum.inr (Sum.inr (false))))
  (letO (IntKind.wrap IntKind.i64 (s260 + 1)) fun x279 =>
  some (Sum.inl (x279))))
  (letO (IntKind.wrap IntKind.i64 (s260 + 1)) fun x280 =>
  some (Sum.inl (x280))))
  (letO (IntKind.wrap IntKind.i64 (s260 + 1)) fun x281 =>
  some (Sum.inl (x281))))
  (some (Sum.inr (Sum.inl (()))))) (0))
  (Sum.elim (fun (s258 : Unit) =>
  some (true)) some))))
noncomputable def F_invigilatorref03_names (a0 : List (List UInt8)) : Option (Int × Int) :=
 cond (decide ((↑(List.length (List.map SV.str a0)) : Int) < 1))
  (some (((-1 : Int), 3)))
  (cond (decide (8 < (↑(List.length (List.map SV.str a0)) : Int)))
  (some (((-1 : Int), 3)))
  (Option.bind (
  lpO (fun (s250 : Int) =>
  cond (decide (s250 < (↑(List.length (List.map SV.str a0)) : Int)))
  (idxO (a0) (s250) fun x259 =>
  Option.bind (F_invigilatorref01_Name (x259)) fun x260 =>
  cond (!x260)
  (some (Sum.inr (Sum.inr ((s250, 6)))))
  (Option.bind (
  lpO (fun (s264 : Int) =>
  cond (decide (s264 < s250))
  (idxO (a0) (s264) fun x270 =>
  idxO (a0) (s250) fun x271 =>
  cond (decide (x270 = x271))
  (some (Sum.inr (Sum.inr (Sum.inr (Sum.inr ((s250, 8)))))))
  (letO (IntKind.wrap IntKind.i64 (s264 + 1)) fun x273 =>
  some (Sum.inl (x273))))
  (some (Sum.inr (Sum.inl (()))))) (0))
  (Sum.elim (fun (s262 : Unit) =>
  letO (IntKind.wrap IntKind.i64 (s250 + 1)) fun x274 =>
  some (Sum.inl (x274))) some)))
  (some (Sum.inr (Sum.inl (()))))) (0))
  (Sum.elim (fun (s248 : Unit) =>
  some ((0, 0))) some)))
noncomputable def F_invigilatorref03_Below (a0 : TLattice) (a1 : Int) (a2 : Int) : Option (Bool) :=
 cond (decide (0 ≤ a1))
  (cond (decide (a1 < (↑(List.length (List.map (SV.int IntKind.u8) a0.Up)) : Int)))
  (cond (decide (0 ≤ a2))
  (idxO (a0.Up) (a1) fun x287 =>
  sideO ((0 : Int) ≤ a2) (
  some (decide (Int.tmod (Int.fdiv x287 (2 ^ min (Int.toNat a2) (IntKind.bits IntKind.u8))) 2 = 1))))
  (some (false)))
  (some (false)))
  (some (false))
noncomputable def F_invigilatorref03_ordered (a0 : TLattice) (a1 : Int) : Option (Bool) :=
 idxO (a0.Up) (a1) fun x281 =>
  letO (IntKind.wrap IntKind.i64 x281) fun x282 =>
  sideO ((0 : Int) ≤ (↑(List.length (List.map SV.str a0.Names)) : Int)) (
  cond (decide (0 < Int.fdiv x282 (2 ^ min (Int.toNat (↑(List.length (List.map SV.str a0.Names)) : Int)) (IntKind.bits IntKind.i64))))
  (some (false))
  (Option.bind (F_invigilatorref03_Below (a0) (a1) (a1)) fun x288 =>
  cond (!x288)
  (some (false))
  (Option.bind (
  lpO (fun (s292 : Int) =>
  cond (decide (s292 < (↑(List.length (List.map SV.str a0.Names)) : Int)))
  (Option.bind (F_invigilatorref03_Below (a0) (a1) (s292)) fun x306 =>
  cond (!x306)
  (letO (IntKind.wrap IntKind.i64 (s292 + 1)) fun x308 =>
  some (Sum.inl (x308)))
  (idxO (a0.Up) (s292) fun x309 =>
  letO (IntKind.wrap IntKind.i64 x309) fun x310 =>
  sideO ((0 : Int) ≤ (↑(List.length (List.map SV.str a0.Names)) : Int)) (
  letO (IntKind.wrap IntKind.i64 (1 * 2 ^ min (Int.toNat (↑(List.length (List.map SV.str a0.Names)) : Int)) (IntKind.bits IntKind.i64))) fun x311 =>
  letO (IntKind.wrap IntKind.i64 (x311 - 1)) fun x312 =>
  cond (!decide (s292 = a1))
  (Option.bind (F_invigilatorref03_Below (a0) (s292) (a1)) fun x314 =>
  cond (x314)
  (some (Sum.inr (Sum.inr (false))))
  (cond (!decide (bits BinOp.and IntKind.i64 (bits BinOp.and IntKind.i64 x310 x312) x282 = bits BinOp.and IntKind.i64 x310 x312))
  (some (Sum.inr (Sum.inr (false))))
  (letO (IntKind.wrap IntKind.i64 (s292 + 1)) fun x317 =>
  some (Sum.inl (x317)))))
  (cond (!decide (bits BinOp.and IntKind.i64 (bits BinOp.and IntKind.i64 x310 x312) x282 = bits BinOp.and IntKind.i64 x310 x312))
  (some (Sum.inr (Sum.inr (false))))
  (letO (IntKind.wrap IntKind.i64 (s292 + 1)) fun x319 =>
  some (Sum.inl (x319)))))))
  (some (Sum.inr (Sum.inl (()))))) (0))
  (Sum.elim (fun (s290 : Unit) =>
  some (true)) some))))
noncomputable def F_invigilatorref03_downs (a0 : TLattice) : Option (List Int) :=
 sideO ((0 : Int) ≤ (↑(List.length (List.map SV.str a0.Names)) : Int) ∧ (↑(List.length (List.map SV.str a0.Names)) : Int) = (↑(List.length (List.map SV.str a0.Names)) : Int) ∧ (↑(List.length (List.map SV.str a0.Names)) : Int) ≤ (70368744177664 : Int) ∧ (↑(List.length (List.map SV.str a0.Names)) : Int) * (↑(1 : Nat) : Int) ≤ (70368744177664 : Int)) (
  Option.bind (
  lpO (fun (s290 : Int × List Int) =>
  cond (decide (s290.fst < (↑(List.length (List.map SV.str a0.Names)) : Int)))
  (Option.bind (
  lpO (fun (s309 : Int × List Int) =>
  cond (decide (s309.fst < (↑(List.length (List.map SV.str a0.Names)) : Int)))
  (Option.bind (F_invigilatorref03_Below (a0) (s290.fst) (s309.fst)) fun x317 =>
  cond (x317)
  (sideO ((0 : Int) ≤ s309.fst ∧ s309.fst < (↑(List.length (List.map (SV.int IntKind.u8) s309.snd)) : Int)) (
  idxO (s309.snd) ((↑(Int.toNat s309.fst) : Int)) fun x319 =>
  sideO ((0 : Int) ≤ s290.fst) (
  letO (IntKind.wrap IntKind.u8 (1 * 2 ^ min (Int.toNat s290.fst) (IntKind.bits IntKind.u8))) fun x320 =>
  sideO ((0 : Int) ≤ s309.fst ∧ s309.fst < (↑(List.length (List.map (SV.int IntKind.u8) s309.snd)) : Int)) (
  idxO (s309.snd) ((↑(Int.toNat s309.fst) : Int)) fun x321 =>
  letO (IntKind.wrap IntKind.i64 (s309.fst + 1)) fun x322 =>
  some (Sum.inl ((x322, List.set s309.snd (Int.toNat s309.fst) (bits BinOp.or IntKind.u8 x319 x320))))))))
  (letO (IntKind.wrap IntKind.i64 (s309.fst + 1)) fun x323 =>
  some (Sum.inl ((x323, s309.snd)))))
  (some (Sum.inr (Sum.inl (s309.snd))))) ((0, s290.snd)))
  (Sum.elim (fun (s307 : List Int) =>
  letO (IntKind.wrap IntKind.i64 (s290.fst + 1)) fun x324 =>
  some (Sum.inl ((x324, s307)))) some))
  (some (Sum.inr (Sum.inl (s290.snd))))) ((0, List.replicate (Int.toNat (↑(List.length (List.map SV.str a0.Names)) : Int)) 0)))
  (Sum.elim (fun (s288 : List Int) =>
  some (s288)) some))
noncomputable def F_invigilatorref03_nearest (a0 : List Int) (a1 : Int) (a2 : Int) : Option (Int) :=
 idxO (a0) (a1) fun x331 =>
  idxO (a0) (a2) fun x332 =>
  Option.bind (
  lpO (fun (s335 : Int) =>
  cond (decide (s335 < (↑(List.length (List.map (SV.int IntKind.u8) a0)) : Int)))
  (idxO (a0) (s335) fun x340 =>
  cond (decide (x340 = bits BinOp.and IntKind.u8 x331 x332))
  (some (Sum.inr (Sum.inr (s335))))
  (letO (IntKind.wrap IntKind.i64 (s335 + 1)) fun x342 =>
  some (Sum.inl (x342))))
  (some (Sum.inr (Sum.inl (()))))) (0))
  (Sum.elim (fun (s333 : Unit) =>
  some ((-1 : Int))) some)
noncomputable def F_invigilatorref03_Check (a0 : TLattice) : Option (Int × Int) :=
 Option.bind (F_invigilatorref03_names (a0.Names)) fun x275 =>
  cond (!decide (x275.snd = 0))
  (some (x275))
  (cond (!decide ((↑(List.length (List.map (SV.int IntKind.u8) a0.Up)) : Int) = (↑(List.length (List.map SV.str a0.Names)) : Int)))
  (some (((-1 : Int), 6)))
  (Option.bind (
  lpO (fun (s280 : Int) =>
  cond (decide (s280 < (↑(List.length (List.map SV.str a0.Names)) : Int)))
  (Option.bind (F_invigilatorref03_ordered (a0) (s280)) fun x285 =>
  cond (!x285)
  (some (Sum.inr (Sum.inr ((s280, 6)))))
  (letO (IntKind.wrap IntKind.i64 (s280 + 1)) fun x287 =>
  some (Sum.inl (x287))))
  (some (Sum.inr (Sum.inl (()))))) (0))
  (Sum.elim (fun (s278 : Unit) =>
  Option.bind (F_invigilatorref03_downs (a0)) fun x325 =>
  Option.bind (
  lpO (fun (s328 : Int) =>
  cond (decide (s328 < (↑(List.length (List.map SV.str a0.Names)) : Int)))
  (Option.bind (
  lpO (fun (s346 : Int) =>
  cond (decide (s346 < (↑(List.length (List.map SV.str a0.Names)) : Int)))
  (Option.bind (F_invigilatorref03_nearest (a0.Up) (s328) (s346)) fun x353 =>
  cond (decide (x353 < 0))
  (some (Sum.inr (Sum.inr (Sum.inr (Sum.inr ((s328, 4)))))))
  (Option.bind (F_invigilatorref03_nearest (x325) (s328) (s346)) fun x355 =>
  cond (decide (x355 < 0))
  (some (Sum.inr (Sum.inr (Sum.inr (Sum.inr ((s328, 4)))))))
  (letO (IntKind.wrap IntKind.i64 (s346 + 1)) fun x357 =>
  some (Sum.inl (x357)))))
  (some (Sum.inr (Sum.inl (()))))) (0))
  (Sum.elim (fun (s344 : Unit) =>
  letO (IntKind.wrap IntKind.i64 (s328 + 1)) fun x358 =>
  some (Sum.inl (x358))) some))
  (some (Sum.inr (Sum.inl (()))))) (0))
  (Sum.elim (fun (s326 : Unit) =>
  some ((0, 0))) some)) some)))
noncomputable def F_invigilatorref20_Label (a0 : TLattice) (a1 : Int) : Option (Bool) :=
 cond (decide (0 ≤ a1))
  (some (decide (a1 < (↑(List.length (List.map SV.str a0.Names)) : Int))))
  (some (false))
noncomputable def F_invigilatorref31_none (a0 : TArray) : Option (Bool) :=
 cond (decide (a0.Kind = 0))
  (cond (decide (a0.Rank = 0))
  (cond (decide (a0.Lens.fst = 0) && (decide (a0.Lens.snd = 0) && true))
  (some (decide ((↑(List.length (List.map (SV.int IntKind.i64) a0.Cells)) : Int) = 0)))
  (some (false)))
  (some (false)))
  (some (false))
noncomputable def F_invigilatorref12_names : Option (List (List UInt8)) :=
 some ([(ByteArray.mk #[110, 101, 103]).data.toList, (ByteArray.mk #[97, 98, 115]).data.toList, (ByteArray.mk #[110, 111, 116]).data.toList, (ByteArray.mk #[115, 104, 97, 112, 101]).data.toList, (ByteArray.mk #[114, 97, 118, 101, 108]).data.toList, (ByteArray.mk #[114, 101, 118, 101, 114, 115, 101]).data.toList, (ByteArray.mk #[102, 108, 105, 112]).data.toList, (ByteArray.mk #[105, 111, 116, 97]).data.toList, (ByteArray.mk #[115, 117, 109]).data.toList, (ByteArray.mk #[108, 101, 97, 115, 116]).data.toList, (ByteArray.mk #[109, 111, 115, 116]).data.toList, (ByteArray.mk #[99, 111, 117, 110, 116]).data.toList, (ByteArray.mk #[115, 99, 97, 110]).data.toList, (ByteArray.mk #[103, 114, 97, 100, 101]).data.toList, (ByteArray.mk #[97, 100, 100]).data.toList, (ByteArray.mk #[115, 117, 98]).data.toList, (ByteArray.mk #[109, 117, 108]).data.toList, (ByteArray.mk #[100, 105, 118]).data.toList, (ByteArray.mk #[109, 111, 100]).data.toList, (ByteArray.mk #[112, 108, 117, 115]).data.toList, (ByteArray.mk #[109, 105, 110, 117, 115]).data.toList, (ByteArray.mk #[116, 105, 109, 101, 115]).data.toList, (ByteArray.mk #[101, 113]).data.toList, (ByteArray.mk #[110, 101]).data.toList, (ByteArray.mk #[108, 116]).data.toList, (ByteArray.mk #[108, 101]).data.toList, (ByteArray.mk #[103, 116]).data.toList, (ByteArray.mk #[103, 101]).data.toList, (ByteArray.mk #[97, 110, 100]).data.toList, (ByteArray.mk #[111, 114]).data.toList, (ByteArray.mk #[109, 105, 110]).data.toList, (ByteArray.mk #[109, 97, 120]).data.toList, (ByteArray.mk #[116, 97, 107, 101]).data.toList, (ByteArray.mk #[100, 114, 111, 112]).data.toList, (ByteArray.mk #[102, 105, 108, 108]).data.toList, (ByteArray.mk #[103, 114, 105, 100]).data.toList, (ByteArray.mk #[99, 97, 116]).data.toList, (ByteArray.mk #[97, 116]).data.toList, (ByteArray.mk #[105, 110]).data.toList, (ByteArray.mk #[112, 105, 99, 107]).data.toList])
noncomputable def F_invigilatorref12_Find (a0 : List UInt8) : Option (Int × Int) :=
 Option.bind (F_invigilatorref12_names) fun x387 =>
  Option.bind (
  lpO (fun (s390 : Int) =>
  cond (decide (s390 < (↑(List.length (List.map SV.str x387)) : Int)))
  (idxO (x387) (s390) fun x395 =>
  cond (decide (x395 = a0))
  (letO (IntKind.wrap IntKind.i64 (s390 + 1)) fun x397 =>
  some (Sum.inr (Sum.inr ((x397, 0)))))
  (letO (IntKind.wrap IntKind.i64 (s390 + 1)) fun x398 =>
  some (Sum.inl (x398))))
  (some (Sum.inr (Sum.inl (()))))) (0))
  (Sum.elim (fun (s388 : Unit) =>
  some ((0, 4))) some)
noncomputable def F_invigilatorref14_letter (a0 : Int) : Option (Bool) :=
 cond (decide (97 ≤ a0))
  (some (decide (a0 ≤ 122)))
  (some (false))
noncomputable def F_invigilatorref14_digit (a0 : Int) : Option (Bool) :=
 cond (decide (48 ≤ a0))
  (some (decide (a0 ≤ 57)))
  (some (false))
noncomputable def F_invigilatorref14_named (a0 : List UInt8) : Option (Bool) :=
 cond (decide (a0 = (ByteArray.mk #[]).data.toList))
  (some (false))
  (idxO (a0) (0) fun x409 =>
  Option.bind (F_invigilatorref14_letter ((↑(UInt8.toNat x409) : Int))) fun x411 =>
  cond (!x411)
  (some (false))
  (Option.bind (
  lpO (fun (s415 : Int) =>
  cond (decide (s415 < (↑(List.length a0) : Int)))
  (idxO (a0) (s415) fun x424 =>
  Option.bind (F_invigilatorref14_letter ((↑(UInt8.toNat x424) : Int))) fun x425 =>
  cond (!x425)
  (idxO (a0) (s415) fun x427 =>
  Option.bind (F_invigilatorref14_digit ((↑(UInt8.toNat x427) : Int))) fun x428 =>
  cond (!x428)
  (some (Sum.inr (Sum.inr (false))))
  (letO (IntKind.wrap IntKind.i64 (s415 + 1)) fun x430 =>
  some (Sum.inl (x430))))
  (letO (IntKind.wrap IntKind.i64 (s415 + 1)) fun x431 =>
  some (Sum.inl (x431))))
  (some (Sum.inr (Sum.inl (()))))) (0))
  (Sum.elim (fun (s413 : Unit) =>
  some (true)) some)))
noncomputable def F_invigilatorref14_runes (a0 : List UInt8) : Option (List Int × Bool) :=
 Option.bind (
  lpO (fun (s438 : Unit) =>
  cond (decide (0 < (↑(List.length a0) : Int)))
  (none)
  (some (Sum.inr (Sum.inl (()))))) (()))
  (Sum.elim (fun (s436 : Unit) =>
  some (([], true))) some)
noncomputable def F_invigilatorref14_Check (a0 : TLxToken) : Option (Int) :=
 cond (decide (a0.Kind < 1))
  (some (2))
  (cond (decide (9 < a0.Kind))
  (some (2))
  (cond (!decide (a0.Kind = 2))
  (cond (!decide (a0.N = 0))
  (some (2))
  (cond (!decide (a0.Kind = 1))
  (cond (!decide (a0.Kind = 3))
  (cond (!decide (a0.S = (ByteArray.mk #[]).data.toList))
  (some (2))
  (cond (decide (a0.Kind = 1))
  (Option.bind (F_invigilatorref14_named (a0.S)) fun x432 =>
  cond (!x432)
  (some (6))
  (cond (decide (16 < (↑(List.length a0.S) : Int)))
  (some (3))
  (some (0))))
  (cond (decide (a0.Kind = 3))
  (Option.bind (F_invigilatorref14_runes (a0.S)) fun x440 =>
  cond (!x440.snd)
  (some (6))
  (cond (decide (2000 < (↑(List.length a0.S) : Int)))
  (some (3))
  (some (0))))
  (some (0)))))
  (cond (decide (a0.Kind = 1))
  (Option.bind (F_invigilatorref14_named (a0.S)) fun x444 =>
  cond (!x444)
  (some (6))
  (cond (decide (16 < (↑(List.length a0.S) : Int)))
  (some (3))
  (some (0))))
  (cond (decide (a0.Kind = 3))
  (Option.bind (F_invigilatorref14_runes (a0.S)) fun x448 =>
  cond (!x448.snd)
  (some (6))
  (cond (decide (2000 < (↑(List.length a0.S) : Int)))
  (some (3))
  (some (0))))
  (some (0)))))
  (cond (decide (a0.Kind = 1))
  (Option.bind (F_invigilatorref14_named (a0.S)) fun x452 =>
  cond (!x452)
  (some (6))
  (cond (decide (16 < (↑(List.length a0.S) : Int)))
  (some (3))
  (some (0))))
  (cond (decide (a0.Kind = 3))
  (Option.bind (F_invigilatorref14_runes (a0.S)) fun x456 =>
  cond (!x456.snd)
  (some (6))
  (cond (decide (2000 < (↑(List.length a0.S) : Int)))
  (some (3))
  (some (0))))
  (some (0))))))
  (cond (!decide (a0.Kind = 1))
  (cond (!decide (a0.Kind = 3))
  (cond (!decide (a0.S = (ByteArray.mk #[]).data.toList))
  (some (2))
  (cond (decide (a0.Kind = 1))
  (Option.bind (F_invigilatorref14_named (a0.S)) fun x463 =>
  cond (!x463)
  (some (6))
  (cond (decide (16 < (↑(List.length a0.S) : Int)))
  (some (3))
  (some (0))))
  (cond (decide (a0.Kind = 3))
  (Option.bind (F_invigilatorref14_runes (a0.S)) fun x467 =>
  cond (!x467.snd)
  (some (6))
  (cond (decide (2000 < (↑(List.length a0.S) : Int)))
  (some (3))
  (some (0))))
  (some (0)))))
  (cond (decide (a0.Kind = 1))
  (Option.bind (F_invigilatorref14_named (a0.S)) fun x471 =>
  cond (!x471)
  (some (6))
  (cond (decide (16 < (↑(List.length a0.S) : Int)))
  (some (3))
  (some (0))))
  (cond (decide (a0.Kind = 3))
  (Option.bind (F_invigilatorref14_runes (a0.S)) fun x475 =>
  cond (!x475.snd)
  (some (6))
  (cond (decide (2000 < (↑(List.length a0.S) : Int)))
  (some (3))
  (some (0))))
  (some (0)))))
  (cond (decide (a0.Kind = 1))
  (Option.bind (F_invigilatorref14_named (a0.S)) fun x479 =>
  cond (!x479)
  (some (6))
  (cond (decide (16 < (↑(List.length a0.S) : Int)))
  (some (3))
  (some (0))))
  (cond (decide (a0.Kind = 3))
  (Option.bind (F_invigilatorref14_runes (a0.S)) fun x483 =>
  cond (!x483.snd)
  (some (6))
  (cond (decide (2000 < (↑(List.length a0.S) : Int)))
  (some (3))
  (some (0))))
  (some (0)))))))
noncomputable def F_invigilatorref15_reserved (a0 : List UInt8) : Option (Bool) :=
 Option.bind (
  lpO (fun (s491 : Int) =>
  cond (decide (s491 < (↑10 : Int)))
  (sideO ((0 : Int) ≤ s491 ∧ s491 < (↑(10 : Nat) : Int)) (
  idxO ([(ByteArray.mk #[118, 97, 114]).data.toList, (ByteArray.mk #[100, 101, 102]).data.toList, (ByteArray.mk #[111, 117, 116]).data.toList, (ByteArray.mk #[105, 102]).data.toList, (ByteArray.mk #[101, 108, 115, 101]).data.toList, (ByteArray.mk #[119, 104, 105, 108, 101]).data.toList, (ByteArray.mk #[101, 110, 100]).data.toList, (ByteArray.mk #[114, 101, 108, 101, 97, 115, 101]).data.toList, (ByteArray.mk #[105, 110, 116]).data.toList, (ByteArray.mk #[99, 104, 97, 114]).data.toList]) ((↑(Int.toNat s491) : Int)) fun x494 =>
  cond (decide (x494 = a0))
  (some (Sum.inr (Sum.inr (true))))
  (letO (IntKind.wrap IntKind.i64 (s491 + 1)) fun x496 =>
  some (Sum.inl (x496)))))
  (some (Sum.inr (Sum.inl (()))))) (0))
  (Sum.elim (fun (s489 : Unit) =>
  some (false)) some)
noncomputable def F_invigilatorref15_Name (a0 : List UInt8) : Option (Bool) :=
 Option.bind (F_invigilatorref12_Find (a0)) fun x399 =>
  Option.bind (F_invigilatorref14_Check (TLxToken.mk 1 0 0 0 a0)) fun x486 =>
  cond (decide (x486 = 0))
  (cond (!decide (x399.snd = 0))
  (Option.bind (F_invigilatorref15_reserved (a0)) fun x497 =>
  some (!x497))
  (some (false)))
  (some (false))
noncomputable def F_invigilatorref05_Many (a0 : Int) (a1 : Int × Int) : Option (Int) :=
 Option.bind (
  lpO (fun (s528 : Int × Int) =>
  cond (decide (s528.fst < a0))
  (sideO ((0 : Int) ≤ s528.fst ∧ s528.fst < (↑(2 : Nat) : Int)) (
  idxO ([a1.fst, a1.snd]) ((↑(Int.toNat s528.fst) : Int)) fun x532 =>
  letO (IntKind.wrap IntKind.i64 (s528.snd * x532)) fun x533 =>
  letO (IntKind.wrap IntKind.i64 (s528.fst + 1)) fun x534 =>
  some (Sum.inl ((x534, x533)))))
  (some (Sum.inr (Sum.inl (s528.snd))))) ((0, 1)))
  (Sum.elim (fun (s526 : Int) =>
  some (s526)) some)
noncomputable def F_invigilatorref05_Check (a0 : Int) (a1 : Int × Int) : Option (Int) :=
 cond (decide (a0 < 0))
  (some (7))
  (cond (decide (2 < a0))
  (some (7))
  (Option.bind (
  lpO (fun (s506 : Int) =>
  cond (decide (s506 < a0))
  (sideO ((0 : Int) ≤ s506 ∧ s506 < (↑(2 : Nat) : Int)) (
  idxO ([a1.fst, a1.snd]) ((↑(Int.toNat s506) : Int)) fun x510 =>
  cond (decide (x510 < 0))
  (some (Sum.inr (Sum.inr (7))))
  (letO (IntKind.wrap IntKind.i64 (s506 + 1)) fun x512 =>
  some (Sum.inl (x512)))))
  (some (Sum.inr (Sum.inl (()))))) (0))
  (Sum.elim (fun (s504 : Unit) =>
  Option.bind (
  lpO (fun (s515 : Int) =>
  cond (decide (s515 < 2))
  (sideO ((0 : Int) ≤ s515 ∧ s515 < (↑(2 : Nat) : Int)) (
  idxO ([a1.fst, a1.snd]) ((↑(Int.toNat s515) : Int)) fun x521 =>
  cond (!decide (x521 = 0))
  (some (Sum.inr (Sum.inr (6))))
  (letO (IntKind.wrap IntKind.i64 (s515 + 1)) fun x523 =>
  some (Sum.inl (x523)))))
  (some (Sum.inr (Sum.inl (()))))) (a0))
  (Sum.elim (fun (s513 : Unit) =>
  cond (decide (400 < a1.fst))
  (some (15))
  (cond (decide (400 < a1.snd))
  (some (15))
  (Option.bind (F_invigilatorref05_Many (a0) (a1)) fun x535 =>
  cond (decide (400 < x535))
  (some (15))
  (some (0))))) some)) some)))
noncomputable def F_invigilatorref05_Cells (a0 : Int) (a1 : Int × Int) : Option (Int × Int) :=
 Option.bind (F_invigilatorref05_Check (a0) (a1)) fun x537 =>
  cond (!decide (x537 = 0))
  (some ((0, x537)))
  (Option.bind (F_invigilatorref05_Many (a0) (a1)) fun x539 =>
  some ((x539, 0)))
noncomputable def F_invigilatorref06_rune64 (a0 : Int) : Option (Bool) :=
 cond (decide (0 ≤ a0))
  (cond (decide (a0 ≤ 1114111))
  (cond (decide (a0 < 55296))
  (some (true))
  (some (decide (57343 < a0))))
  (some (false)))
  (some (false))
noncomputable def F_invigilatorref06_Check (a0 : TArray) : Option (Int) :=
 cond (!decide (a0.Kind = 1))
  (cond (!decide (a0.Kind = 2))
  (some (2))
  (Option.bind (F_invigilatorref05_Cells (a0.Rank) (a0.Lens)) fun x540 =>
  cond (decide (x540.snd = 0))
  (cond (!decide ((↑(List.length (List.map (SV.int IntKind.i64) a0.Cells)) : Int) = x540.fst))
  (Option.bind (
  lpO (fun (s545 : Unit) =>
  cond (decide (0 < (↑(List.length (List.map (SV.int IntKind.i64) a0.Cells)) : Int)))
  (some (Sum.inr (Sum.inl (()))))
  (some (Sum.inr (Sum.inl (()))))) (()))
  (Sum.elim (fun (s543 : Unit) =>
  some (6)) some))
  (Option.bind (
  lpO (fun (s549 : Int × Int) =>
  cond (decide (s549.fst < (↑(List.length (List.map (SV.int IntKind.i64) a0.Cells)) : Int)))
  (cond (decide (s549.snd = 0))
  (cond (decide (a0.Kind = 2))
  (idxO (a0.Cells) (s549.fst) fun x558 =>
  Option.bind (F_invigilatorref06_rune64 (x558)) fun x559 =>
  cond (!x559)
  (letO (IntKind.wrap IntKind.i64 (s549.fst + 1)) fun x561 =>
  some (Sum.inl ((x561, 7))))
  (letO (IntKind.wrap IntKind.i64 (s549.fst + 1)) fun x562 =>
  some (Sum.inl ((x562, s549.snd)))))
  (letO (IntKind.wrap IntKind.i64 (s549.fst + 1)) fun x563 =>
  some (Sum.inl ((x563, s549.snd)))))
  (some (Sum.inr (Sum.inl (s549.snd)))))
  (some (Sum.inr (Sum.inl (s549.snd))))) ((0, x540.snd)))
  (Sum.elim (fun (s547 : Int) =>
  some (s547)) some)))
  (Option.bind (
  lpO (fun (s566 : Unit) =>
  cond (decide (0 < (↑(List.length (List.map (SV.int IntKind.i64) a0.Cells)) : Int)))
  (some (Sum.inr (Sum.inl (()))))
  (some (Sum.inr (Sum.inl (()))))) (()))
  (Sum.elim (fun (s564 : Unit) =>
  some (x540.snd)) some))))
  (Option.bind (F_invigilatorref05_Cells (a0.Rank) (a0.Lens)) fun x568 =>
  cond (decide (x568.snd = 0))
  (cond (!decide ((↑(List.length (List.map (SV.int IntKind.i64) a0.Cells)) : Int) = x568.fst))
  (Option.bind (
  lpO (fun (s573 : Unit) =>
  cond (decide (0 < (↑(List.length (List.map (SV.int IntKind.i64) a0.Cells)) : Int)))
  (some (Sum.inr (Sum.inl (()))))
  (some (Sum.inr (Sum.inl (()))))) (()))
  (Sum.elim (fun (s571 : Unit) =>
  some (6)) some))
  (Option.bind (
  lpO (fun (s577 : Int × Int) =>
  cond (decide (s577.fst < (↑(List.length (List.map (SV.int IntKind.i64) a0.Cells)) : Int)))
  (cond (decide (s577.snd = 0))
  (cond (decide (a0.Kind = 2))
  (idxO (a0.Cells) (s577.fst) fun x586 =>
  Option.bind (F_invigilatorref06_rune64 (x586)) fun x587 =>
  cond (!x587)
  (letO (IntKind.wrap IntKind.i64 (s577.fst + 1)) fun x589 =>
  some (Sum.inl ((x589, 7))))
  (letO (IntKind.wrap IntKind.i64 (s577.fst + 1)) fun x590 =>
  some (Sum.inl ((x590, s577.snd)))))
  (letO (IntKind.wrap IntKind.i64 (s577.fst + 1)) fun x591 =>
  some (Sum.inl ((x591, s577.snd)))))
  (some (Sum.inr (Sum.inl (s577.snd)))))
  (some (Sum.inr (Sum.inl (s577.snd))))) ((0, x568.snd)))
  (Sum.elim (fun (s575 : Int) =>
  some (s575)) some)))
  (Option.bind (
  lpO (fun (s594 : Unit) =>
  cond (decide (0 < (↑(List.length (List.map (SV.int IntKind.i64) a0.Cells)) : Int)))
  (some (Sum.inr (Sum.inl (()))))
  (some (Sum.inr (Sum.inl (()))))) (()))
  (Sum.elim (fun (s592 : Unit) =>
  some (x568.snd)) some)))
noncomputable def F_invigilatorref31_event (a0 : TLattice) (a1 : TEvTrace) (a2 : TEvEvent) (a3 : Int) (a4 : Bool) : Option (Int) :=
 Option.bind (F_invigilatorref20_Label (a0) (a2.Label)) fun x369 =>
  cond (!x369)
  (some (7))
  (cond (decide (a2.Site < 0))
  (some (7))
  (cond (decide (1000000000 < a2.Site))
  (some (7))
  (cond (decide (a2.Steps < a3))
  (some (7))
  (cond (decide (a1.Steps < a2.Steps))
  (some (7))
  (cond (decide (a2.Kind < 1))
  (some (6))
  (cond (decide (4 < a2.Kind))
  (some (6))
  (cond (decide (a2.Kind = 1) == a4)
  (some (6))
  (cond (!(!decide (a2.E = 0)) == decide (a2.Kind = 2))
  (some (6))
  (cond (!decide (a2.Kind = 1))
  (cond (!decide (a2.Channel = (ByteArray.mk #[]).data.toList))
  (some (6))
  (Option.bind (F_invigilatorref31_none (a2.Value)) fun x384 =>
  cond (!x384)
  (some (6))
  (cond (decide (a2.Kind = 1))
  (Option.bind (F_invigilatorref15_Name (a2.Channel)) fun x498 =>
  cond (!x498)
  (some (6))
  (Option.bind (F_invigilatorref06_Check (a2.Value)) fun x596 =>
  cond (!decide (x596 = 0))
  (some (6))
  (some (0))))
  (some (0)))))
  (cond (decide (a2.Kind = 1))
  (Option.bind (F_invigilatorref15_Name (a2.Channel)) fun x599 =>
  cond (!x599)
  (some (6))
  (Option.bind (F_invigilatorref06_Check (a2.Value)) fun x601 =>
  cond (!decide (x601 = 0))
  (some (6))
  (some (0))))
  (some (0))))))))))))
noncomputable def F_invigilatorref31_entry (a0 : TLattice) (a1 : TReEntry) : Option (Int) :=
 Option.bind (F_invigilatorref20_Label (a0) (a1.From)) fun x383 =>
  cond (!x383)
  (some (7))
  (Option.bind (F_invigilatorref20_Label (a0) (a1.Goal)) fun x385 =>
  cond (!x385)
  (some (7))
  (cond (decide (a1.Fold < 1))
  (some (6))
  (cond (decide (4 < a1.Fold))
  (some (6))
  (cond (decide (a1.Cells < 0))
  (some (6))
  (cond (decide (400 < a1.Cells))
  (some (6))
  (cond (decide (a1.Site < 0))
  (some (6))
  (cond (decide (1000000000 < a1.Site))
  (some (6))
  (cond (!decide (a1.Value.fst = 1))
  (cond (!(decide (a1.Value.fst = 0) && (decide (a1.Value.snd = 0) && true)))
  (some (6))
  (some (0)))
  (some (0))))))))))
noncomputable def F_invigilatorref31_Check (a0 : TLattice) (a1 : TEvTrace) : Option (Int × Int) :=
 Option.bind (F_invigilatorref03_Check (a0)) fun x359 =>
  cond (decide (x359.snd = 0))
  (cond (decide ((↑(List.length (List.map enc_TEvEvent a1.Events)) : Int) = 0))
  (some (((-1 : Int), 6)))
  (cond (!decide (x359.snd = 0))
  (some (((-1 : Int), x359.snd)))
  (Option.bind (
  lpO (fun (s365 : Int × Int) =>
  cond (decide (s365.fst < (↑(List.length (List.map enc_TEvEvent a1.Events)) : Int)))
  (idxO (a1.Events) (s365.fst) fun x373 =>
  letO (IntKind.wrap IntKind.i64 ((↑(List.length (List.map enc_TEvEvent a1.Events)) : Int) - 1)) fun x374 =>
  Option.bind (F_invigilatorref31_event (a0) (a1) (x373) (s365.snd) (decide (s365.fst = x374))) fun x375 =>
  cond (!decide (x375 = 0))
  (some (Sum.inr (Sum.inr ((s365.fst, x375)))))
  (idxO (a1.Events) (s365.fst) fun x377 =>
  letO (IntKind.wrap IntKind.i64 (s365.fst + 1)) fun x378 =>
  some (Sum.inl ((x378, x377.Steps)))))
  (some (Sum.inr (Sum.inl (()))))) ((0, 0)))
  (Sum.elim (fun (s363 : Unit) =>
  Option.bind (
  lpO (fun (s381 : Int) =>
  cond (decide (s381 < (↑(List.length (List.map enc_TReEntry a1.Log)) : Int)))
  (idxO (a1.Log) (s381) fun x387 =>
  Option.bind (F_invigilatorref31_entry (a0) (x387)) fun x388 =>
  cond (!decide (x388 = 0))
  (some (Sum.inr (Sum.inr (((↑(List.length (List.map enc_TEvEvent a1.Events)) : Int), x388)))))
  (letO (IntKind.wrap IntKind.i64 (s381 + 1)) fun x390 =>
  some (Sum.inl (x390))))
  (some (Sum.inr (Sum.inl (()))))) (0))
  (Sum.elim (fun (s379 : Unit) =>
  some ((0, 0))) some)) some))))
  (cond (!decide (x359.snd = 0))
  (some (((-1 : Int), x359.snd)))
  (Option.bind (
  lpO (fun (s394 : Int × Int) =>
  cond (decide (s394.fst < (↑(List.length (List.map enc_TEvEvent a1.Events)) : Int)))
  (idxO (a1.Events) (s394.fst) fun x402 =>
  letO (IntKind.wrap IntKind.i64 ((↑(List.length (List.map enc_TEvEvent a1.Events)) : Int) - 1)) fun x403 =>
  Option.bind (F_invigilatorref31_event (a0) (a1) (x402) (s394.snd) (decide (s394.fst = x403))) fun x404 =>
  cond (!decide (x404 = 0))
  (some (Sum.inr (Sum.inr ((s394.fst, x404)))))
  (idxO (a1.Events) (s394.fst) fun x406 =>
  letO (IntKind.wrap IntKind.i64 (s394.fst + 1)) fun x407 =>
  some (Sum.inl ((x407, x406.Steps)))))
  (some (Sum.inr (Sum.inl (()))))) ((0, 0)))
  (Sum.elim (fun (s392 : Unit) =>
  Option.bind (
  lpO (fun (s410 : Int) =>
  cond (decide (s410 < (↑(List.length (List.map enc_TReEntry a1.Log)) : Int)))
  (idxO (a1.Log) (s410) fun x416 =>
  Option.bind (F_invigilatorref31_entry (a0) (x416)) fun x417 =>
  cond (!decide (x417 = 0))
  (some (Sum.inr (Sum.inr (((↑(List.length (List.map enc_TEvEvent a1.Events)) : Int), x417)))))
  (letO (IntKind.wrap IntKind.i64 (s410 + 1)) fun x419 =>
  some (Sum.inl (x419))))
  (some (Sum.inr (Sum.inl (()))))) (0))
  (Sum.elim (fun (s408 : Unit) =>
  some ((0, 0))) some)) some)))
noncomputable def F_view_asked (a0 : TLattice) (a1 : Int) (a2 : List TEvTrace) : Option (Int) :=
 Option.bind (
  lpO (fun (s423 : Int) =>
  cond (decide (s423 < (↑(List.length (List.map enc_TEvTrace a2)) : Int)))
  (idxO (a2) (s423) fun x429 =>
  Option.bind (F_view_Check (a0) (x429)) fun x430 =>
  cond (!decide (x430.snd = 0))
  (some (Sum.inr (Sum.inr (x430.snd))))
  (letO (IntKind.wrap IntKind.i64 (s423 + 1)) fun x432 =>
  some (Sum.inl (x432))))
  (some (Sum.inr (Sum.inl (()))))) (0))
  (Sum.elim (fun (s421 : Unit) =>
  Option.bind (F_view_label (a0) (a1)) fun x433 =>
  cond (!x433)
  (some (7))
  (some (0))) some)
noncomputable def F_view_seen_api_EvEvent_ (a0 : TLattice) (a1 : Int) (a2 : List TEvEvent) : Option (List TEvEvent × TLattice × Unit × Int) :=
 some ((a2, a0, (), a1))
noncomputable def F_view_events_1 (a0 : TEvEvent) : Option (Int) :=
 some (a0.Label)
noncomputable def F_lattice_asked (a0 : TLattice) (a1 : List Int) : Option (Int) :=
 Option.bind (F_lattice_Check (a0)) fun x444 =>
  cond (!decide (x444.snd = 0))
  (some (x444.snd))
  (Option.bind (
  lpO (fun (s448 : Int) =>
  cond (decide (s448 < (↑(List.length (List.map (SV.int IntKind.i64) a1)) : Int)))
  (idxO (a1) (s448) fun x454 =>
  cond (decide (x454 < 0))
  (some (Sum.inr (Sum.inr (7))))
  (cond (decide ((↑(List.length (List.map SV.str a0.Names)) : Int) ≤ x454))
  (some (Sum.inr (Sum.inr (7))))
  (letO (IntKind.wrap IntKind.i64 (s448 + 1)) fun x457 =>
  some (Sum.inl (x457)))))
  (some (Sum.inr (Sum.inl (()))))) (0))
  (Sum.elim (fun (s446 : Unit) =>
  some (0)) some))
noncomputable def F_lattice_Leq (a0 : TLattice) (a1 : Int) (a2 : Int) : Option (Bool × Int) :=
 Option.bind (F_lattice_asked (a0) ([a1, a2])) fun x458 =>
  cond (!decide (x458 = 0))
  (some ((false, x458)))
  (idxO (a0.Up) (a1) fun x460 =>
  sideO ((0 : Int) ≤ a2) (
  some ((decide (bits BinOp.and IntKind.u8 (Int.fdiv x460 (2 ^ min (Int.toNat a2) (IntKind.bits IntKind.u8))) 1 = 1), 0))))
noncomputable def F_slices_AppendSeq___api_EvEvent_api_EvEvent_ (a1 : List TEvEvent × TLattice × Unit × Int) : Option (List TEvEvent) :=
 Option.bind (
  lpO (fun (s441 : Int × List TEvEvent) =>
  cond (decide (s441.fst < (↑(List.length (List.map enc_TEvEvent a1.fst)) : Int)))
  (idxO (a1.fst) (s441.fst) fun x457 =>
  Option.bind (F_view_events_1 (x457)) fun x458 =>
  Option.bind (F_lattice_Leq (a1.snd.fst) (x458) (a1.snd.snd.snd)) fun x459 =>
  cond (decide (x459.snd = 0))
  (cond (x459.fst)
  (sideO ((List.length (List.map enc_TEvEvent s441.snd) + (1 : Nat)) * (112 : Nat) ≤ (70368744177664 : Nat)) (
  letO (IntKind.wrap IntKind.i64 (s441.fst + 1)) fun x463 =>
  some (Sum.inl ((x463, s441.snd ++ [x457])))))
  (letO (IntKind.wrap IntKind.i64 (s441.fst + 1)) fun x464 =>
  some (Sum.inl ((x464, s441.snd)))))
  (letO (IntKind.wrap IntKind.i64 (s441.fst + 1)) fun x465 =>
  some (Sum.inl ((x465, s441.snd)))))
  (some (Sum.inr (Sum.inl ((decide (s441.fst < (↑(List.length (List.map enc_TEvEvent a1.fst)) : Int)), s441)))))) ((0, [])))
  (Sum.elim (fun (s439 : Bool × Int × List TEvEvent) =>
  some (s439.snd.snd)) some)
noncomputable def F_slices_Collect_api_EvEvent_ (a0 : List TEvEvent × TLattice × Unit × Int) : Option (List TEvEvent) :=
 Option.bind (F_slices_AppendSeq___api_EvEvent_api_EvEvent_ ((a0.fst, a0.snd.fst, (), a0.snd.snd.snd))) fun x466 =>
  some (x466)
noncomputable def F_view_events (a0 : TLattice) (a1 : TEvTrace) (a2 : Int) : Option (List TEvEvent) :=
 Option.bind (F_view_seen_api_EvEvent_ (a0) (a2) (a1.Events)) fun x437 =>
  Option.bind (F_slices_Collect_api_EvEvent_ ((x437.fst, x437.snd.fst, (), x437.snd.snd.snd))) fun x467 =>
  some (x467)
noncomputable def F_view_Events (a0 : TLattice) (a1 : TEvTrace) (a2 : Int) : Option (List TEvEvent × Int) :=
 Option.bind (F_view_asked (a0) (a2) ([a1])) fun x435 =>
  cond (!decide (x435 = 0))
  (some (([], x435)))
  (Option.bind (F_view_events (a0) (a1) (a2)) fun x468 =>
  some ((x468, 0)))
noncomputable def F_invigilatorref31_asked (a0 : TLattice) (a1 : Int) (a2 : List TEvTrace) : Option (Int) :=
 Option.bind (
  lpO (fun (s472 : Int) =>
  cond (decide (s472 < (↑(List.length (List.map enc_TEvTrace a2)) : Int)))
  (idxO (a2) (s472) fun x478 =>
  Option.bind (F_invigilatorref31_Check (a0) (x478)) fun x479 =>
  cond (!decide (x479.snd = 0))
  (some (Sum.inr (Sum.inr (x479.snd))))
  (letO (IntKind.wrap IntKind.i64 (s472 + 1)) fun x481 =>
  some (Sum.inl (x481))))
  (some (Sum.inr (Sum.inl (()))))) (0))
  (Sum.elim (fun (s470 : Unit) =>
  Option.bind (F_invigilatorref20_Label (a0) (a1)) fun x482 =>
  cond (!x482)
  (some (7))
  (some (0))) some)
noncomputable def F_invigilatorref03_asked (a0 : TLattice) (a1 : Int) (a2 : Int) : Option (Int) :=
 Option.bind (F_invigilatorref03_Check (a0)) fun x490 =>
  cond (decide (x490.snd = 0))
  (cond (decide (a1 < 0))
  (some (7))
  (cond (decide ((↑(List.length (List.map SV.str a0.Names)) : Int) ≤ a1))
  (some (7))
  (cond (decide (a2 < 0))
  (some (7))
  (cond (decide ((↑(List.length (List.map SV.str a0.Names)) : Int) ≤ a2))
  (some (7))
  (some (x490.snd))))))
  (some (x490.snd))
noncomputable def F_invigilatorref03_Leq (a0 : TLattice) (a1 : Int) (a2 : Int) : Option (Bool × Int) :=
 Option.bind (F_invigilatorref03_asked (a0) (a1) (a2)) fun x496 =>
  cond (decide (x496 = 0))
  (Option.bind (F_invigilatorref03_Below (a0) (a1) (a2)) fun x498 =>
  some ((x498, x496)))
  (some ((false, x496)))
noncomputable def F_invigilatorref31_sees (a0 : TLattice) (a1 : Int) (a2 : Int) : Option (Bool) :=
 Option.bind (F_invigilatorref03_Leq (a0) (a1) (a2)) fun x499 =>
  some (x499.fst)
noncomputable def F_invigilatorref31_seen (a0 : TLattice) (a1 : TEvTrace) (a2 : Int) : Option (List TEvEvent) :=
 Option.bind (
  lpO (fun (s488 : Int × List TEvEvent) =>
  cond (decide (s488.fst < (↑(List.length (List.map enc_TEvEvent a1.Events)) : Int)))
  (idxO (a1.Events) (s488.fst) fun x495 =>
  Option.bind (F_invigilatorref31_sees (a0) (x495.Label) (a2)) fun x496 =>
  cond (x496)
  (idxO (a1.Events) (s488.fst) fun x498 =>
  sideO ((List.length (List.map enc_TEvEvent s488.snd) + (1 : Nat)) * (112 : Nat) ≤ (70368744177664 : Nat)) (
  letO (IntKind.wrap IntKind.i64 (s488.fst + 1)) fun x499 =>
  some (Sum.inl ((x499, s488.snd ++ [x498])))))
  (letO (IntKind.wrap IntKind.i64 (s488.fst + 1)) fun x500 =>
  some (Sum.inl ((x500, s488.snd)))))
  (some (Sum.inr (Sum.inl (s488.snd))))) ((0, [])))
  (Sum.elim (fun (s486 : List TEvEvent) =>
  some (s486)) some)
noncomputable def F_invigilatorref31_Events (a0 : TLattice) (a1 : TEvTrace) (a2 : Int) : Option (List TEvEvent × Int) :=
 Option.bind (F_invigilatorref31_asked (a0) (a2) ([a1])) fun x484 =>
  cond (!decide (x484 = 0))
  (some (([], x484)))
  (Option.bind (F_invigilatorref31_seen (a0) (a1) (a2)) fun x501 =>
  some ((x501, 0)))
noncomputable def F_invigilatorref24_SameArray (a0 : TArray) (a1 : TArray) : Option (Bool) :=
 cond (!decide (a0.Kind = a1.Kind))
  (some (false))
  (cond (!decide (a0.Rank = a1.Rank))
  (some (false))
  (cond (!(decide (a0.Lens.fst = a1.Lens.fst) && (decide (a0.Lens.snd = a1.Lens.snd) && true)))
  (some (false))
  (cond (!decide ((↑(List.length (List.map (SV.int IntKind.i64) a0.Cells)) : Int) = (↑(List.length (List.map (SV.int IntKind.i64) a1.Cells)) : Int)))
  (some (false))
  (Option.bind (
  lpO (fun (s523 : Int) =>
  cond (decide (s523 < (↑(List.length (List.map (SV.int IntKind.i64) a0.Cells)) : Int)))
  (idxO (a0.Cells) (s523) fun x529 =>
  idxO (a1.Cells) (s523) fun x530 =>
  cond (!decide (x529 = x530))
  (some (Sum.inr (Sum.inr (false))))
  (letO (IntKind.wrap IntKind.i64 (s523 + 1)) fun x532 =>
  some (Sum.inl (x532))))
  (some (Sum.inr (Sum.inl (()))))) (0))
  (Sum.elim (fun (s521 : Unit) =>
  some (true)) some)))))
noncomputable def F_invigilatorref29_SameEvents (a0 : List TEvEvent) (a1 : List TEvEvent) : Option (Bool) :=
 cond (!decide ((↑(List.length (List.map enc_TEvEvent a0)) : Int) = (↑(List.length (List.map enc_TEvEvent a1)) : Int)))
  (some (false))
  (Option.bind (
  lpO (fun (s508 : Int) =>
  cond (decide (s508 < (↑(List.length (List.map enc_TEvEvent a0)) : Int)))
  (idxO (a0) (s508) fun x521 =>
  idxO (a1) (s508) fun x522 =>
  cond (!decide (x521.Kind = x522.Kind))
  (some (Sum.inr (Sum.inr (false))))
  (cond (!decide (x521.Site = x522.Site))
  (some (Sum.inr (Sum.inr (false))))
  (cond (!decide (x521.Steps = x522.Steps))
  (some (Sum.inr (Sum.inr (false))))
  (cond (!decide (x521.Label = x522.Label))
  (some (Sum.inr (Sum.inr (false))))
  (cond (!decide (x521.Channel = x522.Channel))
  (some (Sum.inr (Sum.inr (false))))
  (cond (!decide (x521.E = x522.E))
  (some (Sum.inr (Sum.inr (false))))
  (Option.bind (F_invigilatorref24_SameArray (x521.Value) (x522.Value)) fun x529 =>
  cond (!x529)
  (some (Sum.inr (Sum.inr (false))))
  (letO (IntKind.wrap IntKind.i64 (s508 + 1)) fun x531 =>
  some (Sum.inl (x531))))))))))
  (some (Sum.inr (Sum.inl (()))))) (0))
  (Sum.elim (fun (s506 : Unit) =>
  some (true)) some))
noncomputable def F_view_seen_api_ReEntry_ (a0 : TLattice) (a1 : Int) (a2 : List TReEntry) : Option (List TReEntry × TLattice × Unit × Int) :=
 some ((a2, a0, (), a1))
noncomputable def F_view_entries_1 (a0 : TReEntry) : Option (Int) :=
 some (a0.Goal)
noncomputable def F_slices_AppendSeq___api_ReEntry_api_ReEntry_ (a1 : List TReEntry × TLattice × Unit × Int) : Option (List TReEntry) :=
 Option.bind (
  lpO (fun (s541 : Int × List TReEntry) =>
  cond (decide (s541.fst < (↑(List.length (List.map enc_TReEntry a1.fst)) : Int)))
  (idxO (a1.fst) (s541.fst) fun x557 =>
  Option.bind (F_view_entries_1 (x557)) fun x558 =>
  Option.bind (F_lattice_Leq (a1.snd.fst) (x558) (a1.snd.snd.snd)) fun x559 =>
  cond (decide (x559.snd = 0))
  (cond (x559.fst)
  (sideO ((List.length (List.map enc_TReEntry s541.snd) + (1 : Nat)) * (56 : Nat) ≤ (70368744177664 : Nat)) (
  letO (IntKind.wrap IntKind.i64 (s541.fst + 1)) fun x563 =>
  some (Sum.inl ((x563, s541.snd ++ [x557])))))
  (letO (IntKind.wrap IntKind.i64 (s541.fst + 1)) fun x564 =>
  some (Sum.inl ((x564, s541.snd)))))
  (letO (IntKind.wrap IntKind.i64 (s541.fst + 1)) fun x565 =>
  some (Sum.inl ((x565, s541.snd)))))
  (some (Sum.inr (Sum.inl ((decide (s541.fst < (↑(List.length (List.map enc_TReEntry a1.fst)) : Int)), s541)))))) ((0, [])))
  (Sum.elim (fun (s539 : Bool × Int × List TReEntry) =>
  some (s539.snd.snd)) some)
noncomputable def F_slices_Collect_api_ReEntry_ (a0 : List TReEntry × TLattice × Unit × Int) : Option (List TReEntry) :=
 Option.bind (F_slices_AppendSeq___api_ReEntry_api_ReEntry_ ((a0.fst, a0.snd.fst, (), a0.snd.snd.snd))) fun x566 =>
  some (x566)
noncomputable def F_view_entries (a0 : TLattice) (a1 : TEvTrace) (a2 : Int) : Option (List TReEntry) :=
 Option.bind (F_view_seen_api_ReEntry_ (a0) (a2) (a1.Log)) fun x537 =>
  Option.bind (F_slices_Collect_api_ReEntry_ ((x537.fst, x537.snd.fst, (), x537.snd.snd.snd))) fun x567 =>
  some (x567)
noncomputable def F_view_Pairs (a0 : TLattice) (a1 : TEvTrace) (a2 : Int) : Option (List (Int × Int) × Int) :=
 Option.bind (F_view_asked (a0) (a2) ([a1])) fun x535 =>
  cond (!decide (x535 = 0))
  (some (([], x535)))
  (Option.bind (F_view_entries (a0) (a1) (a2)) fun x568 =>
  Option.bind (
  lpO (fun (s571 : Int × List (Int × Int)) =>
  cond (decide (s571.fst < (↑(List.length (List.map enc_TReEntry x568)) : Int)))
  (idxO (x568) (s571.fst) fun x575 =>
  sideO ((List.length (List.map (encA2 (1 : Nat) (SV.int IntKind.i64)) s571.snd) + (1 : Nat)) * (16 : Nat) ≤ (70368744177664 : Nat)) (
  letO (IntKind.wrap IntKind.i64 (s571.fst + 1)) fun x576 =>
  some (Sum.inl ((x576, s571.snd ++ [x575.Value])))))
  (some (Sum.inr (Sum.inl (s571.snd))))) ((0, [])))
  (Sum.elim (fun (s569 : List (Int × Int)) =>
  some ((s569, 0))) some))
noncomputable def F_invigilatorref31_log (a0 : TLattice) (a1 : TEvTrace) (a2 : Int) : Option (List TReEntry) :=
 Option.bind (
  lpO (fun (s582 : Int × List TReEntry) =>
  cond (decide (s582.fst < (↑(List.length (List.map enc_TReEntry a1.Log)) : Int)))
  (idxO (a1.Log) (s582.fst) fun x589 =>
  Option.bind (F_invigilatorref31_sees (a0) (x589.Goal) (a2)) fun x590 =>
  cond (x590)
  (idxO (a1.Log) (s582.fst) fun x592 =>
  sideO ((List.length (List.map enc_TReEntry s582.snd) + (1 : Nat)) * (56 : Nat) ≤ (70368744177664 : Nat)) (
  letO (IntKind.wrap IntKind.i64 (s582.fst + 1)) fun x593 =>
  some (Sum.inl ((x593, s582.snd ++ [x592])))))
  (letO (IntKind.wrap IntKind.i64 (s582.fst + 1)) fun x594 =>
  some (Sum.inl ((x594, s582.snd)))))
  (some (Sum.inr (Sum.inl (s582.snd))))) ((0, [])))
  (Sum.elim (fun (s580 : List TReEntry) =>
  some (s580)) some)
noncomputable def F_invigilatorref31_Pairs (a0 : TLattice) (a1 : TEvTrace) (a2 : Int) : Option (List (Int × Int) × Int) :=
 Option.bind (F_invigilatorref31_asked (a0) (a2) ([a1])) fun x578 =>
  cond (!decide (x578 = 0))
  (some (([], x578)))
  (Option.bind (F_invigilatorref31_log (a0) (a1) (a2)) fun x595 =>
  Option.bind (
  lpO (fun (s598 : Int × List (Int × Int)) =>
  cond (decide (s598.fst < (↑(List.length (List.map enc_TReEntry x595)) : Int)))
  (idxO (x595) (s598.fst) fun x602 =>
  sideO ((List.length (List.map (encA2 (1 : Nat) (SV.int IntKind.i64)) s598.snd) + (1 : Nat)) * (16 : Nat) ≤ (70368744177664 : Nat)) (
  letO (IntKind.wrap IntKind.i64 (s598.fst + 1)) fun x603 =>
  some (Sum.inl ((x603, s598.snd ++ [x602.Value])))))
  (some (Sum.inr (Sum.inl (s598.snd))))) ((0, [])))
  (Sum.elim (fun (s596 : List (Int × Int)) =>
  some ((s596, 0))) some))
noncomputable def F_invigilatorref31_SamePairs (a0 : List (Int × Int)) (a1 : List (Int × Int)) : Option (Bool) :=
 Option.bind (
  lpO (fun (s610 : Int) =>
  cond (decide (s610 < (↑(List.length (List.map (encA2 1 (SV.int IntKind.i64)) a0)) : Int)))
  (cond (decide (s610 < (↑(List.length (List.map (encA2 1 (SV.int IntKind.i64)) a1)) : Int)))
  (idxO (a0) (s610) fun x618 =>
  idxO (a1) (s610) fun x619 =>
  cond (!(decide (x618.fst = x619.fst) && (decide (x618.snd = x619.snd) && true)))
  (some (Sum.inr (Sum.inr (false))))
  (letO (IntKind.wrap IntKind.i64 (s610 + 1)) fun x621 =>
  some (Sum.inl (x621))))
  (some (Sum.inr (Sum.inl (())))))
  (some (Sum.inr (Sum.inl (()))))) (0))
  (Sum.elim (fun (s608 : Unit) =>
  some (decide ((↑(List.length (List.map (encA2 1 (SV.int IntKind.i64)) a0)) : Int) = (↑(List.length (List.map (encA2 1 (SV.int IntKind.i64)) a1)) : Int)))) some)
noncomputable def F_view_Channel (a0 : TEvTrace) (a1 : List UInt8) : Option (List TArray) :=
 Option.bind (
  lpO (fun (s627 : Int × List TArray) =>
  cond (decide (s627.fst < (↑(List.length (List.map enc_TEvEvent a0.Events)) : Int)))
  (idxO (a0.Events) (s627.fst) fun x633 =>
  cond (decide (x633.Kind = 1))
  (cond (decide (x633.Channel = a1))
  (sideO ((List.length (List.map enc_TArray s627.snd) + (1 : Nat)) * (56 : Nat) ≤ (70368744177664 : Nat)) (
  letO (IntKind.wrap IntKind.i64 (s627.fst + 1)) fun x636 =>
  some (Sum.inl ((x636, s627.snd ++ [x633.Value])))))
  (letO (IntKind.wrap IntKind.i64 (s627.fst + 1)) fun x637 =>
  some (Sum.inl ((x637, s627.snd)))))
  (letO (IntKind.wrap IntKind.i64 (s627.fst + 1)) fun x638 =>
  some (Sum.inl ((x638, s627.snd)))))
  (some (Sum.inr (Sum.inl (s627.snd))))) ((0, [])))
  (Sum.elim (fun (s625 : List TArray) =>
  some (s625)) some)
noncomputable def F_invigilatorref31_Channel (a0 : TEvTrace) (a1 : List UInt8) : Option (List TArray) :=
 Option.bind (
  lpO (fun (s642 : Int × List TArray) =>
  cond (decide (s642.fst < (↑(List.length (List.map enc_TEvEvent a0.Events)) : Int)))
  (idxO (a0.Events) (s642.fst) fun x650 =>
  cond (decide (x650.Kind = 1))
  (idxO (a0.Events) (s642.fst) fun x652 =>
  cond (decide (x652.Channel = a1))
  (idxO (a0.Events) (s642.fst) fun x654 =>
  sideO ((List.length (List.map enc_TArray s642.snd) + (1 : Nat)) * (56 : Nat) ≤ (70368744177664 : Nat)) (
  letO (IntKind.wrap IntKind.i64 (s642.fst + 1)) fun x655 =>
  some (Sum.inl ((x655, s642.snd ++ [x654.Value])))))
  (letO (IntKind.wrap IntKind.i64 (s642.fst + 1)) fun x656 =>
  some (Sum.inl ((x656, s642.snd)))))
  (letO (IntKind.wrap IntKind.i64 (s642.fst + 1)) fun x657 =>
  some (Sum.inl ((x657, s642.snd)))))
  (some (Sum.inr (Sum.inl (s642.snd))))) ((0, [])))
  (Sum.elim (fun (s640 : List TArray) =>
  some (s640)) some)
noncomputable def F_invigilatorref31_SameArrays (a0 : List TArray) (a1 : List TArray) : Option (Bool) :=
 cond (!decide ((↑(List.length (List.map enc_TArray a0)) : Int) = (↑(List.length (List.map enc_TArray a1)) : Int)))
  (some (false))
  (Option.bind (
  lpO (fun (s662 : Int) =>
  cond (decide (s662 < (↑(List.length (List.map enc_TArray a0)) : Int)))
  (idxO (a0) (s662) fun x669 =>
  idxO (a1) (s662) fun x670 =>
  Option.bind (F_invigilatorref24_SameArray (x669) (x670)) fun x671 =>
  cond (!x671)
  (some (Sum.inr (Sum.inr (false))))
  (letO (IntKind.wrap IntKind.i64 (s662 + 1)) fun x673 =>
  some (Sum.inl (x673))))
  (some (Sum.inr (Sum.inl (()))))) (0))
  (Sum.elim (fun (s660 : Unit) =>
  some (true)) some))
noncomputable def F_invigilatorlaw31_ViewChecks (a0 : TLattice) (a1 : TEvTrace) (a2 : Int) : Option (Bool) :=
 Option.bind (F_invigilatorlaw20_Large (a0)) fun x13 =>
  cond (x13)
  (some (true))
  (Option.bind (F_invigilatorlaw31_far (a1)) fun x31 =>
  cond (x31)
  (some (true))
  (Option.bind (F_view_Check (a0) (a1)) fun x245 =>
  Option.bind (F_invigilatorref31_Check (a0) (a1)) fun x420 =>
  Option.bind (F_view_Events (a0) (a1) (a2)) fun x469 =>
  Option.bind (F_invigilatorref31_Events (a0) (a1) (a2)) fun x502 =>
  cond (!decide (x245.fst = x420.fst))
  (some (false))
  (cond (!decide (x245.snd = x420.snd))
  (some (false))
  (Option.bind (F_invigilatorref29_SameEvents (x469.fst) (x502.fst)) fun x532 =>
  cond (!x532)
  (some (false))
  (cond (!decide (x469.snd = x502.snd))
  (some (false))
  (Option.bind (F_view_Pairs (a0) (a1) (a2)) fun x577 =>
  Option.bind (F_invigilatorref31_Pairs (a0) (a1) (a2)) fun x604 =>
  cond (decide (0 ≤ a2))
  (cond (decide (0 < (↑(List.length (List.map enc_TEvEvent a1.Events)) : Int)))
  (sideO ((↑(List.length (List.map enc_TEvEvent a1.Events)) : Int) ≠ (0 : Int)) (
  idxO (a1.Events) (Int.tmod a2 (↑(List.length (List.map enc_TEvEvent a1.Events)) : Int)) fun x607 =>
  Option.bind (F_invigilatorref31_SamePairs (x577.fst) (x604.fst)) fun x622 =>
  cond (x622)
  (cond (decide (x577.snd = x604.snd))
  (Option.bind (F_view_Channel (a1) (x607.Channel)) fun x639 =>
  Option.bind (F_invigilatorref31_Channel (a1) (x607.Channel)) fun x658 =>
  Option.bind (F_invigilatorref31_SameArrays (x639) (x658)) fun x674 =>
  cond (x674)
  (some (true))
  (some (false)))
  (some (false)))
  (some (false))))
  (Option.bind (F_invigilatorref31_SamePairs (x577.fst) (x604.fst)) fun x676 =>
  cond (x676)
  (cond (decide (x577.snd = x604.snd))
  (Option.bind (F_view_Channel (a1) ((ByteArray.mk #[]).data.toList)) fun x679 =>
  Option.bind (F_invigilatorref31_Channel (a1) ((ByteArray.mk #[]).data.toList)) fun x680 =>
  Option.bind (F_invigilatorref31_SameArrays (x679) (x680)) fun x681 =>
  cond (x681)
  (some (true))
  (some (false)))
  (some (false)))
  (some (false))))
  (Option.bind (F_invigilatorref31_SamePairs (x577.fst) (x604.fst)) fun x683 =>
  cond (x683)
  (cond (decide (x577.snd = x604.snd))
  (Option.bind (F_view_Channel (a1) ((ByteArray.mk #[]).data.toList)) fun x686 =>
  Option.bind (F_invigilatorref31_Channel (a1) ((ByteArray.mk #[]).data.toList)) fun x687 =>
  Option.bind (F_invigilatorref31_SameArrays (x686) (x687)) fun x688 =>
  cond (x688)
  (some (true))
  (some (false)))
  (some (false)))
  (some (false)))))))))
end Go.Sx.O
namespace Go.Sx.O
open Go
theorem Large_spec (l : TLattice) : Tot (F_invigilatorlaw20_Large l) fun r => r = false → l.Names.length ≤ 20 ∧ l.Up.length ≤ 20 ∧ ∀ s ∈ l.Names, s.length ≤ 50 := by
  unfold F_invigilatorlaw20_Large
  simp only [tot_bind, List.length_map]
  refine Tot.count l.Names.length (fun k s => s = (k : Int) ∧ k ≤ 30 ∧ ∀ x ∈ l.Names.take k, x.length ≤ 50) ?_ ⟨rfl, by omega, by simp⟩
  rintro k _ hk ⟨rfl, h30, hall⟩
  simp only [tot_some, tot_cond, tot_let, tot_idx, Sum.elim_inl, Sum.elim_inr, decide_eq_true_eq, decide_eq_false_iff_not, Int.toNat_natCast]
  refine ⟨fun h1 => ⟨fun h2 => ⟨by omega, _, List.getElem?_eq_getElem (by omega), fun h3 => by simp, fun h3 => ?_⟩, fun h2 => ?_⟩, fun h1 => ?_⟩
  · rw [w64 (by omega) (by omega)]
    refine ⟨by omega, by omega, by omega, fun x hx => ?_⟩
    rw [List.take_add_one, List.getElem?_eq_getElem (by omega)] at hx
    rcases List.mem_append.1 hx with hx | hx
    · exact hall x hx
    · simp at hx; subst hx; omega
  · refine ⟨fun h => by simp, fun h hh => ?_⟩
    simp at hh
    omega
  · refine ⟨fun h => by simp, fun h hh => ?_⟩
    simp at hh
    refine ⟨by omega, by omega, ?_⟩
    rw [List.take_of_length_le (by omega)] at hall
    exact hall
theorem far_spec (t : TEvTrace) : Tot (F_invigilatorlaw31_far t) fun r => r = false → t.Events.length ≤ 60 ∧ t.Log.length ≤ 60 ∧ ∀ v ∈ t.Events, v.Channel.length ≤ 100 ∧ v.Value.Cells.length ≤ 450 := by
  unfold F_invigilatorlaw31_far
  simp only [tot_bind, List.length_map]
  refine Tot.count t.Events.length (fun k s => s = (k : Int) ∧ k ≤ 70 ∧ ∀ v ∈ t.Events.take k, v.Channel.length ≤ 100 ∧ v.Value.Cells.length ≤ 450) ?_ ⟨rfl, by omega, by simp⟩
  rintro k _ hk ⟨rfl, h30, hall⟩
  simp only [tot_some, tot_cond, tot_let, tot_idx, Sum.elim_inl, Sum.elim_inr, decide_eq_true_eq, decide_eq_false_iff_not, Int.toNat_natCast]
  refine ⟨fun h1 => ⟨fun h2 => ⟨by omega, _, List.getElem?_eq_getElem (by omega), fun h3 => by simp, fun h3 => ⟨by omega, _, List.getElem?_eq_getElem (by omega), fun h4 => by simp, fun h4 => ?_⟩⟩, fun h2 => ?_⟩, fun h1 => ?_⟩
  · rw [w64 (by omega) (by omega)]
    refine ⟨by omega, by omega, by omega, fun x hx => ?_⟩
    rw [List.take_add_one, List.getElem?_eq_getElem (by omega)] at hx
    rcases List.mem_append.1 hx with hx | hx
    · exact hall x hx
    · simp at hx; subst hx; omega
  · refine ⟨fun h => by simp, fun h hh => ?_⟩
    simp at hh
    omega
  · refine ⟨fun h => by simp, fun h hh => ?_⟩
    simp at hh
    refine ⟨by omega, by omega, ?_⟩
    rw [List.take_of_length_le (by omega)] at hall
    exact hall
theorem find_loop {α τ : Type} {l : List α} (p : α → Bool) {step : Int → Option (Int ⊕ τ)} {d : τ} {g : Int → τ}
    (h1 : ∀ (k : Nat) x, l[k]? = some x → step (k : Int) = if p x then some (.inr (g k)) else some (.inl ((k : Int) + 1)))
    (h2 : step (l.length : Int) = some (.inr d)) :
    lpO step 0 = (match l.findIdx? p with | some i => some (g i) | none => some d) := by
  have key : ∀ j k, j + k = l.length → lpO step (k : Int) = (match (l.drop k).findIdx? p with | some i => some (g ((k + i : Nat) : Int)) | none => some d) := by
    intro j
    induction j with
    | zero =>
      intro k hk
      rw [lpO_eq]
      have : k = l.length := by omega
      subst this
      rw [h2]
      simp
    | succ j ih =>
      intro k hk
      have hlt : k < l.length := by omega
      rw [lpO_eq, h1 k _ (List.getElem?_eq_getElem hlt), List.drop_eq_getElem_cons hlt, List.findIdx?_cons]
      split
      · simp
      · have := ih (k + 1) (by omega)
        simp only [Option.bind_some, Sum.elim_inl]
        push_cast at this
        rw [this]
        cases (l.drop (k + 1)).findIdx? p with
        | none => rfl
        | some i => simp; congr 1; omega
  have := key l.length 0 (by omega)
  simpa using this
end Go.Sx.O
namespace Go.Sx.O
open Go
theorem dropWhile_nil {α : Type} {p : α → Bool} : ∀ {l : List α}, l.dropWhile p = [] ↔ ∀ x ∈ l, p x = true
  | [] => by simp
  | a :: l => by
    rw [List.dropWhile_cons]
    cases h : p a with
    | true => simp [h, dropWhile_nil (l := l)]
    | false => simp [h]
theorem Index_strings_spec (l : List (List UInt8)) (s : List UInt8) (hl : l.length ≤ 1000000000) :
    F_slices_Index___string_string_ l s = some (match l.findIdx? (fun x => decide (s = x)) with | some i => (i : Int) | none => -1) := by
  unfold F_slices_Index___string_string_
  rw [find_loop (l := l) (fun x => decide (s = x)) (d := .inl ()) (g := .inr) ?_ ?_]
  · cases l.findIdx? (fun x => decide (s = x)) <;> rfl
  · intro k x hx
    have hlt : k < l.length := by
      by_cases h : k < l.length
      · exact h
      · rw [List.getElem?_eq_none (by omega)] at hx; cases hx
    simp only [List.length_map, Int.ofNat_lt, hlt, decide_true, cond_true, idxO, Int.toNat_natCast, hx, Option.bind_some, letO, Int.natCast_nonneg, if_true]
    rw [w64 (by omega) (by omega)]
    cases decide (s = x) <;> rfl
  · simp
theorem Contains_strings_spec (l : List (List UInt8)) (s : List UInt8) (hl : l.length ≤ 1000000000) :
    F_slices_Contains___string_string_ l s = some (decide (s ∈ l)) := by
  unfold F_slices_Contains___string_string_
  rw [Index_strings_spec l s hl]
  cases h : l.findIdx? (fun x => decide (s = x)) with
  | none =>
    have := List.findIdx?_eq_none_iff.1 h
    simp only [Option.bind_some]
    congr 1
    have hn : s ∉ l := fun hm => by have := this s hm; simp at this
    simp [hn]
  | some i =>
    have := List.findIdx?_eq_some_iff_getElem.1 h
    obtain ⟨hi, h1, _⟩ := this
    have hm : s ∈ l := by
      have e : s = l[i] := by simpa using h1
      rw [e]; exact List.getElem_mem hi
    simp [hm]
def inSet (set : List Bool) (c : UInt8) : Bool := set.getD c.toNat false
theorem contains_spec (set : List Bool) (c : UInt8) (h : set.length = 256) : F__Pstrings_asciiSet__contains set (c.toNat : Int) = some (inSet set c) := by
  unfold F__Pstrings_asciiSet__contains
  have hc : c.toNat < 256 := c.toNat_lt
  have h2 : set[c.toNat]? = some (set[c.toNat]'(by omega)) := List.getElem?_eq_getElem _
  have h3 : (c.toNat : Int) < 256 := by omega
  simp [sideO, idxO, inSet, h2, h3]
def trimR (p : UInt8 → Bool) (s : List UInt8) : List UInt8 := (s.reverse.dropWhile p).reverse
theorem trimR_all {p : UInt8 → Bool} {s : List UInt8} : (trimR p s).dropWhile p = [] ↔ ∀ c ∈ s, p c = true := by
  unfold trimR
  constructor
  · intro h c hc
    have h1 : ∀ c ∈ (s.reverse.dropWhile p).reverse, p c = true := dropWhile_nil.1 h
    have h2 : s.reverse.dropWhile p = [] := by
      cases e : s.reverse.dropWhile p with
      | nil => rfl
      | cons a r =>
        have := List.head?_dropWhile_not p s.reverse
        rw [e] at this
        simp at this
        rw [e] at h1
        rw [h1 a (by simp)] at this
        cases this
    exact dropWhile_nil.1 h2 c (by simpa using hc)
  · intro h
    have : s.reverse.dropWhile p = [] := dropWhile_nil.2 fun c hc => h c (by simpa using hc)
    rw [this]; rfl
theorem trimRightASCII_spec (s : List UInt8) (set : List Bool) (h : set.length = 256) (hs : s.length ≤ 1000000000) : F_strings_trimRightASCII s set = some (trimR (inSet set) s) := by
  unfold F_strings_trimRightASCII
  apply Tot.eq
  simp only [tot_bind]
  refine Tot.loop (fun s => s.length) (fun r => r.length ≤ 1000000000 ∧ trimR (inSet set) r = trimR (inSet set) s) ?_ ⟨hs, rfl⟩
  rintro r ⟨hr, he⟩
  simp only [tot_some, tot_cond, tot_let, tot_idx, tot_side, tot_bind, Sum.elim_inl, Sum.elim_inr, decide_eq_true_eq, decide_eq_false_iff_not]
  refine ⟨fun h1 => ?_, fun h1 => ?_⟩
  · have h0 : r ≠ [] := by rintro rfl; simp at h1
    rw [w64 (by omega) (by omega)]
    have e1 : ((r.length : Int) - 1).toNat = r.length - 1 := by omega
    rw [e1]
    refine ⟨by omega, _, List.getElem?_eq_getElem (by omega), ?_⟩
    rw [contains_spec set _ h]
    simp only [tot_some, Bool.not_eq_true', Bool.not_eq_false']
    have hr2 : r = r.dropLast ++ [r[r.length - 1]'(by omega)] := by
      rw [← List.getLast_eq_getElem h0]; exact (List.dropLast_concat_getLast h0).symm
    refine ⟨fun h2 => ?_, fun h2 => ⟨⟨by omega, by omega⟩, ⟨by simp; omega, ?_⟩, by simp; omega⟩⟩
    · rw [← he]
      unfold trimR
      rw [hr2]
      simp [h2]
    · rw [← he]
      simp only [Int.toNat_zero, List.drop_zero]
      rw [← List.dropLast_eq_take]
      conv => rhs; rw [hr2]
      unfold trimR
      simp [h2]
  · have h0 : r = [] := List.length_eq_zero_iff.1 (by omega)
    rw [← he, h0]; rfl
theorem trimLeftASCII_spec (s : List UInt8) (set : List Bool) (h : set.length = 256) (hs : s.length ≤ 1000000000) : F_strings_trimLeftASCII s set = some (s.dropWhile (inSet set)) := by
  unfold F_strings_trimLeftASCII
  apply Tot.eq
  simp only [tot_bind]
  refine Tot.loop (fun s => s.length) (fun r => r.length ≤ 1000000000 ∧ r.dropWhile (inSet set) = s.dropWhile (inSet set)) ?_ ⟨hs, rfl⟩
  rintro r ⟨hr, he⟩
  simp only [tot_some, tot_cond, tot_let, tot_idx, tot_side, tot_bind, Sum.elim_inl, Sum.elim_inr, decide_eq_true_eq, decide_eq_false_iff_not]
  cases r with
  | nil => simp [← he]
  | cons a r =>
    refine ⟨fun h1 => ⟨by omega, a, rfl, ?_⟩, fun h1 => absurd h1 (by simp)⟩
    rw [contains_spec set _ h]
    simp only [tot_some, Bool.not_eq_true', Bool.not_eq_false']
    refine ⟨fun h2 => ?_, fun h2 => ⟨by simp; omega, ⟨?_, ?_⟩, ?_⟩⟩
    · rw [← he]; simp [h2]
    · simp at hr ⊢; omega
    · rw [← he]; simp [h2]
    · simp
end Go.Sx.O
namespace Go.Sx.O
open Go
theorem inSet_set {set : List Bool} {c d : UInt8} (h : set.length = 256) : inSet (set.set c.toNat true) d = (decide (d = c) || inSet set d) := by
  have hc : c.toNat < 256 := c.toNat_lt
  unfold inSet
  rw [List.getD_eq_getElem?_getD, List.getD_eq_getElem?_getD, List.getElem?_set]
  by_cases e : c.toNat = d.toNat
  · have : d = c := (UInt8.toNat_inj.1 e).symm
    subst this
    simp [h, hc]
  · have : d ≠ c := fun e' => e (by rw [e'])
    simp [e, this]
theorem makeASCIISet_spec (cs : List UInt8) (h : ∀ c ∈ cs, c.toNat < 128) (hs : cs.length ≤ 1000000000) : Tot (F_strings_makeASCIISet cs) fun r => r.2 = true ∧ r.1.length = 256 ∧ ∀ d, inSet r.1 d = decide (d ∈ cs) := by
  unfold F_strings_makeASCIISet
  simp only [tot_bind]
  refine Tot.count cs.length (fun k s => s.1 = (k : Int) ∧ s.2.length = 256 ∧ ∀ d, inSet s.2 d = decide (d ∈ cs.take k)) ?_ ⟨rfl, List.length_replicate, fun d => ?_⟩
  · rintro k ⟨i, set⟩ hk ⟨h0, h1, h2⟩
    simp only at h0 h1 h2
    subst h0
    simp only [tot_some, tot_cond, tot_let, tot_idx, tot_side, Sum.elim_inl, Sum.elim_inr, decide_eq_true_eq, decide_eq_false_iff_not, Int.toNat_natCast]
    refine ⟨fun hlt => ⟨by omega, _, List.getElem?_eq_getElem (by omega), fun h3 => ?_, fun h3 => ?_⟩, fun hlt => ?_⟩
    · have := h cs[k] (List.getElem_mem _)
      omega
    · have hc : cs[k].toNat < 256 := (cs[k]'(by omega)).toNat_lt
      refine ⟨⟨by omega, by omega⟩, by omega, _, List.getElem?_eq_getElem (by omega), ?_⟩
      rw [w64 (by omega) (by omega)]
      refine ⟨by omega, by omega, by simpa using h1, fun d => ?_⟩
      have hm : d ∈ cs.take (k + 1) ↔ d ∈ cs.take k ∨ d = cs[k] := by
        rw [List.take_add_one, List.getElem?_eq_getElem (by omega), List.mem_append]
        simp
      rw [inSet_set h1, h2, Bool.eq_iff_iff]
      simp only [Bool.or_eq_true, decide_eq_true_eq, hm]
      exact or_comm
    · refine ⟨trivial, h1, fun d => ?_⟩
      rw [h2, List.take_of_length_le (by omega)]
  · unfold inSet
    rw [List.getD_eq_getElem?_getD, List.getElem?_replicate]
    split <;> simp
theorem Trim_spec (s cs : List UInt8) (h : ∀ c ∈ cs, c.toNat < 128) (h1 : 2 ≤ cs.length) (hs : cs.length ≤ 1000000000) (hl : s.length ≤ 1000000000) :
    F_strings_Trim s cs = some ((trimR (fun c => decide (c ∈ cs)) s).dropWhile (fun c => decide (c ∈ cs))) := by
  unfold F_strings_Trim
  have e0 : (ByteArray.mk #[]).data.toList = [] := rfl
  simp only [e0]
  cases s with
  | nil => simp [trimR]
  | cons a r =>
    have e1 : decide (a :: r = []) = false := by simp
    have e2 : decide (cs = []) = false := by cases cs <;> simp at h1 ⊢
    have e3 : decide ((cs.length : Int) = 1) = false := by simp; omega
    simp only [e1, e2, e3, cond_false]
    obtain ⟨x, hx, hx1, hx2, hx3⟩ := makeASCIISet_spec cs h hs
    have e4 : inSet x.1 = fun c => decide (c ∈ cs) := funext hx3
    rw [hx]
    simp only [Option.bind_some, hx1, cond_true]
    rw [trimRightASCII_spec _ _ hx2 hl]
    simp only [Option.bind_some]
    rw [trimLeftASCII_spec _ _ hx2 (by
      refine Nat.le_trans ?_ hl
      unfold trimR
      rw [List.length_reverse]
      refine Nat.le_trans (List.dropWhile_sublist _).length_le (by simp))]
    rw [e4]
    rfl
def wordSet : List UInt8 := [97, 98, 99, 100, 101, 102, 103, 104, 105, 106, 107, 108, 109, 110, 111, 112, 113, 114, 115, 116, 117, 118, 119, 120, 121, 122, 48, 49, 50, 51, 52, 53, 54, 55, 56, 57, 45]
def wname (s : List UInt8) : Bool := decide (s.length ≤ 16) && (match s with | [] => false | c :: _ => decide (97 ≤ c.toNat) && decide (c.toNat ≤ 122)) && s.all fun c => decide (c ∈ wordSet)
theorem Name_spec (s : List UInt8) (hl : s.length ≤ 1000000000) : F_words_Name s = some (wname s) := by
  unfold F_words_Name
  have e0 : (ByteArray.mk #[]).data.toList = [] := rfl
  simp only [e0]
  rw [Trim_spec s _ (by decide) (by decide) (by decide) hl]
  cases s with
  | nil => rfl
  | cons a r =>
    have e1 : decide (a :: r = []) = false := by simp
    simp only [e1, cond_false, Option.bind_some]
    have e5 : idxO (a :: r) 0 = fun f => (f a : Option Bool) := rfl
    simp only [e5]
    unfold wname
    by_cases h1 : (16 : Int) < ((a :: r).length : Int)
    · have : ¬ (a :: r).length ≤ 16 := by omega
      simp only [h1, decide_true, cond_true, this, decide_false, Bool.false_and]
    · have h1' : (a :: r).length ≤ 16 := by omega
      simp only [h1, decide_false, cond_false, h1', decide_true, Bool.true_and]
      by_cases h2 : (a.toNat : Int) < 97
      · have : ¬ 97 ≤ a.toNat := by omega
        simp only [h2, decide_true, cond_true, this, decide_false, Bool.false_and]
      · have h2' : 97 ≤ a.toNat := by omega
        simp only [h2, decide_false, cond_false, h2', decide_true, Bool.true_and]
        by_cases h3 : (122 : Int) < (a.toNat : Int)
        · have : ¬ a.toNat ≤ 122 := by omega
          simp only [h3, decide_true, cond_true, this, decide_false, Bool.false_and]
        · have h3' : a.toNat ≤ 122 := by omega
          simp only [h3, decide_false, cond_false, h3', decide_true, Bool.true_and]
          congr 1
          rw [Bool.eq_iff_iff, decide_eq_true_eq, trimR_all, List.all_eq_true]
          rfl
end Go.Sx.O
namespace Go.Sx.O
open Go
theorem bit_at : ∀ u : Fin 256, ∀ b : Fin 9, bits .and .u8 (Int.fdiv (u.val : Int) (2 ^ min b.val (IntKind.bits .u8))) 1 = if Nat.testBit u b then 1 else 0 := by decide +kernel
theorem bitAt {u : Int} {b : Nat} (h0 : 0 ≤ u) (h1 : u < 256) (hb : b ≤ 8) : bits .and .u8 (Int.fdiv u (2 ^ min b (IntKind.bits .u8))) 1 = if u.toNat.testBit b then 1 else 0 := by
  have := bit_at ⟨u.toNat, by omega⟩ ⟨b, by omega⟩
  simp only at this
  rw [Int.toNat_of_nonneg h0] at this
  exact this
theorem ofInt_u8 {u : Int} (h0 : 0 ≤ u) : BitVec.ofInt 8 u = BitVec.ofNat 8 u.toNat := by
  conv => lhs; rw [← Int.toNat_of_nonneg h0]
  exact BitVec.ofInt_natCast 8 u.toNat
theorem wrap_u8 {n : Nat} (h : n < 256) : IntKind.wrap .u8 (n : Int) = n := by
  simp only [IntKind.wrap, IntKind.signed, IntKind.bits, Bool.false_and]
  have h3 : (2 : Int) ^ 8 = 256 := by decide
  simp only [h3]
  have : (n : Int) % 256 = n := by omega
  simp [this]
theorem bits_and {a b : Int} (ha : 0 ≤ a) (ha' : a < 256) (hb : 0 ≤ b) (hb' : b < 256) : bits .and .u8 a b = ((a.toNat &&& b.toNat : Nat) : Int) := by
  have e : bits .and .u8 a b = IntKind.wrap .u8 ((BitVec.ofInt 8 a &&& BitVec.ofInt 8 b).toNat : Int) := rfl
  rw [e, ofInt_u8 ha, ofInt_u8 hb]
  rw [wrap_u8 (BitVec.isLt _)]
  rw [BitVec.toNat_and, BitVec.toNat_ofNat, BitVec.toNat_ofNat, Nat.mod_eq_of_lt (by omega), Nat.mod_eq_of_lt (by omega)]
theorem bits_or {a b : Int} (ha : 0 ≤ a) (ha' : a < 256) (hb : 0 ≤ b) (hb' : b < 256) : bits .or .u8 a b = ((a.toNat ||| b.toNat : Nat) : Int) := by
  have e : bits .or .u8 a b = IntKind.wrap .u8 ((BitVec.ofInt 8 a ||| BitVec.ofInt 8 b).toNat : Int) := rfl
  rw [e, ofInt_u8 ha, ofInt_u8 hb]
  rw [wrap_u8 (BitVec.isLt _)]
  rw [BitVec.toNat_or, BitVec.toNat_ofNat, BitVec.toNat_ofNat, Nat.mod_eq_of_lt (by omega), Nat.mod_eq_of_lt (by omega)]
theorem bits_andNot {a b : Int} (ha : 0 ≤ a) (ha' : a < 256) (hb : 0 ≤ b) (hb' : b < 256) : bits .andNot .u8 a b = 0 ↔ ∀ i, a.toNat.testBit i = true → b.toNat.testBit i = true := by
  have e : bits .andNot .u8 a b = IntKind.wrap .u8 ((BitVec.ofInt 8 a &&& ~~~BitVec.ofInt 8 b).toNat : Int) := rfl
  rw [e, ofInt_u8 ha, ofInt_u8 hb]
  rw [wrap_u8 (BitVec.isLt _)]
  have hbit : ∀ i, (BitVec.ofNat 8 a.toNat &&& ~~~BitVec.ofNat 8 b.toNat).getLsbD i = (decide (i < 8) && a.toNat.testBit i && !(b.toNat.testBit i)) := by
    intro i
    rw [BitVec.getLsbD_and, BitVec.getLsbD_not, BitVec.getLsbD_ofNat, BitVec.getLsbD_ofNat]
    cases decide (i < 8) <;> simp
  have h8 : ∀ i, a.toNat.testBit i = true → i < 8 := by
    intro i hi
    rcases Nat.lt_or_ge i 8 with g | g
    · exact g
    · rw [Nat.testBit_lt_two_pow (Nat.lt_of_lt_of_le (show a.toNat < 2 ^ 8 by omega) (Nat.pow_le_pow_right (by omega) g))] at hi
      cases hi
  constructor
  · intro h i hi
    have h0 : (BitVec.ofNat 8 a.toNat &&& ~~~BitVec.ofNat 8 b.toNat).toNat = 0 := Int.ofNat_eq_zero.1 h
    have h1 := hbit i
    rw [← BitVec.testBit_toNat, h0, Nat.zero_testBit] at h1
    have := h8 i hi
    simp [this, hi] at h1
    exact h1
  · intro h
    have h1 : (BitVec.ofNat 8 a.toNat &&& ~~~BitVec.ofNat 8 b.toNat).toNat = 0 := by
      apply Nat.eq_of_testBit_eq
      intro i
      rw [BitVec.testBit_toNat, hbit i, Nat.zero_testBit]
      cases hi : a.toNat.testBit i with
      | false => simp
      | true => simp [h i hi]
    rw [h1]; rfl
theorem and_lt {a b : Nat} (h : a < 256) : a &&& b < 256 := Nat.lt_of_le_of_lt Nat.and_le_left h
theorem or_lt {a b : Nat} (h : a < 256) (k : b < 256) : a ||| b < 256 := Nat.or_lt_two_pow (n := 8) h k
theorem named_total (ns : List (List UInt8)) (h : ns.length ≤ 20) (hn : ∀ s ∈ ns, s.length ≤ 50) : Tot (F_lattice_named ns) fun r => r.2 = 0 → 1 ≤ ns.length ∧ ns.length ≤ 8 := by
  unfold F_lattice_named
  simp only [tot_cond, tot_some, tot_bind, List.length_map, decide_eq_true_eq, decide_eq_false_iff_not]
  refine ⟨fun _ h => absurd h (by decide), fun h1 => ⟨fun _ h => absurd h (by decide), fun h2 => ?_⟩⟩
  refine Tot.count ns.length (fun k s => s = (k : Int)) ?_ rfl
  rintro k _ hk rfl
  simp only [tot_some, tot_cond, tot_let, tot_idx, tot_side, tot_bind, Sum.elim_inl, Sum.elim_inr, decide_eq_true_eq, decide_eq_false_iff_not, Int.toNat_natCast]
  refine ⟨fun hlt => ⟨by omega, _, List.getElem?_eq_getElem (by omega), ?_⟩, fun hlt => fun _ => by omega⟩
  rw [Name_spec _ (by have := hn ns[k] (List.getElem_mem _); omega), tot_some]
  refine ⟨fun _ h => absurd h (by decide), fun _ => ⟨⟨by omega, by omega⟩, ?_⟩⟩
  rw [Contains_strings_spec _ _ (by simp; omega), tot_some]
  refine ⟨fun _ h => absurd h (by decide), fun _ => ?_⟩
  rw [w64 (by omega) (by omega)]
  exact ⟨by omega, by omega⟩
end Go.Sx.O
namespace Go.Sx.O
open Go
def U8s (l : List Int) : Prop := ∀ x ∈ l, 0 ≤ x ∧ x < 256
theorem U8s.get {l : List Int} (h : U8s l) {i : Nat} {x : Int} (hx : l[i]? = some x) : 0 ≤ x ∧ x < 256 := h x (List.mem_of_getElem? hx)
theorem U8s.set {l : List Int} (h : U8s l) {i : Nat} {x : Int} (h0 : 0 ≤ x) (h1 : x < 256) : U8s (l.set i x) := by
  intro y hy
  rcases List.mem_or_eq_of_mem_set hy with g | g
  · exact h y g
  · subst g; exact ⟨h0, h1⟩
theorem mod_u8 {e : Int} : 0 ≤ IntKind.wrap .u8 e ∧ IntKind.wrap .u8 e < 256 := by
  simp only [IntKind.wrap, IntKind.signed, IntKind.bits, Bool.false_and]
  have h3 : (2 : Int) ^ 8 = 256 := by decide
  simp only [h3]
  refine ⟨?_, ?_⟩ <;> simp <;> omega
theorem orU {a b : Int} (ha : 0 ≤ a) (ha' : a < 256) (hb : 0 ≤ b) (hb' : b < 256) : 0 ≤ bits .or .u8 a b ∧ bits .or .u8 a b < 256 := by
  rw [bits_or ha ha' hb hb']
  have := or_lt (a := a.toNat) (b := b.toNat) (by omega) (by omega)
  omega
theorem get_lt {α : Type} {l : List α} {i : Nat} (h : i < l.length) : ∃ x, l[i]? = some x := ⟨_, List.getElem?_eq_getElem h⟩
theorem of_total (l : TLattice) (hu : U8s l.Up) (hn : l.Names.length ≤ 8) (hl : l.Up.length ≤ 8) :
    Tot (F_lattice_of l) fun o => o.n_ = l.Names.length ∧ o.up_.length = 8 ∧ o.down_.length = 8 ∧ U8s o.up_ ∧ U8s o.down_ := by
  unfold F_lattice_of
  simp only [tot_bind, List.length_map]
  refine Tot.count l.Up.length (fun k s => s.1 = (k : Int) ∧ s.2.1.length = 8 ∧ s.2.2.length = 8 ∧ U8s s.2.1 ∧ U8s s.2.2) ?_ ⟨rfl, rfl, rfl, by intro x hx; simp at hx; omega, by intro x hx; simp at hx; omega⟩
  rintro k ⟨i, up, down⟩ hk ⟨h0, h1, h2, h3, h4⟩
  simp only at h0 h1 h2 h3 h4
  subst h0
  simp only [tot_some, tot_cond, tot_let, tot_idx, tot_side, tot_bind, Sum.elim_inl, Sum.elim_inr, decide_eq_true_eq, decide_eq_false_iff_not, Int.toNat_natCast]
  refine ⟨fun hlt => ?_, fun hlt => ⟨trivial, h1, h2, h3, h4⟩⟩
  obtain ⟨x, hx⟩ := get_lt (l := l.Up) (i := k) (by omega)
  obtain ⟨y, hy⟩ := get_lt (l := up) (i := k) (by omega)
  refine ⟨by omega, x, hx, ⟨by omega, by omega⟩, by omega, y, hy, ?_⟩
  have hx' := hu.get hx
  refine Tot.count l.Names.length (fun j s => s.1 = (j : Int) ∧ s.2.length = 8 ∧ U8s s.2) ?_ ⟨rfl, h2, h4⟩
  rintro j ⟨i', d⟩ hj ⟨g0, g1, g2⟩
  simp only at g0 g1 g2
  subst g0
  simp only [tot_some, tot_cond, tot_let, tot_idx, tot_side, tot_bind, Sum.elim_inl, Sum.elim_inr, decide_eq_true_eq, decide_eq_false_iff_not, Int.toNat_natCast]
  refine ⟨fun hlt' => ?_, fun _ => ?_⟩
  · obtain ⟨z, hz⟩ := get_lt (l := d) (i := j) (by omega)
    have hz' := g2.get hz
    rw [w64 (by omega) (by omega)]
    refine ⟨⟨by omega, by omega⟩, by omega, z, hz, by omega, by omega, ⟨by omega, by omega⟩, by omega, z, hz, by omega, by omega, by simpa using g1, ?_⟩
    have hw := mod_u8 (e := bits .and .u8 (Int.fdiv x (2 ^ min j (IntKind.bits .u8))) 1 * 2 ^ min k (IntKind.bits .u8))
    have ho := orU hz'.1 hz'.2 hw.1 hw.2
    exact g2.set ho.1 ho.2
  · rw [w64 (by omega) (by omega)]
    exact ⟨by omega, by omega, by simpa using h1, g1, h3.set hx'.1 hx'.2, g2⟩
theorem bound_ups_total (m : List Int) (n : Nat) (a b : Nat) (hm : m.length = 8) (hu : U8s m) (hn : n ≤ 8) (ha : a < n) (hb : b < n) : Tot (F_lattice_bound_lattice_ups_ m n a b) fun _ => True := by
  unfold F_lattice_bound_lattice_ups_
  obtain ⟨x, hx⟩ := get_lt (l := m) (i := a) (by omega)
  obtain ⟨y, hy⟩ := get_lt (l := m) (i := b) (by omega)
  simp only [tot_some, tot_cond, tot_let, tot_idx, tot_side, tot_bind, Int.toNat_natCast]
  refine ⟨⟨by omega, by omega⟩, by omega, x, hx, ⟨by omega, by omega⟩, by omega, y, hy, ?_⟩
  refine Tot.count n (fun k s => s = (k : Int)) ?_ rfl
  rintro k _ hk rfl
  simp only [tot_some, tot_cond, tot_let, tot_idx, tot_side, tot_bind, Sum.elim_inl, Sum.elim_inr, decide_eq_true_eq, decide_eq_false_iff_not, Int.toNat_natCast]
  refine ⟨fun hlt => ⟨by omega, fun _ => ?_, fun _ => ?_⟩, fun _ => trivial⟩
  · obtain ⟨z, hz⟩ := get_lt (l := m) (i := k) (by omega)
    rw [w64 (by omega) (by omega)]
    exact ⟨⟨by omega, by omega⟩, by omega, z, hz, fun _ => trivial, fun _ => ⟨by omega, by omega⟩⟩
  · rw [w64 (by omega) (by omega)]
    exact ⟨by omega, by omega⟩
theorem bound_downs_total (m : List Int) (n : Nat) (a b : Nat) (hm : m.length = 8) (hu : U8s m) (hn : n ≤ 8) (ha : a < n) (hb : b < n) : Tot (F_lattice_bound_lattice_downs_ m n a b) fun _ => True := bound_ups_total m n a b hm hu hn ha hb
theorem Len8_total (x : Int) (h0 : 0 ≤ x) (h1 : x < 256) : Tot (F_math_bits_Len8 x) fun _ => True := by
  unfold F_math_bits_Len8
  rw [tot_idx]
  refine ⟨h0, ?_⟩
  have key : ∀ l : List UInt8, l.length = 256 → ∃ y, l[x.toNat]? = some y ∧ Tot (letO (IntKind.wrap .i64 (y.toNat : Int)) fun z => some z) fun _ => True := by
    intro l hl
    obtain ⟨y, hy⟩ := get_lt (l := l) (i := x.toNat) (by omega)
    exact ⟨y, hy, .mk trivial⟩
  exact key _ (by decide +kernel)
def up (l : TLattice) (a b : Nat) : Bool := (l.Up.getD a 0).toNat.testBit b
def rowOK (l : TLattice) (a b : Nat) : Prop := up l a b = true → (b ≠ a → up l b a = false) ∧ ∀ i, i < l.Names.length → up l b i = true → up l a i = true
structure LatOK (l : TLattice) : Prop where
  pos : 1 ≤ l.Names.length
  le : l.Names.length ≤ 8
  len : l.Up.length = l.Names.length
  u8 : U8s l.Up
  self : ∀ a, a < l.Names.length → up l a a = true
  row : ∀ a, a < l.Names.length → ∀ b, b < l.Names.length → rowOK l a b
theorem up_of {l : TLattice} {a : Nat} {x : Int} (h : l.Up[a]? = some x) (b : Nat) : up l a b = x.toNat.testBit b := by
  unfold up; rw [List.getD_eq_getElem?_getD, h]; rfl
theorem mask_bit (n : Nat) (h : n ≤ 8) (i : Nat) : (IntKind.wrap .u8 (IntKind.wrap .u8 (1 * 2 ^ min n (IntKind.bits .u8)) - 1)).toNat.testBit i = decide (i < n) := by
  have key : ∀ n : Fin 9, (IntKind.wrap .u8 (IntKind.wrap .u8 (1 * 2 ^ min n.val (IntKind.bits .u8)) - 1)).toNat = 2 ^ n.val - 1 := by decide +kernel
  rw [key ⟨n, by omega⟩]
  exact Nat.testBit_two_pow_sub_one n i
theorem Check_lat (l : TLattice) (hu : U8s l.Up) (hn : l.Names.length ≤ 20) (hs : ∀ s ∈ l.Names, s.length ≤ 50) : Tot (F_lattice_Check l) fun r => r.2 = 0 → LatOK l := by
  unfold F_lattice_Check
  simp only [tot_bind, List.length_map]
  refine (named_total l.Names hn hs).mono fun x53 h53 => ?_
  simp only [tot_cond, tot_some, Bool.not_eq_true', Bool.not_eq_false', decide_eq_true_eq, decide_eq_false_iff_not]
  refine ⟨fun h h' => absurd h' h, fun h => ⟨fun _ h' => absurd h' (by decide), fun hlen => ?_⟩⟩
  obtain ⟨p1, p8⟩ := h53 h
  have hlen' : l.Up.length = l.Names.length := by omega
  rw [tot_side, tot_let, tot_let, tot_bind]
  refine ⟨by omega, ?_⟩
  rw [Int.toNat_natCast]
  have hmask := mask_bit l.Names.length p8
  have hm0 := mod_u8 (e := IntKind.wrap .u8 (1 * 2 ^ min l.Names.length (IntKind.bits .u8)) - 1)
  revert hmask hm0
  generalize IntKind.wrap .u8 (IntKind.wrap .u8 (1 * 2 ^ min l.Names.length (IntKind.bits .u8)) - 1) = mask
  intro hmask hm0
  refine Tot.count l.Names.length (fun k s => s = (k : Int) ∧ (∀ a, a < k → up l a a = true) ∧ ∀ a, a < k → ∀ b, b < l.Names.length → rowOK l a b) ?_ ⟨rfl, fun a ha => absurd ha (by omega), fun a ha => absurd ha (by omega)⟩
  rintro k _ hk ⟨rfl, hself, hrow⟩
  simp only [tot_cond, tot_some, tot_let, Sum.elim_inl, Sum.elim_inr, decide_eq_true_eq, decide_eq_false_iff_not]
  refine ⟨fun hlt => ?_, fun hlt => ?_⟩
  · -- a round
    simp only [tot_idx, Int.toNat_natCast]
    obtain ⟨x, hx⟩ := get_lt (l := l.Up) (i := k) (by omega)
    have hx' := hu.get hx
    refine ⟨by omega, x, hx, ?_⟩
    rw [tot_bind]
    refine (Len8_total x hx'.1 hx'.2).mono fun x91 _ => ?_
    simp only [tot_cond, tot_some, tot_side, Sum.elim_inl, Sum.elim_inr, decide_eq_true_eq, decide_eq_false_iff_not, Int.toNat_natCast]
    refine ⟨fun _ h' => absurd h' (by decide), fun _ => ⟨by omega, fun _ h' => absurd h' (by decide), fun hs => ?_⟩⟩
    rw [bitAt hx'.1 hx'.2 (by omega), ← up_of hx] at hs
    have hkk : up l k k = true := by
      cases e : up l k k with
      | true => rfl
      | false => rw [e] at hs; simp at hs
    rw [tot_bind]
    refine Tot.count l.Names.length (fun j s => s = (j : Int) ∧ ∀ b, b < j → rowOK l k b) ?_ ⟨rfl, fun b hb => absurd hb (by omega)⟩
    rintro j _ hj ⟨rfl, hr⟩
    have fin : (∀ b, b < l.Names.length → rowOK l k b) → k < l.Names.length ∧ IntKind.wrap .i64 ((k : Int) + 1) = ((k + 1 : Nat) : Int) ∧ (∀ a, a < k + 1 → up l a a = true) ∧ ∀ a, a < k + 1 → ∀ b, b < l.Names.length → rowOK l a b := by
      intro hall
      rw [w64 (by omega) (by omega)]
      refine ⟨by omega, by omega, fun a ha => ?_, fun a ha => ?_⟩
      · rcases Nat.lt_or_ge a k with g | g
        · exact hself a g
        · have : a = k := by omega
          subst this; exact hkk
      · rcases Nat.lt_or_ge a k with g | g
        · exact hrow a g
        · have : a = k := by omega
          subst this; exact hall
    have ext : ∀ {b}, rowOK l k j → b < j + 1 → rowOK l k b := by
      intro b h hb
      rcases Nat.lt_or_ge b j with g | g
      · exact hr b g
      · have : b = j := by omega
        subst this; exact h
    simp only [tot_cond, tot_some, tot_let, tot_side, Sum.elim_inl, Sum.elim_inr, decide_eq_true_eq, decide_eq_false_iff_not, Bool.not_eq_true', Bool.not_eq_false', Int.toNat_natCast]
    refine ⟨fun hjl => ?_, fun hjl => ?_⟩
    · simp only [tot_idx, Int.toNat_natCast]
      obtain ⟨y, hy⟩ := get_lt (l := l.Up) (i := j) (by omega)
      have hy' := hu.get hy
      refine ⟨by omega, y, hy, ?_⟩
      simp only [tot_cond, tot_some, tot_let, tot_side, Sum.elim_inl, Sum.elim_inr, decide_eq_true_eq, decide_eq_false_iff_not, Bool.not_eq_true', Bool.not_eq_false', Int.toNat_natCast]
      rw [bitAt hx'.1 hx'.2 (by omega), ← up_of hx]
      rw [w64 (e := (l.Names.length : Int) - 1) (by omega) (by omega)]
      have stay : rowOK l k j → ((j : Int) = (l.Names.length : Int) - 1 → k < l.Names.length ∧ IntKind.wrap .i64 ((k : Int) + 1) = ((k + 1 : Nat) : Int) ∧ (∀ a, a < k + 1 → up l a a = true) ∧ ∀ a, a < k + 1 → ∀ b, b < l.Names.length → rowOK l a b) ∧ (¬ (j : Int) = (l.Names.length : Int) - 1 → j < l.Names.length ∧ IntKind.wrap .i64 ((j : Int) + 1) = ((j + 1 : Nat) : Int) ∧ ∀ b, b < j + 1 → rowOK l k b) := by
        intro hrow'
        refine ⟨fun e => fin fun b hb => ext hrow' (by omega), fun e => ?_⟩
        rw [w64 (by omega) (by omega)]
        exact ⟨by omega, by omega, fun b hb => ext hrow' hb⟩
      refine ⟨by omega, fun hb => ?_, fun hb => ⟨fun hne => ⟨by omega, fun _ h' => absurd h' (by decide), fun hba => ⟨fun _ h' => absurd h' (by decide), fun han => ?_⟩⟩, fun heq => ⟨fun _ h' => absurd h' (by decide), fun han => ?_⟩⟩⟩
      · refine stay fun hup => ?_
        rw [hup] at hb; simp at hb
      · refine stay fun _ => ⟨fun _ => ?_, fun i hi hyi => ?_⟩
        · rw [bitAt hy'.1 hy'.2 (by omega), ← up_of hy] at hba
          cases e : up l j k with
          | false => rfl
          | true => rw [e] at hba; simp at hba
        · rw [bits_and hy'.1 hy'.2 hm0.1 hm0.2] at han
          have hand := and_lt (a := y.toNat) (b := mask.toNat) (by omega)
          have := (bits_andNot (by omega) (by omega) hx'.1 hx'.2).1 han i (by
            rw [Int.toNat_natCast, Nat.testBit_and, hmask, ← up_of hy, hyi]; simp [hi])
          rw [up_of hx]; exact this
      · refine stay fun _ => ⟨fun hne => absurd (by omega) hne, fun i hi hyi => ?_⟩
        rw [bits_and hy'.1 hy'.2 hm0.1 hm0.2] at han
        have hand := and_lt (a := y.toNat) (b := mask.toNat) (by omega)
        have := (bits_andNot (by omega) (by omega) hx'.1 hx'.2).1 han i (by
          rw [Int.toNat_natCast, Nat.testBit_and, hmask, ← up_of hy, hyi]; simp [hi])
        rw [up_of hx]; exact this
    · exact fin fun b hb => hr b (by omega)
  · -- the end
    have hk' : k = l.Names.length := by omega
    subst hk'
    have good : LatOK l := ⟨p1, p8, hlen', hu, hself, hrow⟩
    rw [tot_bind]
    refine (of_total l hu p8 (by omega)).mono fun o ho => ?_
    obtain ⟨_, o1, o2, o3, o4⟩ := ho
    rw [tot_bind]
    refine Tot.count l.Names.length (fun j s => s = (j : Int)) ?_ rfl
    rintro j _ hj rfl
    simp only [tot_cond, tot_some, tot_let, tot_bind, Sum.elim_inl, Sum.elim_inr, decide_eq_true_eq, decide_eq_false_iff_not]
    refine ⟨fun hlt => ?_, fun _ _ => good⟩
    refine Tot.count l.Names.length (fun i s => s = (i : Int)) ?_ rfl
    rintro i _ hi rfl
    simp only [tot_cond, tot_some, tot_let, tot_bind, Sum.elim_inl, Sum.elim_inr, decide_eq_true_eq, decide_eq_false_iff_not]
    refine ⟨fun hlt' => ?_, fun _ => ?_⟩
    · refine (bound_ups_total _ _ _ _ o1 o3 p8 (by omega) (by omega)).mono fun b1 _ => ⟨fun _ h' => absurd h' (by decide), fun _ => ?_⟩
      refine (bound_downs_total _ _ _ _ o2 o4 p8 (by omega) (by omega)).mono fun b2 _ => ⟨fun _ h' => absurd h' (by decide), fun _ => ?_⟩
      rw [w64 (by omega) (by omega)]
      exact ⟨by omega, by omega⟩
    · rw [w64 (by omega) (by omega)]
      exact ⟨by omega, by omega⟩
end Go.Sx.O
namespace Go.Sx.O
open Go
structure LatIn (l : TLattice) : Prop where
  u8 : U8s l.Up
  names : l.Names.length ≤ 20
  name : ∀ s ∈ l.Names, s.length ≤ 50
noncomputable def latR (l : TLattice) : Int × Int := (F_lattice_Check l).getD (0, 0)
theorem Check_eq {l : TLattice} (h : LatIn l) : F_lattice_Check l = some (latR l) := by
  obtain ⟨r, e, _⟩ := Check_lat l h.u8 h.names h.name
  unfold latR; rw [e]; rfl
theorem lat_ok {l : TLattice} (h : LatIn l) (k : (latR l).2 = 0) : LatOK l := by
  obtain ⟨r, e, q⟩ := Check_lat l h.u8 h.names h.name
  have := Check_eq h
  rw [e] at this; cases this
  exact q k
def isLab (l : TLattice) (a : Int) : Bool := decide (0 ≤ a) && decide (a < (l.Names.length : Int))
theorem label_spec (l : TLattice) (a : Int) : F_view_label l a = some (isLab l a) := by
  unfold F_view_label isLab
  rw [List.length_map]
  cases decide (0 ≤ a) <;> rfl
noncomputable def askE (l : TLattice) (xs : List Int) : Int := if (latR l).2 = 0 then (if xs.all (isLab l) then 0 else 7) else (latR l).2
theorem lasked_spec {l : TLattice} (h : LatIn l) (xs : List Int) (hx : xs.length ≤ 1000000000) : F_lattice_asked l xs = some (askE l xs) := by
  unfold F_lattice_asked askE
  rw [Check_eq h]
  simp only [Option.bind_some]
  by_cases h0 : (latR l).2 = 0
  · simp only [h0, decide_true, Bool.not_true, cond_false, if_true]
    apply Tot.eq
    simp only [tot_bind, List.length_map]
    refine Tot.count xs.length (fun k s => s = (k : Int) ∧ (xs.take k).all (isLab l) = true) ?_ ⟨rfl, by simp⟩
    rintro k _ hk ⟨rfl, hall⟩
    simp only [tot_cond, tot_some, tot_let, tot_idx, Sum.elim_inl, Sum.elim_inr, decide_eq_true_eq, decide_eq_false_iff_not, Int.toNat_natCast]
    refine ⟨fun hlt => ?_, fun hlt => ?_⟩
    · obtain ⟨x, hx'⟩ := get_lt (l := xs) (i := k) (by omega)
      have hm := List.mem_of_getElem? hx'
      have bad : isLab l x = false → (7 : Int) = if xs.all (isLab l) = true then 0 else 7 := by
        intro e
        have : xs.all (isLab l) = false := by
          rw [List.all_eq_false]; exact ⟨x, hm, by simp [e]⟩
        simp [this]
      refine ⟨by omega, x, hx', fun g => bad (by unfold isLab; simp; omega), fun g1 => ⟨fun g => bad (by unfold isLab; simp; omega), fun g2 => ?_⟩⟩
      rw [w64 (by omega) (by omega)]
      refine ⟨by omega, by omega, ?_⟩
      rw [List.take_add_one, hx', List.all_append, hall]
      simp [isLab]; omega
    · rw [List.take_of_length_le (by omega)] at hall
      simp [hall]
  · simp only [h0, decide_false, Bool.not_false, cond_true, if_false]
noncomputable def sees (l : TLattice) (a o : Int) : Bool := decide ((latR l).2 = 0) && isLab l a && isLab l o && up l a.toNat o.toNat
theorem Leq_spec {l : TLattice} (h : LatIn l) (a b : Int) : F_lattice_Leq l a b = some (sees l a b, askE l [a, b]) := by
  unfold F_lattice_Leq
  rw [lasked_spec h _ (by simp)]
  simp only [Option.bind_some]
  by_cases h0 : askE l [a, b] = 0
  · simp only [h0, decide_true, Bool.not_true, cond_false]
    unfold askE at h0
    split at h0
    case isFalse h1 => exact absurd h0 h1
    rename_i h1
    split at h0
    case isFalse => cases h0
    rename_i h2
    simp only [List.all_cons, List.all_nil, Bool.and_true, Bool.and_eq_true] at h2
    have ok := lat_ok h h1
    have ha := h2.1
    have hb := h2.2
    unfold isLab at ha hb
    simp only [Bool.and_eq_true, decide_eq_true_eq] at ha hb
    obtain ⟨x, hx⟩ := get_lt (l := l.Up) (i := a.toNat) (by rw [ok.len]; omega)
    have hx' := ok.u8.get hx
    have : b.toNat ≤ 8 := by have := ok.le; omega
    simp only [idxO, ha.1, if_true, hx, Option.bind_some, sideO, hb.1]
    congr 1
    rw [bitAt hx'.1 hx'.2 this]
    unfold sees
    rw [up_of hx]
    simp only [h1, h2.1, h2.2, decide_true, Bool.true_and]
    cases x.toNat.testBit b.toNat <;> simp
  · simp only [h0, decide_false, Bool.not_false, cond_true]
    congr 1
    have : sees l a b = false := by
      unfold askE at h0
      unfold sees
      split at h0
      · rename_i h1
        split at h0
        · exact absurd rfl h0
        · rename_i h2
          simp only [List.all_cons, List.all_nil, Bool.and_true] at h2
          have : (isLab l a && isLab l b) = false := by cases e : (isLab l a && isLab l b) <;> simp_all
          rw [Bool.and_assoc (decide _)]
          simp [this]
      · rename_i h1; simp [h1]
    rw [this]
theorem sees_ok {l : TLattice} {a o : Int} (h : sees l a o = true) : askE l [a, o] = 0 := by
  unfold sees at h
  simp only [Bool.and_eq_true, decide_eq_true_eq] at h
  unfold askE
  simp [h.1.1.1, h.1.1.2, h.1.2]
theorem AppendSeq_ev_spec {l : TLattice} (h : LatIn l) (es : List TEvEvent) (o : Int) (hl : es.length ≤ 1000000) :
    F_slices_AppendSeq___api_EvEvent_api_EvEvent_ (es, l, (), o) = some (es.filter fun v => sees l v.Label o) := by
  unfold F_slices_AppendSeq___api_EvEvent_api_EvEvent_
  apply Tot.eq
  simp only [tot_bind, List.length_map]
  refine Tot.count es.length (fun k s => s.1 = (k : Int) ∧ s.2 = (es.take k).filter fun v => sees l v.Label o) ?_ ⟨rfl, by simp⟩
  rintro k ⟨i, out⟩ hk ⟨h0, h1⟩
  simp only at h0 h1
  subst h0
  simp only [tot_cond, tot_some, tot_let, tot_idx, tot_side, tot_bind, Sum.elim_inl, Sum.elim_inr, decide_eq_true_eq, decide_eq_false_iff_not, Int.toNat_natCast]
  refine ⟨fun hlt => ?_, fun hlt => ?_⟩
  · obtain ⟨x, hx⟩ := get_lt (l := es) (i := k) (by omega)
    refine ⟨by omega, x, hx, ?_⟩
    have e1 : F_view_events_1 x = some x.Label := rfl
    rw [e1, tot_some, Leq_spec h, tot_some]
    have hlen : out.length ≤ k := by
      rw [h1]
      refine Nat.le_trans (List.length_filter_le _ _) (by simp; omega)
    rw [w64 (by omega) (by omega)]
    have hs : ((es.take (k + 1)).filter fun v => sees l v.Label o) = out ++ (if sees l x.Label o = true then [x] else []) := by
      rw [List.take_add_one, hx, List.filter_append, ← h1]
      congr 1
      simp only [Option.toList_some, List.filter_cons, List.filter_nil]
    refine ⟨fun g => ⟨fun g1 => ⟨by omega, by omega, by omega, ?_⟩, fun g1 => ⟨by omega, by omega, ?_⟩⟩, fun g => ⟨by omega, by omega, ?_⟩⟩
    · simp only at g1; rw [hs, g1]; rfl
    · rw [hs]; simp only at g1; rw [g1]; simp
    · rw [hs]
      have : sees l x.Label o = false := by
        cases e : sees l x.Label o with
        | false => rfl
        | true => exact absurd (sees_ok e) g
      rw [this]; simp
  · rw [h1, List.take_of_length_le (by omega)]
theorem events_spec {l : TLattice} (h : LatIn l) (t : TEvTrace) (o : Int) (hl : t.Events.length ≤ 1000000) : F_view_events l t o = some (t.Events.filter fun v => sees l v.Label o) := by
  unfold F_view_events F_view_seen_api_EvEvent_ F_slices_Collect_api_EvEvent_
  simp only [Option.bind_some]
  rw [AppendSeq_ev_spec h _ _ hl]
  rfl
theorem AppendSeq_re_spec {l : TLattice} (h : LatIn l) (es : List TReEntry) (o : Int) (hl : es.length ≤ 1000000) :
    F_slices_AppendSeq___api_ReEntry_api_ReEntry_ (es, l, (), o) = some (es.filter fun v => sees l v.Goal o) := by
  unfold F_slices_AppendSeq___api_ReEntry_api_ReEntry_
  apply Tot.eq
  simp only [tot_bind, List.length_map]
  refine Tot.count es.length (fun k s => s.1 = (k : Int) ∧ s.2 = (es.take k).filter fun v => sees l v.Goal o) ?_ ⟨rfl, by simp⟩
  rintro k ⟨i, out⟩ hk ⟨h0, h1⟩
  simp only at h0 h1
  subst h0
  simp only [tot_cond, tot_some, tot_let, tot_idx, tot_side, tot_bind, Sum.elim_inl, Sum.elim_inr, decide_eq_true_eq, decide_eq_false_iff_not, Int.toNat_natCast]
  refine ⟨fun hlt => ?_, fun hlt => ?_⟩
  · obtain ⟨x, hx⟩ := get_lt (l := es) (i := k) (by omega)
    refine ⟨by omega, x, hx, ?_⟩
    have e1 : F_view_entries_1 x = some x.Goal := rfl
    rw [e1, tot_some, Leq_spec h, tot_some]
    have hlen : out.length ≤ k := by
      rw [h1]
      refine Nat.le_trans (List.length_filter_le _ _) (by simp; omega)
    rw [w64 (by omega) (by omega)]
    have hs : ((es.take (k + 1)).filter fun v => sees l v.Goal o) = out ++ (if sees l x.Goal o = true then [x] else []) := by
      rw [List.take_add_one, hx, List.filter_append, ← h1]
      congr 1
      simp only [Option.toList_some, List.filter_cons, List.filter_nil]
    refine ⟨fun g => ⟨fun g1 => ⟨by omega, by omega, by omega, ?_⟩, fun g1 => ⟨by omega, by omega, ?_⟩⟩, fun g => ⟨by omega, by omega, ?_⟩⟩
    · simp only at g1; rw [hs, g1]; rfl
    · rw [hs]; simp only at g1; rw [g1]; simp
    · rw [hs]
      have : sees l x.Goal o = false := by
        cases e : sees l x.Goal o with
        | false => rfl
        | true => exact absurd (sees_ok e) g
      rw [this]; simp
  · rw [h1, List.take_of_length_le (by omega)]
theorem entries_spec {l : TLattice} (h : LatIn l) (t : TEvTrace) (o : Int) (hl : t.Log.length ≤ 1000000) : F_view_entries l t o = some (t.Log.filter fun v => sees l v.Goal o) := by
  unfold F_view_entries F_view_seen_api_ReEntry_ F_slices_Collect_api_ReEntry_
  simp only [Option.bind_some]
  rw [AppendSeq_re_spec h _ _ hl]
  rfl
end Go.Sx.O
namespace Go.Sx.O
open Go
theorem any_loop {α : Type} {l : List α} (p : α → Bool) {ε : Type} {step : Int → Option (Int ⊕ (ε ⊕ Int))} {e : ε} {G : Option Int}
    (hG : G = (lpO step 0).bind (Sum.elim (fun _ => some (-1)) some))
    (h1 : ∀ (k : Nat) x, l[k]? = some x → k < l.length → step (k : Int) = if p x then some (.inr (.inr (k : Int))) else some (.inl ((k : Int) + 1)))
    (h2 : step (l.length : Int) = some (.inr (.inl e))) : G.bind (fun x => some (decide (0 ≤ x))) = some (l.any p) := by
  rw [hG, find_loop (l := l) p (d := .inl e) (g := .inr) (fun k x hx => h1 k x hx (by
    rcases Nat.lt_or_ge k l.length with g | g
    · exact g
    · rw [List.getElem?_eq_none g] at hx; cases hx)) h2]
  cases h : l.findIdx? p with
  | none =>
    have := List.findIdx?_eq_none_iff.1 h
    simp only [Option.bind_some, Sum.elim_inl]
    have hn : l.any p = false := by rw [List.any_eq_false]; intro x hx; simp [this x hx]
    rw [hn]; rfl
  | some i =>
    obtain ⟨hi, hp, _⟩ := List.findIdx?_eq_some_iff_getElem.1 h
    have hy : l.any p = true := List.any_eq_true.2 ⟨_, List.getElem_mem hi, hp⟩
    simp [hy]
theorem ContainsFunc1 (l : List Int) (h : l.length ≤ 1000000000) : F_slices_ContainsFunc___int_int_ l = some (l.any fun x => decide (x < 0)) := by
  unfold F_slices_ContainsFunc___int_int_ F_slices_IndexFunc___int_int_
  refine any_loop (l := l) (fun x => decide (x < 0)) (e := ()) rfl (fun k x hx hlt => ?_) (by simp)
  simp only [List.length_map, Int.ofNat_lt, hlt, decide_true, cond_true, idxO, Int.toNat_natCast, hx, Option.bind_some, letO, Int.natCast_nonneg, if_true, F_shapes_Check_1]
  rw [w64 (by omega) (by omega)]
  cases decide (x < 0) <;> rfl
theorem ContainsFunc2 (l : List Int) (h : l.length ≤ 1000000000) : F_slices_ContainsFunc___int_int__v1 l = some (l.any fun x => !decide (x = 0)) := by
  unfold F_slices_ContainsFunc___int_int__v1 F_slices_IndexFunc___int_int__v1
  refine any_loop (l := l) (fun x => !decide (x = 0)) (e := ()) rfl (fun k x hx hlt => ?_) (by simp)
  simp only [List.length_map, Int.ofNat_lt, hlt, decide_true, cond_true, idxO, Int.toNat_natCast, hx, Option.bind_some, letO, Int.natCast_nonneg, if_true, F_shapes_Check_2]
  rw [w64 (by omega) (by omega)]
  cases decide (x = 0) <;> rfl
theorem ContainsFunc3 (l : List Int) (h : l.length ≤ 1000000000) : F_slices_ContainsFunc___int_int__v2 l = some (l.any fun x => decide (400 < x)) := by
  unfold F_slices_ContainsFunc___int_int__v2 F_slices_IndexFunc___int_int__v2
  refine any_loop (l := l) (fun x => decide (400 < x)) (e := ()) rfl (fun k x hx hlt => ?_) (by simp)
  simp only [List.length_map, Int.ofNat_lt, hlt, decide_true, cond_true, idxO, Int.toNat_natCast, hx, Option.bind_some, letO, Int.natCast_nonneg, if_true, F_shapes_Check_3]
  rw [w64 (by omega) (by omega)]
  cases decide (400 < x) <;> rfl
theorem product_total (r : Int) (lens : Int × Int) : Tot (F_shapes_product r lens) fun _ => True := by
  unfold F_shapes_product
  simp only [tot_cond, tot_let, tot_some, implies_true, and_self]
theorem shapes_Check_total (r : Int) (lens : Int × Int) : Tot (F_shapes_Check r lens) fun _ => True := by
  unfold F_shapes_Check
  rw [tot_cond]; refine ⟨fun _ => .mk trivial, fun h0 => ?_⟩
  rw [tot_cond]; refine ⟨fun _ => .mk trivial, fun h2 => ?_⟩
  simp only [decide_eq_false_iff_not] at h0 h2
  rw [tot_side, tot_side, tot_bind, ContainsFunc1 _ (by simp; omega), tot_some, tot_cond]
  refine ⟨⟨by omega, by omega⟩, ⟨by omega, by omega⟩, fun _ => .mk trivial, fun _ => ?_⟩
  rw [tot_bind, ContainsFunc2 _ (by simp; omega), tot_some, tot_cond]
  refine ⟨fun _ => .mk trivial, fun _ => ?_⟩
  rw [tot_bind, ContainsFunc3 _ (by simp; omega), tot_some, tot_cond]
  refine ⟨fun _ => .mk trivial, fun _ => ?_⟩
  rw [tot_bind]
  refine (product_total _ _).mono fun _ _ => ?_
  rw [tot_cond]
  exact ⟨fun _ => .mk trivial, fun _ => .mk trivial⟩
theorem shapes_total (r : Int) (lens : Int × Int) : Tot (F_shapes_Cells r lens) fun _ => True := by
  unfold F_shapes_Cells
  rw [tot_bind]
  refine (shapes_Check_total _ _).mono fun _ _ => ?_
  rw [tot_cond]
  refine ⟨fun _ => .mk trivial, fun _ => ?_⟩
  rw [tot_bind]
  exact (product_total _ _).mono fun _ _ => .mk trivial
theorem ValidRune_total (x : Int) : Tot (F_unicode_utf8_ValidRune x) fun _ => True := by
  unfold F_unicode_utf8_ValidRune
  simp only [tot_cond, tot_some, implies_true, and_self]
theorem right_total (k c : Int) : Tot (F_arrays_right k c) fun _ => True := by
  unfold F_arrays_right
  simp only [tot_cond, tot_some, tot_let, tot_bind, implies_true, and_self, true_and, and_true]
  exact fun _ _ _ => (ValidRune_total _).mono fun _ _ => trivial
theorem ContainsFunc4 (l : List Int) (a : TArray) (h : l.length ≤ 1000000000) : Tot (F_slices_ContainsFunc___int64_int64_ l a) fun _ => True := by
  unfold F_slices_ContainsFunc___int64_int64_ F_slices_IndexFunc___int64_int64_
  simp only [tot_bind, tot_some, List.length_map]
  refine Tot.count l.length (fun k s => s = (k : Int)) ?_ rfl
  rintro k _ hk rfl
  simp only [tot_cond, tot_some, tot_let, tot_idx, tot_bind, Sum.elim_inl, Sum.elim_inr, decide_eq_true_eq, decide_eq_false_iff_not, Int.toNat_natCast]
  refine ⟨fun hlt => ?_, fun _ => trivial⟩
  obtain ⟨x, hx⟩ := get_lt (l := l) (i := k) (by omega)
  refine ⟨by omega, x, hx, ?_⟩
  unfold F_arrays_Check_1
  rw [tot_bind]
  refine (right_total _ _).mono fun b _ => ?_
  rw [tot_some]
  refine ⟨fun _ => trivial, fun _ => ?_⟩
  rw [w64 (by omega) (by omega)]
  exact ⟨by omega, by omega⟩
theorem arrays_Check_total (a : TArray) (h : a.Cells.length ≤ 1000000000) : Tot (F_arrays_Check a) fun _ => True := by
  unfold F_arrays_Check
  simp only [tot_cond, tot_some, tot_bind, implies_true, true_and]
  exact ⟨fun _ _ => (shapes_total _ _).mono fun _ _ _ _ => ContainsFunc4 _ _ h, fun _ => (shapes_total _ _).mono fun _ _ _ _ => ContainsFunc4 _ _ h⟩
theorem zip_loop {α β : Type} {l : List α} {m : List β} (n : Nat) (p : α → β → Bool) {τ ε : Type} {step : Int → Option (Int ⊕ (ε ⊕ τ))} {bad : Int → τ} {e : ε} {Q : ε ⊕ τ → Prop}
    (hn : n ≤ l.length) (hm : n ≤ m.length)
    (h1 : ∀ (k : Nat) x y, l[k]? = some x → m[k]? = some y → k < n → step (k : Int) = if p x y then some (.inl ((k : Int) + 1)) else some (.inr (.inr (bad k))))
    (h2 : step (n : Int) = some (.inr (.inl e)))
    (q1 : (∀ (k : Nat) x y, l[k]? = some x → m[k]? = some y → k < n → p x y = true) → Q (.inl e))
    (q2 : ∀ (k : Nat) x y, l[k]? = some x → m[k]? = some y → k < n → p x y = false → (∀ (j : Nat) x y, l[j]? = some x → m[j]? = some y → j < k → p x y = true) → Q (.inr (bad k))) : Tot (lpO step 0) Q := by
  refine Tot.count n (fun k s => s = (k : Int) ∧ ∀ (j : Nat) x y, l[j]? = some x → m[j]? = some y → j < k → p x y = true) ?_ ⟨rfl, fun j _ _ _ _ hj => absurd hj (by omega)⟩
  rintro k _ hk ⟨rfl, hall⟩
  rcases Nat.lt_or_ge k n with g | g
  · obtain ⟨x, hx⟩ := get_lt (l := l) (i := k) (by omega)
    obtain ⟨y, hy⟩ := get_lt (l := m) (i := k) (by omega)
    rw [h1 k x y hx hy g]
    cases e : p x y with
    | true =>
      simp only [if_true, tot_some, Sum.elim_inl]
      refine ⟨g, by omega, fun j x' y' hx' hy' hj => ?_⟩
      rcases Nat.lt_or_ge j k with g' | g'
      · exact hall j x' y' hx' hy' g'
      · have : j = k := by omega
        subst this
        rw [hx] at hx'; rw [hy] at hy'
        cases hx'; cases hy'; exact e
    | false =>
      simp only [Bool.false_eq_true, if_false, tot_some, Sum.elim_inr]
      exact q2 k x y hx hy g e hall
  · have : k = n := by omega
    subst this
    rw [h2]
    simp only [tot_some, Sum.elim_inr]
    exact q1 fun j x y hx hy hj => hall j x y hx hy hj
theorem eq_of_get {α : Type} : ∀ {l m : List α}, l.length = m.length → (∀ (k : Nat) x y, l[k]? = some x → m[k]? = some y → k < l.length → x = y) → l = m
  | [], [], _, _ => rfl
  | a :: l, b :: m, h, k => by
    have h0 := k 0 a b rfl rfl (by simp)
    subst h0
    rw [eq_of_get (l := l) (m := m) (by simpa using h) fun j x y hx hy hj => k (j + 1) x y (by simpa using hx) (by simpa using hy) (by simp; omega)]
  | [], _ :: _, h, _ => by simp at h
  | _ :: _, [], h, _ => by simp at h
theorem Equal_ints_spec (a b : List Int) (h : a.length ≤ 1000000000) : F_slices_Equal___int64_int64_ a b = some (decide (a = b)) := by
  unfold F_slices_Equal___int64_int64_
  apply Tot.eq
  simp only [List.length_map, tot_cond, tot_some, tot_bind, Bool.not_eq_true', Bool.not_eq_false', decide_eq_true_eq, decide_eq_false_iff_not]
  refine ⟨fun hne => ?_, fun heq => ?_⟩
  · have : a ≠ b := fun e => hne (by rw [e])
    simp [this]
  · have hl : a.length = b.length := by omega
    refine zip_loop (l := a) (m := b) a.length (fun x y => decide (x = y)) (bad := fun _ => false) (e := ()) (Nat.le_refl _) (by omega) (fun k x y hx hy hk => ?_) (by simp) (fun hall => ?_) (fun k x y hx hy hk e _ => ?_)
    · simp only [Int.ofNat_lt, hk, decide_true, cond_true, idxO, Int.toNat_natCast, hx, hy, Option.bind_some, letO, Int.natCast_nonneg, if_true]
      rw [w64 (by omega) (by omega)]
      cases decide (x = y) <;> rfl
    · have : a = b := eq_of_get hl fun k x y hx hy hk => by simpa using hall k x y hx hy hk
      simp [this, tot_some]
    · have : a ≠ b := by
        rintro rfl
        rw [hx] at hy; cases hy
        simp at e
      simp [this, tot_some]
theorem sameArray_spec (a b : TArray) (h : a.Cells.length ≤ 1000000000) : Tot (F_view_sameArray a b) fun r => (r = true ↔ a = b) := by
  unfold F_view_sameArray
  obtain ⟨k1, r1, ⟨p1, q1⟩, c1⟩ := a
  obtain ⟨k2, r2, ⟨p2, q2⟩, c2⟩ := b
  rw [Equal_ints_spec _ _ h]
  simp only [tot_cond, tot_some, tot_bind, decide_eq_true_eq, decide_eq_false_iff_not, Bool.and_eq_true, Bool.and_eq_false_iff, and_true, TArray.mk.injEq, Prod.mk.injEq, Bool.false_eq_true, false_iff, not_and, Bool.true_eq_false, or_false]
  refine ⟨fun e1 => ⟨fun e2 => ⟨fun e3 => by simp [e1, e2, e3], fun e3 _ _ h4 h5 => ?_⟩, fun e2 _ h => absurd h e2⟩, fun e1 h => absurd h e1⟩
  rcases e3 with e3 | e3
  · exact absurd h4 (fun h => e3 h.1)
  · exact absurd h4 (fun h => e3 h.2)
end Go.Sx.O
namespace Go.Sx.O
open Go
theorem indexByte_none {l : List UInt8} {c : UInt8} (h : c ∉ l) : Lib.indexByte l c = -1 := by
  induction l with
  | nil => rfl
  | cons a l ih =>
    simp only [List.mem_cons, not_or] at h
    have : (a == c) = false := by simp; exact fun e => h.1 e.symm
    simp [Lib.indexByte, this, ih h.2]
theorem hi_enc {r : Int} (h0 : 128 ≤ r) (h1 : r < 256) : ∃ x y, (Utf8.encode r).data.toList = [x, y] ∧ 128 ≤ y.toNat := by
  refine ⟨UInt8.ofNat (0xC0 + r.toNat / 64), UInt8.ofNat (0x80 + r.toNat % 64), ?_, ?_⟩
  · have hv : Utf8.valid r = true := by unfold Utf8.valid; simp; omega
    unfold Utf8.encode
    simp only [hv, if_true]
    rw [if_neg (by omega), if_pos (by omega)]
  · rw [UInt8.toNat_ofNat']; omega
theorem IndexRune_total (s : List UInt8) (r : Int) (hs : ∀ c ∈ s, c.toNat < 128) (hl : s.length ≤ 1000) (h0 : 0 ≤ r) (h1 : r < 256) : Tot (F_strings_IndexRune s r) fun _ => True := by
  unfold F_strings_IndexRune
  have e0 : decide (0 ≤ r) = true := by simp [h0]
  simp only [e0, cond_true]
  rw [tot_cond]
  refine ⟨fun _ => ?_, fun h2 => ?_⟩
  · rw [tot_let, tot_bind]
    unfold F_strings_IndexByte F_internal_stringslite_IndexByte
    simp only [Option.bind_some, tot_some]
  · simp only [decide_eq_false_iff_not] at h2
    obtain ⟨x, y, exy, hy⟩ := hi_enc (r := r) (by omega) h1
    have e1 : decide (r = 65533) = false := by simp; omega
    simp only [e1, cond_false, exy]
    rw [tot_bind]
    refine (ValidRune_total r).mono fun v _ => ?_
    rw [tot_cond]
    refine ⟨fun _ => .mk trivial, fun _ => ?_⟩
    rw [tot_let]
    have e2 : IntKind.wrap .i64 (((List.length [x, y] : Nat) : Int) - 1) = 1 := rfl
    rw [e2, tot_bind]
    refine Tot.loop (fun _ => 0) (fun _ => True) (fun _ _ => ?_) trivial
    rw [tot_cond]
    refine ⟨fun h3 => ?_, fun _ => ?_⟩
    · simp only [decide_eq_true_eq] at h3
      obtain ⟨c, hc⟩ := get_lt (l := s) (i := 1) (by omega)
      have hc' := hs c (List.mem_of_getElem? hc)
      have e3 : (1 : Int).toNat = 1 := rfl
      simp only [tot_idx, e3]
      refine ⟨by omega, c, hc, by omega, y, rfl, ?_⟩
      have e4 : decide ((c.toNat : Int) = (y.toNat : Int)) = false := by simp; omega
      simp only [e4, Bool.not_false, cond_true]
      rw [tot_let]
      have e5 : IntKind.wrap .i64 (1 + 1) = 2 := rfl
      rw [e5, tot_side]
      refine ⟨by omega, ?_⟩
      simp only [tot_idx, e3]
      refine ⟨by omega, y, rfl, ?_⟩
      unfold F_strings_IndexByte F_internal_stringslite_IndexByte
      simp only [Option.bind_some]
      have hn : ((y.toNat : Int).toNat.toUInt8) = y := by simp
      rw [hn, indexByte_none (fun hm => by
        have := hs y (List.mem_of_mem_take (List.mem_of_mem_drop hm))
        omega)]
      have e6 : decide ((-1 : Int) < 0) = true := rfl
      simp only [e6, cond_true, tot_some, Sum.elim_inr]
    · simp only [tot_some, Sum.elim_inr, Sum.elim_inl]
theorem ContainsRune_total (s : List UInt8) (r : Int) (hs : ∀ c ∈ s, c.toNat < 128) (hl : s.length ≤ 1000) (h0 : 0 ≤ r) (h1 : r < 256) : Tot (F_strings_ContainsRune s r) fun _ => True := by
  unfold F_strings_ContainsRune
  rw [tot_bind]
  exact (IndexRune_total s r hs hl h0 h1).mono fun _ _ => .mk trivial
theorem wrap_i32 {r : Int} (h0 : 0 ≤ r) (h1 : r < 256) : IntKind.wrap .i32 r = r := by
  simp only [IntKind.wrap, IntKind.signed, IntKind.bits]
  have h3 : (2 : Int) ^ 32 = 4294967296 := by decide
  have h4 : (2 : Int) ^ (32 - 1) = 2147483648 := by decide
  simp only [h3, h4, Bool.true_and, decide_eq_true_eq, ge_iff_le]
  split <;> omega
theorem runes_is_total (r : Int) : Tot (F_runes_is r) fun _ => True := by
  unfold F_runes_is
  rw [tot_let, tot_let, tot_cond]
  refine ⟨fun _ => ?_, fun _ => .mk trivial⟩
  rw [tot_let, tot_bind]
  exact (ValidRune_total _).mono fun _ _ => .mk trivial
theorem class_loop {cs : List (List UInt8)} (hcs : cs.length = 10) (h : ∀ s ∈ cs, s.length ≤ 1000 ∧ ∀ c ∈ s, c.toNat < 128) (r : Int) (h0 : 0 ≤ r) (h1 : r < 256) {Q : Unit ⊕ (Int × Int) → Prop} (hQ : ∀ x, Q x) :
    Tot (lpO (fun (s : Int) => cond (decide (s < 10)) (idxO cs s fun x => letO (IntKind.wrap IntKind.i32 r) fun y => Option.bind (F_strings_ContainsRune x y) fun z => cond z (some (Sum.inr (Sum.inr (s, (0 : Int))))) (letO (IntKind.wrap IntKind.i64 (s + 1)) fun u => some (Sum.inl u))) (some (Sum.inr (Sum.inl ())))) 0) Q := by
  refine Tot.count 10 (fun k s => s = (k : Int)) ?_ rfl
  rintro k _ hk rfl
  simp only [tot_cond, tot_some, tot_let, tot_idx, tot_bind, Sum.elim_inl, Sum.elim_inr, decide_eq_true_eq, decide_eq_false_iff_not, Int.toNat_natCast]
  refine ⟨fun hlt => ?_, fun _ => hQ _⟩
  obtain ⟨x, hx⟩ := get_lt (l := cs) (i := k) (by omega)
  have hx' := h x (List.mem_of_getElem? hx)
  refine ⟨by omega, x, hx, ?_⟩
  rw [wrap_i32 h0 h1]
  refine (ContainsRune_total x r hx'.2 hx'.1 h0 h1).mono fun _ _ => ⟨fun _ => hQ _, fun _ => ?_⟩
  rw [w64 (by omega) (by omega)]
  exact ⟨by omega, by omega⟩
theorem Class_total (r : Int) (h0 : 0 ≤ r) (h1 : r < 256) : Tot (F_runes_Class r) fun _ => True := by
  unfold F_runes_Class F_runes_classes
  rw [tot_bind]
  refine (runes_is_total r).mono fun v _ => ?_
  simp only [Option.bind_some]
  have L := class_loop (cs := [[], [32], [10], [40, 91], [41, 93], [34], [], [45], [], [60, 61]]) rfl (by decide) r h0 h1 (Q := fun a => Tot (Sum.elim (fun _ => some ((10 : Int), (0 : Int))) some a) fun _ => True) (fun x => by cases x <;> exact .mk trivial)
  simp only [tot_cond, tot_some, implies_true, true_and, tot_bind]
  exact fun _ => ⟨fun _ _ => ⟨fun _ _ => L, fun _ => L⟩, fun _ => ⟨fun _ _ => L, fun _ => L⟩⟩
theorem prims_Find_total (s : List UInt8) : Tot (F_prims_Find s) fun _ => True := by
  unfold F_prims_Find
  simp only [tot_bind, tot_cond, tot_some, Sum.elim_inl, Sum.elim_inr, implies_true, and_self]
theorem byte_class (c : UInt8) : Tot (F_runes_Class (IntKind.wrap .i64 (c.toNat : Int))) fun _ => True := by
  have := c.toNat_lt
  rw [w64 (by omega) (by omega)]
  exact Class_total _ (by omega) (by omega)
theorem lexer_word_total (s : List UInt8) (h : s.length ≤ 1000000) : Tot (F_lexer_Check (TLxToken.mk 1 0 0 0 s)) fun _ => True := by
  unfold F_lexer_Check
  dsimp only
  have e1 : decide ((1 : Int) = 1) = true := rfl
  have e2 : decide ((1 : Int) < 1) = false := rfl
  have e3 : decide ((9 : Int) < 1) = false := rfl
  have e4 : decide ((0 : Int) = 0) = true := rfl
  have e5 : decide (s = s) = true := by simp
  simp only [e2, e3, decide_true, cond_true, cond_false, Option.bind_some, Sum.elim_inl, Bool.and_self, Bool.not_true]
  rw [tot_bind]
  have Q : ∀ x : Int ⊕ Int, Tot (Sum.elim (fun (n : Int) => cond (decide (n < (s.length : Int))) (some (3 : Int)) (some (0 : Int))) some x) fun _ => True := by
    intro x
    cases x with
    | inl n => simp only [Sum.elim_inl, tot_cond, tot_some, implies_true, and_self]
    | inr n => exact .mk trivial
  refine Tot.mono (Q := fun _ => True) ?_ fun x _ => Q x
  rw [tot_cond]
  refine ⟨fun _ => .mk trivial, fun h1 => ?_⟩
  simp only [decide_eq_false_iff_not] at h1
  obtain ⟨c, hc⟩ := get_lt (l := s) (i := 0) (by omega)
  have e0 : (0 : Int).toNat = 0 := rfl
  simp only [tot_idx, tot_let, tot_bind, e0]
  refine ⟨by omega, c, hc, (byte_class c).mono fun x _ => ?_⟩
  rw [tot_cond]
  refine ⟨fun _ => .mk trivial, fun _ => ?_⟩
  simp only [tot_idx, tot_let, tot_bind, e0]
  refine ⟨by omega, c, hc, (byte_class c).mono fun y _ => ?_⟩
  refine Tot.loop (fun (p : Int × Int) => s.length - p.2.toNat) (fun (p : Int × Int) => 0 ≤ p.2 ∧ p.2 ≤ (s.length : Int) ∧ (p.1 = 8 ∨ p.1 = 6 → p.2 < (s.length : Int))) ?_ ⟨by simp, by simp, fun _ => by simp only; omega⟩
  rintro ⟨k, a⟩ ⟨h2, h3, h4⟩
  simp only at h2 h3 h4
  have round : (k = 8 ∨ k = 6) → ∀ {Q : (Bool × Int × Int) ⊕ (Int ⊕ Int) → Prop}, Tot (letO (IntKind.wrap .i64 (a + 1)) fun (u : Int) => cond (decide ((s.length : Int) ≤ u)) (some (Sum.inl ((10 : Int), u))) (idxO s u fun (v : UInt8) => letO (IntKind.wrap .i64 (v.toNat : Int)) fun (z : Int) => Option.bind (F_runes_Class z) fun r => some (Sum.inl (r.1, u)))) (Sum.elim (fun (s' : Int × Int) => (0 ≤ s'.2 ∧ s'.2 ≤ (s.length : Int) ∧ (s'.1 = 8 ∨ s'.1 = 6 → s'.2 < (s.length : Int))) ∧ s.length - s'.2.toNat < s.length - a.toNat) Q) := by
    intro hk Q
    have hlt := h4 hk
    rw [tot_let, w64 (by omega) (by omega), tot_cond]
    refine ⟨fun g => ?_, fun g => ?_⟩
    · simp only [decide_eq_true_eq] at g
      simp only [tot_some, Sum.elim_inl]
      exact ⟨⟨by omega, by omega, fun e => by omega⟩, by omega⟩
    · simp only [decide_eq_false_iff_not] at g
      obtain ⟨d, hd⟩ := get_lt (l := s) (i := (a + 1).toNat) (by omega)
      simp only [tot_idx, tot_let, tot_bind]
      refine ⟨by omega, d, hd, (byte_class d).mono fun z _ => ?_⟩
      simp only [tot_some, Sum.elim_inl]
      exact ⟨⟨by omega, by omega, fun e => by omega⟩, by omega⟩
  rw [tot_cond]
  refine ⟨fun g => round (.inl (by simpa using g)), fun g => ?_⟩
  rw [tot_cond]
  refine ⟨fun g' => round (.inr (by simpa using g')), fun g' => ?_⟩
  simp only [tot_some, Sum.elim_inr, Sum.elim_inl, tot_side, tot_cond, implies_true, and_self, and_true]
  omega
theorem expr_Name_total (s : List UInt8) (h : s.length ≤ 1000000) : Tot (F_expr_Name s) fun _ => True := by
  unfold F_expr_Name
  simp only [tot_cond, tot_some, implies_true, true_and, tot_bind]
  intros
  exact (prims_Find_total s).mono fun _ _ _ => (lexer_word_total s h).mono fun _ _ => trivial
end Go.Sx.O
namespace Go.Sx.O
open Go
structure TraceIn (t : TEvTrace) : Prop where
  events : t.Events.length ≤ 60
  log : t.Log.length ≤ 60
  event : ∀ v ∈ t.Events, v.Channel.length ≤ 100 ∧ v.Value.Cells.length ≤ 450
theorem bad_total (l : TLattice) (v : TEvEvent) (least most : Int) (last : Bool) (h : v.Channel.length ≤ 100) (h2 : v.Value.Cells.length ≤ 450) : Tot (F_view_bad l v least most last) fun r => r = 0 → isLab l v.Label = true := by
  unfold F_view_bad
  rw [label_spec]
  rw [Option.bind_some, tot_cond]
  refine ⟨fun _ => .mk fun e => absurd e (by decide), fun hl => ?_⟩
  have hl' : isLab l v.Label = true := by cases e : isLab l v.Label <;> simp_all
  simp only [hl', implies_true]
  simp only [tot_cond, tot_some, tot_bind, implies_true, true_and, and_true]
  intros
  refine ⟨fun _ => ?_, fun _ _ => ?_⟩
  · exact (expr_Name_total _ (by omega)).mono fun _ _ _ => (arrays_Check_total _ (by omega)).mono fun _ _ => trivial
  · exact (sameArray_spec _ _ (by omega)).mono fun _ _ => trivial
noncomputable def trR (l : TLattice) (t : TEvTrace) : Int × Int := (F_view_Check l t).getD (0, 0)
theorem view_Check_total {l : TLattice} {t : TEvTrace} (hl : LatIn l) (ht : TraceIn t) : Tot (F_view_Check l t) fun r => r.2 = 0 → (latR l).2 = 0 ∧ ∀ v ∈ t.Events, isLab l v.Label = true := by
  unfold F_view_Check
  rw [Check_eq hl, Option.bind_some]
  simp only [List.length_map]
  rw [tot_cond]
  refine ⟨fun h => .mk fun e => by simp at h; exact absurd e h, fun h0 => ?_⟩
  have h0' : (latR l).2 = 0 := by simpa using h0
  rw [tot_cond]
  refine ⟨fun _ => .mk fun e => absurd e (by decide), fun h1 => ?_⟩
  rw [tot_let, tot_bind]
  have hev := ht.events
  refine Tot.count t.Events.length (fun k s => s.1 = (k : Int) ∧ ∀ v ∈ t.Events.take k, isLab l v.Label = true) ?_ ⟨rfl, by simp⟩
  rintro k ⟨i, least⟩ hk ⟨hi, hall⟩
  simp only at hi hall
  subst hi
  simp only [tot_cond, tot_some, tot_let, tot_idx, tot_bind, Sum.elim_inl, Sum.elim_inr, decide_eq_true_eq, decide_eq_false_iff_not, Int.toNat_natCast]
  refine ⟨fun hlt => ?_, fun hlt => ?_⟩
  · obtain ⟨v, hv⟩ := get_lt (l := t.Events) (i := k) (by omega)
    have hm := List.mem_of_getElem? hv
    refine ⟨by omega, v, hv, ?_⟩
    refine (bad_total l v least t.Steps _ (ht.event v hm).1 (ht.event v hm).2).mono fun x hx => ⟨fun hne e => ?_, fun heq => ?_⟩
    · simp at hne; exact absurd e hne
    · rw [w64 (by omega) (by omega)]
      refine ⟨by omega, by omega, fun u hu => ?_⟩
      rw [List.take_add_one, hv] at hu
      rcases List.mem_append.1 hu with hu | hu
      · exact hall u hu
      · simp at hu; subst hu; exact hx (by simpa using heq)
  · have hlog := ht.log
    rw [List.take_of_length_le (by omega)] at hall
    refine Tot.count t.Log.length (fun k s => s = (k : Int)) ?_ rfl
    rintro j _ hj rfl
    simp only [tot_cond, tot_some, tot_let, tot_idx, tot_bind, Sum.elim_inl, Sum.elim_inr, decide_eq_true_eq, decide_eq_false_iff_not, Int.toNat_natCast]
    refine ⟨fun hlt' => ?_, fun _ _ => ⟨h0', hall⟩⟩
    obtain ⟨x, hx⟩ := get_lt (l := t.Log) (i := j) (by omega)
    refine ⟨by omega, x, hx, ?_⟩
    rw [label_spec, tot_some]
    have step : (j < t.Log.length ∧ IntKind.wrap .i64 ((j : Int) + 1) = ((j + 1 : Nat) : Int)) := by
      rw [w64 (by omega) (by omega)]; exact ⟨by omega, by omega⟩
    refine ⟨fun _ e => absurd e (by decide), fun _ => ?_⟩
    rw [label_spec, tot_some]
    refine ⟨fun _ e => absurd e (by decide), fun _ => ⟨fun _ e => absurd e (by decide), fun _ => ⟨fun _ e => absurd e (by decide), fun _ => ⟨fun _ e => absurd e (by decide), fun _ => ⟨fun _ e => absurd e (by decide), fun _ => ⟨fun _ e => absurd e (by decide), fun _ => ⟨fun _ e => absurd e (by decide), fun _ => ⟨fun _ => ⟨fun _ e => absurd e (by decide), fun _ => step⟩, fun _ => step⟩⟩⟩⟩⟩⟩⟩⟩
theorem vCheck_eq {l : TLattice} {t : TEvTrace} (hl : LatIn l) (ht : TraceIn t) : F_view_Check l t = some (trR l t) := by
  obtain ⟨r, e, _⟩ := view_Check_total hl ht
  unfold trR; rw [e]; rfl
noncomputable def vask (l : TLattice) (o : Int) : List TEvTrace → Int
  | [] => if isLab l o then 0 else 7
  | t :: r => if (trR l t).2 = 0 then vask l o r else (trR l t).2
theorem vasked_spec {l : TLattice} (hl : LatIn l) (o : Int) (ts : List TEvTrace) (ht : ∀ t ∈ ts, TraceIn t) (hn : ts.length ≤ 3) : F_view_asked l o ts = some (vask l o ts) := by
  unfold F_view_asked
  apply Tot.eq
  simp only [tot_bind, List.length_map]
  refine Tot.count ts.length (fun k s => s = (k : Int) ∧ vask l o (ts.drop k) = vask l o ts) ?_ ⟨rfl, rfl⟩
  rintro k _ hk ⟨rfl, hv⟩
  simp only [tot_cond, tot_some, tot_let, tot_idx, tot_bind, Sum.elim_inl, Sum.elim_inr, decide_eq_true_eq, decide_eq_false_iff_not, Int.toNat_natCast]
  refine ⟨fun hlt => ?_, fun hlt => ?_⟩
  · obtain ⟨t, hx⟩ := get_lt (l := ts) (i := k) (by omega)
    refine ⟨by omega, t, hx, ?_⟩
    rw [vCheck_eq hl (ht t (List.mem_of_getElem? hx)), tot_some]
    have hd : ts.drop k = t :: ts.drop (k + 1) := by
      have hlt' : k < ts.length := by omega
      rw [List.drop_eq_getElem_cons hlt']
      congr 1
      rw [List.getElem?_eq_getElem hlt'] at hx; exact Option.some.inj hx
    rw [hd] at hv
    unfold vask at hv
    rw [w64 (by omega) (by omega)]
    by_cases h0 : (trR l t).2 = 0
    · rw [if_pos h0] at hv
      refine ⟨fun h => by simp [h0] at h, fun _ => ⟨by omega, by omega, ?_⟩⟩
      rw [hv]
      cases ts with
      | nil => simp at hx
      | cons a r => rfl
    · rw [if_neg h0] at hv
      refine ⟨fun _ => ?_, fun h => by simp [h0] at h⟩
      rw [hv]
      cases ts with
      | nil => simp at hx
      | cons a r => rfl
  · rw [label_spec, tot_some]
    rw [List.drop_of_length_le (by omega)] at hv
    have hv' : (if isLab l o then (0 : Int) else 7) = vask l o ts := hv
    cases e : isLab l o with
    | true =>
      rw [e] at hv'
      exact ⟨fun h => by simp at h, fun _ => by simpa using hv'⟩
    | false =>
      rw [e] at hv'
      exact ⟨fun _ => by simpa using hv', fun h => by simp at h⟩
end Go.Sx.O
namespace Go.Sx.O
open Go
def agreeP (a b : List TReEntry) : Prop := ∀ (k : Nat) x y, a[k]? = some x → b[k]? = some y → x.Value = y.Value
theorem agreeP.symm {a b : List TReEntry} (h : agreeP a b) : agreeP b a := fun k x y hx hy => (h k y x hy hx).symm
noncomputable def seenE (l : TLattice) (t : TEvTrace) (o : Int) : List TEvEvent := t.Events.filter fun v => sees l v.Label o
noncomputable def seenL (l : TLattice) (t : TEvTrace) (o : Int) : List TReEntry := t.Log.filter fun v => sees l v.Goal o
theorem seenE_len {l : TLattice} {t : TEvTrace} {o : Int} (ht : TraceIn t) : (seenE l t o).length ≤ 60 := Nat.le_trans (List.length_filter_le _ _) ht.events
theorem seenL_len {l : TLattice} {t : TEvTrace} {o : Int} (ht : TraceIn t) : (seenL l t o).length ≤ 60 := Nat.le_trans (List.length_filter_le _ _) ht.log
theorem seenE_val {l : TLattice} {t : TEvTrace} {o : Int} (ht : TraceIn t) : ∀ v ∈ seenE l t o, v.Value.Cells.length ≤ 450 := fun v hv => (ht.event v (List.mem_filter.1 hv).1).2
theorem Events_spec {l : TLattice} {t : TEvTrace} (hl : LatIn l) (ht : TraceIn t) (o : Int) : F_view_Events l t o = some (if vask l o [t] = 0 then seenE l t o else [], vask l o [t]) := by
  unfold F_view_Events
  rw [vasked_spec hl o [t] (by simpa using ht) (by simp), Option.bind_some]
  by_cases h : vask l o [t] = 0
  · rw [events_spec hl t o (by have := ht.events; omega)]
    simp [h, seenE]
  · simp [h]
end Go.Sx.O
