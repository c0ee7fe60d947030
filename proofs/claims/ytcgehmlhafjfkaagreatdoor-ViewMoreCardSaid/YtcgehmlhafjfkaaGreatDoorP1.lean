/-
  THE PLAIN STRUCT TYPES, and their symbolic values. Printed by a program. An own text.
  WHAT THE LIBRARY's BODILESS FUNCTIONS RETURN. An own text.
  DATA AS THEY COME: numbers in their kinds' ranges. Printed by a program. An own text.
  PLAIN FUNCTIONS: what the program computes. Printed by a program. An own text.
  PLAIN LAWS of the library's functions and of words, lattice. An own text.
  PLAIN LAWS: slices.Index, strings.Trim, words.Name. An own text.
  PLAIN LAWS: strings.Trim over ASCII, words.Name. An own text.
  PLAIN LAWS: bits; lattice.named, .of, .bound. An own text.
  PLAIN LAWS: lattice.of, .bound, .Check, .Leq. An own text.
  PLAIN LAWS: lattice.Leq; what an observer sees. An own text.
  PLAIN LAWS: shapes, arrays; arrays and events that are the same. An own text.
  PLAIN LAWS: expr.Name returns. An own text.
  PLAIN LAWS: view. An own text.
  PLAIN LAWS: view's functions. An own text.
  PLAIN LAWS: the lattice's check, exactly; the reference's too: names. An own text.
  PLAIN LAWS: lattice.of, .bound, exactly. An own text.
  PLAIN LAWS: the order's check, exactly, the program's and the reference's. An own text.
  PLAIN LAWS: the reference's check of a lattice, exactly. An own text.
  PLAIN LAWS: lattice.Check and the reference's Check say the same. An own text.
  PLAIN LAWS: lattice.Check, exactly. An own text.
  PLAIN LAWS: the reference's Leq; events that are the same. An own text.
  PLAIN LAWS: a lattice has a top; who sees what. An own text.
  PLAIN LAW: ViewMore returns true. An own text.
  PLAIN LAW: ViewMore returns true. An own text.
-/
import Derived.Test.YtcgehmlhafjfkaaGreatDoorA5
import Derived.Lib.Bytealg
namespace Go.Sx.O
structure Tlexer_reader where
  s_ : List UInt8
  at_ : Int
def enc_Tlexer_reader (x : Tlexer_reader) : SV := .agg [SV.str x.s_, (SV.int .i64) x.at_]
structure TLattice where
  Names : List (List UInt8)
  Up : List (Int)
def enc_TLattice (x : TLattice) : SV := .agg [(encSl 1 SV.str) x.Names, (encSl 1 (SV.int .u8)) x.Up]
structure TLxToken where
  Kind : Int
  From : Int
  To : Int
  N : Int
  S : List UInt8
def enc_TLxToken (x : TLxToken) : SV := .agg [(SV.int .i64) x.Kind, (SV.int .i64) x.From, (SV.int .i64) x.To, (SV.int .i64) x.N, SV.str x.S]
structure Tlattice_order where
  n_ : Int
  up_ : List (Int)
  down_ : List (Int)
def enc_Tlattice_order (x : Tlattice_order) : SV := .agg [(SV.int .i64) x.n_, (encA 8 1 (SV.int .u8)) x.up_, (encA 8 1 (SV.int .u8)) x.down_]
structure TArray where
  Kind : Int
  Rank : Int
  Lens : (Int) × (Int)
  Cells : List (Int)
def enc_TArray (x : TArray) : SV := .agg [(SV.int .i64) x.Kind, (SV.int .i64) x.Rank, (encA2 1 (SV.int .i64)) x.Lens, (encSl 1 (SV.int .i64)) x.Cells]
structure TWsVar where
  Name : List UInt8
  Value : TArray
def enc_TWsVar (x : TWsVar) : SV := .agg [SV.str x.Name, enc_TArray x.Value]
structure TReEntry where
  Site : Int
  Fold : Int
  From : Int
  Goal : Int
  Cells : Int
  Value : (Int) × (Int)
def enc_TReEntry (x : TReEntry) : SV := .agg [(SV.int .i64) x.Site, (SV.int .i64) x.Fold, (SV.int .i64) x.From, (SV.int .i64) x.Goal, (SV.int .i64) x.Cells, (encA2 1 (SV.int .i64)) x.Value]
structure TEvEvent where
  Kind : Int
  Site : Int
  Steps : Int
  Label : Int
  Channel : List UInt8
  Value : TArray
  E : Int
def enc_TEvEvent (x : TEvEvent) : SV := .agg [(SV.int .i64) x.Kind, (SV.int .i64) x.Site, (SV.int .i64) x.Steps, (SV.int .i64) x.Label, SV.str x.Channel, enc_TArray x.Value, (SV.int .i64) x.E]
structure TEvTrace where
  Events : List (TEvEvent)
  Log : List (TReEntry)
  Vars : List (TWsVar)
  Steps : Int
def enc_TEvTrace (x : TEvTrace) : SV := .agg [(encSl 11 enc_TEvEvent) x.Events, (encSl 7 enc_TReEntry) x.Log, (encSl 6 enc_TWsVar) x.Vars, (SV.int .i64) x.Steps]
end Go.Sx.O
namespace Go.Sx.O
noncomputable def F_internal_stringslite_IndexByte (a0 : List UInt8) (a1 : Int) : Option Int := some (Go.Lib.indexByte a0 a1.toNat.toUInt8)
end Go.Sx.O
namespace Go.Sx.O
open Go
def inK (k : IntKind) (n : Int) : Prop := k.min ≤ n ∧ n ≤ k.max
def allW {α : Type} (W : α → Prop) (l : List α) : Prop := ∀ x ∈ l, W x
def w2 {α : Type} (W : α → Prop) (p : α × α) : Prop := W p.1 ∧ W p.2
def w3 {α : Type} (W : α → Prop) (p : α × α × α) : Prop := W p.1 ∧ W p.2.1 ∧ W p.2.2
def wN {α : Type} (n : Nat) (W : α → Prop) (l : List α) : Prop := l.length = n ∧ ∀ x ∈ l, W x
structure W_Tlexer_reader (x : Tlexer_reader) : Prop where
  s_ : (fun _ => True) x.s_
  at_ : (inK .i64) x.at_
structure W_TLattice (x : TLattice) : Prop where
  Names : (allW (fun _ => True)) x.Names
  Up : (allW (inK .u8)) x.Up
structure W_TLxToken (x : TLxToken) : Prop where
  Kind : (inK .i64) x.Kind
  From : (inK .i64) x.From
  To : (inK .i64) x.To
  N : (inK .i64) x.N
  S : (fun _ => True) x.S
structure W_Tlattice_order (x : Tlattice_order) : Prop where
  n_ : (inK .i64) x.n_
  up_ : (wN 8 (inK .u8)) x.up_
  down_ : (wN 8 (inK .u8)) x.down_
structure W_TArray (x : TArray) : Prop where
  Kind : (inK .i64) x.Kind
  Rank : (inK .i64) x.Rank
  Lens : (w2 (inK .i64)) x.Lens
  Cells : (allW (inK .i64)) x.Cells
structure W_TWsVar (x : TWsVar) : Prop where
  Name : (fun _ => True) x.Name
  Value : W_TArray x.Value
structure W_TReEntry (x : TReEntry) : Prop where
  Site : (inK .i64) x.Site
  Fold : (inK .i64) x.Fold
  From : (inK .i64) x.From
  Goal : (inK .i64) x.Goal
  Cells : (inK .i64) x.Cells
  Value : (w2 (inK .i64)) x.Value
structure W_TEvEvent (x : TEvEvent) : Prop where
  Kind : (inK .i64) x.Kind
  Site : (inK .i64) x.Site
  Steps : (inK .i64) x.Steps
  Label : (inK .i64) x.Label
  Channel : (fun _ => True) x.Channel
  Value : W_TArray x.Value
  E : (inK .i64) x.E
structure W_TEvTrace (x : TEvTrace) : Prop where
  Events : (allW W_TEvEvent) x.Events
  Log : (allW W_TReEntry) x.Log
  Vars : (allW W_TWsVar) x.Vars
  Steps : (inK .i64) x.Steps
end Go.Sx.O
namespace Go.Sx.O
noncomputable def F_invigilatorlaw20_Large (a0 : TLattice) : Option (Bool) :=
 Option.bind (
  lpO (fun (s3 : Int) =>
  cond (decide (s3 < (↑(List.length (List.map SV.str a0.Names)) : Int)))
  (cond (decide (s3 < (30 : Int)))
  (idxO (a0.Names) (s3) fun x9 =>
  cond (decide ((50 : Int) < (↑(List.length x9) : Int)))
  (some (Sum.inr (Sum.inr (true))))
  (letO (IntKind.wrap IntKind.i64 (s3 + (1 : Int))) fun x11 =>
  some (Sum.inl (x11))))
  (some (Sum.inr (Sum.inl (())))))
  (some (Sum.inr (Sum.inl (()))))) ((0 : Int)))
  (Sum.elim (fun (s1 : Unit) =>
  cond (decide ((20 : Int) < (↑(List.length (List.map SV.str a0.Names)) : Int)))
  (some (true))
  (some (decide ((20 : Int) < (↑(List.length (List.map (SV.int IntKind.u8) a0.Up)) : Int))))) some)
noncomputable def F_invigilatorlaw31_far (a0 : TEvTrace) : Option (Bool) :=
 Option.bind (
  lpO (fun (s17 : Int) =>
  cond (decide (s17 < (↑(List.length (List.map enc_TEvEvent a0.Events)) : Int)))
  (cond (decide (s17 < (70 : Int)))
  (idxO (a0.Events) (s17) fun x25 =>
  cond (decide ((100 : Int) < (↑(List.length x25.Channel) : Int)))
  (some (Sum.inr (Sum.inr (true))))
  (idxO (a0.Events) (s17) fun x27 =>
  cond (decide ((450 : Int) < (↑(List.length (List.map (SV.int IntKind.i64) x27.Value.Cells)) : Int)))
  (some (Sum.inr (Sum.inr (true))))
  (letO (IntKind.wrap IntKind.i64 (s17 + (1 : Int))) fun x29 =>
  some (Sum.inl (x29)))))
  (some (Sum.inr (Sum.inl (())))))
  (some (Sum.inr (Sum.inl (()))))) ((0 : Int)))
  (Sum.elim (fun (s15 : Unit) =>
  cond (decide ((60 : Int) < (↑(List.length (List.map enc_TEvEvent a0.Events)) : Int)))
  (some (true))
  (some (decide ((60 : Int) < (↑(List.length (List.map enc_TReEntry a0.Log)) : Int))))) some)
noncomputable def F_strings_trimRightByte (a0 : List UInt8) (a1 : Int) : Option (List UInt8) :=
 Option.bind (
  lpO (fun (s55 : List UInt8) =>
  cond (decide ((0 : Int) < (↑(List.length s55) : Int)))
  (letO (IntKind.wrap IntKind.i64 ((↑(List.length s55) : Int) - (1 : Int))) fun x62 =>
  idxO (s55) (x62) fun x63 =>
  cond (decide ((↑(UInt8.toNat x63) : Int) = a1))
  (letO (IntKind.wrap IntKind.i64 ((↑(List.length s55) : Int) - (1 : Int))) fun x65 =>
  sideO ((0 : Int) ≤ x65 ∧ x65 ≤ (↑(List.length s55) : Int)) (
  some (Sum.inl (List.drop (Int.toNat (0 : Int)) (List.take (Int.toNat x65) s55)))))
  (some (Sum.inr (Sum.inl (s55)))))
  (some (Sum.inr (Sum.inl (s55))))) (a0))
  (Sum.elim (fun (s53 : List UInt8) =>
  some (s53)) some)
noncomputable def F_strings_trimLeftByte (a0 : List UInt8) (a1 : Int) : Option (List UInt8) :=
 Option.bind (
  lpO (fun (s70 : List UInt8) =>
  cond (decide ((0 : Int) < (↑(List.length s70) : Int)))
  (idxO (s70) ((0 : Int)) fun x75 =>
  cond (decide ((↑(UInt8.toNat x75) : Int) = a1))
  (sideO ((0 : Int) ≤ (1 : Int) ∧ (1 : Int) ≤ (↑(List.length s70) : Int)) (
  some (Sum.inl (List.drop (Int.toNat (1 : Int)) (List.take (Int.toNat (↑(List.length s70) : Int)) s70)))))
  (some (Sum.inr (Sum.inl (s70)))))
  (some (Sum.inr (Sum.inl (s70))))) (a0))
  (Sum.elim (fun (s68 : List UInt8) =>
  some (s68)) some)
noncomputable def F_strings_makeASCIISet (a0 : List UInt8) : Option (List Bool × Bool) :=
 Option.bind (
  lpO (fun (s80 : Int × List Bool) =>
  cond (decide (s80.fst < (↑(List.length a0) : Int)))
  (idxO (a0) (s80.fst) fun x86 =>
  cond (decide ((128 : Int) ≤ (↑(UInt8.toNat x86) : Int)))
  (some (Sum.inr (Sum.inr ((s80.snd, false)))))
  (sideO ((0 : Int) ≤ (↑(UInt8.toNat x86) : Int) ∧ (↑(UInt8.toNat x86) : Int) < (↑(256 : Nat) : Int)) (
  idxO (s80.snd) ((↑(Int.toNat (↑(UInt8.toNat x86) : Int)) : Int)) fun x88 =>
  letO (IntKind.wrap IntKind.i64 (s80.fst + (1 : Int))) fun x89 =>
  some (Sum.inl ((x89, List.set s80.snd (Int.toNat (↑(UInt8.toNat x86) : Int)) true))))))
  (some (Sum.inr (Sum.inl (s80.snd))))) (((0 : Int), List.replicate (256 : Nat) false)))
  (Sum.elim (fun (s78 : List Bool) =>
  some ((s78, true))) some)
noncomputable def F__Pstrings_asciiSet__contains (a0 : List Bool) (a1 : Int) : Option (Bool) :=
 sideO ((0 : Int) ≤ a1 ∧ a1 < (↑(256 : Nat) : Int)) (
  idxO (a0) ((↑(Int.toNat a1) : Int)) fun x97 =>
  some (x97))
noncomputable def F_strings_trimRightASCII (a0 : List UInt8) (a1 : List Bool) : Option (List UInt8) :=
 Option.bind (
  lpO (fun (s94 : List UInt8) =>
  cond (decide ((0 : Int) < (↑(List.length s94) : Int)))
  (letO (IntKind.wrap IntKind.i64 ((↑(List.length s94) : Int) - (1 : Int))) fun x102 =>
  idxO (s94) (x102) fun x103 =>
  Option.bind (F__Pstrings_asciiSet__contains (a1) ((↑(UInt8.toNat x103) : Int))) fun x104 =>
  cond (!x104)
  (some (Sum.inr (Sum.inl (s94))))
  (letO (IntKind.wrap IntKind.i64 ((↑(List.length s94) : Int) - (1 : Int))) fun x106 =>
  sideO ((0 : Int) ≤ x106 ∧ x106 ≤ (↑(List.length s94) : Int)) (
  some (Sum.inl (List.drop (Int.toNat (0 : Int)) (List.take (Int.toNat x106) s94))))))
  (some (Sum.inr (Sum.inl (s94))))) (a0))
  (Sum.elim (fun (s92 : List UInt8) =>
  some (s92)) some)
noncomputable def F_strings_trimLeftASCII (a0 : List UInt8) (a1 : List Bool) : Option (List UInt8) :=
 Option.bind (
  lpO (fun (s110 : List UInt8) =>
  cond (decide ((0 : Int) < (↑(List.length s110) : Int)))
  (idxO (s110) ((0 : Int)) fun x116 =>
  Option.bind (F__Pstrings_asciiSet__contains (a1) ((↑(UInt8.toNat x116) : Int))) fun x117 =>
  cond (!x117)
  (some (Sum.inr (Sum.inl (s110))))
  (sideO ((0 : Int) ≤ (1 : Int) ∧ (1 : Int) ≤ (↑(List.length s110) : Int)) (
  some (Sum.inl (List.drop (Int.toNat (1 : Int)) (List.take (Int.toNat (↑(List.length s110) : Int)) s110))))))
  (some (Sum.inr (Sum.inl (s110))))) (a0))
  (Sum.elim (fun (s108 : List UInt8) =>
  some (s108)) some)
noncomputable def F_unicode_utf8_RuneStart (a0 : Int) : Option (Bool) :=
 some (!decide (bits BinOp.and IntKind.u8 a0 (192 : Int) = (128 : Int)))
noncomputable def F_unicode_utf8_decodeRuneInStringSlow (a0 : List UInt8) : Option (Int × Int) :=
 cond (decide ((↑(List.length a0) : Int) < (1 : Int)))
  (some (((65533 : Int), (0 : Int))))
  (idxO (a0) ((0 : Int)) fun x154 =>
  none)
noncomputable def F_unicode_utf8_DecodeRuneInString (a0 : List UInt8) : Option (Int × Int) :=
 cond (!decide (a0 = (ByteArray.mk #[]).data.toList))
  (idxO (a0) ((0 : Int)) fun x149 =>
  cond (decide ((↑(UInt8.toNat x149) : Int) < (128 : Int)))
  (idxO (a0) ((0 : Int)) fun x151 =>
  letO (IntKind.wrap IntKind.i32 (↑(UInt8.toNat x151) : Int)) fun x152 =>
  some ((x152, (1 : Int))))
  (Option.bind (F_unicode_utf8_decodeRuneInStringSlow (a0)) fun x155 =>
  some (x155)))
  (Option.bind (F_unicode_utf8_decodeRuneInStringSlow (a0)) fun x156 =>
  some (x156))
noncomputable def F_unicode_utf8_DecodeLastRuneInString (a0 : List UInt8) : Option (Int × Int) :=
 cond (decide ((↑(List.length a0) : Int) = (0 : Int)))
  (some (((65533 : Int), (0 : Int))))
  (letO (IntKind.wrap IntKind.i64 ((↑(List.length a0) : Int) - (1 : Int))) fun x128 =>
  idxO (a0) (x128) fun x129 =>
  letO (IntKind.wrap IntKind.i32 (↑(UInt8.toNat x129) : Int)) fun x130 =>
  cond (decide (x130 < (128 : Int)))
  (some ((x130, (1 : Int))))
  (letO (IntKind.wrap IntKind.i64 ((↑(List.length a0) : Int) - (4 : Int))) fun x132 =>
  letO (IntKind.wrap IntKind.i64 (x128 - (1 : Int))) fun x133 =>
  Option.bind (
  lpO (fun (s136 : Int) =>
  cond (decide (max x132 (0 : Int) ≤ s136))
  (idxO (a0) (s136) fun x143 =>
  Option.bind (F_unicode_utf8_RuneStart ((↑(UInt8.toNat x143) : Int))) fun x144 =>
  cond (x144)
  (some (Sum.inr (Sum.inl (s136))))
  (letO (IntKind.wrap IntKind.i64 (s136 - (1 : Int))) fun x146 =>
  some (Sum.inl (x146))))
  (some (Sum.inr (Sum.inl (s136))))) (x133))
  (Sum.elim (fun (s134 : Int) =>
  cond (decide (s134 < (0 : Int)))
  (sideO ((0 : Int) ≤ (0 : Int) ∧ (0 : Int) ≤ (↑(List.length a0) : Int) ∧ (↑(List.length a0) : Int) ≤ (↑(List.length a0) : Int)) (
  Option.bind (F_unicode_utf8_DecodeRuneInString (List.drop (Int.toNat (0 : Int)) (List.take (Int.toNat (↑(List.length a0) : Int)) a0))) fun x157 =>
  letO (IntKind.wrap IntKind.i64 ((0 : Int) + x157.snd)) fun x158 =>
  cond (!decide (x158 = (↑(List.length a0) : Int)))
  (some (((65533 : Int), (1 : Int))))
  (some (x157))))
  (sideO ((0 : Int) ≤ s134 ∧ s134 ≤ (↑(List.length a0) : Int) ∧ (↑(List.length a0) : Int) ≤ (↑(List.length a0) : Int)) (
  Option.bind (F_unicode_utf8_DecodeRuneInString (List.drop (Int.toNat s134) (List.take (Int.toNat (↑(List.length a0) : Int)) a0))) fun x160 =>
  letO (IntKind.wrap IntKind.i64 (s134 + x160.snd)) fun x161 =>
  cond (!decide (x161 = (↑(List.length a0) : Int)))
  (some (((65533 : Int), (1 : Int))))
  (some (x160))))) some)))
noncomputable def F_strings_IndexByte (a0 : List UInt8) (a1 : Int) : Option (Int) :=
 Option.bind (F_internal_stringslite_IndexByte (a0) (a1)) fun x167 =>
  some (x167)
noncomputable def F_unicode_utf8_ValidRune (a0 : Int) : Option (Bool) :=
 cond (decide ((0 : Int) ≤ a0))
  (cond (decide (a0 < (55296 : Int)))
  (some (true))
  (cond (decide ((57343 : Int) < a0))
  (cond (decide (a0 ≤ (1114111 : Int)))
  (some (true))
  (some (false)))
  (some (false))))
  (cond (decide ((57343 : Int) < a0))
  (cond (decide (a0 ≤ (1114111 : Int)))
  (some (true))
  (some (false)))
  (some (false)))
noncomputable def F_strings_IndexRune (a0 : List UInt8) (a1 : Int) : Option (Int) :=
 cond (decide ((0 : Int) ≤ a1))
  (cond (decide (a1 < (128 : Int)))
  (letO (IntKind.wrap IntKind.u8 a1) fun x166 =>
  Option.bind (F_strings_IndexByte (a0) (x166)) fun x168 =>
  some (x168))
  (cond (decide (a1 = (65533 : Int)))
  (none)
  (Option.bind (F_unicode_utf8_ValidRune (a1)) fun x176 =>
  cond (!x176)
  (some ((-1 : Int)))
  (letO (IntKind.wrap IntKind.i64 ((↑(List.length (Utf8.encode a1).data.toList) : Int) - (1 : Int))) fun x178 =>
  Option.bind (
  lpO (fun (s181 : Unit) =>
  cond (decide (x178 < (↑(List.length a0) : Int)))
  (idxO (a0) (x178) fun x183 =>
  idxO ((Utf8.encode a1).data.toList) (x178) fun x184 =>
  cond (!decide ((↑(UInt8.toNat x183) : Int) = (↑(UInt8.toNat x184) : Int)))
  (letO (IntKind.wrap IntKind.i64 (x178 + (1 : Int))) fun x186 =>
  sideO ((0 : Int) ≤ x186 ∧ x186 ≤ (↑(List.length a0) : Int)) (
  idxO ((Utf8.encode a1).data.toList) (x178) fun x187 =>
  Option.bind (F_strings_IndexByte (List.drop (Int.toNat x186) (List.take (Int.toNat (↑(List.length a0) : Int)) a0)) ((↑(UInt8.toNat x187) : Int))) fun x188 =>
  cond (decide (x188 < (0 : Int)))
  (some (Sum.inr (Sum.inr ((-1 : Int)))))
  (letO (IntKind.wrap IntKind.i64 (x188 + (1 : Int))) fun x190 =>
  letO (IntKind.wrap IntKind.i64 (x178 + x190)) fun x191 =>
  Option.bind (
  lpO (fun (s194 : Int) =>
  cond (decide (s194 < (↑(List.length (Utf8.encode a1).data.toList) : Int)))
  (letO (IntKind.wrap IntKind.i64 (x191 - s194)) fun x202 =>
  idxO (a0) (x202) fun x203 =>
  letO (IntKind.wrap IntKind.i64 (x178 - s194)) fun x204 =>
  idxO ((Utf8.encode a1).data.toList) (x204) fun x205 =>
  cond (!decide ((↑(UInt8.toNat x203) : Int) = (↑(UInt8.toNat x205) : Int)))
  (none)
  (letO (IntKind.wrap IntKind.i64 (s194 + (1 : Int))) fun x207 =>
  some (Sum.inl (x207))))
  (some (Sum.inr (Sum.inl (()))))) ((1 : Int)))
  (Sum.elim (fun (s192 : Unit) =>
  letO (IntKind.wrap IntKind.i64 (x191 - x178)) fun x208 =>
  some (Sum.inr (Sum.inr (x208)))) some))))
  (Option.bind (
  lpO (fun (s211 : Int) =>
  cond (decide (s211 < (↑(List.length (Utf8.encode a1).data.toList) : Int)))
  (letO (IntKind.wrap IntKind.i64 (x178 - s211)) fun x219 =>
  idxO (a0) (x219) fun x220 =>
  letO (IntKind.wrap IntKind.i64 (x178 - s211)) fun x221 =>
  idxO ((Utf8.encode a1).data.toList) (x221) fun x222 =>
  cond (!decide ((↑(UInt8.toNat x220) : Int) = (↑(UInt8.toNat x222) : Int)))
  (none)
  (letO (IntKind.wrap IntKind.i64 (s211 + (1 : Int))) fun x224 =>
  some (Sum.inl (x224))))
  (some (Sum.inr (Sum.inl (()))))) ((1 : Int)))
  (Sum.elim (fun (s209 : Unit) =>
  letO (IntKind.wrap IntKind.i64 (x178 - x178)) fun x225 =>
  some (Sum.inr (Sum.inr (x225)))) some)))
  (some (Sum.inr (Sum.inl (()))))) (()))
  (Sum.elim (fun (s179 : Unit) =>
  some ((-1 : Int))) some)))))
  (cond (decide (a1 = (65533 : Int)))
  (none)
  (Option.bind (F_unicode_utf8_ValidRune (a1)) fun x227 =>
  cond (!x227)
  (some ((-1 : Int)))
  (letO (IntKind.wrap IntKind.i64 ((↑(List.length (Utf8.encode a1).data.toList) : Int) - (1 : Int))) fun x229 =>
  Option.bind (
  lpO (fun (s232 : Unit) =>
  cond (decide (x229 < (↑(List.length a0) : Int)))
  (idxO (a0) (x229) fun x234 =>
  idxO ((Utf8.encode a1).data.toList) (x229) fun x235 =>
  cond (!decide ((↑(UInt8.toNat x234) : Int) = (↑(UInt8.toNat x235) : Int)))
  (letO (IntKind.wrap IntKind.i64 (x229 + (1 : Int))) fun x237 =>
  sideO ((0 : Int) ≤ x237 ∧ x237 ≤ (↑(List.length a0) : Int)) (
  idxO ((Utf8.encode a1).data.toList) (x229) fun x238 =>
  Option.bind (F_strings_IndexByte (List.drop (Int.toNat x237) (List.take (Int.toNat (↑(List.length a0) : Int)) a0)) ((↑(UInt8.toNat x238) : Int))) fun x239 =>
  cond (decide (x239 < (0 : Int)))
  (some (Sum.inr (Sum.inr ((-1 : Int)))))
  (letO (IntKind.wrap IntKind.i64 (x239 + (1 : Int))) fun x241 =>
  letO (IntKind.wrap IntKind.i64 (x229 + x241)) fun x242 =>
  Option.bind (
  lpO (fun (s245 : Int) =>
  cond (decide (s245 < (↑(List.length (Utf8.encode a1).data.toList) : Int)))
  (letO (IntKind.wrap IntKind.i64 (x242 - s245)) fun x253 =>
  idxO (a0) (x253) fun x254 =>
  letO (IntKind.wrap IntKind.i64 (x229 - s245)) fun x255 =>
  idxO ((Utf8.encode a1).data.toList) (x255) fun x256 =>
  cond (!decide ((↑(UInt8.toNat x254) : Int) = (↑(UInt8.toNat x256) : Int)))
  (none)
  (letO (IntKind.wrap IntKind.i64 (s245 + (1 : Int))) fun x258 =>
  some (Sum.inl (x258))))
  (some (Sum.inr (Sum.inl (()))))) ((1 : Int)))
  (Sum.elim (fun (s243 : Unit) =>
  letO (IntKind.wrap IntKind.i64 (x242 - x229)) fun x259 =>
  some (Sum.inr (Sum.inr (x259)))) some))))
  (Option.bind (
  lpO (fun (s262 : Int) =>
  cond (decide (s262 < (↑(List.length (Utf8.encode a1).data.toList) : Int)))
  (letO (IntKind.wrap IntKind.i64 (x229 - s262)) fun x270 =>
  idxO (a0) (x270) fun x271 =>
  letO (IntKind.wrap IntKind.i64 (x229 - s262)) fun x272 =>
  idxO ((Utf8.encode a1).data.toList) (x272) fun x273 =>
  cond (!decide ((↑(UInt8.toNat x271) : Int) = (↑(UInt8.toNat x273) : Int)))
  (none)
  (letO (IntKind.wrap IntKind.i64 (s262 + (1 : Int))) fun x275 =>
  some (Sum.inl (x275))))
  (some (Sum.inr (Sum.inl (()))))) ((1 : Int)))
  (Sum.elim (fun (s260 : Unit) =>
  letO (IntKind.wrap IntKind.i64 (x229 - x229)) fun x276 =>
  some (Sum.inr (Sum.inr (x276)))) some)))
  (some (Sum.inr (Sum.inl (()))))) (()))
  (Sum.elim (fun (s230 : Unit) =>
  some ((-1 : Int))) some))))
noncomputable def F_strings_ContainsRune (a0 : List UInt8) (a1 : Int) : Option (Bool) :=
 Option.bind (F_strings_IndexRune (a0) (a1)) fun x277 =>
  some (decide ((0 : Int) ≤ x277))
noncomputable def F_strings_trimRightUnicode (a0 : List UInt8) (a1 : List UInt8) : Option (List UInt8) :=
 Option.bind (
  lpO (fun (s122 : List UInt8) =>
  cond (decide ((0 : Int) < (↑(List.length s122) : Int)))
  (letO (IntKind.wrap IntKind.i64 ((↑(List.length s122) : Int) - (1 : Int))) fun x136 =>
  idxO (s122) (x136) fun x137 =>
  letO (IntKind.wrap IntKind.i32 (↑(UInt8.toNat x137) : Int)) fun x138 =>
  cond (decide ((128 : Int) ≤ x138))
  (Option.bind (F_unicode_utf8_DecodeLastRuneInString (s122)) fun x140 =>
  Option.bind (F_strings_ContainsRune (a1) (x140.fst)) fun x141 =>
  cond (!x141)
  (some (Sum.inr (Sum.inl (s122))))
  (letO (IntKind.wrap IntKind.i64 ((↑(List.length s122) : Int) - x140.snd)) fun x143 =>
  sideO ((0 : Int) ≤ x143 ∧ x143 ≤ (↑(List.length s122) : Int)) (
  some (Sum.inl (List.drop (Int.toNat (0 : Int)) (List.take (Int.toNat x143) s122))))))
  (Option.bind (F_strings_ContainsRune (a1) (x138)) fun x144 =>
  cond (!x144)
  (some (Sum.inr (Sum.inl (s122))))
  (letO (IntKind.wrap IntKind.i64 ((↑(List.length s122) : Int) - (1 : Int))) fun x146 =>
  sideO ((0 : Int) ≤ x146 ∧ x146 ≤ (↑(List.length s122) : Int)) (
  some (Sum.inl (List.drop (Int.toNat (0 : Int)) (List.take (Int.toNat x146) s122)))))))
  (some (Sum.inr (Sum.inl (s122))))) (a0))
  (Sum.elim (fun (s120 : List UInt8) =>
  some (s120)) some)
noncomputable def F_strings_trimLeftUnicode (a0 : List UInt8) (a1 : List UInt8) : Option (List UInt8) :=
 Option.bind (
  lpO (fun (s150 : List UInt8) =>
  cond (decide ((0 : Int) < (↑(List.length s150) : Int)))
  (Option.bind (F_unicode_utf8_DecodeRuneInString (s150)) fun x156 =>
  Option.bind (F_strings_ContainsRune (a1) (x156.fst)) fun x157 =>
  cond (!x157)
  (some (Sum.inr (Sum.inl (s150))))
  (sideO ((0 : Int) ≤ x156.snd ∧ x156.snd ≤ (↑(List.length s150) : Int)) (
  some (Sum.inl (List.drop (Int.toNat x156.snd) (List.take (Int.toNat (↑(List.length s150) : Int)) s150))))))
  (some (Sum.inr (Sum.inl (s150))))) (a0))
  (Sum.elim (fun (s148 : List UInt8) =>
  some (s148)) some)
noncomputable def F_strings_Trim (a0 : List UInt8) (a1 : List UInt8) : Option (List UInt8) :=
 cond (decide (a0 = (ByteArray.mk #[]).data.toList))
  (some (a0))
  (cond (decide (a1 = (ByteArray.mk #[]).data.toList))
  (some (a0))
  (cond (decide ((↑(List.length a1) : Int) = (1 : Int)))
  (idxO (a1) ((0 : Int)) fun x50 =>
  cond (decide ((↑(UInt8.toNat x50) : Int) < (128 : Int)))
  (idxO (a1) ((0 : Int)) fun x52 =>
  Option.bind (F_strings_trimRightByte (a0) ((↑(UInt8.toNat x52) : Int))) fun x66 =>
  idxO (a1) ((0 : Int)) fun x67 =>
  Option.bind (F_strings_trimLeftByte (x66) ((↑(UInt8.toNat x67) : Int))) fun x77 =>
  some (x77))
  (Option.bind (F_strings_makeASCIISet (a1)) fun x90 =>
  cond (x90.snd)
  (Option.bind (F_strings_trimRightASCII (a0) (x90.fst)) fun x107 =>
  Option.bind (F_strings_trimLeftASCII (x107) (x90.fst)) fun x119 =>
  some (x119))
  (Option.bind (F_strings_trimRightUnicode (a0) (a1)) fun x147 =>
  Option.bind (F_strings_trimLeftUnicode (x147) (a1)) fun x159 =>
  some (x159))))
  (Option.bind (F_strings_makeASCIISet (a1)) fun x160 =>
  cond (x160.snd)
  (Option.bind (F_strings_trimRightASCII (a0) (x160.fst)) fun x162 =>
  Option.bind (F_strings_trimLeftASCII (x162) (x160.fst)) fun x163 =>
  some (x163))
  (Option.bind (F_strings_trimRightUnicode (a0) (a1)) fun x164 =>
  Option.bind (F_strings_trimLeftUnicode (x164) (a1)) fun x165 =>
  some (x165)))))
noncomputable def F_words_Name (a0 : List UInt8) : Option (Bool) :=
 cond (decide (a0 = (ByteArray.mk #[]).data.toList))
  (some (false))
  (cond (decide ((16 : Int) < (↑(List.length a0) : Int)))
  (some (false))
  (idxO (a0) ((0 : Int)) fun x43 =>
  cond (decide ((↑(UInt8.toNat x43) : Int) < (97 : Int)))
  (some (false))
  (idxO (a0) ((0 : Int)) fun x45 =>
  cond (decide ((122 : Int) < (↑(UInt8.toNat x45) : Int)))
  (some (false))
  (Option.bind (F_strings_Trim (a0) ((ByteArray.mk #[(97 : UInt8), (98 : UInt8), (99 : UInt8), (100 : UInt8), (101 : UInt8), (102 : UInt8), (103 : UInt8), (104 : UInt8), (105 : UInt8), (106 : UInt8), (107 : UInt8), (108 : UInt8), (109 : UInt8), (110 : UInt8), (111 : UInt8), (112 : UInt8), (113 : UInt8), (114 : UInt8), (115 : UInt8), (116 : UInt8), (117 : UInt8), (118 : UInt8), (119 : UInt8), (120 : UInt8), (121 : UInt8), (122 : UInt8), (48 : UInt8), (49 : UInt8), (50 : UInt8), (51 : UInt8), (52 : UInt8), (53 : UInt8), (54 : UInt8), (55 : UInt8), (56 : UInt8), (57 : UInt8), (45 : UInt8)]).data.toList)) fun x166 =>
  some (decide (x166 = (ByteArray.mk #[]).data.toList))))))
noncomputable def F_slices_Index___string_string_ (a0 : List (List UInt8)) (a1 : List UInt8) : Option (Int) :=
 Option.bind (
  lpO (fun (s171 : Int) =>
  cond (decide (s171 < (↑(List.length (List.map SV.str a0)) : Int)))
  (idxO (a0) (s171) fun x176 =>
  cond (decide (a1 = x176))
  (some (Sum.inr (Sum.inr (s171))))
  (letO (IntKind.wrap IntKind.i64 (s171 + (1 : Int))) fun x178 =>
  some (Sum.inl (x178))))
  (some (Sum.inr (Sum.inl (()))))) ((0 : Int)))
  (Sum.elim (fun (s169 : Unit) =>
  some ((-1 : Int))) some)
noncomputable def F_slices_Contains___string_string_ (a0 : List (List UInt8)) (a1 : List UInt8) : Option (Bool) :=
 Option.bind (F_slices_Index___string_string_ (a0) (a1)) fun x179 =>
  some (decide ((0 : Int) ≤ x179))
noncomputable def F_lattice_named (a0 : List (List UInt8)) : Option (Int × Int) :=
 cond (decide ((↑(List.length (List.map SV.str a0)) : Int) < (1 : Int)))
  (some (((-1 : Int), (3 : Int))))
  (cond (decide ((8 : Int) < (↑(List.length (List.map SV.str a0)) : Int)))
  (some (((-1 : Int), (3 : Int))))
  (Option.bind (
  lpO (fun (s39 : Int) =>
  cond (decide (s39 < (↑(List.length (List.map SV.str a0)) : Int)))
  (idxO (a0) (s39) fun x47 =>
  Option.bind (F_words_Name (x47)) fun x48 =>
  cond (!x48)
  (some (Sum.inr (Sum.inr ((s39, (6 : Int))))))
  (sideO ((0 : Int) ≤ s39 ∧ s39 ≤ (↑(List.length (List.map SV.str a0)) : Int)) (
  Option.bind (F_slices_Contains___string_string_ (List.drop (Int.toNat (0 : Int)) (List.take (Int.toNat s39) a0)) (x47)) fun x50 =>
  cond (x50)
  (some (Sum.inr (Sum.inr ((s39, (8 : Int))))))
  (letO (IntKind.wrap IntKind.i64 (s39 + (1 : Int))) fun x52 =>
  some (Sum.inl (x52))))))
  (some (Sum.inr (Sum.inl (()))))) ((0 : Int)))
  (Sum.elim (fun (s37 : Unit) =>
  some (((0 : Int), (0 : Int)))) some)))
noncomputable def F_math_bits_Len8 (a0 : Int) : Option (Int) :=
 idxO ((ByteArray.mk (List.toArray (List.append (List.append [(0 : UInt8), (1 : UInt8), (2 : UInt8), (2 : UInt8), (3 : UInt8), (3 : UInt8), (3 : UInt8), (3 : UInt8), (4 : UInt8), (4 : UInt8), (4 : UInt8), (4 : UInt8), (4 : UInt8), (4 : UInt8), (4 : UInt8), (4 : UInt8), (5 : UInt8), (5 : UInt8), (5 : UInt8), (5 : UInt8), (5 : UInt8), (5 : UInt8), (5 : UInt8), (5 : UInt8), (5 : UInt8), (5 : UInt8), (5 : UInt8), (5 : UInt8), (5 : UInt8), (5 : UInt8), (5 : UInt8), (5 : UInt8), (6 : UInt8), (6 : UInt8), (6 : UInt8), (6 : UInt8), (6 : UInt8), (6 : UInt8), (6 : UInt8), (6 : UInt8), (6 : UInt8), (6 : UInt8), (6 : UInt8), (6 : UInt8), (6 : UInt8), (6 : UInt8), (6 : UInt8), (6 : UInt8), (6 : UInt8), (6 : UInt8), (6 : UInt8), (6 : UInt8), (6 : UInt8), (6 : UInt8), (6 : UInt8), (6 : UInt8), (6 : UInt8), (6 : UInt8), (6 : UInt8), (6 : UInt8), (6 : UInt8), (6 : UInt8), (6 : UInt8), (6 : UInt8)] [(7 : UInt8), (7 : UInt8), (7 : UInt8), (7 : UInt8), (7 : UInt8), (7 : UInt8), (7 : UInt8), (7 : UInt8), (7 : UInt8), (7 : UInt8), (7 : UInt8), (7 : UInt8), (7 : UInt8), (7 : UInt8), (7 : UInt8), (7 : UInt8), (7 : UInt8), (7 : UInt8), (7 : UInt8), (7 : UInt8), (7 : UInt8), (7 : UInt8), (7 : UInt8), (7 : UInt8), (7 : UInt8), (7 : UInt8), (7 : UInt8), (7 : UInt8), (7 : UInt8), (7 : UInt8), (7 : UInt8), (7 : UInt8), (7 : UInt8), (7 : UInt8), (7 : UInt8), (7 : UInt8), (7 : UInt8), (7 : UInt8), (7 : UInt8), (7 : UInt8), (7 : UInt8), (7 : UInt8), (7 : UInt8), (7 : UInt8), (7 : UInt8), (7 : UInt8), (7 : UInt8), (7 : UInt8), (7 : UInt8), (7 : UInt8), (7 : UInt8), (7 : UInt8), (7 : UInt8), (7 : UInt8), (7 : UInt8), (7 : UInt8), (7 : UInt8), (7 : UInt8), (7 : UInt8), (7 : UInt8), (7 : UInt8), (7 : UInt8), (7 : UInt8), (7 : UInt8)]) (List.append [(8 : UInt8), (8 : UInt8), (8 : UInt8), (8 : UInt8), (8 : UInt8), (8 : UInt8), (8 : UInt8), (8 : UInt8), (8 : UInt8), (8 : UInt8), (8 : UInt8), (8 : UInt8), (8 : UInt8), (8 : UInt8), (8 : UInt8), (8 : UInt8), (8 : UInt8), (8 : UInt8), (8 : UInt8), (8 : UInt8), (8 : UInt8), (8 : UInt8), (8 : UInt8), (8 : UInt8), (8 : UInt8), (8 : UInt8), (8 : UInt8), (8 : UInt8), (8 : UInt8), (8 : UInt8), (8 : UInt8), (8 : UInt8), (8 : UInt8), (8 : UInt8), (8 : UInt8), (8 : UInt8), (8 : UInt8), (8 : UInt8), (8 : UInt8), (8 : UInt8), (8 : UInt8), (8 : UInt8), (8 : UInt8), (8 : UInt8), (8 : UInt8), (8 : UInt8), (8 : UInt8), (8 : UInt8), (8 : UInt8), (8 : UInt8), (8 : UInt8), (8 : UInt8), (8 : UInt8), (8 : UInt8), (8 : UInt8), (8 : UInt8), (8 : UInt8), (8 : UInt8), (8 : UInt8), (8 : UInt8), (8 : UInt8), (8 : UInt8), (8 : UInt8), (8 : UInt8)] [(8 : UInt8), (8 : UInt8), (8 : UInt8), (8 : UInt8), (8 : UInt8), (8 : UInt8), (8 : UInt8), (8 : UInt8), (8 : UInt8), (8 : UInt8), (8 : UInt8), (8 : UInt8), (8 : UInt8), (8 : UInt8), (8 : UInt8), (8 : UInt8), (8 : UInt8), (8 : UInt8), (8 : UInt8), (8 : UInt8), (8 : UInt8), (8 : UInt8), (8 : UInt8), (8 : UInt8), (8 : UInt8), (8 : UInt8), (8 : UInt8), (8 : UInt8), (8 : UInt8), (8 : UInt8), (8 : UInt8), (8 : UInt8), (8 : UInt8), (8 : UInt8), (8 : UInt8), (8 : UInt8), (8 : UInt8), (8 : UInt8), (8 : UInt8), (8 : UInt8), (8 : UInt8), (8 : UInt8), (8 : UInt8), (8 : UInt8), (8 : UInt8), (8 : UInt8), (8 : UInt8), (8 : UInt8), (8 : UInt8), (8 : UInt8), (8 : UInt8), (8 : UInt8), (8 : UInt8), (8 : UInt8), (8 : UInt8), (8 : UInt8), (8 : UInt8), (8 : UInt8), (8 : UInt8), (8 : UInt8), (8 : UInt8), (8 : UInt8), (8 : UInt8), (8 : UInt8)])))).data.toList) (a0) fun x62 =>
  letO (IntKind.wrap IntKind.i64 (↑(UInt8.toNat x62) : Int)) fun x63 =>
  some (x63)
noncomputable def F_lattice_of (a0 : TLattice) : Option (Tlattice_order) :=
 Option.bind (
  lpO (fun (s135 : Int × List Int × List Int) =>
  cond (decide (s135.fst < (↑(List.length (List.map (SV.int IntKind.u8) a0.Up)) : Int)))
  (idxO (a0.Up) (s135.fst) fun x149 =>
  sideO ((0 : Int) ≤ s135.fst ∧ s135.fst < (↑(8 : Nat) : Int)) (
  idxO (s135.snd.fst) ((↑(Int.toNat s135.fst) : Int)) fun x150 =>
  Option.bind (
  lpO (fun (s153 : Int × List Int) =>
  cond (decide (s153.fst < (↑(List.length (List.map SV.str a0.Names)) : Int)))
  (sideO ((0 : Int) ≤ s153.fst ∧ s153.fst < (↑(8 : Nat) : Int)) (
  idxO (s153.snd) ((↑(Int.toNat s153.fst) : Int)) fun x159 =>
  sideO ((0 : Int) ≤ s153.fst) (
  sideO ((0 : Int) ≤ s135.fst) (
  letO (IntKind.wrap IntKind.u8 (bits BinOp.and IntKind.u8 (Int.fdiv x149 ((2 : Int) ^ min (Int.toNat s153.fst) (IntKind.bits IntKind.u8))) (1 : Int) * (2 : Int) ^ min (Int.toNat s135.fst) (IntKind.bits IntKind.u8))) fun x160 =>
  sideO ((0 : Int) ≤ s153.fst ∧ s153.fst < (↑(8 : Nat) : Int)) (
  idxO (s153.snd) ((↑(Int.toNat s153.fst) : Int)) fun x161 =>
  letO (IntKind.wrap IntKind.i64 (s153.fst + (1 : Int))) fun x162 =>
  some (Sum.inl ((x162, List.set s153.snd (Int.toNat s153.fst) (bits BinOp.or IntKind.u8 x159 x160)))))))))
  (some (Sum.inr (Sum.inl (s153.snd))))) (((0 : Int), s135.snd.snd)))
  (Sum.elim (fun (s151 : List Int) =>
  letO (IntKind.wrap IntKind.i64 (s135.fst + (1 : Int))) fun x163 =>
  some (Sum.inl ((x163, List.set s135.snd.fst (Int.toNat s135.fst) x149, s151)))) some)))
  (some (Sum.inr (Sum.inl (s135.snd))))) (((0 : Int), [(0 : Int), (0 : Int), (0 : Int), (0 : Int), (0 : Int), (0 : Int), (0 : Int), (0 : Int)], [(0 : Int), (0 : Int), (0 : Int), (0 : Int), (0 : Int), (0 : Int), (0 : Int), (0 : Int)])))
  (Sum.elim (fun (s133 : List Int × List Int) =>
  some (Tlattice_order.mk (↑(List.length (List.map SV.str a0.Names)) : Int) s133.fst s133.snd)) some)
noncomputable def F_lattice_bound_lattice_ups_ (a0 : List Int) (a1 : Int) (a2 : Int) (a3 : Int) : Option (Int) :=
 sideO ((0 : Int) ≤ a2 ∧ a2 < (↑(8 : Nat) : Int)) (
  idxO (a0) ((↑(Int.toNat a2) : Int)) fun x170 =>
  sideO ((0 : Int) ≤ a3 ∧ a3 < (↑(8 : Nat) : Int)) (
  idxO (a0) ((↑(Int.toNat a3) : Int)) fun x171 =>
  Option.bind (
  lpO (fun (s174 : Int) =>
  cond (decide (s174 < a1))
  (sideO ((0 : Int) ≤ s174) (
  cond (decide (bits BinOp.and IntKind.u8 (Int.fdiv (bits BinOp.and IntKind.u8 x170 x171) ((2 : Int) ^ min (Int.toNat s174) (IntKind.bits IntKind.u8))) (1 : Int) = (1 : Int)))
  (sideO ((0 : Int) ≤ s174 ∧ s174 < (↑(8 : Nat) : Int)) (
  idxO (a0) ((↑(Int.toNat s174) : Int)) fun x181 =>
  cond (decide (x181 = bits BinOp.and IntKind.u8 x170 x171))
  (some (Sum.inr (Sum.inr (s174))))
  (letO (IntKind.wrap IntKind.i64 (s174 + (1 : Int))) fun x183 =>
  some (Sum.inl (x183)))))
  (letO (IntKind.wrap IntKind.i64 (s174 + (1 : Int))) fun x184 =>
  some (Sum.inl (x184)))))
  (some (Sum.inr (Sum.inl (()))))) ((0 : Int)))
  (Sum.elim (fun (s172 : Unit) =>
  some ((-1 : Int))) some)))
noncomputable def F_lattice_bound_lattice_downs_ (a0 : List Int) (a1 : Int) (a2 : Int) (a3 : Int) : Option (Int) :=
 sideO ((0 : Int) ≤ a2 ∧ a2 < (↑(8 : Nat) : Int)) (
  idxO (a0) ((↑(Int.toNat a2) : Int)) fun x187 =>
  sideO ((0 : Int) ≤ a3 ∧ a3 < (↑(8 : Nat) : Int)) (
  idxO (a0) ((↑(Int.toNat a3) : Int)) fun x188 =>
  Option.bind (
  lpO (fun (s191 : Int) =>
  cond (decide (s191 < a1))
  (sideO ((0 : Int) ≤ s191) (
  cond (decide (bits BinOp.and IntKind.u8 (Int.fdiv (bits BinOp.and IntKind.u8 x187 x188) ((2 : Int) ^ min (Int.toNat s191) (IntKind.bits IntKind.u8))) (1 : Int) = (1 : Int)))
  (sideO ((0 : Int) ≤ s191 ∧ s191 < (↑(8 : Nat) : Int)) (
  idxO (a0) ((↑(Int.toNat s191) : Int)) fun x198 =>
  cond (decide (x198 = bits BinOp.and IntKind.u8 x187 x188))
  (some (Sum.inr (Sum.inr (s191))))
  (letO (IntKind.wrap IntKind.i64 (s191 + (1 : Int))) fun x200 =>
  some (Sum.inl (x200)))))
  (letO (IntKind.wrap IntKind.i64 (s191 + (1 : Int))) fun x201 =>
  some (Sum.inl (x201)))))
  (some (Sum.inr (Sum.inl (()))))) ((0 : Int)))
  (Sum.elim (fun (s189 : Unit) =>
  some ((-1 : Int))) some)))
noncomputable def F_lattice_Check (a0 : TLattice) : Option (Int × Int) :=
 Option.bind (F_lattice_named (a0.Names)) fun x53 =>
  cond (!decide (x53.snd = (0 : Int)))
  (some (x53))
  (cond (!decide ((↑(List.length (List.map (SV.int IntKind.u8) a0.Up)) : Int) = (↑(List.length (List.map SV.str a0.Names)) : Int)))
  (some (((-1 : Int), (6 : Int))))
  (sideO ((0 : Int) ≤ (↑(List.length (List.map SV.str a0.Names)) : Int)) (
  letO (IntKind.wrap IntKind.u8 ((1 : Int) * (2 : Int) ^ min (Int.toNat (↑(List.length (List.map SV.str a0.Names)) : Int)) (IntKind.bits IntKind.u8))) fun x56 =>
  letO (IntKind.wrap IntKind.u8 (x56 - (1 : Int))) fun x57 =>
  Option.bind (
  lpO (fun (s60 : Int) =>
  cond (decide (s60 < (↑(List.length (List.map (SV.int IntKind.u8) a0.Up)) : Int)))
  (idxO (a0.Up) (s60) fun x90 =>
  Option.bind (F_math_bits_Len8 (x90)) fun x91 =>
  cond (decide ((↑(List.length (List.map SV.str a0.Names)) : Int) < x91))
  (some (Sum.inr (Sum.inr ((s60, (6 : Int))))))
  (sideO ((0 : Int) ≤ s60) (
  cond (decide (bits BinOp.and IntKind.u8 (Int.fdiv x90 ((2 : Int) ^ min (Int.toNat s60) (IntKind.bits IntKind.u8))) (1 : Int) = (0 : Int)))
  (some (Sum.inr (Sum.inr ((s60, (6 : Int))))))
  (Option.bind (
  lpO (fun (s96 : Int) =>
  cond (decide (s96 < (↑(List.length (List.map (SV.int IntKind.u8) a0.Up)) : Int)))
  (idxO (a0.Up) (s96) fun x114 =>
  sideO ((0 : Int) ≤ s96) (
  cond (decide (bits BinOp.and IntKind.u8 (Int.fdiv x90 ((2 : Int) ^ min (Int.toNat s96) (IntKind.bits IntKind.u8))) (1 : Int) = (0 : Int)))
  (letO (IntKind.wrap IntKind.i64 ((↑(List.length (List.map SV.str a0.Names)) : Int) - (1 : Int))) fun x116 =>
  cond (decide (s96 = x116))
  (letO (IntKind.wrap IntKind.i64 (s60 + (1 : Int))) fun x118 =>
  some (Sum.inr (Sum.inr (Sum.inl (x118)))))
  (letO (IntKind.wrap IntKind.i64 (s96 + (1 : Int))) fun x119 =>
  some (Sum.inl (x119))))
  (cond (!decide (s96 = s60))
  (sideO ((0 : Int) ≤ s60) (
  cond (decide (bits BinOp.and IntKind.u8 (Int.fdiv x114 ((2 : Int) ^ min (Int.toNat s60) (IntKind.bits IntKind.u8))) (1 : Int) = (1 : Int)))
  (some (Sum.inr (Sum.inr (Sum.inr (Sum.inr ((s60, (6 : Int))))))))
  (cond (!decide (bits BinOp.andNot IntKind.u8 (bits BinOp.and IntKind.u8 x114 x57) x90 = (0 : Int)))
  (some (Sum.inr (Sum.inr (Sum.inr (Sum.inr ((s60, (6 : Int))))))))
  (letO (IntKind.wrap IntKind.i64 ((↑(List.length (List.map SV.str a0.Names)) : Int) - (1 : Int))) fun x123 =>
  cond (decide (s96 = x123))
  (letO (IntKind.wrap IntKind.i64 (s60 + (1 : Int))) fun x125 =>
  some (Sum.inr (Sum.inr (Sum.inl (x125)))))
  (letO (IntKind.wrap IntKind.i64 (s96 + (1 : Int))) fun x126 =>
  some (Sum.inl (x126)))))))
  (cond (!decide (bits BinOp.andNot IntKind.u8 (bits BinOp.and IntKind.u8 x114 x57) x90 = (0 : Int)))
  (some (Sum.inr (Sum.inr (Sum.inr (Sum.inr ((s60, (6 : Int))))))))
  (letO (IntKind.wrap IntKind.i64 ((↑(List.length (List.map SV.str a0.Names)) : Int) - (1 : Int))) fun x128 =>
  cond (decide (s96 = x128))
  (letO (IntKind.wrap IntKind.i64 (s60 + (1 : Int))) fun x130 =>
  some (Sum.inr (Sum.inr (Sum.inl (x130)))))
  (letO (IntKind.wrap IntKind.i64 (s96 + (1 : Int))) fun x131 =>
  some (Sum.inl (x131))))))))
  (some (Sum.inr (Sum.inl (()))))) ((0 : Int)))
  (Sum.elim (fun (s94 : Unit) =>
  letO (IntKind.wrap IntKind.i64 (s60 + (1 : Int))) fun x132 =>
  some (Sum.inl (x132))) some)))))
  (some (Sum.inr (Sum.inl (()))))) ((0 : Int)))
  (Sum.elim (fun (s58 : Unit) =>
  Option.bind (F_lattice_of (a0)) fun x164 =>
  Option.bind (
  lpO (fun (s167 : Int) =>
  cond (decide (s167 < (↑(List.length (List.map SV.str a0.Names)) : Int)))
  (Option.bind (
  lpO (fun (s185 : Int) =>
  cond (decide (s185 < (↑(List.length (List.map SV.str a0.Names)) : Int)))
  (Option.bind (F_lattice_bound_lattice_ups_ (x164.up_) ((↑(List.length (List.map SV.str a0.Names)) : Int)) (s167) (s185)) fun x192 =>
  cond (decide (x192 < (0 : Int)))
  (some (Sum.inr (Sum.inr (Sum.inr (Sum.inr ((s167, (4 : Int))))))))
  (Option.bind (F_lattice_bound_lattice_downs_ (x164.down_) ((↑(List.length (List.map SV.str a0.Names)) : Int)) (s167) (s185)) fun x194 =>
  cond (decide (x194 < (0 : Int)))
  (some (Sum.inr (Sum.inr (Sum.inr (Sum.inr ((s167, (4 : Int))))))))
  (letO (IntKind.wrap IntKind.i64 (s185 + (1 : Int))) fun x196 =>
  some (Sum.inl (x196)))))
  (some (Sum.inr (Sum.inl (()))))) ((0 : Int)))
  (Sum.elim (fun (s183 : Unit) =>
  letO (IntKind.wrap IntKind.i64 (s167 + (1 : Int))) fun x197 =>
  some (Sum.inl (x197))) some))
  (some (Sum.inr (Sum.inl (()))))) ((0 : Int)))
  (Sum.elim (fun (s165 : Unit) =>
  some (((0 : Int), (0 : Int)))) some)) some))))
noncomputable def F_view_label (a0 : TLattice) (a1 : Int) : Option (Bool) :=
 cond (decide ((0 : Int) ≤ a1))
  (some (decide (a1 < (↑(List.length (List.map SV.str a0.Names)) : Int))))
  (some (false))
noncomputable def F_prims_Find (a0 : List UInt8) : Option (Int × Int) :=
 Option.bind (
  cond (decide ([(110 : UInt8), (101 : UInt8), (103 : UInt8)] = a0))
  (some (Sum.inr (((1 : Int), (0 : Int)))))
  (cond (decide ([(97 : UInt8), (98 : UInt8), (115 : UInt8)] = a0))
  (some (Sum.inr (((2 : Int), (0 : Int)))))
  (cond (decide ([(110 : UInt8), (111 : UInt8), (116 : UInt8)] = a0))
  (some (Sum.inr (((3 : Int), (0 : Int)))))
  (cond (decide ([(115 : UInt8), (104 : UInt8), (97 : UInt8), (112 : UInt8), (101 : UInt8)] = a0))
  (some (Sum.inr (((4 : Int), (0 : Int)))))
  (cond (decide ([(114 : UInt8), (97 : UInt8), (118 : UInt8), (101 : UInt8), (108 : UInt8)] = a0))
  (some (Sum.inr (((5 : Int), (0 : Int)))))
  (cond (decide ([(114 : UInt8), (101 : UInt8), (118 : UInt8), (101 : UInt8), (114 : UInt8), (115 : UInt8), (101 : UInt8)] = a0))
  (some (Sum.inr (((6 : Int), (0 : Int)))))
  (cond (decide ([(102 : UInt8), (108 : UInt8), (105 : UInt8), (112 : UInt8)] = a0))
  (some (Sum.inr (((7 : Int), (0 : Int)))))
  (cond (decide ([(105 : UInt8), (111 : UInt8), (116 : UInt8), (97 : UInt8)] = a0))
  (some (Sum.inr (((8 : Int), (0 : Int)))))
  (cond (decide ([(115 : UInt8), (117 : UInt8), (109 : UInt8)] = a0))
  (some (Sum.inr (((9 : Int), (0 : Int)))))
  (cond (decide ([(108 : UInt8), (101 : UInt8), (97 : UInt8), (115 : UInt8), (116 : UInt8)] = a0))
  (some (Sum.inr (((10 : Int), (0 : Int)))))
  (cond (decide ([(109 : UInt8), (111 : UInt8), (115 : UInt8), (116 : UInt8)] = a0))
  (some (Sum.inr (((11 : Int), (0 : Int)))))
  (cond (decide ([(99 : UInt8), (111 : UInt8), (117 : UInt8), (110 : UInt8), (116 : UInt8)] = a0))
  (some (Sum.inr (((12 : Int), (0 : Int)))))
  (cond (decide ([(115 : UInt8), (99 : UInt8), (97 : UInt8), (110 : UInt8)] = a0))
  (some (Sum.inr (((13 : Int), (0 : Int)))))
  (cond (decide ([(103 : UInt8), (114 : UInt8), (97 : UInt8), (100 : UInt8), (101 : UInt8)] = a0))
  (some (Sum.inr (((14 : Int), (0 : Int)))))
  (cond (decide ([(97 : UInt8), (100 : UInt8), (100 : UInt8)] = a0))
  (some (Sum.inr (((15 : Int), (0 : Int)))))
  (cond (decide ([(115 : UInt8), (117 : UInt8), (98 : UInt8)] = a0))
  (some (Sum.inr (((16 : Int), (0 : Int)))))
  (cond (decide ([(109 : UInt8), (117 : UInt8), (108 : UInt8)] = a0))
  (some (Sum.inr (((17 : Int), (0 : Int)))))
  (cond (decide ([(100 : UInt8), (105 : UInt8), (118 : UInt8)] = a0))
  (some (Sum.inr (((18 : Int), (0 : Int)))))
  (cond (decide ([(109 : UInt8), (111 : UInt8), (100 : UInt8)] = a0))
  (some (Sum.inr (((19 : Int), (0 : Int)))))
  (cond (decide ([(112 : UInt8), (108 : UInt8), (117 : UInt8), (115 : UInt8)] = a0))
  (some (Sum.inr (((20 : Int), (0 : Int)))))
  (cond (decide ([(109 : UInt8), (105 : UInt8), (110 : UInt8), (117 : UInt8), (115 : UInt8)] = a0))
  (some (Sum.inr (((21 : Int), (0 : Int)))))
  (cond (decide ([(116 : UInt8), (105 : UInt8), (109 : UInt8), (101 : UInt8), (115 : UInt8)] = a0))
  (some (Sum.inr (((22 : Int), (0 : Int)))))
  (cond (decide ([(101 : UInt8), (113 : UInt8)] = a0))
  (some (Sum.inr (((23 : Int), (0 : Int)))))
  (cond (decide ([(110 : UInt8), (101 : UInt8)] = a0))
  (some (Sum.inr (((24 : Int), (0 : Int)))))
  (cond (decide ([(108 : UInt8), (116 : UInt8)] = a0))
  (some (Sum.inr (((25 : Int), (0 : Int)))))
  (cond (decide ([(108 : UInt8), (101 : UInt8)] = a0))
  (some (Sum.inr (((26 : Int), (0 : Int)))))
  (cond (decide ([(103 : UInt8), (116 : UInt8)] = a0))
  (some (Sum.inr (((27 : Int), (0 : Int)))))
  (cond (decide ([(103 : UInt8), (101 : UInt8)] = a0))
  (some (Sum.inr (((28 : Int), (0 : Int)))))
  (cond (decide ([(97 : UInt8), (110 : UInt8), (100 : UInt8)] = a0))
  (some (Sum.inr (((29 : Int), (0 : Int)))))
  (cond (decide ([(111 : UInt8), (114 : UInt8)] = a0))
  (some (Sum.inr (((30 : Int), (0 : Int)))))
  (cond (decide ([(109 : UInt8), (105 : UInt8), (110 : UInt8)] = a0))
  (some (Sum.inr (((31 : Int), (0 : Int)))))
  (cond (decide ([(109 : UInt8), (97 : UInt8), (120 : UInt8)] = a0))
  (some (Sum.inr (((32 : Int), (0 : Int)))))
  (cond (decide ([(116 : UInt8), (97 : UInt8), (107 : UInt8), (101 : UInt8)] = a0))
  (some (Sum.inr (((33 : Int), (0 : Int)))))
  (cond (decide ([(100 : UInt8), (114 : UInt8), (111 : UInt8), (112 : UInt8)] = a0))
  (some (Sum.inr (((34 : Int), (0 : Int)))))
  (cond (decide ([(102 : UInt8), (105 : UInt8), (108 : UInt8), (108 : UInt8)] = a0))
  (some (Sum.inr (((35 : Int), (0 : Int)))))
  (cond (decide ([(103 : UInt8), (114 : UInt8), (105 : UInt8), (100 : UInt8)] = a0))
  (some (Sum.inr (((36 : Int), (0 : Int)))))
  (cond (decide ([(99 : UInt8), (97 : UInt8), (116 : UInt8)] = a0))
  (some (Sum.inr (((37 : Int), (0 : Int)))))
  (cond (decide ([(97 : UInt8), (116 : UInt8)] = a0))
  (some (Sum.inr (((38 : Int), (0 : Int)))))
  (cond (decide ([(105 : UInt8), (110 : UInt8)] = a0))
  (some (Sum.inr (((39 : Int), (0 : Int)))))
  (cond (decide ([(112 : UInt8), (105 : UInt8), (99 : UInt8), (107 : UInt8)] = a0))
  (some (Sum.inr (((40 : Int), (0 : Int)))))
  (some (Sum.inl (())))))))))))))))))))))))))))))))))))))))))))
  (Sum.elim (fun (s234 : Unit) =>
  some (((0 : Int), (4 : Int)))) some)
noncomputable def F_runes_is (a0 : Int) : Option (Bool) :=
 letO (IntKind.wrap IntKind.i32 a0) fun x293 =>
  letO (IntKind.wrap IntKind.i64 x293) fun x294 =>
  cond (decide (a0 = x294))
  (letO (IntKind.wrap IntKind.i32 a0) fun x296 =>
  Option.bind (F_unicode_utf8_ValidRune (x296)) fun x297 =>
  some (x297))
  (some (false))
noncomputable def F_runes_classes : Option (List (List UInt8)) :=
 some ([[], (ByteArray.mk #[(32 : UInt8)]).data.toList, (ByteArray.mk #[(10 : UInt8)]).data.toList, (ByteArray.mk #[(40 : UInt8), (91 : UInt8)]).data.toList, (ByteArray.mk #[(41 : UInt8), (93 : UInt8)]).data.toList, (ByteArray.mk #[(34 : UInt8)]).data.toList, [], (ByteArray.mk #[(45 : UInt8)]).data.toList, [], (ByteArray.mk #[(60 : UInt8), (61 : UInt8)]).data.toList])
noncomputable def F_runes_Class (a0 : Int) : Option (Int × Int) :=
 Option.bind (F_runes_is (a0)) fun x298 =>
  cond (!x298)
  (some (((0 : Int), (7 : Int))))
  (cond (decide ((48 : Int) ≤ a0))
  (cond (decide (a0 ≤ (57 : Int)))
  (some (((6 : Int), (0 : Int))))
  (cond (decide ((97 : Int) ≤ a0))
  (cond (decide (a0 ≤ (122 : Int)))
  (some (((8 : Int), (0 : Int))))
  (Option.bind (F_runes_classes) fun x304 =>
  Option.bind (
  lpO (fun (s307 : Int) =>
  cond (decide (s307 < (10 : Int)))
  (idxO (x304) (s307) fun x313 =>
  letO (IntKind.wrap IntKind.i32 a0) fun x314 =>
  Option.bind (F_strings_ContainsRune (x313) (x314)) fun x315 =>
  cond (x315)
  (some (Sum.inr (Sum.inr ((s307, (0 : Int))))))
  (letO (IntKind.wrap IntKind.i64 (s307 + (1 : Int))) fun x317 =>
  some (Sum.inl (x317))))
  (some (Sum.inr (Sum.inl (()))))) ((0 : Int)))
  (Sum.elim (fun (s305 : Unit) =>
  some (((10 : Int), (0 : Int)))) some)))
  (Option.bind (F_runes_classes) fun x318 =>
  Option.bind (
  lpO (fun (s321 : Int) =>
  cond (decide (s321 < (10 : Int)))
  (idxO (x318) (s321) fun x327 =>
  letO (IntKind.wrap IntKind.i32 a0) fun x328 =>
  Option.bind (F_strings_ContainsRune (x327) (x328)) fun x329 =>
  cond (x329)
  (some (Sum.inr (Sum.inr ((s321, (0 : Int))))))
  (letO (IntKind.wrap IntKind.i64 (s321 + (1 : Int))) fun x331 =>
  some (Sum.inl (x331))))
  (some (Sum.inr (Sum.inl (()))))) ((0 : Int)))
  (Sum.elim (fun (s319 : Unit) =>
  some (((10 : Int), (0 : Int)))) some))))
  (cond (decide ((97 : Int) ≤ a0))
  (cond (decide (a0 ≤ (122 : Int)))
  (some (((8 : Int), (0 : Int))))
  (Option.bind (F_runes_classes) fun x334 =>
  Option.bind (
  lpO (fun (s337 : Int) =>
  cond (decide (s337 < (10 : Int)))
  (idxO (x334) (s337) fun x343 =>
  letO (IntKind.wrap IntKind.i32 a0) fun x344 =>
  Option.bind (F_strings_ContainsRune (x343) (x344)) fun x345 =>
  cond (x345)
  (some (Sum.inr (Sum.inr ((s337, (0 : Int))))))
  (letO (IntKind.wrap IntKind.i64 (s337 + (1 : Int))) fun x347 =>
  some (Sum.inl (x347))))
  (some (Sum.inr (Sum.inl (()))))) ((0 : Int)))
  (Sum.elim (fun (s335 : Unit) =>
  some (((10 : Int), (0 : Int)))) some)))
  (Option.bind (F_runes_classes) fun x348 =>
  Option.bind (
  lpO (fun (s351 : Int) =>
  cond (decide (s351 < (10 : Int)))
  (idxO (x348) (s351) fun x357 =>
  letO (IntKind.wrap IntKind.i32 a0) fun x358 =>
  Option.bind (F_strings_ContainsRune (x357) (x358)) fun x359 =>
  cond (x359)
  (some (Sum.inr (Sum.inr ((s351, (0 : Int))))))
  (letO (IntKind.wrap IntKind.i64 (s351 + (1 : Int))) fun x361 =>
  some (Sum.inl (x361))))
  (some (Sum.inr (Sum.inl (()))))) ((0 : Int)))
  (Sum.elim (fun (s349 : Unit) =>
  some (((10 : Int), (0 : Int)))) some))))
noncomputable def F_unicode_utf8_word_string_ (a0 : List UInt8) : Option (Int) :=
 idxO (a0) ((0 : Int)) fun x406 =>
  letO (IntKind.wrap IntKind.u64 (↑(UInt8.toNat x406) : Int)) fun x407 =>
  idxO (a0) ((1 : Int)) fun x408 =>
  letO (IntKind.wrap IntKind.u64 (↑(UInt8.toNat x408) : Int)) fun x409 =>
  letO (IntKind.wrap IntKind.u64 (x409 * (2 : Int) ^ min (Int.toNat (8 : Int)) (IntKind.bits IntKind.u64))) fun x410 =>
  idxO (a0) ((2 : Int)) fun x411 =>
  letO (IntKind.wrap IntKind.u64 (↑(UInt8.toNat x411) : Int)) fun x412 =>
  letO (IntKind.wrap IntKind.u64 (x412 * (2 : Int) ^ min (Int.toNat (16 : Int)) (IntKind.bits IntKind.u64))) fun x413 =>
  idxO (a0) ((3 : Int)) fun x414 =>
  letO (IntKind.wrap IntKind.u64 (↑(UInt8.toNat x414) : Int)) fun x415 =>
  letO (IntKind.wrap IntKind.u64 (x415 * (2 : Int) ^ min (Int.toNat (24 : Int)) (IntKind.bits IntKind.u64))) fun x416 =>
  idxO (a0) ((4 : Int)) fun x417 =>
  letO (IntKind.wrap IntKind.u64 (↑(UInt8.toNat x417) : Int)) fun x418 =>
  letO (IntKind.wrap IntKind.u64 (x418 * (2 : Int) ^ min (Int.toNat (32 : Int)) (IntKind.bits IntKind.u64))) fun x419 =>
  idxO (a0) ((5 : Int)) fun x420 =>
  letO (IntKind.wrap IntKind.u64 (↑(UInt8.toNat x420) : Int)) fun x421 =>
  letO (IntKind.wrap IntKind.u64 (x421 * (2 : Int) ^ min (Int.toNat (40 : Int)) (IntKind.bits IntKind.u64))) fun x422 =>
  idxO (a0) ((6 : Int)) fun x423 =>
  letO (IntKind.wrap IntKind.u64 (↑(UInt8.toNat x423) : Int)) fun x424 =>
  letO (IntKind.wrap IntKind.u64 (x424 * (2 : Int) ^ min (Int.toNat (48 : Int)) (IntKind.bits IntKind.u64))) fun x425 =>
  idxO (a0) ((7 : Int)) fun x426 =>
  letO (IntKind.wrap IntKind.u64 (↑(UInt8.toNat x426) : Int)) fun x427 =>
  letO (IntKind.wrap IntKind.u64 (x427 * (2 : Int) ^ min (Int.toNat (56 : Int)) (IntKind.bits IntKind.u64))) fun x428 =>
  some (bits BinOp.or IntKind.u64 (bits BinOp.or IntKind.u64 (bits BinOp.or IntKind.u64 (bits BinOp.or IntKind.u64 (bits BinOp.or IntKind.u64 (bits BinOp.or IntKind.u64 (bits BinOp.or IntKind.u64 x407 x410) x413) x416) x419) x422) x425) x428)
noncomputable def F_unicode_utf8_ValidString (a0 : List UInt8) : Option (Bool) :=
 Option.bind (
  lpO (fun (s402 : List UInt8) =>
  cond (decide ((0 : Int) < (↑(List.length s402) : Int)))
  (idxO (s402) ((0 : Int)) fun x429 =>
  cond (decide ((↑(UInt8.toNat x429) : Int) < (128 : Int)))
  (sideO ((0 : Int) ≤ (1 : Int) ∧ (1 : Int) ≤ (↑(List.length s402) : Int)) (
  cond (decide ((8 : Int) < (↑(List.length (List.drop (Int.toNat (1 : Int)) (List.take (Int.toNat (↑(List.length s402) : Int)) s402))) : Int)))
  (Option.bind (F_unicode_utf8_word_string_ (List.drop (Int.toNat (1 : Int)) (List.take (Int.toNat (↑(List.length s402) : Int)) s402))) fun x432 =>
  cond (decide (bits BinOp.and IntKind.u64 x432 (9259542123273814144 : Int) = (0 : Int)))
  (sideO ((0 : Int) ≤ (8 : Int) ∧ (8 : Int) ≤ (↑(List.length (List.drop (Int.toNat (1 : Int)) (List.take (Int.toNat (↑(List.length s402) : Int)) s402))) : Int)) (
  cond (decide ((16 : Int) < (↑(List.length (List.drop (Int.toNat (8 : Int)) (List.take (Int.toNat (↑(List.length (List.drop (Int.toNat (1 : Int)) (List.take (Int.toNat (↑(List.length s402) : Int)) s402))) : Int)) (List.drop (Int.toNat (1 : Int)) (List.take (Int.toNat (↑(List.length s402) : Int)) s402))))) : Int)))
  (Option.bind (F_unicode_utf8_word_string_ (List.drop (Int.toNat (8 : Int)) (List.take (Int.toNat (↑(List.length (List.drop (Int.toNat (1 : Int)) (List.take (Int.toNat (↑(List.length s402) : Int)) s402))) : Int)) (List.drop (Int.toNat (1 : Int)) (List.take (Int.toNat (↑(List.length s402) : Int)) s402))))) fun x435 =>
  sideO ((0 : Int) ≤ (8 : Int) ∧ (8 : Int) ≤ (↑(List.length (List.drop (Int.toNat (8 : Int)) (List.take (Int.toNat (↑(List.length (List.drop (Int.toNat (1 : Int)) (List.take (Int.toNat (↑(List.length s402) : Int)) s402))) : Int)) (List.drop (Int.toNat (1 : Int)) (List.take (Int.toNat (↑(List.length s402) : Int)) s402))))) : Int)) (
  Option.bind (F_unicode_utf8_word_string_ (List.drop (Int.toNat (8 : Int)) (List.take (Int.toNat (↑(List.length (List.drop (Int.toNat (8 : Int)) (List.take (Int.toNat (↑(List.length (List.drop (Int.toNat (1 : Int)) (List.take (Int.toNat (↑(List.length s402) : Int)) s402))) : Int)) (List.drop (Int.toNat (1 : Int)) (List.take (Int.toNat (↑(List.length s402) : Int)) s402))))) : Int)) (List.drop (Int.toNat (8 : Int)) (List.take (Int.toNat (↑(List.length (List.drop (Int.toNat (1 : Int)) (List.take (Int.toNat (↑(List.length s402) : Int)) s402))) : Int)) (List.drop (Int.toNat (1 : Int)) (List.take (Int.toNat (↑(List.length s402) : Int)) s402))))))) fun x436 =>
  cond (decide (bits BinOp.and IntKind.u64 (bits BinOp.or IntKind.u64 x435 x436) (9259542123273814144 : Int) = (0 : Int)))
  (sideO ((0 : Int) ≤ (16 : Int) ∧ (16 : Int) ≤ (↑(List.length (List.drop (Int.toNat (8 : Int)) (List.take (Int.toNat (↑(List.length (List.drop (Int.toNat (1 : Int)) (List.take (Int.toNat (↑(List.length s402) : Int)) s402))) : Int)) (List.drop (Int.toNat (1 : Int)) (List.take (Int.toNat (↑(List.length s402) : Int)) s402))))) : Int)) (
  Option.bind (
  lpO (fun (s440 : List UInt8) =>
  cond (decide ((32 : Int) < (↑(List.length s440) : Int)))
  (Option.bind (F_unicode_utf8_word_string_ (s440)) fun x448 =>
  sideO ((0 : Int) ≤ (8 : Int) ∧ (8 : Int) ≤ (↑(List.length s440) : Int)) (
  Option.bind (F_unicode_utf8_word_string_ (List.drop (Int.toNat (8 : Int)) (List.take (Int.toNat (↑(List.length s440) : Int)) s440))) fun x449 =>
  sideO ((0 : Int) ≤ (16 : Int) ∧ (16 : Int) ≤ (↑(List.length s440) : Int)) (
  Option.bind (F_unicode_utf8_word_string_ (List.drop (Int.toNat (16 : Int)) (List.take (Int.toNat (↑(List.length s440) : Int)) s440))) fun x450 =>
  sideO ((0 : Int) ≤ (24 : Int) ∧ (24 : Int) ≤ (↑(List.length s440) : Int)) (
  Option.bind (F_unicode_utf8_word_string_ (List.drop (Int.toNat (24 : Int)) (List.take (Int.toNat (↑(List.length s440) : Int)) s440))) fun x451 =>
  cond (decide (bits BinOp.and IntKind.u64 (bits BinOp.or IntKind.u64 (bits BinOp.or IntKind.u64 x448 x449) (bits BinOp.or IntKind.u64 x450 x451)) (9259542123273814144 : Int) = (0 : Int)))
  (sideO ((0 : Int) ≤ (32 : Int) ∧ (32 : Int) ≤ (↑(List.length s440) : Int)) (
  some (Sum.inl (List.drop (Int.toNat (32 : Int)) (List.take (Int.toNat (↑(List.length s440) : Int)) s440)))))
  (some (Sum.inr (Sum.inl (s440))))))))
  (some (Sum.inr (Sum.inl (s440))))) (List.drop (Int.toNat (16 : Int)) (List.take (Int.toNat (↑(List.length (List.drop (Int.toNat (8 : Int)) (List.take (Int.toNat (↑(List.length (List.drop (Int.toNat (1 : Int)) (List.take (Int.toNat (↑(List.length s402) : Int)) s402))) : Int)) (List.drop (Int.toNat (1 : Int)) (List.take (Int.toNat (↑(List.length s402) : Int)) s402))))) : Int)) (List.drop (Int.toNat (8 : Int)) (List.take (Int.toNat (↑(List.length (List.drop (Int.toNat (1 : Int)) (List.take (Int.toNat (↑(List.length s402) : Int)) s402))) : Int)) (List.drop (Int.toNat (1 : Int)) (List.take (Int.toNat (↑(List.length s402) : Int)) s402)))))))
  (Sum.elim (fun (s438 : List UInt8) =>
  some (Sum.inl (s438))) some)))
  (some (Sum.inl (List.drop (Int.toNat (8 : Int)) (List.take (Int.toNat (↑(List.length (List.drop (Int.toNat (1 : Int)) (List.take (Int.toNat (↑(List.length s402) : Int)) s402))) : Int)) (List.drop (Int.toNat (1 : Int)) (List.take (Int.toNat (↑(List.length s402) : Int)) s402))))))))
  (some (Sum.inl (List.drop (Int.toNat (8 : Int)) (List.take (Int.toNat (↑(List.length (List.drop (Int.toNat (1 : Int)) (List.take (Int.toNat (↑(List.length s402) : Int)) s402))) : Int)) (List.drop (Int.toNat (1 : Int)) (List.take (Int.toNat (↑(List.length s402) : Int)) s402))))))))
  (some (Sum.inl (List.drop (Int.toNat (1 : Int)) (List.take (Int.toNat (↑(List.length s402) : Int)) s402)))))
  (some (Sum.inl (List.drop (Int.toNat (1 : Int)) (List.take (Int.toNat (↑(List.length s402) : Int)) s402))))))
  (none))
  (some (Sum.inr (Sum.inl (()))))) (a0))
  (Sum.elim (fun (s400 : Unit) =>
  some (true)) some)
noncomputable def F_lexer_Check (a0 : TLxToken) : Option (Int) :=
 Option.bind (
  cond (decide (a0.Kind = (1 : Int)))
  (some (Sum.inl (((0 : Int), a0.S))))
  (cond (decide (a0.Kind = (3 : Int)))
  (some (Sum.inl (((0 : Int), a0.S))))
  (cond (decide (a0.Kind = (2 : Int)))
  (some (Sum.inl ((a0.N, []))))
  (some (Sum.inl (((0 : Int), [])))))))
  (Sum.elim (fun (s279 : Int × List UInt8) =>
  cond (decide (a0.Kind < (1 : Int)))
  (some ((2 : Int)))
  (cond (decide ((9 : Int) < a0.Kind))
  (some ((2 : Int)))
  (cond (!(decide (a0.Kind = a0.Kind) && (decide (a0.From = a0.From) && (decide (a0.To = a0.To) && (decide (a0.N = s279.fst) && (decide (a0.S = s279.snd) && true))))))
  (some ((2 : Int)))
  (Option.bind (
  cond (decide (a0.Kind = (1 : Int)))
  (cond (decide ((↑(List.length a0.S) : Int) ≤ (0 : Int)))
  (some (Sum.inr ((6 : Int))))
  (idxO (a0.S) ((0 : Int)) fun x292 =>
  letO (IntKind.wrap IntKind.i64 (↑(UInt8.toNat x292) : Int)) fun x293 =>
  Option.bind (F_runes_Class (x293)) fun x294 =>
  cond (!decide (x294.fst = (8 : Int)))
  (some (Sum.inr ((6 : Int))))
  (idxO (a0.S) ((0 : Int)) fun x298 =>
  letO (IntKind.wrap IntKind.i64 (↑(UInt8.toNat x298) : Int)) fun x299 =>
  Option.bind (F_runes_Class (x299)) fun x300 =>
  Option.bind (
  lpO (fun (s303 : Int × Int) =>
  cond (decide (s303.fst = (8 : Int)))
  (letO (IntKind.wrap IntKind.i64 (s303.snd + (1 : Int))) fun x317 =>
  cond (decide ((↑(List.length a0.S) : Int) ≤ x317))
  (some (Sum.inl (((10 : Int), x317))))
  (idxO (a0.S) (x317) fun x320 =>
  letO (IntKind.wrap IntKind.i64 (↑(UInt8.toNat x320) : Int)) fun x321 =>
  Option.bind (F_runes_Class (x321)) fun x322 =>
  some (Sum.inl ((x322.fst, x317)))))
  (cond (decide (s303.fst = (6 : Int)))
  (letO (IntKind.wrap IntKind.i64 (s303.snd + (1 : Int))) fun x324 =>
  cond (decide ((↑(List.length a0.S) : Int) ≤ x324))
  (some (Sum.inl (((10 : Int), x324))))
  (idxO (a0.S) (x324) fun x327 =>
  letO (IntKind.wrap IntKind.i64 (↑(UInt8.toNat x327) : Int)) fun x328 =>
  Option.bind (F_runes_Class (x328)) fun x329 =>
  some (Sum.inl ((x329.fst, x324)))))
  (some (Sum.inr (Sum.inl ((decide (s303.fst = (6 : Int)), s303))))))) ((x300.fst, (0 : Int))))
  (Sum.elim (fun (s301 : Bool × Int × Int) =>
  sideO ((0 : Int) ≤ (0 : Int) ∧ (0 : Int) ≤ s301.snd.snd ∧ s301.snd.snd ≤ (↑(List.length a0.S) : Int)) (
  cond (!decide (List.drop (Int.toNat (0 : Int)) (List.take (Int.toNat s301.snd.snd) a0.S) = a0.S))
  (some (Sum.inr ((6 : Int))))
  (some (Sum.inl ((16 : Int)))))) some))))
  (cond (decide (a0.Kind = (3 : Int)))
  (Option.bind (F_unicode_utf8_ValidString (a0.S)) fun x332 =>
  cond (!x332)
  (some (Sum.inr ((6 : Int))))
  (some (Sum.inl ((2000 : Int)))))
  (some (Sum.inl ((0 : Int))))))
  (Sum.elim (fun (s287 : Int) =>
  cond (decide (s287 < (↑(List.length a0.S) : Int)))
  (some ((3 : Int)))
  (some ((0 : Int)))) some))))) some)
noncomputable def F_expr_Name (a0 : List UInt8) : Option (Bool) :=
 cond (decide (a0 = (ByteArray.mk #[(118 : UInt8), (97 : UInt8), (114 : UInt8)]).data.toList))
  (some (false))
  (cond (decide (a0 = (ByteArray.mk #[(100 : UInt8), (101 : UInt8), (102 : UInt8)]).data.toList))
  (some (false))
  (cond (decide (a0 = (ByteArray.mk #[(111 : UInt8), (117 : UInt8), (116 : UInt8)]).data.toList))
  (some (false))
  (cond (decide (a0 = (ByteArray.mk #[(105 : UInt8), (102 : UInt8)]).data.toList))
  (some (false))
  (cond (decide (a0 = (ByteArray.mk #[(101 : UInt8), (108 : UInt8), (115 : UInt8), (101 : UInt8)]).data.toList))
  (some (false))
  (cond (decide (a0 = (ByteArray.mk #[(119 : UInt8), (104 : UInt8), (105 : UInt8), (108 : UInt8), (101 : UInt8)]).data.toList))
  (some (false))
  (cond (decide (a0 = (ByteArray.mk #[(101 : UInt8), (110 : UInt8), (100 : UInt8)]).data.toList))
  (some (false))
  (cond (decide (a0 = (ByteArray.mk #[(114 : UInt8), (101 : UInt8), (108 : UInt8), (101 : UInt8), (97 : UInt8), (115 : UInt8), (101 : UInt8)]).data.toList))
  (some (false))
  (cond (decide (a0 = (ByteArray.mk #[(105 : UInt8), (110 : UInt8), (116 : UInt8)]).data.toList))
  (some (false))
  (cond (decide (a0 = (ByteArray.mk #[(99 : UInt8), (104 : UInt8), (97 : UInt8), (114 : UInt8)]).data.toList))
  (some (false))
  (Option.bind (F_prims_Find (a0)) fun x277 =>
  cond (decide (x277.snd = (0 : Int)))
  (some (false))
  (Option.bind (F_lexer_Check (TLxToken.mk (1 : Int) (0 : Int) (0 : Int) (0 : Int) a0)) fun x335 =>
  some (decide (x335 = (0 : Int))))))))))))))
noncomputable def F_shapes_Check_1 (a0 : Int) : Option (Bool) :=
 some (decide (a0 < (0 : Int)))
noncomputable def F_slices_IndexFunc___int_int_ (a0 : List Int) : Option (Int) :=
 Option.bind (
  lpO (fun (s344 : Int) =>
  cond (decide (s344 < (↑(List.length (List.map (SV.int IntKind.i64) a0)) : Int)))
  (idxO (a0) (s344) fun x350 =>
  Option.bind (F_shapes_Check_1 (x350)) fun x351 =>
  cond (x351)
  (some (Sum.inr (Sum.inr (s344))))
  (letO (IntKind.wrap IntKind.i64 (s344 + (1 : Int))) fun x353 =>
  some (Sum.inl (x353))))
  (some (Sum.inr (Sum.inl (()))))) ((0 : Int)))
  (Sum.elim (fun (s342 : Unit) =>
  some ((-1 : Int))) some)
noncomputable def F_slices_ContainsFunc___int_int_ (a0 : List Int) : Option (Bool) :=
 Option.bind (F_slices_IndexFunc___int_int_ (a0)) fun x354 =>
  some (decide ((0 : Int) ≤ x354))
noncomputable def F_shapes_Check_2 (a0 : Int) : Option (Bool) :=
 some (!decide (a0 = (0 : Int)))
noncomputable def F_slices_IndexFunc___int_int__v1 (a0 : List Int) : Option (Int) :=
 Option.bind (
  lpO (fun (s359 : Int) =>
  cond (decide (s359 < (↑(List.length (List.map (SV.int IntKind.i64) a0)) : Int)))
  (idxO (a0) (s359) fun x365 =>
  Option.bind (F_shapes_Check_2 (x365)) fun x366 =>
  cond (x366)
  (some (Sum.inr (Sum.inr (s359))))
  (letO (IntKind.wrap IntKind.i64 (s359 + (1 : Int))) fun x368 =>
  some (Sum.inl (x368))))
  (some (Sum.inr (Sum.inl (()))))) ((0 : Int)))
  (Sum.elim (fun (s357 : Unit) =>
  some ((-1 : Int))) some)
noncomputable def F_slices_ContainsFunc___int_int__v1 (a0 : List Int) : Option (Bool) :=
 Option.bind (F_slices_IndexFunc___int_int__v1 (a0)) fun x369 =>
  some (decide ((0 : Int) ≤ x369))
noncomputable def F_shapes_Check_3 (a0 : Int) : Option (Bool) :=
 some (decide ((400 : Int) < a0))
noncomputable def F_slices_IndexFunc___int_int__v2 (a0 : List Int) : Option (Int) :=
 Option.bind (
  lpO (fun (s374 : Int) =>
  cond (decide (s374 < (↑(List.length (List.map (SV.int IntKind.i64) a0)) : Int)))
  (idxO (a0) (s374) fun x380 =>
  Option.bind (F_shapes_Check_3 (x380)) fun x381 =>
  cond (x381)
  (some (Sum.inr (Sum.inr (s374))))
  (letO (IntKind.wrap IntKind.i64 (s374 + (1 : Int))) fun x383 =>
  some (Sum.inl (x383))))
  (some (Sum.inr (Sum.inl (()))))) ((0 : Int)))
  (Sum.elim (fun (s372 : Unit) =>
  some ((-1 : Int))) some)
noncomputable def F_slices_ContainsFunc___int_int__v2 (a0 : List Int) : Option (Bool) :=
 Option.bind (F_slices_IndexFunc___int_int__v2 (a0)) fun x384 =>
  some (decide ((0 : Int) ≤ x384))
noncomputable def F_shapes_product (a0 : Int) (a1 : Int × Int) : Option (Int) :=
 cond (decide (a0 = (2 : Int)))
  (letO (IntKind.wrap IntKind.i64 ((1 : Int) * a1.snd)) fun x388 =>
  letO (IntKind.wrap IntKind.i64 (x388 * a1.fst)) fun x389 =>
  some (x389))
  (cond (decide (a0 = (1 : Int)))
  (letO (IntKind.wrap IntKind.i64 ((1 : Int) * a1.fst)) fun x391 =>
  some (x391))
  (some ((1 : Int))))
noncomputable def F_shapes_Check (a0 : Int) (a1 : Int × Int) : Option (Int) :=
 cond (decide (a0 < (0 : Int)))
  (some ((7 : Int)))
  (cond (decide ((2 : Int) < a0))
  (some ((7 : Int)))
  (sideO ((0 : Int) ≤ a0 ∧ a0 ≤ (↑(2 : Nat) : Int)) (
  sideO ((0 : Int) ≤ a0 ∧ a0 ≤ (↑(2 : Nat) : Int)) (
  Option.bind (F_slices_ContainsFunc___int_int_ (List.drop (Int.toNat (0 : Int)) (List.take (Int.toNat a0) [a1.fst, a1.snd]))) fun x355 =>
  cond (x355)
  (some ((7 : Int)))
  (Option.bind (F_slices_ContainsFunc___int_int__v1 (List.drop (Int.toNat a0) (List.take (Int.toNat (↑(2 : Nat) : Int)) [a1.fst, a1.snd]))) fun x370 =>
  cond (x370)
  (some ((6 : Int)))
  (Option.bind (F_slices_ContainsFunc___int_int__v2 (List.drop (Int.toNat (0 : Int)) (List.take (Int.toNat a0) [a1.fst, a1.snd]))) fun x385 =>
  cond (x385)
  (some ((15 : Int)))
  (Option.bind (F_shapes_product (a0) (a1)) fun x392 =>
  cond (decide ((400 : Int) < x392))
  (some ((15 : Int)))
  (some ((0 : Int))))))))))
noncomputable def F_shapes_Cells (a0 : Int) (a1 : Int × Int) : Option (Int × Int) :=
 Option.bind (F_shapes_Check (a0) (a1)) fun x394 =>
  cond (!decide (x394 = (0 : Int)))
  (some (((0 : Int), x394)))
  (Option.bind (F_shapes_product (a0) (a1)) fun x396 =>
  some ((x396, (0 : Int))))
noncomputable def F_arrays_right (a0 : Int) (a1 : Int) : Option (Bool) :=
 cond (decide (a0 = (1 : Int)))
  (some (true))
  (cond (decide ((0 : Int) ≤ a1))
  (cond (decide (a1 ≤ (1114111 : Int)))
  (letO (IntKind.wrap IntKind.i32 a1) fun x407 =>
  Option.bind (F_unicode_utf8_ValidRune (x407)) fun x408 =>
  some (x408))
  (some (false)))
  (some (false)))
noncomputable def F_arrays_Check_1 (a0 : Int) (a1 : TArray) : Option (Bool) :=
 Option.bind (F_arrays_right (a1.Kind) (a0)) fun x409 =>
  some (!x409)
noncomputable def F_slices_IndexFunc___int64_int64_ (a0 : List Int) (a1 : TArray) : Option (Int) :=
 Option.bind (
  lpO (fun (s402 : Int) =>
  cond (decide (s402 < (↑(List.length (List.map (SV.int IntKind.i64) a0)) : Int)))
  (idxO (a0) (s402) fun x408 =>
  Option.bind (F_arrays_Check_1 (x408) (a1)) fun x409 =>
  cond (x409)
  (some (Sum.inr (Sum.inr (s402))))
  (letO (IntKind.wrap IntKind.i64 (s402 + (1 : Int))) fun x411 =>
  some (Sum.inl (x411))))
  (some (Sum.inr (Sum.inl (()))))) ((0 : Int)))
  (Sum.elim (fun (s400 : Unit) =>
  some ((-1 : Int))) some)
noncomputable def F_slices_ContainsFunc___int64_int64_ (a0 : List Int) (a1 : TArray) : Option (Bool) :=
 Option.bind (F_slices_IndexFunc___int64_int64_ (a0) (a1)) fun x412 =>
  some (decide ((0 : Int) ≤ x412))
noncomputable def F_arrays_Check (a0 : TArray) : Option (Int) :=
 cond (!decide (a0.Kind = (1 : Int)))
  (cond (!decide (a0.Kind = (2 : Int)))
  (some ((2 : Int)))
  (Option.bind (F_shapes_Cells (a0.Rank) (a0.Lens)) fun x397 =>
  cond (!decide (x397.snd = (0 : Int)))
  (some (x397.snd))
  (cond (!decide ((↑(List.length (List.map (SV.int IntKind.i64) a0.Cells)) : Int) = x397.fst))
  (some ((6 : Int)))
  (Option.bind (F_slices_ContainsFunc___int64_int64_ (a0.Cells) (a0)) fun x413 =>
  cond (x413)
  (some ((7 : Int)))
  (some ((0 : Int)))))))
  (Option.bind (F_shapes_Cells (a0.Rank) (a0.Lens)) fun x415 =>
  cond (!decide (x415.snd = (0 : Int)))
  (some (x415.snd))
  (cond (!decide ((↑(List.length (List.map (SV.int IntKind.i64) a0.Cells)) : Int) = x415.fst))
  (some ((6 : Int)))
  (Option.bind (F_slices_ContainsFunc___int64_int64_ (a0.Cells) (a0)) fun x418 =>
  cond (x418)
  (some ((7 : Int)))
  (some ((0 : Int))))))
noncomputable def F_slices_Equal___int64_int64_ (a0 : List Int) (a1 : List Int) : Option (Bool) :=
 cond (!decide ((↑(List.length (List.map (SV.int IntKind.i64) a0)) : Int) = (↑(List.length (List.map (SV.int IntKind.i64) a1)) : Int)))
  (some (false))
  (Option.bind (
  lpO (fun (s429 : Int) =>
  cond (decide (s429 < (↑(List.length (List.map (SV.int IntKind.i64) a0)) : Int)))
  (idxO (a0) (s429) fun x435 =>
  idxO (a1) (s429) fun x436 =>
  cond (!decide (x435 = x436))
  (some (Sum.inr (Sum.inr (false))))
  (letO (IntKind.wrap IntKind.i64 (s429 + (1 : Int))) fun x438 =>
  some (Sum.inl (x438))))
  (some (Sum.inr (Sum.inl (()))))) ((0 : Int)))
  (Sum.elim (fun (s427 : Unit) =>
  some (true)) some))
noncomputable def F_view_sameArray (a0 : TArray) (a1 : TArray) : Option (Bool) :=
 cond (decide (a0.Kind = a1.Kind))
  (cond (decide (a0.Rank = a1.Rank))
  (cond (decide (a0.Lens.fst = a1.Lens.fst) && (decide (a0.Lens.snd = a1.Lens.snd) && true))
  (Option.bind (F_slices_Equal___int64_int64_ (a0.Cells) (a1.Cells)) fun x439 =>
  some (x439))
  (some (false)))
  (some (false)))
  (some (false))
noncomputable def F_view_bad (a0 : TLattice) (a1 : TEvEvent) (a2 : Int) (a3 : Int) (a4 : Bool) : Option (Int) :=
 Option.bind (F_view_label (a0) (a1.Label)) fun x213 =>
  cond (!x213)
  (some ((7 : Int)))
  (cond (decide (a1.Site < (0 : Int)))
  (some ((7 : Int)))
  (cond (decide ((1000000000 : Int) < a1.Site))
  (some ((7 : Int)))
  (cond (decide (a1.Steps < a2))
  (some ((7 : Int)))
  (cond (decide (a3 < a1.Steps))
  (some ((7 : Int)))
  (cond (decide (a1.Kind < (1 : Int)))
  (some ((6 : Int)))
  (cond (decide ((4 : Int) < a1.Kind))
  (some ((6 : Int)))
  (cond (decide (a1.Kind = (1 : Int)) == a4)
  (some ((6 : Int)))
  (cond (!(!decide (a1.E = (0 : Int))) == decide (a1.Kind = (2 : Int)))
  (some ((6 : Int)))
  (cond (decide (a1.Kind = (1 : Int)))
  (Option.bind (F_expr_Name (a1.Channel)) fun x336 =>
  cond (!x336)
  (some ((6 : Int)))
  (Option.bind (F_arrays_Check (a1.Value)) fun x420 =>
  cond (!decide (x420 = (0 : Int)))
  (some ((6 : Int)))
  (some ((0 : Int)))))
  (cond (!decide (a1.Channel = (ByteArray.mk #[]).data.toList))
  (some ((6 : Int)))
  (Option.bind (F_view_sameArray (a1.Value) (TArray.mk (0 : Int) (0 : Int) ((0 : Int), (0 : Int)) [])) fun x440 =>
  cond (!x440)
  (some ((6 : Int)))
  (some ((0 : Int))))))))))))))
noncomputable def F_view_Check (a0 : TLattice) (a1 : TEvTrace) : Option (Int × Int) :=
 Option.bind (F_lattice_Check (a0)) fun x204 =>
  cond (!decide (x204.snd = (0 : Int)))
  (some (((-1 : Int), x204.snd)))
  (cond (decide ((↑(List.length (List.map enc_TEvEvent a1.Events)) : Int) = (0 : Int)))
  (some (((-1 : Int), (6 : Int))))
  (letO (IntKind.wrap IntKind.i64 ((↑(List.length (List.map enc_TEvEvent a1.Events)) : Int) - (1 : Int))) fun x207 =>
  Option.bind (
  lpO (fun (s210 : Int × Int) =>
  cond (decide (s210.fst < (↑(List.length (List.map enc_TEvEvent a1.Events)) : Int)))
  (idxO (a1.Events) (s210.fst) fun x216 =>
  Option.bind (F_view_bad (a0) (x216) (s210.snd) (a1.Steps) (decide (s210.fst = x207))) fun x217 =>
  cond (!decide (x217 = (0 : Int)))
  (some (Sum.inr (Sum.inr ((s210.fst, x217)))))
  (letO (IntKind.wrap IntKind.i64 (s210.fst + (1 : Int))) fun x219 =>
  some (Sum.inl ((x219, x216.Steps)))))
  (some (Sum.inr (Sum.inl (()))))) (((0 : Int), (0 : Int))))
  (Sum.elim (fun (s208 : Unit) =>
  Option.bind (
  lpO (fun (s222 : Int) =>
  cond (decide (s222 < (↑(List.length (List.map enc_TReEntry a1.Log)) : Int)))
  (idxO (a1.Log) (s222) fun x238 =>
  Option.bind (F_view_label (a0) (x238.From)) fun x239 =>
  cond (!x239)
  (some (Sum.inr (Sum.inr (((↑(List.length (List.map enc_TEvEvent a1.Events)) : Int), (7 : Int))))))
  (Option.bind (F_view_label (a0) (x238.Goal)) fun x241 =>
  cond (!x241)
  (some (Sum.inr (Sum.inr (((↑(List.length (List.map enc_TEvEvent a1.Events)) : Int), (7 : Int))))))
  (cond (decide (x238.Fold < (1 : Int)))
  (some (Sum.inr (Sum.inr (((↑(List.length (List.map enc_TEvEvent a1.Events)) : Int), (6 : Int))))))
  (cond (decide ((4 : Int) < x238.Fold))
  (some (Sum.inr (Sum.inr (((↑(List.length (List.map enc_TEvEvent a1.Events)) : Int), (6 : Int))))))
  (cond (decide (x238.Cells < (0 : Int)))
  (some (Sum.inr (Sum.inr (((↑(List.length (List.map enc_TEvEvent a1.Events)) : Int), (6 : Int))))))
  (cond (decide ((400 : Int) < x238.Cells))
  (some (Sum.inr (Sum.inr (((↑(List.length (List.map enc_TEvEvent a1.Events)) : Int), (6 : Int))))))
  (cond (decide (x238.Site < (0 : Int)))
  (some (Sum.inr (Sum.inr (((↑(List.length (List.map enc_TEvEvent a1.Events)) : Int), (6 : Int))))))
  (cond (decide ((1000000000 : Int) < x238.Site))
  (some (Sum.inr (Sum.inr (((↑(List.length (List.map enc_TEvEvent a1.Events)) : Int), (6 : Int))))))
  (cond (!decide (x238.Value.fst = (1 : Int)))
  (cond (!(decide (x238.Value.fst = (0 : Int)) && (decide (x238.Value.snd = (0 : Int)) && true)))
  (some (Sum.inr (Sum.inr (((↑(List.length (List.map enc_TEvEvent a1.Events)) : Int), (6 : Int))))))
  (letO (IntKind.wrap IntKind.i64 (s222 + (1 : Int))) fun x251 =>
  some (Sum.inl (x251))))
  (letO (IntKind.wrap IntKind.i64 (s222 + (1 : Int))) fun x252 =>
  some (Sum.inl (x252))))))))))))
  (some (Sum.inr (Sum.inl (()))))) ((0 : Int)))
  (Sum.elim (fun (s220 : Unit) =>
  some (((0 : Int), (0 : Int)))) some)) some)))
noncomputable def F_view_asked (a0 : TLattice) (a1 : Int) (a2 : List TEvTrace) : Option (Int) :=
 Option.bind (
  lpO (fun (s202 : Int) =>
  cond (decide (s202 < (↑(List.length (List.map enc_TEvTrace a2)) : Int)))
  (idxO (a2) (s202) fun x208 =>
  Option.bind (F_view_Check (a0) (x208)) fun x209 =>
  cond (!decide (x209.snd = (0 : Int)))
  (some (Sum.inr (Sum.inr (x209.snd))))
  (letO (IntKind.wrap IntKind.i64 (s202 + (1 : Int))) fun x211 =>
  some (Sum.inl (x211))))
  (some (Sum.inr (Sum.inl (()))))) ((0 : Int)))
  (Sum.elim (fun (s200 : Unit) =>
  Option.bind (F_view_label (a0) (a1)) fun x212 =>
  cond (!x212)
  (some ((7 : Int)))
  (some ((0 : Int)))) some)
noncomputable def F_view_seen_api_EvEvent_ (a0 : TLattice) (a1 : Int) (a2 : List TEvEvent) : Option (List TEvEvent × TLattice × Unit × Int) :=
 some ((a2, a0, (), a1))
noncomputable def F_view_events_1 (a0 : TEvEvent) : Option (Int) :=
 some (a0.Label)
noncomputable def F_lattice_asked (a0 : TLattice) (a1 : List Int) : Option (Int) :=
 Option.bind (F_lattice_Check (a0)) fun x226 =>
  cond (!decide (x226.snd = (0 : Int)))
  (some (x226.snd))
  (Option.bind (
  lpO (fun (s230 : Int) =>
  cond (decide (s230 < (↑(List.length (List.map (SV.int IntKind.i64) a1)) : Int)))
  (idxO (a1) (s230) fun x236 =>
  cond (decide (x236 < (0 : Int)))
  (some (Sum.inr (Sum.inr ((7 : Int)))))
  (cond (decide ((↑(List.length (List.map SV.str a0.Names)) : Int) ≤ x236))
  (some (Sum.inr (Sum.inr ((7 : Int)))))
  (letO (IntKind.wrap IntKind.i64 (s230 + (1 : Int))) fun x239 =>
  some (Sum.inl (x239)))))
  (some (Sum.inr (Sum.inl (()))))) ((0 : Int)))
  (Sum.elim (fun (s228 : Unit) =>
  some ((0 : Int))) some))
noncomputable def F_lattice_Leq (a0 : TLattice) (a1 : Int) (a2 : Int) : Option (Bool × Int) :=
 Option.bind (F_lattice_asked (a0) ([a1, a2])) fun x240 =>
  cond (!decide (x240 = (0 : Int)))
  (some ((false, x240)))
  (idxO (a0.Up) (a1) fun x242 =>
  sideO ((0 : Int) ≤ a2) (
  some ((decide (bits BinOp.and IntKind.u8 (Int.fdiv x242 ((2 : Int) ^ min (Int.toNat a2) (IntKind.bits IntKind.u8))) (1 : Int) = (1 : Int)), (0 : Int)))))
noncomputable def F_slices_AppendSeq___api_EvEvent_api_EvEvent_ (a1 : List TEvEvent × TLattice × Unit × Int) : Option (List TEvEvent) :=
 Option.bind (
  lpO (fun (s223 : Int × List TEvEvent) =>
  cond (decide (s223.fst < (↑(List.length (List.map enc_TEvEvent a1.fst)) : Int)))
  (idxO (a1.fst) (s223.fst) fun x239 =>
  Option.bind (F_view_events_1 (x239)) fun x240 =>
  Option.bind (F_lattice_Leq (a1.snd.fst) (x240) (a1.snd.snd.snd)) fun x241 =>
  cond (decide (x241.snd = (0 : Int)))
  (cond (x241.fst)
  (sideO ((List.length (List.map enc_TEvEvent s223.snd) + (1 : Nat)) * (112 : Nat) ≤ (70368744177664 : Nat)) (
  letO (IntKind.wrap IntKind.i64 (s223.fst + (1 : Int))) fun x245 =>
  some (Sum.inl ((x245, s223.snd ++ [x239])))))
  (letO (IntKind.wrap IntKind.i64 (s223.fst + (1 : Int))) fun x246 =>
  some (Sum.inl ((x246, s223.snd)))))
  (letO (IntKind.wrap IntKind.i64 (s223.fst + (1 : Int))) fun x247 =>
  some (Sum.inl ((x247, s223.snd)))))
  (some (Sum.inr (Sum.inl ((decide (s223.fst < (↑(List.length (List.map enc_TEvEvent a1.fst)) : Int)), s223)))))) (((0 : Int), [])))
  (Sum.elim (fun (s221 : Bool × Int × List TEvEvent) =>
  some (s221.snd.snd)) some)
noncomputable def F_slices_Collect_api_EvEvent_ (a0 : List TEvEvent × TLattice × Unit × Int) : Option (List TEvEvent) :=
 Option.bind (F_slices_AppendSeq___api_EvEvent_api_EvEvent_ ((a0.fst, a0.snd.fst, (), a0.snd.snd.snd))) fun x248 =>
  some (x248)
noncomputable def F_view_events (a0 : TLattice) (a1 : TEvTrace) (a2 : Int) : Option (List TEvEvent) :=
 Option.bind (F_view_seen_api_EvEvent_ (a0) (a2) (a1.Events)) fun x219 =>
  Option.bind (F_slices_Collect_api_EvEvent_ ((x219.fst, x219.snd.fst, (), x219.snd.snd.snd))) fun x249 =>
  some (x249)
noncomputable def F_view_same (a0 : TEvEvent) (a1 : TEvEvent) : Option (Bool) :=
 cond (decide (a0.Kind = a1.Kind))
  (cond (decide (a0.Site = a1.Site))
  (cond (decide (a0.Steps = a1.Steps))
  (cond (decide (a0.Label = a1.Label))
  (cond (decide (a0.Channel = a1.Channel))
  (cond (decide (a0.E = a1.E))
  (Option.bind (F_view_sameArray (a0.Value) (a1.Value)) fun x264 =>
  some (x264))
  (some (false)))
  (some (false)))
  (some (false)))
  (some (false)))
  (some (false)))
  (some (false))
noncomputable def F_slices_EqualFunc___api_EvEvent___api_EvEvent_api_EvEvent_api_EvEvent_ (a0 : List TEvEvent) (a1 : List TEvEvent) : Option (Bool) :=
 cond (!decide ((↑(List.length (List.map enc_TEvEvent a0)) : Int) = (↑(List.length (List.map enc_TEvEvent a1)) : Int)))
  (some (false))
  (Option.bind (
  lpO (fun (s255 : Int) =>
  cond (decide (s255 < (↑(List.length (List.map enc_TEvEvent a0)) : Int)))
  (idxO (a0) (s255) fun x262 =>
  idxO (a1) (s255) fun x263 =>
  Option.bind (F_view_same (x262) (x263)) fun x264 =>
  cond (!x264)
  (some (Sum.inr (Sum.inr (false))))
  (letO (IntKind.wrap IntKind.i64 (s255 + (1 : Int))) fun x266 =>
  some (Sum.inl (x266))))
  (some (Sum.inr (Sum.inl (()))))) ((0 : Int)))
  (Sum.elim (fun (s253 : Unit) =>
  some (true)) some))
noncomputable def F_view_Blind (a0 : TLattice) (a1 : TEvTrace) (a2 : TEvTrace) : Option (List Int × Int) :=
 Option.bind (F_lattice_Check (a0)) fun x198 =>
  cond (!decide (x198.snd = (0 : Int)))
  (some (([], x198.snd)))
  (Option.bind (F_view_asked (a0) ((0 : Int)) ([a1, a2])) fun x214 =>
  cond (!decide (x214 = (0 : Int)))
  (some (([], x214)))
  (Option.bind (
  lpO (fun (s218 : Int × List Int) =>
  cond (decide (s218.fst < (↑(List.length (List.map SV.str a0.Names)) : Int)))
  (Option.bind (F_view_events (a0) (a1) (s218.fst)) fun x225 =>
  Option.bind (F_view_events (a0) (a2) (s218.fst)) fun x226 =>
  Option.bind (F_slices_EqualFunc___api_EvEvent___api_EvEvent_api_EvEvent_api_EvEvent_ (x225) (x226)) fun x227 =>
  cond (x227)
  (sideO ((List.length (List.map (SV.int IntKind.i64) s218.snd) + (1 : Nat)) * (8 : Nat) ≤ (70368744177664 : Nat)) (
  letO (IntKind.wrap IntKind.i64 (s218.fst + (1 : Int))) fun x229 =>
  some (Sum.inl ((x229, s218.snd ++ [s218.fst])))))
  (letO (IntKind.wrap IntKind.i64 (s218.fst + (1 : Int))) fun x230 =>
  some (Sum.inl ((x230, s218.snd)))))
  (some (Sum.inr (Sum.inl (s218.snd))))) (((0 : Int), [])))
  (Sum.elim (fun (s216 : List Int) =>
  some ((s216, (0 : Int)))) some)))
noncomputable def F_invigilatorref24_SameArray (a0 : TArray) (a1 : TArray) : Option (Bool) :=
 cond (!decide (a0.Kind = a1.Kind))
  (some (false))
  (cond (!decide (a0.Rank = a1.Rank))
  (some (false))
  (cond (!(decide (a0.Lens.fst = a1.Lens.fst) && (decide (a0.Lens.snd = a1.Lens.snd) && true)))
  (some (false))
  (cond (!decide ((↑(List.length (List.map (SV.int IntKind.i64) a0.Cells)) : Int) = (↑(List.length (List.map (SV.int IntKind.i64) a1.Cells)) : Int)))
  (some (false))
  (Option.bind (
  lpO (fun (s251 : Int) =>
  cond (decide (s251 < (↑(List.length (List.map (SV.int IntKind.i64) a0.Cells)) : Int)))
  (idxO (a0.Cells) (s251) fun x257 =>
  idxO (a1.Cells) (s251) fun x258 =>
  cond (!decide (x257 = x258))
  (some (Sum.inr (Sum.inr (false))))
  (letO (IntKind.wrap IntKind.i64 (s251 + (1 : Int))) fun x260 =>
  some (Sum.inl (x260))))
  (some (Sum.inr (Sum.inl (()))))) ((0 : Int)))
  (Sum.elim (fun (s249 : Unit) =>
  some (true)) some)))))
noncomputable def F_invigilatorref29_SameEvents (a0 : List TEvEvent) (a1 : List TEvEvent) : Option (Bool) :=
 cond (!decide ((↑(List.length (List.map enc_TEvEvent a0)) : Int) = (↑(List.length (List.map enc_TEvEvent a1)) : Int)))
  (some (false))
  (Option.bind (
  lpO (fun (s236 : Int) =>
  cond (decide (s236 < (↑(List.length (List.map enc_TEvEvent a0)) : Int)))
  (idxO (a0) (s236) fun x249 =>
  idxO (a1) (s236) fun x250 =>
  cond (!decide (x249.Kind = x250.Kind))
  (some (Sum.inr (Sum.inr (false))))
  (cond (!decide (x249.Site = x250.Site))
  (some (Sum.inr (Sum.inr (false))))
  (cond (!decide (x249.Steps = x250.Steps))
  (some (Sum.inr (Sum.inr (false))))
  (cond (!decide (x249.Label = x250.Label))
  (some (Sum.inr (Sum.inr (false))))
  (cond (!decide (x249.Channel = x250.Channel))
  (some (Sum.inr (Sum.inr (false))))
  (cond (!decide (x249.E = x250.E))
  (some (Sum.inr (Sum.inr (false))))
  (Option.bind (F_invigilatorref24_SameArray (x249.Value) (x250.Value)) fun x257 =>
  cond (!x257)
  (some (Sum.inr (Sum.inr (false))))
  (letO (IntKind.wrap IntKind.i64 (s236 + (1 : Int))) fun x259 =>
  some (Sum.inl (x259))))))))))
  (some (Sum.inr (Sum.inl (()))))) ((0 : Int)))
  (Sum.elim (fun (s234 : Unit) =>
  some (true)) some))
noncomputable def F_view_Alike (a0 : TLattice) (a1 : TEvTrace) (a2 : TEvTrace) (a3 : Int) : Option (Bool × Int) :=
 Option.bind (F_view_asked (a0) (a3) ([a1, a2])) fun x265 =>
  cond (!decide (x265 = (0 : Int)))
  (some ((false, x265)))
  (Option.bind (F_view_events (a0) (a1) (a3)) fun x267 =>
  Option.bind (F_view_events (a0) (a2) (a3)) fun x268 =>
  Option.bind (F_slices_EqualFunc___api_EvEvent___api_EvEvent_api_EvEvent_api_EvEvent_ (x267) (x268)) fun x269 =>
  some ((x269, (0 : Int))))
noncomputable def F_view_Events (a0 : TLattice) (a1 : TEvTrace) (a2 : Int) : Option (List TEvEvent × Int) :=
 Option.bind (F_view_asked (a0) (a2) ([a1])) fun x271 =>
  cond (!decide (x271 = (0 : Int)))
  (some (([], x271)))
  (Option.bind (F_view_events (a0) (a1) (a2)) fun x273 =>
  some ((x273, (0 : Int))))
noncomputable def F_invigilatorref01_lower (a0 : Int) : Option (Bool) :=
 cond (decide ((97 : Int) ≤ a0))
  (some (decide (a0 ≤ (122 : Int))))
  (some (false))
noncomputable def F_invigilatorref01_digit (a0 : Int) : Option (Bool) :=
 cond (decide ((48 : Int) ≤ a0))
  (some (decide (a0 ≤ (57 : Int))))
  (some (false))
noncomputable def F_invigilatorref01_Name (a0 : List UInt8) : Option (Bool) :=
 cond (decide ((↑(List.length a0) : Int) < (1 : Int)))
  (some (false))
  (cond (decide ((16 : Int) < (↑(List.length a0) : Int)))
  (some (false))
  (idxO (a0) ((0 : Int)) fun x287 =>
  Option.bind (F_invigilatorref01_lower ((↑(UInt8.toNat x287) : Int))) fun x289 =>
  cond (!x289)
  (some (false))
  (Option.bind (
  lpO (fun (s293 : Int) =>
  cond (decide (s293 < (↑(List.length a0) : Int)))
  (idxO (a0) (s293) fun x304 =>
  Option.bind (F_invigilatorref01_lower ((↑(UInt8.toNat x304) : Int))) fun x305 =>
  cond (!x305)
  (idxO (a0) (s293) fun x307 =>
  Option.bind (F_invigilatorref01_digit ((↑(UInt8.toNat x307) : Int))) fun x308 =>
  cond (!x308)
  (idxO (a0) (s293) fun x310 =>
  cond (!decide ((↑(UInt8.toNat x310) : Int) = (45 : Int)))
  (some (Sum.inr (Sum.inr (false))))
  (letO (IntKind.wrap IntKind.i64 (s293 + (1 : Int))) fun x312 =>
  some (Sum.inl (x312))))
  (letO (IntKind.wrap IntKind.i64 (s293 + (1 : Int))) fun x313 =>
  some (Sum.inl (x313))))
  (letO (IntKind.wrap IntKind.i64 (s293 + (1 : Int))) fun x314 =>
  some (Sum.inl (x314))))
  (some (Sum.inr (Sum.inl (()))))) ((0 : Int)))
  (Sum.elim (fun (s291 : Unit) =>
  some (true)) some))))
noncomputable def F_invigilatorref03_names (a0 : List (List UInt8)) : Option (Int × Int) :=
 cond (decide ((↑(List.length (List.map SV.str a0)) : Int) < (1 : Int)))
  (some (((-1 : Int), (3 : Int))))
  (cond (decide ((8 : Int) < (↑(List.length (List.map SV.str a0)) : Int)))
  (some (((-1 : Int), (3 : Int))))
  (Option.bind (
  lpO (fun (s283 : Int) =>
  cond (decide (s283 < (↑(List.length (List.map SV.str a0)) : Int)))
  (idxO (a0) (s283) fun x292 =>
  Option.bind (F_invigilatorref01_Name (x292)) fun x293 =>
  cond (!x293)
  (some (Sum.inr (Sum.inr ((s283, (6 : Int))))))
  (Option.bind (
  lpO (fun (s297 : Int) =>
  cond (decide (s297 < s283))
  (idxO (a0) (s297) fun x303 =>
  idxO (a0) (s283) fun x304 =>
  cond (decide (x303 = x304))
  (some (Sum.inr (Sum.inr (Sum.inr (Sum.inr ((s283, (8 : Int))))))))
  (letO (IntKind.wrap IntKind.i64 (s297 + (1 : Int))) fun x306 =>
  some (Sum.inl (x306))))
  (some (Sum.inr (Sum.inl (()))))) ((0 : Int)))
  (Sum.elim (fun (s295 : Unit) =>
  letO (IntKind.wrap IntKind.i64 (s283 + (1 : Int))) fun x307 =>
  some (Sum.inl (x307))) some)))
  (some (Sum.inr (Sum.inl (()))))) ((0 : Int)))
  (Sum.elim (fun (s281 : Unit) =>
  some (((0 : Int), (0 : Int)))) some)))
noncomputable def F_invigilatorref03_Below (a0 : TLattice) (a1 : Int) (a2 : Int) : Option (Bool) :=
 cond (decide ((0 : Int) ≤ a1))
  (cond (decide (a1 < (↑(List.length (List.map (SV.int IntKind.u8) a0.Up)) : Int)))
  (cond (decide ((0 : Int) ≤ a2))
  (idxO (a0.Up) (a1) fun x320 =>
  sideO ((0 : Int) ≤ a2) (
  some (decide (Int.tmod (Int.fdiv x320 ((2 : Int) ^ min (Int.toNat a2) (IntKind.bits IntKind.u8))) (2 : Int) = (1 : Int)))))
  (some (false)))
  (some (false)))
  (some (false))
noncomputable def F_invigilatorref03_ordered (a0 : TLattice) (a1 : Int) : Option (Bool) :=
 idxO (a0.Up) (a1) fun x314 =>
  letO (IntKind.wrap IntKind.i64 x314) fun x315 =>
  sideO ((0 : Int) ≤ (↑(List.length (List.map SV.str a0.Names)) : Int)) (
  cond (decide ((0 : Int) < Int.fdiv x315 ((2 : Int) ^ min (Int.toNat (↑(List.length (List.map SV.str a0.Names)) : Int)) (IntKind.bits IntKind.i64))))
  (some (false))
  (Option.bind (F_invigilatorref03_Below (a0) (a1) (a1)) fun x321 =>
  cond (!x321)
  (some (false))
  (Option.bind (
  lpO (fun (s325 : Int) =>
  cond (decide (s325 < (↑(List.length (List.map SV.str a0.Names)) : Int)))
  (Option.bind (F_invigilatorref03_Below (a0) (a1) (s325)) fun x339 =>
  cond (!x339)
  (letO (IntKind.wrap IntKind.i64 (s325 + (1 : Int))) fun x341 =>
  some (Sum.inl (x341)))
  (idxO (a0.Up) (s325) fun x342 =>
  letO (IntKind.wrap IntKind.i64 x342) fun x343 =>
  sideO ((0 : Int) ≤ (↑(List.length (List.map SV.str a0.Names)) : Int)) (
  letO (IntKind.wrap IntKind.i64 ((1 : Int) * (2 : Int) ^ min (Int.toNat (↑(List.length (List.map SV.str a0.Names)) : Int)) (IntKind.bits IntKind.i64))) fun x344 =>
  letO (IntKind.wrap IntKind.i64 (x344 - (1 : Int))) fun x345 =>
  cond (!decide (s325 = a1))
  (Option.bind (F_invigilatorref03_Below (a0) (s325) (a1)) fun x347 =>
  cond (x347)
  (some (Sum.inr (Sum.inr (false))))
  (cond (!decide (bits BinOp.and IntKind.i64 (bits BinOp.and IntKind.i64 x343 x345) x315 = bits BinOp.and IntKind.i64 x343 x345))
  (some (Sum.inr (Sum.inr (false))))
  (letO (IntKind.wrap IntKind.i64 (s325 + (1 : Int))) fun x350 =>
  some (Sum.inl (x350)))))
  (cond (!decide (bits BinOp.and IntKind.i64 (bits BinOp.and IntKind.i64 x343 x345) x315 = bits BinOp.and IntKind.i64 x343 x345))
  (some (Sum.inr (Sum.inr (false))))
  (letO (IntKind.wrap IntKind.i64 (s325 + (1 : Int))) fun x352 =>
  some (Sum.inl (x352)))))))
  (some (Sum.inr (Sum.inl (()))))) ((0 : Int)))
  (Sum.elim (fun (s323 : Unit) =>
  some (true)) some))))
noncomputable def F_invigilatorref03_downs (a0 : TLattice) : Option (List Int) :=
 sideO ((0 : Int) ≤ (↑(List.length (List.map SV.str a0.Names)) : Int) ∧ (↑(List.length (List.map SV.str a0.Names)) : Int) = (↑(List.length (List.map SV.str a0.Names)) : Int) ∧ (↑(List.length (List.map SV.str a0.Names)) : Int) ≤ (70368744177664 : Int) ∧ (↑(List.length (List.map SV.str a0.Names)) : Int) * (↑(1 : Nat) : Int) ≤ (70368744177664 : Int)) (
  Option.bind (
  lpO (fun (s323 : Int × List Int) =>
  cond (decide (s323.fst < (↑(List.length (List.map SV.str a0.Names)) : Int)))
  (Option.bind (
  lpO (fun (s342 : Int × List Int) =>
  cond (decide (s342.fst < (↑(List.length (List.map SV.str a0.Names)) : Int)))
  (Option.bind (F_invigilatorref03_Below (a0) (s323.fst) (s342.fst)) fun x350 =>
  cond (x350)
  (sideO ((0 : Int) ≤ s342.fst ∧ s342.fst < (↑(List.length (List.map (SV.int IntKind.u8) s342.snd)) : Int)) (
  idxO (s342.snd) ((↑(Int.toNat s342.fst) : Int)) fun x352 =>
  sideO ((0 : Int) ≤ s323.fst) (
  letO (IntKind.wrap IntKind.u8 ((1 : Int) * (2 : Int) ^ min (Int.toNat s323.fst) (IntKind.bits IntKind.u8))) fun x353 =>
  sideO ((0 : Int) ≤ s342.fst ∧ s342.fst < (↑(List.length (List.map (SV.int IntKind.u8) s342.snd)) : Int)) (
  idxO (s342.snd) ((↑(Int.toNat s342.fst) : Int)) fun x354 =>
  letO (IntKind.wrap IntKind.i64 (s342.fst + (1 : Int))) fun x355 =>
  some (Sum.inl ((x355, List.set s342.snd (Int.toNat s342.fst) (bits BinOp.or IntKind.u8 x352 x353))))))))
  (letO (IntKind.wrap IntKind.i64 (s342.fst + (1 : Int))) fun x356 =>
  some (Sum.inl ((x356, s342.snd)))))
  (some (Sum.inr (Sum.inl (s342.snd))))) (((0 : Int), s323.snd)))
  (Sum.elim (fun (s340 : List Int) =>
  letO (IntKind.wrap IntKind.i64 (s323.fst + (1 : Int))) fun x357 =>
  some (Sum.inl ((x357, s340)))) some))
  (some (Sum.inr (Sum.inl (s323.snd))))) (((0 : Int), List.replicate (Int.toNat (↑(List.length (List.map SV.str a0.Names)) : Int)) (0 : Int))))
  (Sum.elim (fun (s321 : List Int) =>
  some (s321)) some))
noncomputable def F_invigilatorref03_nearest (a0 : List Int) (a1 : Int) (a2 : Int) : Option (Int) :=
 idxO (a0) (a1) fun x364 =>
  idxO (a0) (a2) fun x365 =>
  Option.bind (
  lpO (fun (s368 : Int) =>
  cond (decide (s368 < (↑(List.length (List.map (SV.int IntKind.u8) a0)) : Int)))
  (idxO (a0) (s368) fun x373 =>
  cond (decide (x373 = bits BinOp.and IntKind.u8 x364 x365))
  (some (Sum.inr (Sum.inr (s368))))
  (letO (IntKind.wrap IntKind.i64 (s368 + (1 : Int))) fun x375 =>
  some (Sum.inl (x375))))
  (some (Sum.inr (Sum.inl (()))))) ((0 : Int)))
  (Sum.elim (fun (s366 : Unit) =>
  some ((-1 : Int))) some)
noncomputable def F_invigilatorref03_Check (a0 : TLattice) : Option (Int × Int) :=
 Option.bind (F_invigilatorref03_names (a0.Names)) fun x308 =>
  cond (!decide (x308.snd = (0 : Int)))
  (some (x308))
  (cond (!decide ((↑(List.length (List.map (SV.int IntKind.u8) a0.Up)) : Int) = (↑(List.length (List.map SV.str a0.Names)) : Int)))
  (some (((-1 : Int), (6 : Int))))
  (Option.bind (
  lpO (fun (s313 : Int) =>
  cond (decide (s313 < (↑(List.length (List.map SV.str a0.Names)) : Int)))
  (Option.bind (F_invigilatorref03_ordered (a0) (s313)) fun x318 =>
  cond (!x318)
  (some (Sum.inr (Sum.inr ((s313, (6 : Int))))))
  (letO (IntKind.wrap IntKind.i64 (s313 + (1 : Int))) fun x320 =>
  some (Sum.inl (x320))))
  (some (Sum.inr (Sum.inl (()))))) ((0 : Int)))
  (Sum.elim (fun (s311 : Unit) =>
  Option.bind (F_invigilatorref03_downs (a0)) fun x358 =>
  Option.bind (
  lpO (fun (s361 : Int) =>
  cond (decide (s361 < (↑(List.length (List.map SV.str a0.Names)) : Int)))
  (Option.bind (
  lpO (fun (s379 : Int) =>
  cond (decide (s379 < (↑(List.length (List.map SV.str a0.Names)) : Int)))
  (Option.bind (F_invigilatorref03_nearest (a0.Up) (s361) (s379)) fun x386 =>
  cond (decide (x386 < (0 : Int)))
  (some (Sum.inr (Sum.inr (Sum.inr (Sum.inr ((s361, (4 : Int))))))))
  (Option.bind (F_invigilatorref03_nearest (x358) (s361) (s379)) fun x388 =>
  cond (decide (x388 < (0 : Int)))
  (some (Sum.inr (Sum.inr (Sum.inr (Sum.inr ((s361, (4 : Int))))))))
  (letO (IntKind.wrap IntKind.i64 (s379 + (1 : Int))) fun x390 =>
  some (Sum.inl (x390)))))
  (some (Sum.inr (Sum.inl (()))))) ((0 : Int)))
  (Sum.elim (fun (s377 : Unit) =>
  letO (IntKind.wrap IntKind.i64 (s361 + (1 : Int))) fun x391 =>
  some (Sum.inl (x391))) some))
  (some (Sum.inr (Sum.inl (()))))) ((0 : Int)))
  (Sum.elim (fun (s359 : Unit) =>
  some (((0 : Int), (0 : Int)))) some)) some)))
noncomputable def F_invigilatorref03_asked (a0 : TLattice) (a1 : Int) (a2 : Int) : Option (Int) :=
 Option.bind (F_invigilatorref03_Check (a0)) fun x392 =>
  cond (decide (x392.snd = (0 : Int)))
  (cond (decide (a1 < (0 : Int)))
  (some ((7 : Int)))
  (cond (decide ((↑(List.length (List.map SV.str a0.Names)) : Int) ≤ a1))
  (some ((7 : Int)))
  (cond (decide (a2 < (0 : Int)))
  (some ((7 : Int)))
  (cond (decide ((↑(List.length (List.map SV.str a0.Names)) : Int) ≤ a2))
  (some ((7 : Int)))
  (some (x392.snd))))))
  (some (x392.snd))
noncomputable def F_invigilatorref03_Leq (a0 : TLattice) (a1 : Int) (a2 : Int) : Option (Bool × Int) :=
 Option.bind (F_invigilatorref03_asked (a0) (a1) (a2)) fun x398 =>
  cond (decide (x398 = (0 : Int)))
  (Option.bind (F_invigilatorref03_Below (a0) (a1) (a2)) fun x400 =>
  some ((x400, x398)))
  (some ((false, x398)))
noncomputable def F_invigilatorlaw31_leq (a0 : TLattice) (a1 : Int) (a2 : Int) : Option (Bool) :=
 Option.bind (F_invigilatorref03_Leq (a0) (a1) (a2)) fun x401 =>
  cond (decide (x401.snd = (0 : Int)))
  (some (x401.fst))
  (some (false))
noncomputable def F_invigilatorlaw31_ViewMore (a0 : TLattice) (a1 : TEvTrace × TEvTrace) : Option (Bool) :=
 Option.bind (F_invigilatorlaw20_Large (a0)) fun x13 =>
  cond (x13)
  (some (true))
  (Option.bind (F_invigilatorlaw31_far (a1.fst)) fun x31 =>
  cond (x31)
  (some (true))
  (Option.bind (F_invigilatorlaw31_far (a1.snd)) fun x33 =>
  cond (x33)
  (some (true))
  (Option.bind (F_view_Blind (a0) (a1.fst) (a1.snd)) fun x231 =>
  cond (!decide (x231.snd = (0 : Int)))
  (some (true))
  (Option.bind (F_invigilatorref29_SameEvents (a1.fst.Events) (a1.snd.Events)) fun x260 =>
  cond (!decide ((↑(List.length (List.map (SV.int IntKind.i64) x231.fst)) : Int) = (↑(List.length (List.map SV.str a0.Names)) : Int)) == x260)
  (some (false))
  (Option.bind (
  lpO (fun (s264 : Int) =>
  cond (decide (s264 < (↑(List.length (List.map SV.str a0.Names)) : Int)))
  (Option.bind (F_view_Alike (a0) (a1.fst) (a1.snd) (s264)) fun x362 =>
  Option.bind (F_view_Events (a0) (a1.fst) (s264)) fun x363 =>
  cond (!decide (x362.snd = (0 : Int)))
  (some (Sum.inr (Sum.inr (false))))
  (cond (!decide (x363.snd = (0 : Int)))
  (some (Sum.inr (Sum.inr (false))))
  (Option.bind (
  lpO (fun (s368 : Int) =>
  cond (decide (s368 < (↑(List.length (List.map SV.str a0.Names)) : Int)))
  (Option.bind (F_invigilatorlaw31_leq (a0) (s368) (s264)) fun x413 =>
  cond (!x413)
  (letO (IntKind.wrap IntKind.i64 (s368 + (1 : Int))) fun x415 =>
  some (Sum.inl (x415)))
  (Option.bind (F_view_Alike (a0) (a1.fst) (a1.snd) (s368)) fun x416 =>
  Option.bind (F_view_Events (a0) (a1.fst) (s368)) fun x417 =>
  cond (!decide (x416.snd = (0 : Int)))
  (some (Sum.inr (Sum.inr (Sum.inr (Sum.inr (false))))))
  (cond (!decide (x417.snd = (0 : Int)))
  (some (Sum.inr (Sum.inr (Sum.inr (Sum.inr (false))))))
  (cond (x362.fst)
  (cond (!x416.fst)
  (some (Sum.inr (Sum.inr (Sum.inr (Sum.inr (false))))))
  (Option.bind (
  lpO (fun (s424 : Int × List TEvEvent) =>
  cond (decide (s424.fst < (↑(List.length (List.map enc_TEvEvent x363.fst)) : Int)))
  (idxO (x363.fst) (s424.fst) fun x431 =>
  Option.bind (F_invigilatorlaw31_leq (a0) (x431.Label) (s368)) fun x432 =>
  cond (x432)
  (idxO (x363.fst) (s424.fst) fun x434 =>
  sideO ((List.length (List.map enc_TEvEvent s424.snd) + (1 : Nat)) * (112 : Nat) ≤ (70368744177664 : Nat)) (
  letO (IntKind.wrap IntKind.i64 (s424.fst + (1 : Int))) fun x435 =>
  some (Sum.inl ((x435, s424.snd ++ [x434])))))
  (letO (IntKind.wrap IntKind.i64 (s424.fst + (1 : Int))) fun x436 =>
  some (Sum.inl ((x436, s424.snd)))))
  (some (Sum.inr (Sum.inl (s424.snd))))) (((0 : Int), [])))
  (Sum.elim (fun (s422 : List TEvEvent) =>
  Option.bind (F_invigilatorref29_SameEvents (s422) (x417.fst)) fun x437 =>
  cond (!x437)
  (some (Sum.inr (Sum.inr (Sum.inr (Sum.inr (false))))))
  (letO (IntKind.wrap IntKind.i64 (s368 + (1 : Int))) fun x439 =>
  some (Sum.inl (x439)))) some)))
  (Option.bind (
  lpO (fun (s442 : Int × List TEvEvent) =>
  cond (decide (s442.fst < (↑(List.length (List.map enc_TEvEvent x363.fst)) : Int)))
  (idxO (x363.fst) (s442.fst) fun x449 =>
  Option.bind (F_invigilatorlaw31_leq (a0) (x449.Label) (s368)) fun x450 =>
  cond (x450)
  (idxO (x363.fst) (s442.fst) fun x452 =>
  sideO ((List.length (List.map enc_TEvEvent s442.snd) + (1 : Nat)) * (112 : Nat) ≤ (70368744177664 : Nat)) (
  letO (IntKind.wrap IntKind.i64 (s442.fst + (1 : Int))) fun x453 =>
  some (Sum.inl ((x453, s442.snd ++ [x452])))))
  (letO (IntKind.wrap IntKind.i64 (s442.fst + (1 : Int))) fun x454 =>
  some (Sum.inl ((x454, s442.snd)))))
  (some (Sum.inr (Sum.inl (s442.snd))))) (((0 : Int), [])))
  (Sum.elim (fun (s440 : List TEvEvent) =>
  Option.bind (F_invigilatorref29_SameEvents (s440) (x417.fst)) fun x455 =>
  cond (!x455)
  (some (Sum.inr (Sum.inr (Sum.inr (Sum.inr (false))))))
  (letO (IntKind.wrap IntKind.i64 (s368 + (1 : Int))) fun x457 =>
  some (Sum.inl (x457)))) some))))))
  (some (Sum.inr (Sum.inl (()))))) ((0 : Int)))
  (Sum.elim (fun (s366 : Unit) =>
  letO (IntKind.wrap IntKind.i64 (s264 + (1 : Int))) fun x458 =>
  some (Sum.inl (x458))) some))))
  (some (Sum.inr (Sum.inl (()))))) ((0 : Int)))
  (Sum.elim (fun (s262 : Unit) =>
  some (true)) some))))))
end Go.Sx.O
namespace Go.Sx.O
open Go
theorem Large_spec (l : TLattice) : Tot (F_invigilatorlaw20_Large l) fun r => r = false → l.Names.length ≤ 20 ∧ l.Up.length ≤ 20 ∧ ∀ s ∈ l.Names, s.length ≤ 50 := by
  unfold F_invigilatorlaw20_Large
  simp only [tot_bind, List.length_map]
  refine Tot.count l.Names.length (fun k s => s = (k : Int) ∧ k ≤ 30 ∧ ∀ x ∈ l.Names.take k, x.length ≤ 50) ?_ ⟨rfl, by omega, by simp⟩
  rintro k _ hk ⟨rfl, h30, hall⟩
  simp only [tot_some, tot_cond, tot_let, tot_idx, Sum.elim_inl, Sum.elim_inr, decide_eq_true_eq, decide_eq_false_iff_not, Int.toNat_natCast]
  refine ⟨fun h1 => ⟨fun h2 => ⟨by omega, _, List.getElem?_eq_getElem (by omega), fun h3 => by simp, fun h3 => ?_⟩, fun h2 => ?_⟩, fun h1 => ?_⟩
  · rw [w64 (by omega) (by omega)]
    refine ⟨by omega, by omega, by omega, fun x hx => ?_⟩
    rw [List.take_add_one, List.getElem?_eq_getElem (by omega)] at hx
    rcases List.mem_append.1 hx with hx | hx
    · exact hall x hx
    · simp at hx; subst hx; omega
  · refine ⟨fun h => by simp, fun h hh => ?_⟩
    simp at hh
    omega
  · refine ⟨fun h => by simp, fun h hh => ?_⟩
    simp at hh
    refine ⟨by omega, by omega, ?_⟩
    rw [List.take_of_length_le (by omega)] at hall
    exact hall
theorem far_spec (t : TEvTrace) : Tot (F_invigilatorlaw31_far t) fun r => r = false → t.Events.length ≤ 60 ∧ t.Log.length ≤ 60 ∧ ∀ v ∈ t.Events, v.Channel.length ≤ 100 ∧ v.Value.Cells.length ≤ 450 := by
  unfold F_invigilatorlaw31_far
  simp only [tot_bind, List.length_map]
  refine Tot.count t.Events.length (fun k s => s = (k : Int) ∧ k ≤ 70 ∧ ∀ v ∈ t.Events.take k, v.Channel.length ≤ 100 ∧ v.Value.Cells.length ≤ 450) ?_ ⟨rfl, by omega, by simp⟩
  rintro k _ hk ⟨rfl, h30, hall⟩
  simp only [tot_some, tot_cond, tot_let, tot_idx, Sum.elim_inl, Sum.elim_inr, decide_eq_true_eq, decide_eq_false_iff_not, Int.toNat_natCast]
  refine ⟨fun h1 => ⟨fun h2 => ⟨by omega, _, List.getElem?_eq_getElem (by omega), fun h3 => by simp, fun h3 => ⟨by omega, _, List.getElem?_eq_getElem (by omega), fun h4 => by simp, fun h4 => ?_⟩⟩, fun h2 => ?_⟩, fun h1 => ?_⟩
  · rw [w64 (by omega) (by omega)]
    refine ⟨by omega, by omega, by omega, fun x hx => ?_⟩
    rw [List.take_add_one, List.getElem?_eq_getElem (by omega)] at hx
    rcases List.mem_append.1 hx with hx | hx
    · exact hall x hx
    · simp at hx; subst hx; omega
  · refine ⟨fun h => by simp, fun h hh => ?_⟩
    simp at hh
    omega
  · refine ⟨fun h => by simp, fun h hh => ?_⟩
    simp at hh
    refine ⟨by omega, by omega, ?_⟩
    rw [List.take_of_length_le (by omega)] at hall
    exact hall
theorem find_loop {α τ : Type} {l : List α} (p : α → Bool) {step : Int → Option (Int ⊕ τ)} {d : τ} {g : Int → τ}
    (h1 : ∀ (k : Nat) x, l[k]? = some x → step (k : Int) = if p x then some (.inr (g k)) else some (.inl ((k : Int) + 1)))
    (h2 : step (l.length : Int) = some (.inr d)) :
    lpO step 0 = (match l.findIdx? p with | some i => some (g i) | none => some d) := by
  have key : ∀ j k, j + k = l.length → lpO step (k : Int) = (match (l.drop k).findIdx? p with | some i => some (g ((k + i : Nat) : Int)) | none => some d) := by
    intro j
    induction j with
    | zero =>
      intro k hk
      rw [lpO_eq]
      have : k = l.length := by omega
      subst this
      rw [h2]
      simp
    | succ j ih =>
      intro k hk
      have hlt : k < l.length := by omega
      rw [lpO_eq, h1 k _ (List.getElem?_eq_getElem hlt), List.drop_eq_getElem_cons hlt, List.findIdx?_cons]
      split
      · simp
      · have := ih (k + 1) (by omega)
        simp only [Option.bind_some, Sum.elim_inl]
        push_cast at this
        rw [this]
        cases (l.drop (k + 1)).findIdx? p with
        | none => rfl
        | some i => simp; congr 1; omega
  have := key l.length 0 (by omega)
  simpa using this
end Go.Sx.O
namespace Go.Sx.O
open Go
theorem dropWhile_nil {α : Type} {p : α → Bool} : ∀ {l : List α}, l.dropWhile p = [] ↔ ∀ x ∈ l, p x = true
  | [] => by simp
  | a :: l => by
    rw [List.dropWhile_cons]
    cases h : p a with
    | true => simp [h, dropWhile_nil (l := l)]
    | false => simp [h]
theorem Index_strings_spec (l : List (List UInt8)) (s : List UInt8) (hl : l.length ≤ 1000000000) :
    F_slices_Index___string_string_ l s = some (match l.findIdx? (fun x => decide (s = x)) with | some i => (i : Int) | none => -1) := by
  unfold F_slices_Index___string_string_
  rw [find_loop (l := l) (fun x => decide (s = x)) (d := .inl ()) (g := .inr) ?_ ?_]
  · cases l.findIdx? (fun x => decide (s = x)) <;> rfl
  · intro k x hx
    have hlt : k < l.length := by
      by_cases h : k < l.length
      · exact h
      · rw [List.getElem?_eq_none (by omega)] at hx; cases hx
    simp only [List.length_map, Int.ofNat_lt, hlt, decide_true, cond_true, idxO, Int.toNat_natCast, hx, Option.bind_some, letO, Int.natCast_nonneg, if_true]
    rw [w64 (by omega) (by omega)]
    cases decide (s = x) <;> rfl
  · simp
theorem Contains_strings_spec (l : List (List UInt8)) (s : List UInt8) (hl : l.length ≤ 1000000000) :
    F_slices_Contains___string_string_ l s = some (decide (s ∈ l)) := by
  unfold F_slices_Contains___string_string_
  rw [Index_strings_spec l s hl]
  cases h : l.findIdx? (fun x => decide (s = x)) with
  | none =>
    have := List.findIdx?_eq_none_iff.1 h
    simp only [Option.bind_some]
    congr 1
    have hn : s ∉ l := fun hm => by have := this s hm; simp at this
    simp [hn]
  | some i =>
    have := List.findIdx?_eq_some_iff_getElem.1 h
    obtain ⟨hi, h1, _⟩ := this
    have hm : s ∈ l := by
      have e : s = l[i] := by simpa using h1
      rw [e]; exact List.getElem_mem hi
    simp [hm]
def inSet (set : List Bool) (c : UInt8) : Bool := set.getD c.toNat false
theorem contains_spec (set : List Bool) (c : UInt8) (h : set.length = 256) : F__Pstrings_asciiSet__contains set (c.toNat : Int) = some (inSet set c) := by
  unfold F__Pstrings_asciiSet__contains
  have hc : c.toNat < 256 := c.toNat_lt
  have h2 : set[c.toNat]? = some (set[c.toNat]'(by omega)) := List.getElem?_eq_getElem _
  have h3 : (c.toNat : Int) < 256 := by omega
  simp [sideO, idxO, inSet, h2, h3]
def trimR (p : UInt8 → Bool) (s : List UInt8) : List UInt8 := (s.reverse.dropWhile p).reverse
theorem trimR_all {p : UInt8 → Bool} {s : List UInt8} : (trimR p s).dropWhile p = [] ↔ ∀ c ∈ s, p c = true := by
  unfold trimR
  constructor
  · intro h c hc
    have h1 : ∀ c ∈ (s.reverse.dropWhile p).reverse, p c = true := dropWhile_nil.1 h
    have h2 : s.reverse.dropWhile p = [] := by
      cases e : s.reverse.dropWhile p with
      | nil => rfl
      | cons a r =>
        have := List.head?_dropWhile_not p s.reverse
        rw [e] at this
        simp at this
        rw [e] at h1
        rw [h1 a (by simp)] at this
        cases this
    exact dropWhile_nil.1 h2 c (by simpa using hc)
  · intro h
    have : s.reverse.dropWhile p = [] := dropWhile_nil.2 fun c hc => h c (by simpa using hc)
    rw [this]; rfl
theorem trimRightASCII_spec (s : List UInt8) (set : List Bool) (h : set.length = 256) (hs : s.length ≤ 1000000000) : F_strings_trimRightASCII s set = some (trimR (inSet set) s) := by
  unfold F_strings_trimRightASCII
  apply Tot.eq
  simp only [tot_bind]
  refine Tot.loop (fun s => s.length) (fun r => r.length ≤ 1000000000 ∧ trimR (inSet set) r = trimR (inSet set) s) ?_ ⟨hs, rfl⟩
  rintro r ⟨hr, he⟩
  simp only [tot_some, tot_cond, tot_let, tot_idx, tot_side, tot_bind, Sum.elim_inl, Sum.elim_inr, decide_eq_true_eq, decide_eq_false_iff_not]
  refine ⟨fun h1 => ?_, fun h1 => ?_⟩
  · have h0 : r ≠ [] := by rintro rfl; simp at h1
    rw [w64 (by omega) (by omega)]
    have e1 : ((r.length : Int) - 1).toNat = r.length - 1 := by omega
    rw [e1]
    refine ⟨by omega, _, List.getElem?_eq_getElem (by omega), ?_⟩
    rw [contains_spec set _ h]
    simp only [tot_some, Bool.not_eq_true', Bool.not_eq_false']
    have hr2 : r = r.dropLast ++ [r[r.length - 1]'(by omega)] := by
      rw [← List.getLast_eq_getElem h0]; exact (List.dropLast_concat_getLast h0).symm
    refine ⟨fun h2 => ?_, fun h2 => ⟨⟨by omega, by omega⟩, ⟨by simp; omega, ?_⟩, by simp; omega⟩⟩
    · rw [← he]
      unfold trimR
      rw [hr2]
      simp [h2]
    · rw [← he]
      simp only [Int.toNat_zero, List.drop_zero]
      rw [← List.dropLast_eq_take]
      conv => rhs; rw [hr2]
      unfold trimR
      simp [h2]
  · have h0 : r = [] := List.length_eq_zero_iff.1 (by omega)
    rw [← he, h0]; rfl
theorem trimLeftASCII_spec (s : List UInt8) (set : List Bool) (h : set.length = 256) (hs : s.length ≤ 1000000000) : F_strings_trimLeftASCII s set = some (s.dropWhile (inSet set)) := by
  unfold F_strings_trimLeftASCII
  apply Tot.eq
  simp only [tot_bind]
  refine Tot.loop (fun s => s.length) (fun r => r.length ≤ 1000000000 ∧ r.dropWhile (inSet set) = s.dropWhile (inSet set)) ?_ ⟨hs, rfl⟩
  rintro r ⟨hr, he⟩
  simp only [tot_some, tot_cond, tot_let, tot_idx, tot_side, tot_bind, Sum.elim_inl, Sum.elim_inr, decide_eq_true_eq, decide_eq_false_iff_not]
  cases r with
  | nil => simp [← he]
  | cons a r =>
    refine ⟨fun h1 => ⟨by omega, a, rfl, ?_⟩, fun h1 => absurd h1 (by simp)⟩
    rw [contains_spec set _ h]
    simp only [tot_some, Bool.not_eq_true', Bool.not_eq_false']
    refine ⟨fun h2 => ?_, fun h2 => ⟨by simp; omega, ⟨?_, ?_⟩, ?_⟩⟩
    · rw [← he]; simp [h2]
    · simp at hr ⊢; omega
    · rw [← he]; simp [h2]
    · simp
end Go.Sx.O
namespace Go.Sx.O
open Go
theorem inSet_set {set : List Bool} {c d : UInt8} (h : set.length = 256) : inSet (set.set c.toNat true) d = (decide (d = c) || inSet set d) := by
  have hc : c.toNat < 256 := c.toNat_lt
  unfold inSet
  rw [List.getD_eq_getElem?_getD, List.getD_eq_getElem?_getD, List.getElem?_set]
  by_cases e : c.toNat = d.toNat
  · have : d = c := (UInt8.toNat_inj.1 e).symm
    subst this
    simp [h, hc]
  · have : d ≠ c := fun e' => e (by rw [e'])
    simp [e, this]
theorem makeASCIISet_spec (cs : List UInt8) (h : ∀ c ∈ cs, c.toNat < 128) (hs : cs.length ≤ 1000000000) : Tot (F_strings_makeASCIISet cs) fun r => r.2 = true ∧ r.1.length = 256 ∧ ∀ d, inSet r.1 d = decide (d ∈ cs) := by
  unfold F_strings_makeASCIISet
  simp only [tot_bind]
  refine Tot.count cs.length (fun k s => s.1 = (k : Int) ∧ s.2.length = 256 ∧ ∀ d, inSet s.2 d = decide (d ∈ cs.take k)) ?_ ⟨rfl, List.length_replicate, fun d => ?_⟩
  · rintro k ⟨i, set⟩ hk ⟨h0, h1, h2⟩
    simp only at h0 h1 h2
    subst h0
    simp only [tot_some, tot_cond, tot_let, tot_idx, tot_side, Sum.elim_inl, Sum.elim_inr, decide_eq_true_eq, decide_eq_false_iff_not, Int.toNat_natCast]
    refine ⟨fun hlt => ⟨by omega, _, List.getElem?_eq_getElem (by omega), fun h3 => ?_, fun h3 => ?_⟩, fun hlt => ?_⟩
    · have := h cs[k] (List.getElem_mem _)
      omega
    · have hc : cs[k].toNat < 256 := (cs[k]'(by omega)).toNat_lt
      refine ⟨⟨by omega, by omega⟩, by omega, _, List.getElem?_eq_getElem (by omega), ?_⟩
      rw [w64 (by omega) (by omega)]
      refine ⟨by omega, by omega, by simpa using h1, fun d => ?_⟩
      have hm : d ∈ cs.take (k + 1) ↔ d ∈ cs.take k ∨ d = cs[k] := by
        rw [List.take_add_one, List.getElem?_eq_getElem (by omega), List.mem_append]
        simp
      rw [inSet_set h1, h2, Bool.eq_iff_iff]
      simp only [Bool.or_eq_true, decide_eq_true_eq, hm]
      exact or_comm
    · refine ⟨trivial, h1, fun d => ?_⟩
      rw [h2, List.take_of_length_le (by omega)]
  · unfold inSet
    rw [List.getD_eq_getElem?_getD, List.getElem?_replicate]
    split <;> simp
theorem Trim_spec (s cs : List UInt8) (h : ∀ c ∈ cs, c.toNat < 128) (h1 : 2 ≤ cs.length) (hs : cs.length ≤ 1000000000) (hl : s.length ≤ 1000000000) :
    F_strings_Trim s cs = some ((trimR (fun c => decide (c ∈ cs)) s).dropWhile (fun c => decide (c ∈ cs))) := by
  unfold F_strings_Trim
  have e0 : (ByteArray.mk #[]).data.toList = [] := rfl
  simp only [e0]
  cases s with
  | nil => simp [trimR]
  | cons a r =>
    have e1 : decide (a :: r = []) = false := by simp
    have e2 : decide (cs = []) = false := by cases cs <;> simp at h1 ⊢
    have e3 : decide ((cs.length : Int) = 1) = false := by simp; omega
    simp only [e1, e2, e3, cond_false]
    obtain ⟨x, hx, hx1, hx2, hx3⟩ := makeASCIISet_spec cs h hs
    have e4 : inSet x.1 = fun c => decide (c ∈ cs) := funext hx3
    rw [hx]
    simp only [Option.bind_some, hx1, cond_true]
    rw [trimRightASCII_spec _ _ hx2 hl]
    simp only [Option.bind_some]
    rw [trimLeftASCII_spec _ _ hx2 (by
      refine Nat.le_trans ?_ hl
      unfold trimR
      rw [List.length_reverse]
      refine Nat.le_trans (List.dropWhile_sublist _).length_le (by simp))]
    rw [e4]
    rfl
def wordSet : List UInt8 := [97, 98, 99, 100, 101, 102, 103, 104, 105, 106, 107, 108, 109, 110, 111, 112, 113, 114, 115, 116, 117, 118, 119, 120, 121, 122, 48, 49, 50, 51, 52, 53, 54, 55, 56, 57, 45]
def wname (s : List UInt8) : Bool := decide (s.length ≤ 16) && (match s with | [] => false | c :: _ => decide (97 ≤ c.toNat) && decide (c.toNat ≤ 122)) && s.all fun c => decide (c ∈ wordSet)
theorem Name_spec (s : List UInt8) (hl : s.length ≤ 1000000000) : F_words_Name s = some (wname s) := by
  unfold F_words_Name
  have e0 : (ByteArray.mk #[]).data.toList = [] := rfl
  simp only [e0]
  rw [Trim_spec s _ (by decide) (by decide) (by decide) hl]
  cases s with
  | nil => rfl
  | cons a r =>
    have e1 : decide (a :: r = []) = false := by simp
    simp only [e1, cond_false, Option.bind_some]
    have e5 : idxO (a :: r) 0 = fun f => (f a : Option Bool) := rfl
    simp only [e5]
    unfold wname
    by_cases h1 : (16 : Int) < ((a :: r).length : Int)
    · have : ¬ (a :: r).length ≤ 16 := by omega
      simp only [h1, decide_true, cond_true, this, decide_false, Bool.false_and]
    · have h1' : (a :: r).length ≤ 16 := by omega
      simp only [h1, decide_false, cond_false, h1', decide_true, Bool.true_and]
      by_cases h2 : (a.toNat : Int) < 97
      · have : ¬ 97 ≤ a.toNat := by omega
        simp only [h2, decide_true, cond_true, this, decide_false, Bool.false_and]
      · have h2' : 97 ≤ a.toNat := by omega
        simp only [h2, decide_false, cond_false, h2', decide_true, Bool.true_and]
        by_cases h3 : (122 : Int) < (a.toNat : Int)
        · have : ¬ a.toNat ≤ 122 := by omega
          simp only [h3, decide_true, cond_true, this, decide_false, Bool.false_and]
        · have h3' : a.toNat ≤ 122 := by omega
          simp only [h3, decide_false, cond_false, h3', decide_true, Bool.true_and]
          congr 1
          rw [Bool.eq_iff_iff, decide_eq_true_eq, trimR_all, List.all_eq_true]
          rfl
end Go.Sx.O
namespace Go.Sx.O
open Go
theorem bit_at : ∀ u : Fin 256, ∀ b : Fin 9, bits .and .u8 (Int.fdiv (u.val : Int) (2 ^ min b.val (IntKind.bits .u8))) 1 = if Nat.testBit u b then 1 else 0 := by decide +kernel
theorem bitAt {u : Int} {b : Nat} (h0 : 0 ≤ u) (h1 : u < 256) (hb : b ≤ 8) : bits .and .u8 (Int.fdiv u (2 ^ min b (IntKind.bits .u8))) 1 = if u.toNat.testBit b then 1 else 0 := by
  have := bit_at ⟨u.toNat, by omega⟩ ⟨b, by omega⟩
  simp only at this
  rw [Int.toNat_of_nonneg h0] at this
  exact this
theorem ofInt_u8 {u : Int} (h0 : 0 ≤ u) : BitVec.ofInt 8 u = BitVec.ofNat 8 u.toNat := by
  conv => lhs; rw [← Int.toNat_of_nonneg h0]
  exact BitVec.ofInt_natCast 8 u.toNat
theorem wrap_u8 {n : Nat} (h : n < 256) : IntKind.wrap .u8 (n : Int) = n := by
  simp only [IntKind.wrap, IntKind.signed, IntKind.bits, Bool.false_and]
  have h3 : (2 : Int) ^ 8 = 256 := by decide
  simp only [h3]
  have : (n : Int) % 256 = n := by omega
  simp [this]
theorem bits_and {a b : Int} (ha : 0 ≤ a) (ha' : a < 256) (hb : 0 ≤ b) (hb' : b < 256) : bits .and .u8 a b = ((a.toNat &&& b.toNat : Nat) : Int) := by
  have e : bits .and .u8 a b = IntKind.wrap .u8 ((BitVec.ofInt 8 a &&& BitVec.ofInt 8 b).toNat : Int) := rfl
  rw [e, ofInt_u8 ha, ofInt_u8 hb]
  rw [wrap_u8 (BitVec.isLt _)]
  rw [BitVec.toNat_and, BitVec.toNat_ofNat, BitVec.toNat_ofNat, Nat.mod_eq_of_lt (by omega), Nat.mod_eq_of_lt (by omega)]
theorem bits_or {a b : Int} (ha : 0 ≤ a) (ha' : a < 256) (hb : 0 ≤ b) (hb' : b < 256) : bits .or .u8 a b = ((a.toNat ||| b.toNat : Nat) : Int) := by
  have e : bits .or .u8 a b = IntKind.wrap .u8 ((BitVec.ofInt 8 a ||| BitVec.ofInt 8 b).toNat : Int) := rfl
  rw [e, ofInt_u8 ha, ofInt_u8 hb]
  rw [wrap_u8 (BitVec.isLt _)]
  rw [BitVec.toNat_or, BitVec.toNat_ofNat, BitVec.toNat_ofNat, Nat.mod_eq_of_lt (by omega), Nat.mod_eq_of_lt (by omega)]
theorem bits_andNot {a b : Int} (ha : 0 ≤ a) (ha' : a < 256) (hb : 0 ≤ b) (hb' : b < 256) : bits .andNot .u8 a b = 0 ↔ ∀ i, a.toNat.testBit i = true → b.toNat.testBit i = true := by
  have e : bits .andNot .u8 a b = IntKind.wrap .u8 ((BitVec.ofInt 8 a &&& ~~~BitVec.ofInt 8 b).toNat : Int) := rfl
  rw [e, ofInt_u8 ha, ofInt_u8 hb]
  rw [wrap_u8 (BitVec.isLt _)]
  have hbit : ∀ i, (BitVec.ofNat 8 a.toNat &&& ~~~BitVec.ofNat 8 b.toNat).getLsbD i = (decide (i < 8) && a.toNat.testBit i && !(b.toNat.testBit i)) := by
    intro i
    rw [BitVec.getLsbD_and, BitVec.getLsbD_not, BitVec.getLsbD_ofNat, BitVec.getLsbD_ofNat]
    cases decide (i < 8) <;> simp
  have h8 : ∀ i, a.toNat.testBit i = true → i < 8 := by
    intro i hi
    rcases Nat.lt_or_ge i 8 with g | g
    · exact g
    · rw [Nat.testBit_lt_two_pow (Nat.lt_of_lt_of_le (show a.toNat < 2 ^ 8 by omega) (Nat.pow_le_pow_right (by omega) g))] at hi
      cases hi
  constructor
  · intro h i hi
    have h0 : (BitVec.ofNat 8 a.toNat &&& ~~~BitVec.ofNat 8 b.toNat).toNat = 0 := Int.ofNat_eq_zero.1 h
    have h1 := hbit i
    rw [← BitVec.testBit_toNat, h0, Nat.zero_testBit] at h1
    have := h8 i hi
    simp [this, hi] at h1
    exact h1
  · intro h
    have h1 : (BitVec.ofNat 8 a.toNat &&& ~~~BitVec.ofNat 8 b.toNat).toNat = 0 := by
      apply Nat.eq_of_testBit_eq
      intro i
      rw [BitVec.testBit_toNat, hbit i, Nat.zero_testBit]
      cases hi : a.toNat.testBit i with
      | false => simp
      | true => simp [h i hi]
    rw [h1]; rfl
theorem and_lt {a b : Nat} (h : a < 256) : a &&& b < 256 := Nat.lt_of_le_of_lt Nat.and_le_left h
theorem or_lt {a b : Nat} (h : a < 256) (k : b < 256) : a ||| b < 256 := Nat.or_lt_two_pow (n := 8) h k
theorem named_total (ns : List (List UInt8)) (h : ns.length ≤ 20) (hn : ∀ s ∈ ns, s.length ≤ 50) : Tot (F_lattice_named ns) fun r => r.2 = 0 → 1 ≤ ns.length ∧ ns.length ≤ 8 := by
  unfold F_lattice_named
  simp only [tot_cond, tot_some, tot_bind, List.length_map, decide_eq_true_eq, decide_eq_false_iff_not]
  refine ⟨fun _ h => absurd h (by decide), fun h1 => ⟨fun _ h => absurd h (by decide), fun h2 => ?_⟩⟩
  refine Tot.count ns.length (fun k s => s = (k : Int)) ?_ rfl
  rintro k _ hk rfl
  simp only [tot_some, tot_cond, tot_let, tot_idx, tot_side, tot_bind, Sum.elim_inl, Sum.elim_inr, decide_eq_true_eq, decide_eq_false_iff_not, Int.toNat_natCast]
  refine ⟨fun hlt => ⟨by omega, _, List.getElem?_eq_getElem (by omega), ?_⟩, fun hlt => fun _ => by omega⟩
  rw [Name_spec _ (by have := hn ns[k] (List.getElem_mem _); omega), tot_some]
  refine ⟨fun _ h => absurd h (by decide), fun _ => ⟨⟨by omega, by omega⟩, ?_⟩⟩
  rw [Contains_strings_spec _ _ (by simp; omega), tot_some]
  refine ⟨fun _ h => absurd h (by decide), fun _ => ?_⟩
  rw [w64 (by omega) (by omega)]
  exact ⟨by omega, by omega⟩
end Go.Sx.O
namespace Go.Sx.O
open Go
def U8s (l : List Int) : Prop := ∀ x ∈ l, 0 ≤ x ∧ x < 256
theorem U8s.get {l : List Int} (h : U8s l) {i : Nat} {x : Int} (hx : l[i]? = some x) : 0 ≤ x ∧ x < 256 := h x (List.mem_of_getElem? hx)
theorem U8s.set {l : List Int} (h : U8s l) {i : Nat} {x : Int} (h0 : 0 ≤ x) (h1 : x < 256) : U8s (l.set i x) := by
  intro y hy
  rcases List.mem_or_eq_of_mem_set hy with g | g
  · exact h y g
  · subst g; exact ⟨h0, h1⟩
theorem mod_u8 {e : Int} : 0 ≤ IntKind.wrap .u8 e ∧ IntKind.wrap .u8 e < 256 := by
  simp only [IntKind.wrap, IntKind.signed, IntKind.bits, Bool.false_and]
  have h3 : (2 : Int) ^ 8 = 256 := by decide
  simp only [h3]
  refine ⟨?_, ?_⟩ <;> simp <;> omega
theorem orU {a b : Int} (ha : 0 ≤ a) (ha' : a < 256) (hb : 0 ≤ b) (hb' : b < 256) : 0 ≤ bits .or .u8 a b ∧ bits .or .u8 a b < 256 := by
  rw [bits_or ha ha' hb hb']
  have := or_lt (a := a.toNat) (b := b.toNat) (by omega) (by omega)
  omega
theorem andU {a b : Int} (ha : 0 ≤ a) (ha' : a < 256) (hb : 0 ≤ b) (hb' : b < 256) : 0 ≤ bits .and .u8 a b ∧ bits .and .u8 a b < 256 := by
  rw [bits_and ha ha' hb hb']
  have := and_lt (a := a.toNat) (b := b.toNat) (by omega)
  omega
theorem get_lt {α : Type} {l : List α} {i : Nat} (h : i < l.length) : ∃ x, l[i]? = some x := ⟨_, List.getElem?_eq_getElem h⟩
theorem of_total (l : TLattice) (hu : U8s l.Up) (hn : l.Names.length ≤ 8) (hl : l.Up.length ≤ 8) :
    Tot (F_lattice_of l) fun o => o.n_ = l.Names.length ∧ o.up_.length = 8 ∧ o.down_.length = 8 ∧ U8s o.up_ ∧ U8s o.down_ := by
  unfold F_lattice_of
  simp only [tot_bind, List.length_map]
  refine Tot.count l.Up.length (fun k s => s.1 = (k : Int) ∧ s.2.1.length = 8 ∧ s.2.2.length = 8 ∧ U8s s.2.1 ∧ U8s s.2.2) ?_ ⟨rfl, rfl, rfl, by intro x hx; simp at hx; omega, by intro x hx; simp at hx; omega⟩
  rintro k ⟨i, up, down⟩ hk ⟨h0, h1, h2, h3, h4⟩
  simp only at h0 h1 h2 h3 h4
  subst h0
  simp only [tot_some, tot_cond, tot_let, tot_idx, tot_side, tot_bind, Sum.elim_inl, Sum.elim_inr, decide_eq_true_eq, decide_eq_false_iff_not, Int.toNat_natCast]
  refine ⟨fun hlt => ?_, fun hlt => ⟨trivial, h1, h2, h3, h4⟩⟩
  obtain ⟨x, hx⟩ := get_lt (l := l.Up) (i := k) (by omega)
  obtain ⟨y, hy⟩ := get_lt (l := up) (i := k) (by omega)
  refine ⟨by omega, x, hx, ⟨by omega, by omega⟩, by omega, y, hy, ?_⟩
  have hx' := hu.get hx
  refine Tot.count l.Names.length (fun j s => s.1 = (j : Int) ∧ s.2.length = 8 ∧ U8s s.2) ?_ ⟨rfl, h2, h4⟩
  rintro j ⟨i', d⟩ hj ⟨g0, g1, g2⟩
  simp only at g0 g1 g2
  subst g0
  simp only [tot_some, tot_cond, tot_let, tot_idx, tot_side, tot_bind, Sum.elim_inl, Sum.elim_inr, decide_eq_true_eq, decide_eq_false_iff_not, Int.toNat_natCast]
  refine ⟨fun hlt' => ?_, fun _ => ?_⟩
  · obtain ⟨z, hz⟩ := get_lt (l := d) (i := j) (by omega)
    have hz' := g2.get hz
    rw [w64 (by omega) (by omega)]
    refine ⟨⟨by omega, by omega⟩, by omega, z, hz, by omega, by omega, ⟨by omega, by omega⟩, by omega, z, hz, by omega, by omega, by simpa using g1, ?_⟩
    have hw := mod_u8 (e := bits .and .u8 (Int.fdiv x (2 ^ min j (IntKind.bits .u8))) 1 * 2 ^ min k (IntKind.bits .u8))
    have ho := orU hz'.1 hz'.2 hw.1 hw.2
    exact g2.set ho.1 ho.2
  · rw [w64 (by omega) (by omega)]
    exact ⟨by omega, by omega, by simpa using h1, g1, h3.set hx'.1 hx'.2, g2⟩
theorem bound_ups_total (m : List Int) (n : Nat) (a b : Nat) (hm : m.length = 8) (hu : U8s m) (hn : n ≤ 8) (ha : a < n) (hb : b < n) : Tot (F_lattice_bound_lattice_ups_ m n a b) fun _ => True := by
  unfold F_lattice_bound_lattice_ups_
  obtain ⟨x, hx⟩ := get_lt (l := m) (i := a) (by omega)
  obtain ⟨y, hy⟩ := get_lt (l := m) (i := b) (by omega)
  simp only [tot_some, tot_cond, tot_let, tot_idx, tot_side, tot_bind, Int.toNat_natCast]
  refine ⟨⟨by omega, by omega⟩, by omega, x, hx, ⟨by omega, by omega⟩, by omega, y, hy, ?_⟩
  refine Tot.count n (fun k s => s = (k : Int)) ?_ rfl
  rintro k _ hk rfl
  simp only [tot_some, tot_cond, tot_let, tot_idx, tot_side, tot_bind, Sum.elim_inl, Sum.elim_inr, decide_eq_true_eq, decide_eq_false_iff_not, Int.toNat_natCast]
  refine ⟨fun hlt => ⟨by omega, fun _ => ?_, fun _ => ?_⟩, fun _ => trivial⟩
  · obtain ⟨z, hz⟩ := get_lt (l := m) (i := k) (by omega)
    rw [w64 (by omega) (by omega)]
    exact ⟨⟨by omega, by omega⟩, by omega, z, hz, fun _ => trivial, fun _ => ⟨by omega, by omega⟩⟩
  · rw [w64 (by omega) (by omega)]
    exact ⟨by omega, by omega⟩
theorem bound_downs_total (m : List Int) (n : Nat) (a b : Nat) (hm : m.length = 8) (hu : U8s m) (hn : n ≤ 8) (ha : a < n) (hb : b < n) : Tot (F_lattice_bound_lattice_downs_ m n a b) fun _ => True := bound_ups_total m n a b hm hu hn ha hb
theorem Len8_total (x : Int) (h0 : 0 ≤ x) (h1 : x < 256) : Tot (F_math_bits_Len8 x) fun _ => True := by
  unfold F_math_bits_Len8
  rw [tot_idx]
  refine ⟨h0, ?_⟩
  have key : ∀ l : List UInt8, l.length = 256 → ∃ y, l[x.toNat]? = some y ∧ Tot (letO (IntKind.wrap .i64 (y.toNat : Int)) fun z => some z) fun _ => True := by
    intro l hl
    obtain ⟨y, hy⟩ := get_lt (l := l) (i := x.toNat) (by omega)
    exact ⟨y, hy, .mk trivial⟩
  exact key _ (by decide +kernel)
def up (l : TLattice) (a b : Nat) : Bool := (l.Up.getD a 0).toNat.testBit b
def rowOK (l : TLattice) (a b : Nat) : Prop := up l a b = true → (b ≠ a → up l b a = false) ∧ ∀ i, i < l.Names.length → up l b i = true → up l a i = true
structure LatOK (l : TLattice) : Prop where
  pos : 1 ≤ l.Names.length
  le : l.Names.length ≤ 8
  len : l.Up.length = l.Names.length
  u8 : U8s l.Up
  self : ∀ a, a < l.Names.length → up l a a = true
  row : ∀ a, a < l.Names.length → ∀ b, b < l.Names.length → rowOK l a b
theorem up_of {l : TLattice} {a : Nat} {x : Int} (h : l.Up[a]? = some x) (b : Nat) : up l a b = x.toNat.testBit b := by
  unfold up; rw [List.getD_eq_getElem?_getD, h]; rfl
theorem mask_bit (n : Nat) (h : n ≤ 8) (i : Nat) : (IntKind.wrap .u8 (IntKind.wrap .u8 (1 * 2 ^ min n (IntKind.bits .u8)) - 1)).toNat.testBit i = decide (i < n) := by
  have key : ∀ n : Fin 9, (IntKind.wrap .u8 (IntKind.wrap .u8 (1 * 2 ^ min n.val (IntKind.bits .u8)) - 1)).toNat = 2 ^ n.val - 1 := by decide +kernel
  rw [key ⟨n, by omega⟩]
  exact Nat.testBit_two_pow_sub_one n i
theorem Check_lat (l : TLattice) (hu : U8s l.Up) (hn : l.Names.length ≤ 20) (hs : ∀ s ∈ l.Names, s.length ≤ 50) : Tot (F_lattice_Check l) fun r => r.2 = 0 → LatOK l := by
  unfold F_lattice_Check
  simp only [tot_bind, List.length_map]
  refine (named_total l.Names hn hs).mono fun x53 h53 => ?_
  simp only [tot_cond, tot_some, Bool.not_eq_true', Bool.not_eq_false', decide_eq_true_eq, decide_eq_false_iff_not]
  refine ⟨fun h h' => absurd h' h, fun h => ⟨fun _ h' => absurd h' (by decide), fun hlen => ?_⟩⟩
  obtain ⟨p1, p8⟩ := h53 h
  have hlen' : l.Up.length = l.Names.length := by omega
  rw [tot_side, tot_let, tot_let, tot_bind]
  refine ⟨by omega, ?_⟩
  rw [Int.toNat_natCast]
  have hmask := mask_bit l.Names.length p8
  have hm0 := mod_u8 (e := IntKind.wrap .u8 (1 * 2 ^ min l.Names.length (IntKind.bits .u8)) - 1)
  revert hmask hm0
  generalize IntKind.wrap .u8 (IntKind.wrap .u8 (1 * 2 ^ min l.Names.length (IntKind.bits .u8)) - 1) = mask
  intro hmask hm0
  refine Tot.count l.Names.length (fun k s => s = (k : Int) ∧ (∀ a, a < k → up l a a = true) ∧ ∀ a, a < k → ∀ b, b < l.Names.length → rowOK l a b) ?_ ⟨rfl, fun a ha => absurd ha (by omega), fun a ha => absurd ha (by omega)⟩
  rintro k _ hk ⟨rfl, hself, hrow⟩
  simp only [tot_cond, tot_some, tot_let, Sum.elim_inl, Sum.elim_inr, decide_eq_true_eq, decide_eq_false_iff_not]
  refine ⟨fun hlt => ?_, fun hlt => ?_⟩
  · -- a round
    simp only [tot_idx, Int.toNat_natCast]
    obtain ⟨x, hx⟩ := get_lt (l := l.Up) (i := k) (by omega)
    have hx' := hu.get hx
    refine ⟨by omega, x, hx, ?_⟩
    rw [tot_bind]
    refine (Len8_total x hx'.1 hx'.2).mono fun x91 _ => ?_
    simp only [tot_cond, tot_some, tot_side, Sum.elim_inl, Sum.elim_inr, decide_eq_true_eq, decide_eq_false_iff_not, Int.toNat_natCast]
    refine ⟨fun _ h' => absurd h' (by decide), fun _ => ⟨by omega, fun _ h' => absurd h' (by decide), fun hs => ?_⟩⟩
    rw [bitAt hx'.1 hx'.2 (by omega), ← up_of hx] at hs
    have hkk : up l k k = true := by
      cases e : up l k k with
      | true => rfl
      | false => rw [e] at hs; simp at hs
    rw [tot_bind]
    refine Tot.count l.Names.length (fun j s => s = (j : Int) ∧ ∀ b, b < j → rowOK l k b) ?_ ⟨rfl, fun b hb => absurd hb (by omega)⟩
    rintro j _ hj ⟨rfl, hr⟩
    have fin : (∀ b, b < l.Names.length → rowOK l k b) → k < l.Names.length ∧ IntKind.wrap .i64 ((k : Int) + 1) = ((k + 1 : Nat) : Int) ∧ (∀ a, a < k + 1 → up l a a = true) ∧ ∀ a, a < k + 1 → ∀ b, b < l.Names.length → rowOK l a b := by
      intro hall
      rw [w64 (by omega) (by omega)]
      refine ⟨by omega, by omega, fun a ha => ?_, fun a ha => ?_⟩
      · rcases Nat.lt_or_ge a k with g | g
        · exact hself a g
        · have : a = k := by omega
          subst this; exact hkk
      · rcases Nat.lt_or_ge a k with g | g
        · exact hrow a g
        · have : a = k := by omega
          subst this; exact hall
    have ext : ∀ {b}, rowOK l k j → b < j + 1 → rowOK l k b := by
      intro b h hb
      rcases Nat.lt_or_ge b j with g | g
      · exact hr b g
      · have : b = j := by omega
        subst this; exact h
    simp only [tot_cond, tot_some, tot_let, tot_side, Sum.elim_inl, Sum.elim_inr, decide_eq_true_eq, decide_eq_false_iff_not, Bool.not_eq_true', Bool.not_eq_false', Int.toNat_natCast]
    refine ⟨fun hjl => ?_, fun hjl => ?_⟩
    · simp only [tot_idx, Int.toNat_natCast]
      obtain ⟨y, hy⟩ := get_lt (l := l.Up) (i := j) (by omega)
      have hy' := hu.get hy
      refine ⟨by omega, y, hy, ?_⟩
      simp only [tot_cond, tot_some, tot_let, tot_side, Sum.elim_inl, Sum.elim_inr, decide_eq_true_eq, decide_eq_false_iff_not, Bool.not_eq_true', Bool.not_eq_false', Int.toNat_natCast]
      rw [bitAt hx'.1 hx'.2 (by omega), ← up_of hx]
      rw [w64 (e := (l.Names.length : Int) - 1) (by omega) (by omega)]
      have stay : rowOK l k j → ((j : Int) = (l.Names.length : Int) - 1 → k < l.Names.length ∧ IntKind.wrap .i64 ((k : Int) + 1) = ((k + 1 : Nat) : Int) ∧ (∀ a, a < k + 1 → up l a a = true) ∧ ∀ a, a < k + 1 → ∀ b, b < l.Names.length → rowOK l a b) ∧ (¬ (j : Int) = (l.Names.length : Int) - 1 → j < l.Names.length ∧ IntKind.wrap .i64 ((j : Int) + 1) = ((j + 1 : Nat) : Int) ∧ ∀ b, b < j + 1 → rowOK l k b) := by
        intro hrow'
        refine ⟨fun e => fin fun b hb => ext hrow' (by omega), fun e => ?_⟩
        rw [w64 (by omega) (by omega)]
        exact ⟨by omega, by omega, fun b hb => ext hrow' hb⟩
      refine ⟨by omega, fun hb => ?_, fun hb => ⟨fun hne => ⟨by omega, fun _ h' => absurd h' (by decide), fun hba => ⟨fun _ h' => absurd h' (by decide), fun han => ?_⟩⟩, fun heq => ⟨fun _ h' => absurd h' (by decide), fun han => ?_⟩⟩⟩
      · refine stay fun hup => ?_
        rw [hup] at hb; simp at hb
      · refine stay fun _ => ⟨fun _ => ?_, fun i hi hyi => ?_⟩
        · rw [bitAt hy'.1 hy'.2 (by omega), ← up_of hy] at hba
          cases e : up l j k with
          | false => rfl
          | true => rw [e] at hba; simp at hba
        · rw [bits_and hy'.1 hy'.2 hm0.1 hm0.2] at han
          have hand := and_lt (a := y.toNat) (b := mask.toNat) (by omega)
          have := (bits_andNot (by omega) (by omega) hx'.1 hx'.2).1 han i (by
            rw [Int.toNat_natCast, Nat.testBit_and, hmask, ← up_of hy, hyi]; simp [hi])
          rw [up_of hx]; exact this
      · refine stay fun _ => ⟨fun hne => absurd (by omega) hne, fun i hi hyi => ?_⟩
        rw [bits_and hy'.1 hy'.2 hm0.1 hm0.2] at han
        have hand := and_lt (a := y.toNat) (b := mask.toNat) (by omega)
        have := (bits_andNot (by omega) (by omega) hx'.1 hx'.2).1 han i (by
          rw [Int.toNat_natCast, Nat.testBit_and, hmask, ← up_of hy, hyi]; simp [hi])
        rw [up_of hx]; exact this
    · exact fin fun b hb => hr b (by omega)
  · -- the end
    have hk' : k = l.Names.length := by omega
    subst hk'
    have good : LatOK l := ⟨p1, p8, hlen', hu, hself, hrow⟩
    rw [tot_bind]
    refine (of_total l hu p8 (by omega)).mono fun o ho => ?_
    obtain ⟨_, o1, o2, o3, o4⟩ := ho
    rw [tot_bind]
    refine Tot.count l.Names.length (fun j s => s = (j : Int)) ?_ rfl
    rintro j _ hj rfl
    simp only [tot_cond, tot_some, tot_let, tot_bind, Sum.elim_inl, Sum.elim_inr, decide_eq_true_eq, decide_eq_false_iff_not]
    refine ⟨fun hlt => ?_, fun _ _ => good⟩
    refine Tot.count l.Names.length (fun i s => s = (i : Int)) ?_ rfl
    rintro i _ hi rfl
    simp only [tot_cond, tot_some, tot_let, tot_bind, Sum.elim_inl, Sum.elim_inr, decide_eq_true_eq, decide_eq_false_iff_not]
    refine ⟨fun hlt' => ?_, fun _ => ?_⟩
    · refine (bound_ups_total _ _ _ _ o1 o3 p8 (by omega) (by omega)).mono fun b1 _ => ⟨fun _ h' => absurd h' (by decide), fun _ => ?_⟩
      refine (bound_downs_total _ _ _ _ o2 o4 p8 (by omega) (by omega)).mono fun b2 _ => ⟨fun _ h' => absurd h' (by decide), fun _ => ?_⟩
      rw [w64 (by omega) (by omega)]
      exact ⟨by omega, by omega⟩
    · rw [w64 (by omega) (by omega)]
      exact ⟨by omega, by omega⟩
end Go.Sx.O
namespace Go.Sx.O
open Go
structure LatIn (l : TLattice) : Prop where
  u8 : U8s l.Up
  names : l.Names.length ≤ 20
  name : ∀ s ∈ l.Names, s.length ≤ 50
noncomputable def latR (l : TLattice) : Int × Int := (F_lattice_Check l).getD (0, 0)
theorem Check_eq {l : TLattice} (h : LatIn l) : F_lattice_Check l = some (latR l) := by
  obtain ⟨r, e, _⟩ := Check_lat l h.u8 h.names h.name
  unfold latR; rw [e]; rfl
theorem lat_ok {l : TLattice} (h : LatIn l) (k : (latR l).2 = 0) : LatOK l := by
  obtain ⟨r, e, q⟩ := Check_lat l h.u8 h.names h.name
  have := Check_eq h
  rw [e] at this; cases this
  exact q k
def isLab (l : TLattice) (a : Int) : Bool := decide (0 ≤ a) && decide (a < (l.Names.length : Int))
theorem label_spec (l : TLattice) (a : Int) : F_view_label l a = some (isLab l a) := by
  unfold F_view_label isLab
  rw [List.length_map]
  cases decide (0 ≤ a) <;> rfl
noncomputable def askE (l : TLattice) (xs : List Int) : Int := if (latR l).2 = 0 then (if xs.all (isLab l) then 0 else 7) else (latR l).2
theorem lasked_spec {l : TLattice} (h : LatIn l) (xs : List Int) (hx : xs.length ≤ 1000000000) : F_lattice_asked l xs = some (askE l xs) := by
  unfold F_lattice_asked askE
  rw [Check_eq h]
  simp only [Option.bind_some]
  by_cases h0 : (latR l).2 = 0
  · simp only [h0, decide_true, Bool.not_true, cond_false, if_true]
    apply Tot.eq
    simp only [tot_bind, List.length_map]
    refine Tot.count xs.length (fun k s => s = (k : Int) ∧ (xs.take k).all (isLab l) = true) ?_ ⟨rfl, by simp⟩
    rintro k _ hk ⟨rfl, hall⟩
    simp only [tot_cond, tot_some, tot_let, tot_idx, Sum.elim_inl, Sum.elim_inr, decide_eq_true_eq, decide_eq_false_iff_not, Int.toNat_natCast]
    refine ⟨fun hlt => ?_, fun hlt => ?_⟩
    · obtain ⟨x, hx'⟩ := get_lt (l := xs) (i := k) (by omega)
      have hm := List.mem_of_getElem? hx'
      have bad : isLab l x = false → (7 : Int) = if xs.all (isLab l) = true then 0 else 7 := by
        intro e
        have : xs.all (isLab l) = false := by
          rw [List.all_eq_false]; exact ⟨x, hm, by simp [e]⟩
        simp [this]
      refine ⟨by omega, x, hx', fun g => bad (by unfold isLab; simp; omega), fun g1 => ⟨fun g => bad (by unfold isLab; simp; omega), fun g2 => ?_⟩⟩
      rw [w64 (by omega) (by omega)]
      refine ⟨by omega, by omega, ?_⟩
      rw [List.take_add_one, hx', List.all_append, hall]
      simp [isLab]; omega
    · rw [List.take_of_length_le (by omega)] at hall
      simp [hall]
  · simp only [h0, decide_false, Bool.not_false, cond_true, if_false]
noncomputable def sees (l : TLattice) (a o : Int) : Bool := decide ((latR l).2 = 0) && isLab l a && isLab l o && up l a.toNat o.toNat
theorem Leq_spec {l : TLattice} (h : LatIn l) (a b : Int) : F_lattice_Leq l a b = some (sees l a b, askE l [a, b]) := by
  unfold F_lattice_Leq
  rw [lasked_spec h _ (by simp)]
  simp only [Option.bind_some]
  by_cases h0 : askE l [a, b] = 0
  · simp only [h0, decide_true, Bool.not_true, cond_false]
    unfold askE at h0
    split at h0
    case isFalse h1 => exact absurd h0 h1
    rename_i h1
    split at h0
    case isFalse => cases h0
    rename_i h2
    simp only [List.all_cons, List.all_nil, Bool.and_true, Bool.and_eq_true] at h2
    have ok := lat_ok h h1
    have ha := h2.1
    have hb := h2.2
    unfold isLab at ha hb
    simp only [Bool.and_eq_true, decide_eq_true_eq] at ha hb
    obtain ⟨x, hx⟩ := get_lt (l := l.Up) (i := a.toNat) (by rw [ok.len]; omega)
    have hx' := ok.u8.get hx
    have : b.toNat ≤ 8 := by have := ok.le; omega
    simp only [idxO, ha.1, if_true, hx, Option.bind_some, sideO, hb.1]
    congr 1
    rw [bitAt hx'.1 hx'.2 this]
    unfold sees
    rw [up_of hx]
    simp only [h1, h2.1, h2.2, decide_true, Bool.true_and]
    cases x.toNat.testBit b.toNat <;> simp
  · simp only [h0, decide_false, Bool.not_false, cond_true]
    congr 1
    have : sees l a b = false := by
      unfold askE at h0
      unfold sees
      split at h0
      · rename_i h1
        split at h0
        · exact absurd rfl h0
        · rename_i h2
          simp only [List.all_cons, List.all_nil, Bool.and_true] at h2
          have : (isLab l a && isLab l b) = false := by cases e : (isLab l a && isLab l b) <;> simp_all
          rw [Bool.and_assoc (decide _)]
          simp [this]
      · rename_i h1; simp [h1]
    rw [this]
theorem sees_ok {l : TLattice} {a o : Int} (h : sees l a o = true) : askE l [a, o] = 0 := by
  unfold sees at h
  simp only [Bool.and_eq_true, decide_eq_true_eq] at h
  unfold askE
  simp [h.1.1.1, h.1.1.2, h.1.2]
theorem AppendSeq_ev_spec {l : TLattice} (h : LatIn l) (es : List TEvEvent) (o : Int) (hl : es.length ≤ 1000000) :
    F_slices_AppendSeq___api_EvEvent_api_EvEvent_ (es, l, (), o) = some (es.filter fun v => sees l v.Label o) := by
  unfold F_slices_AppendSeq___api_EvEvent_api_EvEvent_
  apply Tot.eq
  simp only [tot_bind, List.length_map]
  refine Tot.count es.length (fun k s => s.1 = (k : Int) ∧ s.2 = (es.take k).filter fun v => sees l v.Label o) ?_ ⟨rfl, by simp⟩
  rintro k ⟨i, out⟩ hk ⟨h0, h1⟩
  simp only at h0 h1
  subst h0
  simp only [tot_cond, tot_some, tot_let, tot_idx, tot_side, tot_bind, Sum.elim_inl, Sum.elim_inr, decide_eq_true_eq, decide_eq_false_iff_not, Int.toNat_natCast]
  refine ⟨fun hlt => ?_, fun hlt => ?_⟩
  · obtain ⟨x, hx⟩ := get_lt (l := es) (i := k) (by omega)
    refine ⟨by omega, x, hx, ?_⟩
    have e1 : F_view_events_1 x = some x.Label := rfl
    rw [e1, tot_some, Leq_spec h, tot_some]
    have hlen : out.length ≤ k := by
      rw [h1]
      refine Nat.le_trans (List.length_filter_le _ _) (by simp; omega)
    rw [w64 (by omega) (by omega)]
    have hs : ((es.take (k + 1)).filter fun v => sees l v.Label o) = out ++ (if sees l x.Label o = true then [x] else []) := by
      rw [List.take_add_one, hx, List.filter_append, ← h1]
      congr 1
      simp only [Option.toList_some, List.filter_cons, List.filter_nil]
    refine ⟨fun g => ⟨fun g1 => ⟨by omega, by omega, by omega, ?_⟩, fun g1 => ⟨by omega, by omega, ?_⟩⟩, fun g => ⟨by omega, by omega, ?_⟩⟩
    · simp only at g1; rw [hs, g1]; rfl
    · rw [hs]; simp only at g1; rw [g1]; simp
    · rw [hs]
      have : sees l x.Label o = false := by
        cases e : sees l x.Label o with
        | false => rfl
        | true => exact absurd (sees_ok e) g
      rw [this]; simp
  · rw [h1, List.take_of_length_le (by omega)]
theorem events_spec {l : TLattice} (h : LatIn l) (t : TEvTrace) (o : Int) (hl : t.Events.length ≤ 1000000) : F_view_events l t o = some (t.Events.filter fun v => sees l v.Label o) := by
  unfold F_view_events F_view_seen_api_EvEvent_ F_slices_Collect_api_EvEvent_
  simp only [Option.bind_some]
  rw [AppendSeq_ev_spec h _ _ hl]
  rfl
end Go.Sx.O
namespace Go.Sx.O
open Go
theorem any_loop {α : Type} {l : List α} (p : α → Bool) {ε : Type} {step : Int → Option (Int ⊕ (ε ⊕ Int))} {e : ε} {G : Option Int}
    (hG : G = (lpO step 0).bind (Sum.elim (fun _ => some (-1)) some))
    (h1 : ∀ (k : Nat) x, l[k]? = some x → k < l.length → step (k : Int) = if p x then some (.inr (.inr (k : Int))) else some (.inl ((k : Int) + 1)))
    (h2 : step (l.length : Int) = some (.inr (.inl e))) : G.bind (fun x => some (decide (0 ≤ x))) = some (l.any p) := by
  rw [hG, find_loop (l := l) p (d := .inl e) (g := .inr) (fun k x hx => h1 k x hx (by
    rcases Nat.lt_or_ge k l.length with g | g
    · exact g
    · rw [List.getElem?_eq_none g] at hx; cases hx)) h2]
  cases h : l.findIdx? p with
  | none =>
    have := List.findIdx?_eq_none_iff.1 h
    simp only [Option.bind_some, Sum.elim_inl]
    have hn : l.any p = false := by rw [List.any_eq_false]; intro x hx; simp [this x hx]
    rw [hn]; rfl
  | some i =>
    obtain ⟨hi, hp, _⟩ := List.findIdx?_eq_some_iff_getElem.1 h
    have hy : l.any p = true := List.any_eq_true.2 ⟨_, List.getElem_mem hi, hp⟩
    simp [hy]
theorem ContainsFunc1 (l : List Int) (h : l.length ≤ 1000000000) : F_slices_ContainsFunc___int_int_ l = some (l.any fun x => decide (x < 0)) := by
  unfold F_slices_ContainsFunc___int_int_ F_slices_IndexFunc___int_int_
  refine any_loop (l := l) (fun x => decide (x < 0)) (e := ()) rfl (fun k x hx hlt => ?_) (by simp)
  simp only [List.length_map, Int.ofNat_lt, hlt, decide_true, cond_true, idxO, Int.toNat_natCast, hx, Option.bind_some, letO, Int.natCast_nonneg, if_true, F_shapes_Check_1]
  rw [w64 (by omega) (by omega)]
  cases decide (x < 0) <;> rfl
theorem ContainsFunc2 (l : List Int) (h : l.length ≤ 1000000000) : F_slices_ContainsFunc___int_int__v1 l = some (l.any fun x => !decide (x = 0)) := by
  unfold F_slices_ContainsFunc___int_int__v1 F_slices_IndexFunc___int_int__v1
  refine any_loop (l := l) (fun x => !decide (x = 0)) (e := ()) rfl (fun k x hx hlt => ?_) (by simp)
  simp only [List.length_map, Int.ofNat_lt, hlt, decide_true, cond_true, idxO, Int.toNat_natCast, hx, Option.bind_some, letO, Int.natCast_nonneg, if_true, F_shapes_Check_2]
  rw [w64 (by omega) (by omega)]
  cases decide (x = 0) <;> rfl
theorem ContainsFunc3 (l : List Int) (h : l.length ≤ 1000000000) : F_slices_ContainsFunc___int_int__v2 l = some (l.any fun x => decide (400 < x)) := by
  unfold F_slices_ContainsFunc___int_int__v2 F_slices_IndexFunc___int_int__v2
  refine any_loop (l := l) (fun x => decide (400 < x)) (e := ()) rfl (fun k x hx hlt => ?_) (by simp)
  simp only [List.length_map, Int.ofNat_lt, hlt, decide_true, cond_true, idxO, Int.toNat_natCast, hx, Option.bind_some, letO, Int.natCast_nonneg, if_true, F_shapes_Check_3]
  rw [w64 (by omega) (by omega)]
  cases decide (400 < x) <;> rfl
theorem product_total (r : Int) (lens : Int × Int) : Tot (F_shapes_product r lens) fun _ => True := by
  unfold F_shapes_product
  simp only [tot_cond, tot_let, tot_some, implies_true, and_self]
theorem shapes_Check_total (r : Int) (lens : Int × Int) : Tot (F_shapes_Check r lens) fun _ => True := by
  unfold F_shapes_Check
  rw [tot_cond]; refine ⟨fun _ => .mk trivial, fun h0 => ?_⟩
  rw [tot_cond]; refine ⟨fun _ => .mk trivial, fun h2 => ?_⟩
  simp only [decide_eq_false_iff_not] at h0 h2
  rw [tot_side, tot_side, tot_bind, ContainsFunc1 _ (by simp; omega), tot_some, tot_cond]
  refine ⟨⟨by omega, by omega⟩, ⟨by omega, by omega⟩, fun _ => .mk trivial, fun _ => ?_⟩
  rw [tot_bind, ContainsFunc2 _ (by simp; omega), tot_some, tot_cond]
  refine ⟨fun _ => .mk trivial, fun _ => ?_⟩
  rw [tot_bind, ContainsFunc3 _ (by simp; omega), tot_some, tot_cond]
  refine ⟨fun _ => .mk trivial, fun _ => ?_⟩
  rw [tot_bind]
  refine (product_total _ _).mono fun _ _ => ?_
  rw [tot_cond]
  exact ⟨fun _ => .mk trivial, fun _ => .mk trivial⟩
theorem shapes_total (r : Int) (lens : Int × Int) : Tot (F_shapes_Cells r lens) fun _ => True := by
  unfold F_shapes_Cells
  rw [tot_bind]
  refine (shapes_Check_total _ _).mono fun _ _ => ?_
  rw [tot_cond]
  refine ⟨fun _ => .mk trivial, fun _ => ?_⟩
  rw [tot_bind]
  exact (product_total _ _).mono fun _ _ => .mk trivial
theorem ValidRune_total (x : Int) : Tot (F_unicode_utf8_ValidRune x) fun _ => True := by
  unfold F_unicode_utf8_ValidRune
  simp only [tot_cond, tot_some, implies_true, and_self]
theorem right_total (k c : Int) : Tot (F_arrays_right k c) fun _ => True := by
  unfold F_arrays_right
  simp only [tot_cond, tot_some, tot_let, tot_bind, implies_true, and_self, true_and, and_true]
  exact fun _ _ _ => (ValidRune_total _).mono fun _ _ => trivial
theorem ContainsFunc4 (l : List Int) (a : TArray) (h : l.length ≤ 1000000000) : Tot (F_slices_ContainsFunc___int64_int64_ l a) fun _ => True := by
  unfold F_slices_ContainsFunc___int64_int64_ F_slices_IndexFunc___int64_int64_
  simp only [tot_bind, tot_some, List.length_map]
  refine Tot.count l.length (fun k s => s = (k : Int)) ?_ rfl
  rintro k _ hk rfl
  simp only [tot_cond, tot_some, tot_let, tot_idx, tot_bind, Sum.elim_inl, Sum.elim_inr, decide_eq_true_eq, decide_eq_false_iff_not, Int.toNat_natCast]
  refine ⟨fun hlt => ?_, fun _ => trivial⟩
  obtain ⟨x, hx⟩ := get_lt (l := l) (i := k) (by omega)
  refine ⟨by omega, x, hx, ?_⟩
  unfold F_arrays_Check_1
  rw [tot_bind]
  refine (right_total _ _).mono fun b _ => ?_
  rw [tot_some]
  refine ⟨fun _ => trivial, fun _ => ?_⟩
  rw [w64 (by omega) (by omega)]
  exact ⟨by omega, by omega⟩
theorem arrays_Check_total (a : TArray) (h : a.Cells.length ≤ 1000000000) : Tot (F_arrays_Check a) fun _ => True := by
  unfold F_arrays_Check
  simp only [tot_cond, tot_some, tot_bind, implies_true, true_and]
  exact ⟨fun _ _ => (shapes_total _ _).mono fun _ _ _ _ => ContainsFunc4 _ _ h, fun _ => (shapes_total _ _).mono fun _ _ _ _ => ContainsFunc4 _ _ h⟩
theorem zip_loop {α β : Type} {l : List α} {m : List β} (n : Nat) (p : α → β → Bool) {τ ε : Type} {step : Int → Option (Int ⊕ (ε ⊕ τ))} {bad : Int → τ} {e : ε} {Q : ε ⊕ τ → Prop}
    (hn : n ≤ l.length) (hm : n ≤ m.length)
    (h1 : ∀ (k : Nat) x y, l[k]? = some x → m[k]? = some y → k < n → step (k : Int) = if p x y then some (.inl ((k : Int) + 1)) else some (.inr (.inr (bad k))))
    (h2 : step (n : Int) = some (.inr (.inl e)))
    (q1 : (∀ (k : Nat) x y, l[k]? = some x → m[k]? = some y → k < n → p x y = true) → Q (.inl e))
    (q2 : ∀ (k : Nat) x y, l[k]? = some x → m[k]? = some y → k < n → p x y = false → (∀ (j : Nat) x y, l[j]? = some x → m[j]? = some y → j < k → p x y = true) → Q (.inr (bad k))) : Tot (lpO step 0) Q := by
  refine Tot.count n (fun k s => s = (k : Int) ∧ ∀ (j : Nat) x y, l[j]? = some x → m[j]? = some y → j < k → p x y = true) ?_ ⟨rfl, fun j _ _ _ _ hj => absurd hj (by omega)⟩
  rintro k _ hk ⟨rfl, hall⟩
  rcases Nat.lt_or_ge k n with g | g
  · obtain ⟨x, hx⟩ := get_lt (l := l) (i := k) (by omega)
    obtain ⟨y, hy⟩ := get_lt (l := m) (i := k) (by omega)
    rw [h1 k x y hx hy g]
    cases e : p x y with
    | true =>
      simp only [if_true, tot_some, Sum.elim_inl]
      refine ⟨g, by omega, fun j x' y' hx' hy' hj => ?_⟩
      rcases Nat.lt_or_ge j k with g' | g'
      · exact hall j x' y' hx' hy' g'
      · have : j = k := by omega
        subst this
        rw [hx] at hx'; rw [hy] at hy'
        cases hx'; cases hy'; exact e
    | false =>
      simp only [Bool.false_eq_true, if_false, tot_some, Sum.elim_inr]
      exact q2 k x y hx hy g e hall
  · have : k = n := by omega
    subst this
    rw [h2]
    simp only [tot_some, Sum.elim_inr]
    exact q1 fun j x y hx hy hj => hall j x y hx hy hj
theorem eq_of_get {α : Type} : ∀ {l m : List α}, l.length = m.length → (∀ (k : Nat) x y, l[k]? = some x → m[k]? = some y → k < l.length → x = y) → l = m
  | [], [], _, _ => rfl
  | a :: l, b :: m, h, k => by
    have h0 := k 0 a b rfl rfl (by simp)
    subst h0
    rw [eq_of_get (l := l) (m := m) (by simpa using h) fun j x y hx hy hj => k (j + 1) x y (by simpa using hx) (by simpa using hy) (by simp; omega)]
  | [], _ :: _, h, _ => by simp at h
  | _ :: _, [], h, _ => by simp at h
theorem Equal_ints_spec (a b : List Int) (h : a.length ≤ 1000000000) : F_slices_Equal___int64_int64_ a b = some (decide (a = b)) := by
  unfold F_slices_Equal___int64_int64_
  apply Tot.eq
  simp only [List.length_map, tot_cond, tot_some, tot_bind, Bool.not_eq_true', Bool.not_eq_false', decide_eq_true_eq, decide_eq_false_iff_not]
  refine ⟨fun hne => ?_, fun heq => ?_⟩
  · have : a ≠ b := fun e => hne (by rw [e])
    simp [this]
  · have hl : a.length = b.length := by omega
    refine zip_loop (l := a) (m := b) a.length (fun x y => decide (x = y)) (bad := fun _ => false) (e := ()) (Nat.le_refl _) (by omega) (fun k x y hx hy hk => ?_) (by simp) (fun hall => ?_) (fun k x y hx hy hk e _ => ?_)
    · simp only [Int.ofNat_lt, hk, decide_true, cond_true, idxO, Int.toNat_natCast, hx, hy, Option.bind_some, letO, Int.natCast_nonneg, if_true]
      rw [w64 (by omega) (by omega)]
      cases decide (x = y) <;> rfl
    · have : a = b := eq_of_get hl fun k x y hx hy hk => by simpa using hall k x y hx hy hk
      simp [this, tot_some]
    · have : a ≠ b := by
        rintro rfl
        rw [hx] at hy; cases hy
        simp at e
      simp [this, tot_some]
theorem sameArray_spec (a b : TArray) (h : a.Cells.length ≤ 1000000000) : Tot (F_view_sameArray a b) fun r => (r = true ↔ a = b) := by
  unfold F_view_sameArray
  obtain ⟨k1, r1, ⟨p1, q1⟩, c1⟩ := a
  obtain ⟨k2, r2, ⟨p2, q2⟩, c2⟩ := b
  rw [Equal_ints_spec _ _ h]
  simp only [tot_cond, tot_some, tot_bind, decide_eq_true_eq, decide_eq_false_iff_not, Bool.and_eq_true, Bool.and_eq_false_iff, and_true, TArray.mk.injEq, Prod.mk.injEq, Bool.false_eq_true, false_iff, not_and, Bool.true_eq_false, or_false]
  refine ⟨fun e1 => ⟨fun e2 => ⟨fun e3 => by simp [e1, e2, e3], fun e3 _ _ h4 h5 => ?_⟩, fun e2 _ h => absurd h e2⟩, fun e1 h => absurd h e1⟩
  rcases e3 with e3 | e3
  · exact absurd h4 (fun h => e3 h.1)
  · exact absurd h4 (fun h => e3 h.2)
end Go.Sx.O
namespace Go.Sx.O
open Go
theorem indexByte_none {l : List UInt8} {c : UInt8} (h : c ∉ l) : Lib.indexByte l c = -1 := by
  induction l with
  | nil => rfl
  | cons a l ih =>
    simp only [List.mem_cons, not_or] at h
    have : (a == c) = false := by simp; exact fun e => h.1 e.symm
    simp [Lib.indexByte, this, ih h.2]
theorem hi_enc {r : Int} (h0 : 128 ≤ r) (h1 : r < 256) : ∃ x y, (Utf8.encode r).data.toList = [x, y] ∧ 128 ≤ y.toNat := by
  refine ⟨UInt8.ofNat (0xC0 + r.toNat / 64), UInt8.ofNat (0x80 + r.toNat % 64), ?_, ?_⟩
  · have hv : Utf8.valid r = true := by unfold Utf8.valid; simp; omega
    unfold Utf8.encode
    simp only [hv, if_true]
    rw [if_neg (by omega), if_pos (by omega)]
  · rw [UInt8.toNat_ofNat']; omega
theorem IndexRune_total (s : List UInt8) (r : Int) (hs : ∀ c ∈ s, c.toNat < 128) (hl : s.length ≤ 1000) (h0 : 0 ≤ r) (h1 : r < 256) : Tot (F_strings_IndexRune s r) fun _ => True := by
  unfold F_strings_IndexRune
  have e0 : decide (0 ≤ r) = true := by simp [h0]
  simp only [e0, cond_true]
  rw [tot_cond]
  refine ⟨fun _ => ?_, fun h2 => ?_⟩
  · rw [tot_let, tot_bind]
    unfold F_strings_IndexByte F_internal_stringslite_IndexByte
    simp only [Option.bind_some, tot_some]
  · simp only [decide_eq_false_iff_not] at h2
    obtain ⟨x, y, exy, hy⟩ := hi_enc (r := r) (by omega) h1
    have e1 : decide (r = 65533) = false := by simp; omega
    simp only [e1, cond_false, exy]
    rw [tot_bind]
    refine (ValidRune_total r).mono fun v _ => ?_
    rw [tot_cond]
    refine ⟨fun _ => .mk trivial, fun _ => ?_⟩
    rw [tot_let]
    have e2 : IntKind.wrap .i64 (((List.length [x, y] : Nat) : Int) - 1) = 1 := rfl
    rw [e2, tot_bind]
    refine Tot.loop (fun _ => 0) (fun _ => True) (fun _ _ => ?_) trivial
    rw [tot_cond]
    refine ⟨fun h3 => ?_, fun _ => ?_⟩
    · simp only [decide_eq_true_eq] at h3
      obtain ⟨c, hc⟩ := get_lt (l := s) (i := 1) (by omega)
      have hc' := hs c (List.mem_of_getElem? hc)
      have e3 : (1 : Int).toNat = 1 := rfl
      simp only [tot_idx, e3]
      refine ⟨by omega, c, hc, by omega, y, rfl, ?_⟩
      have e4 : decide ((c.toNat : Int) = (y.toNat : Int)) = false := by simp; omega
      simp only [e4, Bool.not_false, cond_true]
      rw [tot_let]
      have e5 : IntKind.wrap .i64 (1 + 1) = 2 := rfl
      rw [e5, tot_side]
      refine ⟨by omega, ?_⟩
      simp only [tot_idx, e3]
      refine ⟨by omega, y, rfl, ?_⟩
      unfold F_strings_IndexByte F_internal_stringslite_IndexByte
      simp only [Option.bind_some]
      have hn : ((y.toNat : Int).toNat.toUInt8) = y := by simp
      rw [hn, indexByte_none (fun hm => by
        have := hs y (List.mem_of_mem_take (List.mem_of_mem_drop hm))
        omega)]
      have e6 : decide ((-1 : Int) < 0) = true := rfl
      simp only [e6, cond_true, tot_some, Sum.elim_inr]
    · simp only [tot_some, Sum.elim_inr, Sum.elim_inl]
theorem ContainsRune_total (s : List UInt8) (r : Int) (hs : ∀ c ∈ s, c.toNat < 128) (hl : s.length ≤ 1000) (h0 : 0 ≤ r) (h1 : r < 256) : Tot (F_strings_ContainsRune s r) fun _ => True := by
  unfold F_strings_ContainsRune
  rw [tot_bind]
  exact (IndexRune_total s r hs hl h0 h1).mono fun _ _ => .mk trivial
theorem wrap_i32 {r : Int} (h0 : 0 ≤ r) (h1 : r < 256) : IntKind.wrap .i32 r = r := by
  simp only [IntKind.wrap, IntKind.signed, IntKind.bits]
  have h3 : (2 : Int) ^ 32 = 4294967296 := by decide
  have h4 : (2 : Int) ^ (32 - 1) = 2147483648 := by decide
  simp only [h3, h4, Bool.true_and, decide_eq_true_eq, ge_iff_le]
  split <;> omega
theorem runes_is_total (r : Int) : Tot (F_runes_is r) fun _ => True := by
  unfold F_runes_is
  rw [tot_let, tot_let, tot_cond]
  refine ⟨fun _ => ?_, fun _ => .mk trivial⟩
  rw [tot_let, tot_bind]
  exact (ValidRune_total _).mono fun _ _ => .mk trivial
theorem class_loop {cs : List (List UInt8)} (hcs : cs.length = 10) (h : ∀ s ∈ cs, s.length ≤ 1000 ∧ ∀ c ∈ s, c.toNat < 128) (r : Int) (h0 : 0 ≤ r) (h1 : r < 256) {Q : Unit ⊕ (Int × Int) → Prop} (hQ : ∀ x, Q x) :
    Tot (lpO (fun (s : Int) => cond (decide (s < 10)) (idxO cs s fun x => letO (IntKind.wrap IntKind.i32 r) fun y => Option.bind (F_strings_ContainsRune x y) fun z => cond z (some (Sum.inr (Sum.inr (s, (0 : Int))))) (letO (IntKind.wrap IntKind.i64 (s + 1)) fun u => some (Sum.inl u))) (some (Sum.inr (Sum.inl ())))) 0) Q := by
  refine Tot.count 10 (fun k s => s = (k : Int)) ?_ rfl
  rintro k _ hk rfl
  simp only [tot_cond, tot_some, tot_let, tot_idx, tot_bind, Sum.elim_inl, Sum.elim_inr, decide_eq_true_eq, decide_eq_false_iff_not, Int.toNat_natCast]
  refine ⟨fun hlt => ?_, fun _ => hQ _⟩
  obtain ⟨x, hx⟩ := get_lt (l := cs) (i := k) (by omega)
  have hx' := h x (List.mem_of_getElem? hx)
  refine ⟨by omega, x, hx, ?_⟩
  rw [wrap_i32 h0 h1]
  refine (ContainsRune_total x r hx'.2 hx'.1 h0 h1).mono fun _ _ => ⟨fun _ => hQ _, fun _ => ?_⟩
  rw [w64 (by omega) (by omega)]
  exact ⟨by omega, by omega⟩
theorem Class_total (r : Int) (h0 : 0 ≤ r) (h1 : r < 256) : Tot (F_runes_Class r) fun _ => True := by
  unfold F_runes_Class F_runes_classes
  rw [tot_bind]
  refine (runes_is_total r).mono fun v _ => ?_
  simp only [Option.bind_some]
  have L := class_loop (cs := [[], [32], [10], [40, 91], [41, 93], [34], [], [45], [], [60, 61]]) rfl (by decide) r h0 h1 (Q := fun a => Tot (Sum.elim (fun _ => some ((10 : Int), (0 : Int))) some a) fun _ => True) (fun x => by cases x <;> exact .mk trivial)
  simp only [tot_cond, tot_some, implies_true, true_and, tot_bind]
  exact fun _ => ⟨fun _ _ => ⟨fun _ _ => L, fun _ => L⟩, fun _ => ⟨fun _ _ => L, fun _ => L⟩⟩
theorem prims_Find_total (s : List UInt8) : Tot (F_prims_Find s) fun _ => True := by
  unfold F_prims_Find
  simp only [tot_bind, tot_cond, tot_some, Sum.elim_inl, Sum.elim_inr, implies_true, and_self]
theorem byte_class (c : UInt8) : Tot (F_runes_Class (IntKind.wrap .i64 (c.toNat : Int))) fun _ => True := by
  have := c.toNat_lt
  rw [w64 (by omega) (by omega)]
  exact Class_total _ (by omega) (by omega)
theorem lexer_word_total (s : List UInt8) (h : s.length ≤ 1000000) : Tot (F_lexer_Check (TLxToken.mk 1 0 0 0 s)) fun _ => True := by
  unfold F_lexer_Check
  dsimp only
  have e1 : decide ((1 : Int) = 1) = true := rfl
  have e2 : decide ((1 : Int) < 1) = false := rfl
  have e3 : decide ((9 : Int) < 1) = false := rfl
  have e4 : decide ((0 : Int) = 0) = true := rfl
  have e5 : decide (s = s) = true := by simp
  simp only [e2, e3, decide_true, cond_true, cond_false, Option.bind_some, Sum.elim_inl, Bool.and_self, Bool.not_true]
  rw [tot_bind]
  have Q : ∀ x : Int ⊕ Int, Tot (Sum.elim (fun (n : Int) => cond (decide (n < (s.length : Int))) (some (3 : Int)) (some (0 : Int))) some x) fun _ => True := by
    intro x
    cases x with
    | inl n => simp only [Sum.elim_inl, tot_cond, tot_some, implies_true, and_self]
    | inr n => exact .mk trivial
  refine Tot.mono (Q := fun _ => True) ?_ fun x _ => Q x
  rw [tot_cond]
  refine ⟨fun _ => .mk trivial, fun h1 => ?_⟩
  simp only [decide_eq_false_iff_not] at h1
  obtain ⟨c, hc⟩ := get_lt (l := s) (i := 0) (by omega)
  have e0 : (0 : Int).toNat = 0 := rfl
  simp only [tot_idx, tot_let, tot_bind, e0]
  refine ⟨by omega, c, hc, (byte_class c).mono fun x _ => ?_⟩
  rw [tot_cond]
  refine ⟨fun _ => .mk trivial, fun _ => ?_⟩
  simp only [tot_idx, tot_let, tot_bind, e0]
  refine ⟨by omega, c, hc, (byte_class c).mono fun y _ => ?_⟩
  refine Tot.loop (fun (p : Int × Int) => s.length - p.2.toNat) (fun (p : Int × Int) => 0 ≤ p.2 ∧ p.2 ≤ (s.length : Int) ∧ (p.1 = 8 ∨ p.1 = 6 → p.2 < (s.length : Int))) ?_ ⟨by simp, by simp, fun _ => by simp only; omega⟩
  rintro ⟨k, a⟩ ⟨h2, h3, h4⟩
  simp only at h2 h3 h4
  have round : (k = 8 ∨ k = 6) → ∀ {Q : (Bool × Int × Int) ⊕ (Int ⊕ Int) → Prop}, Tot (letO (IntKind.wrap .i64 (a + 1)) fun (u : Int) => cond (decide ((s.length : Int) ≤ u)) (some (Sum.inl ((10 : Int), u))) (idxO s u fun (v : UInt8) => letO (IntKind.wrap .i64 (v.toNat : Int)) fun (z : Int) => Option.bind (F_runes_Class z) fun r => some (Sum.inl (r.1, u)))) (Sum.elim (fun (s' : Int × Int) => (0 ≤ s'.2 ∧ s'.2 ≤ (s.length : Int) ∧ (s'.1 = 8 ∨ s'.1 = 6 → s'.2 < (s.length : Int))) ∧ s.length - s'.2.toNat < s.length - a.toNat) Q) := by
    intro hk Q
    have hlt := h4 hk
    rw [tot_let, w64 (by omega) (by omega), tot_cond]
    refine ⟨fun g => ?_, fun g => ?_⟩
    · simp only [decide_eq_true_eq] at g
      simp only [tot_some, Sum.elim_inl]
      exact ⟨⟨by omega, by omega, fun e => by omega⟩, by omega⟩
    · simp only [decide_eq_false_iff_not] at g
      obtain ⟨d, hd⟩ := get_lt (l := s) (i := (a + 1).toNat) (by omega)
      simp only [tot_idx, tot_let, tot_bind]
      refine ⟨by omega, d, hd, (byte_class d).mono fun z _ => ?_⟩
      simp only [tot_some, Sum.elim_inl]
      exact ⟨⟨by omega, by omega, fun e => by omega⟩, by omega⟩
  rw [tot_cond]
  refine ⟨fun g => round (.inl (by simpa using g)), fun g => ?_⟩
  rw [tot_cond]
  refine ⟨fun g' => round (.inr (by simpa using g')), fun g' => ?_⟩
  simp only [tot_some, Sum.elim_inr, Sum.elim_inl, tot_side, tot_cond, implies_true, and_self, and_true]
  omega
theorem expr_Name_total (s : List UInt8) (h : s.length ≤ 1000000) : Tot (F_expr_Name s) fun _ => True := by
  unfold F_expr_Name
  simp only [tot_cond, tot_some, implies_true, true_and, tot_bind]
  intros
  exact (prims_Find_total s).mono fun _ _ _ => (lexer_word_total s h).mono fun _ _ => trivial
end Go.Sx.O
namespace Go.Sx.O
open Go
structure TraceIn (t : TEvTrace) : Prop where
  events : t.Events.length ≤ 60
  log : t.Log.length ≤ 60
  event : ∀ v ∈ t.Events, v.Channel.length ≤ 100 ∧ v.Value.Cells.length ≤ 450
theorem same_spec (a b : TEvEvent) (h : a.Value.Cells.length ≤ 450) : Tot (F_view_same a b) fun r => (r = true ↔ a = b) := by
  unfold F_view_same
  obtain ⟨k1, s1, p1, l1, c1, v1, e1⟩ := a
  obtain ⟨k2, s2, p2, l2, c2, v2, e2⟩ := b
  simp only [tot_cond, tot_some, tot_bind, decide_eq_true_eq, decide_eq_false_iff_not, TEvEvent.mk.injEq, Bool.false_eq_true, false_iff, not_and]
  refine ⟨fun h1 => ⟨fun h2 => ⟨fun h3 => ⟨fun h4 => ⟨fun h5 => ⟨fun h6 => ?_, fun h6 _ _ _ _ _ _ h => h6 h⟩, fun h5 _ _ _ _ h => absurd h h5⟩, fun h4 _ _ _ h => absurd h h4⟩, fun h3 _ _ h => absurd h h3⟩, fun h2 _ h => absurd h h2⟩, fun h1 h => absurd h h1⟩
  refine (sameArray_spec v1 v2 (by simp only at h; omega)).mono fun r hr => ?_
  rw [hr]
  simp [h1, h2, h3, h4, h5, h6]
theorem bad_total (l : TLattice) (v : TEvEvent) (least most : Int) (last : Bool) (h : v.Channel.length ≤ 100) (h2 : v.Value.Cells.length ≤ 450) : Tot (F_view_bad l v least most last) fun r => r = 0 → isLab l v.Label = true := by
  unfold F_view_bad
  rw [label_spec]
  rw [Option.bind_some, tot_cond]
  refine ⟨fun _ => .mk fun e => absurd e (by decide), fun hl => ?_⟩
  have hl' : isLab l v.Label = true := by cases e : isLab l v.Label <;> simp_all
  simp only [hl', implies_true]
  simp only [tot_cond, tot_some, tot_bind, implies_true, true_and, and_true]
  intros
  refine ⟨fun _ => ?_, fun _ _ => ?_⟩
  · exact (expr_Name_total _ (by omega)).mono fun _ _ _ => (arrays_Check_total _ (by omega)).mono fun _ _ => trivial
  · exact (sameArray_spec _ _ (by omega)).mono fun _ _ => trivial
noncomputable def trR (l : TLattice) (t : TEvTrace) : Int × Int := (F_view_Check l t).getD (0, 0)
theorem view_Check_total {l : TLattice} {t : TEvTrace} (hl : LatIn l) (ht : TraceIn t) : Tot (F_view_Check l t) fun r => r.2 = 0 → (latR l).2 = 0 ∧ ∀ v ∈ t.Events, isLab l v.Label = true := by
  unfold F_view_Check
  rw [Check_eq hl, Option.bind_some]
  simp only [List.length_map]
  rw [tot_cond]
  refine ⟨fun h => .mk fun e => by simp at h; exact absurd e h, fun h0 => ?_⟩
  have h0' : (latR l).2 = 0 := by simpa using h0
  rw [tot_cond]
  refine ⟨fun _ => .mk fun e => absurd e (by decide), fun h1 => ?_⟩
  rw [tot_let, tot_bind]
  have hev := ht.events
  refine Tot.count t.Events.length (fun k s => s.1 = (k : Int) ∧ ∀ v ∈ t.Events.take k, isLab l v.Label = true) ?_ ⟨rfl, by simp⟩
  rintro k ⟨i, least⟩ hk ⟨hi, hall⟩
  simp only at hi hall
  subst hi
  simp only [tot_cond, tot_some, tot_let, tot_idx, tot_bind, Sum.elim_inl, Sum.elim_inr, decide_eq_true_eq, decide_eq_false_iff_not, Int.toNat_natCast]
  refine ⟨fun hlt => ?_, fun hlt => ?_⟩
  · obtain ⟨v, hv⟩ := get_lt (l := t.Events) (i := k) (by omega)
    have hm := List.mem_of_getElem? hv
    refine ⟨by omega, v, hv, ?_⟩
    refine (bad_total l v least t.Steps _ (ht.event v hm).1 (ht.event v hm).2).mono fun x hx => ⟨fun hne e => ?_, fun heq => ?_⟩
    · simp at hne; exact absurd e hne
    · rw [w64 (by omega) (by omega)]
      refine ⟨by omega, by omega, fun u hu => ?_⟩
      rw [List.take_add_one, hv] at hu
      rcases List.mem_append.1 hu with hu | hu
      · exact hall u hu
      · simp at hu; subst hu; exact hx (by simpa using heq)
  · have hlog := ht.log
    rw [List.take_of_length_le (by omega)] at hall
    refine Tot.count t.Log.length (fun k s => s = (k : Int)) ?_ rfl
    rintro j _ hj rfl
    simp only [tot_cond, tot_some, tot_let, tot_idx, tot_bind, Sum.elim_inl, Sum.elim_inr, decide_eq_true_eq, decide_eq_false_iff_not, Int.toNat_natCast]
    refine ⟨fun hlt' => ?_, fun _ _ => ⟨h0', hall⟩⟩
    obtain ⟨x, hx⟩ := get_lt (l := t.Log) (i := j) (by omega)
    refine ⟨by omega, x, hx, ?_⟩
    rw [label_spec, tot_some]
    have step : (j < t.Log.length ∧ IntKind.wrap .i64 ((j : Int) + 1) = ((j + 1 : Nat) : Int)) := by
      rw [w64 (by omega) (by omega)]; exact ⟨by omega, by omega⟩
    refine ⟨fun _ e => absurd e (by decide), fun _ => ?_⟩
    rw [label_spec, tot_some]
    refine ⟨fun _ e => absurd e (by decide), fun _ => ⟨fun _ e => absurd e (by decide), fun _ => ⟨fun _ e => absurd e (by decide), fun _ => ⟨fun _ e => absurd e (by decide), fun _ => ⟨fun _ e => absurd e (by decide), fun _ => ⟨fun _ e => absurd e (by decide), fun _ => ⟨fun _ e => absurd e (by decide), fun _ => ⟨fun _ => ⟨fun _ e => absurd e (by decide), fun _ => step⟩, fun _ => step⟩⟩⟩⟩⟩⟩⟩⟩
theorem vCheck_eq {l : TLattice} {t : TEvTrace} (hl : LatIn l) (ht : TraceIn t) : F_view_Check l t = some (trR l t) := by
  obtain ⟨r, e, _⟩ := view_Check_total hl ht
  unfold trR; rw [e]; rfl
theorem tr_ok {l : TLattice} {t : TEvTrace} (hl : LatIn l) (ht : TraceIn t) (h : (trR l t).2 = 0) : (latR l).2 = 0 ∧ ∀ v ∈ t.Events, isLab l v.Label = true := by
  obtain ⟨r, e, q⟩ := view_Check_total hl ht
  have := vCheck_eq hl ht
  rw [e] at this; cases this
  exact q h
noncomputable def vask (l : TLattice) (o : Int) : List TEvTrace → Int
  | [] => if isLab l o then 0 else 7
  | t :: r => if (trR l t).2 = 0 then vask l o r else (trR l t).2
theorem vasked_spec {l : TLattice} (hl : LatIn l) (o : Int) (ts : List TEvTrace) (ht : ∀ t ∈ ts, TraceIn t) (hn : ts.length ≤ 3) : F_view_asked l o ts = some (vask l o ts) := by
  unfold F_view_asked
  apply Tot.eq
  simp only [tot_bind, List.length_map]
  refine Tot.count ts.length (fun k s => s = (k : Int) ∧ vask l o (ts.drop k) = vask l o ts) ?_ ⟨rfl, rfl⟩
  rintro k _ hk ⟨rfl, hv⟩
  simp only [tot_cond, tot_some, tot_let, tot_idx, tot_bind, Sum.elim_inl, Sum.elim_inr, decide_eq_true_eq, decide_eq_false_iff_not, Int.toNat_natCast]
  refine ⟨fun hlt => ?_, fun hlt => ?_⟩
  · obtain ⟨t, hx⟩ := get_lt (l := ts) (i := k) (by omega)
    refine ⟨by omega, t, hx, ?_⟩
    rw [vCheck_eq hl (ht t (List.mem_of_getElem? hx)), tot_some]
    have hd : ts.drop k = t :: ts.drop (k + 1) := by
      have hlt' : k < ts.length := by omega
      rw [List.drop_eq_getElem_cons hlt']
      congr 1
      rw [List.getElem?_eq_getElem hlt'] at hx; exact Option.some.inj hx
    rw [hd] at hv
    unfold vask at hv
    rw [w64 (by omega) (by omega)]
    by_cases h0 : (trR l t).2 = 0
    · rw [if_pos h0] at hv
      refine ⟨fun h => by simp [h0] at h, fun _ => ⟨by omega, by omega, ?_⟩⟩
      rw [hv]
      cases ts with
      | nil => simp at hx
      | cons a r => rfl
    · rw [if_neg h0] at hv
      refine ⟨fun _ => ?_, fun h => by simp [h0] at h⟩
      rw [hv]
      cases ts with
      | nil => simp at hx
      | cons a r => rfl
  · rw [label_spec, tot_some]
    rw [List.drop_of_length_le (by omega)] at hv
    have hv' : (if isLab l o then (0 : Int) else 7) = vask l o ts := hv
    cases e : isLab l o with
    | true =>
      rw [e] at hv'
      exact ⟨fun h => by simp at h, fun _ => by simpa using hv'⟩
    | false =>
      rw [e] at hv'
      exact ⟨fun _ => by simpa using hv', fun h => by simp at h⟩
end Go.Sx.O
namespace Go.Sx.O
open Go
theorem EqualFunc_spec (a b : List TEvEvent) (h : a.length ≤ 60) (hv : ∀ v ∈ a, v.Value.Cells.length ≤ 450) : Tot (F_slices_EqualFunc___api_EvEvent___api_EvEvent_api_EvEvent_api_EvEvent_ a b) fun r => (r = true ↔ a = b) := by
  unfold F_slices_EqualFunc___api_EvEvent___api_EvEvent_api_EvEvent_api_EvEvent_
  simp only [List.length_map, tot_cond, tot_some, tot_bind, Bool.not_eq_true', Bool.not_eq_false', decide_eq_true_eq, decide_eq_false_iff_not]
  refine ⟨fun hne => ?_, fun heq => ?_⟩
  · have : a ≠ b := fun e => hne (by rw [e])
    simp [this]
  · have hl : a.length = b.length := by omega
    open Classical in
    refine zip_loop (l := a) (m := b) a.length (fun x y => decide (x = y)) (bad := fun _ => false) (e := ()) (Nat.le_refl _) (by omega) (fun k x y hx hy hk => ?_) (by simp) (fun hall => ?_) (fun k x y hx hy hk e _ => ?_)
    · obtain ⟨r, e, hr⟩ := same_spec x y (hv x (List.mem_of_getElem? hx))
      simp only [Int.ofNat_lt, hk, decide_true, cond_true, idxO, Int.toNat_natCast, hx, hy, Option.bind_some, letO, Int.natCast_nonneg, if_true, e]
      rw [w64 (by omega) (by omega)]
      by_cases hxy : x = y
      · have : r = true := hr.2 hxy
        simp [hxy, this]
      · have : r = false := by cases r <;> simp_all
        simp [hxy, this]
    · have : a = b := eq_of_get hl fun k x y hx hy hk => by simpa using hall k x y hx hy hk
      simp [this, tot_some]
    · have : a ≠ b := by
        rintro rfl
        rw [hx] at hy; cases hy
        simp at e
      simp [this, tot_some]
def agreeP (a b : List TReEntry) : Prop := ∀ (k : Nat) x y, a[k]? = some x → b[k]? = some y → x.Value = y.Value
theorem agreeP.symm {a b : List TReEntry} (h : agreeP a b) : agreeP b a := fun k x y hx hy => (h k y x hy hx).symm
theorem agreeP.refl (a : List TReEntry) : agreeP a a := fun k x y hx hy => by rw [hx] at hy; cases hy; rfl
noncomputable def seenE (l : TLattice) (t : TEvTrace) (o : Int) : List TEvEvent := t.Events.filter fun v => sees l v.Label o
noncomputable def seenL (l : TLattice) (t : TEvTrace) (o : Int) : List TReEntry := t.Log.filter fun v => sees l v.Goal o
theorem seenE_len {l : TLattice} {t : TEvTrace} {o : Int} (ht : TraceIn t) : (seenE l t o).length ≤ 60 := Nat.le_trans (List.length_filter_le _ _) ht.events
theorem seenL_len {l : TLattice} {t : TEvTrace} {o : Int} (ht : TraceIn t) : (seenL l t o).length ≤ 60 := Nat.le_trans (List.length_filter_le _ _) ht.log
theorem seenE_val {l : TLattice} {t : TEvTrace} {o : Int} (ht : TraceIn t) : ∀ v ∈ seenE l t o, v.Value.Cells.length ≤ 450 := fun v hv => (ht.event v (List.mem_filter.1 hv).1).2
theorem Events_spec {l : TLattice} {t : TEvTrace} (hl : LatIn l) (ht : TraceIn t) (o : Int) : F_view_Events l t o = some (if vask l o [t] = 0 then seenE l t o else [], vask l o [t]) := by
  unfold F_view_Events
  rw [vasked_spec hl o [t] (by simpa using ht) (by simp), Option.bind_some]
  by_cases h : vask l o [t] = 0
  · rw [events_spec hl t o (by have := ht.events; omega)]
    simp [h, seenE]
  · simp [h]
theorem Alike_spec {l : TLattice} {a b : TEvTrace} (hl : LatIn l) (ha : TraceIn a) (hb : TraceIn b) (o : Int) : Tot (F_view_Alike l a b o) fun r => r.2 = vask l o [a, b] ∧ (r.2 = 0 → (r.1 = true ↔ seenE l a o = seenE l b o)) := by
  unfold F_view_Alike
  rw [vasked_spec hl o [a, b] (by intro t ht; simp at ht; rcases ht with rfl | rfl <;> assumption) (by simp), Option.bind_some, tot_cond]
  refine ⟨fun h => .mk ⟨rfl, fun e => ?_⟩, fun h => ?_⟩
  · simp at h; exact absurd e h
  · rw [events_spec hl a o (by have := ha.events; omega), events_spec hl b o (by have := hb.events; omega), Option.bind_some, Option.bind_some, tot_bind]
    refine (EqualFunc_spec (seenE l a o) (seenE l b o) (seenE_len ha) (seenE_val ha)).mono fun r hr => .mk ⟨?_, fun _ => hr⟩
    simp at h; exact h.symm
theorem vask_nil {l : TLattice} {o : Int} {ts : List TEvTrace} : vask l o ts = 0 ↔ isLab l o = true ∧ ∀ t ∈ ts, (trR l t).2 = 0 := by
  induction ts with
  | nil => unfold vask; cases isLab l o <;> simp
  | cons t r ih =>
    unfold vask
    by_cases h : (trR l t).2 = 0
    · simp [h, ih]
    · simp [h]
end Go.Sx.O
namespace Go.Sx.O
open Go
def namesF (ns : List (List UInt8)) (i : Nat) : Option (Int × Int) :=
  if wname (ns.getD i []) = true then (if ns.getD i [] ∈ ns.take i then some ((i : Int), 8) else none) else some ((i : Int), 6)
def namesR (ns : List (List UInt8)) : Int × Int := if ns.length < 1 ∨ 8 < ns.length then (-1, 3) else (scan (namesF ns) 0 ns.length).getD (0, 0)
theorem getD_lt {α : Type} {l : List α} {i : Nat} {d x : α} (h : l[i]? = some x) : l.getD i d = x := by rw [List.getD_eq_getElem?_getD, h]; rfl
theorem named_eq (ns : List (List UInt8)) (h : ns.length ≤ 20) (hn : ∀ s ∈ ns, s.length ≤ 50) : F_lattice_named ns = some (namesR ns) := by
  unfold F_lattice_named namesR
  simp only [List.length_map]
  by_cases h1 : ns.length < 1
  · have : (ns.length : Int) < 1 := by omega
    simp [h1, this]
  by_cases h2 : 8 < ns.length
  · have : (8 : Int) < ns.length := by omega
    have g1 : ¬ (ns.length : Int) < 1 := by omega
    simp [h2, this, g1]
  have g1 : ¬ (ns.length : Int) < 1 := by omega
  have g2 : ¬ (8 : Int) < ns.length := by omega
  simp only [g1, g2, h1, h2, decide_false, cond_false, or_self, if_false]
  rw [lp_scanE ns.length (namesF ns) () (fun k hk => ?_) (by simp)]
  · cases scan (namesF ns) 0 ns.length <;> rfl
  · obtain ⟨x, hx⟩ := get_lt (l := ns) (i := k) hk
    have hxl := hn x (List.mem_of_getElem? hx)
    simp only [Int.ofNat_lt, hk, decide_true, cond_true, idxO, Int.toNat_natCast, hx, Option.bind_some, letO, Int.natCast_nonneg, if_true]
    rw [Name_spec x (by omega), Contains_strings_spec _ _ (by simp; omega)]
    unfold namesF
    rw [getD_lt hx, w64 (by omega) (by omega)]
    cases e : wname x with
    | false => simp
    | true =>
      have hk' : k ≤ ns.length := by omega
      simp only [Option.bind_some, Bool.not_true, cond_false, Int.toNat_zero, List.drop_zero, if_true]
      by_cases hm : x ∈ ns.take k
      · simp [hm, sideO, hk']
      · simp [hm, sideO, hk']
theorem lower_spec (c : UInt8) : F_invigilatorref01_lower (c.toNat : Int) = some (decide (97 ≤ c.toNat) && decide (c.toNat ≤ 122)) := by
  unfold F_invigilatorref01_lower
  by_cases h : (97 : Int) ≤ c.toNat
  · have : 97 ≤ c.toNat := by omega
    simp only [h, this, decide_true, cond_true, Bool.true_and]
    congr 1
    rw [Bool.eq_iff_iff]; simp; omega
  · have : ¬ 97 ≤ c.toNat := by omega
    simp only [h, this, decide_false, cond_false, Bool.false_and]
theorem digit_spec (c : UInt8) : F_invigilatorref01_digit (c.toNat : Int) = some (decide (48 ≤ c.toNat) && decide (c.toNat ≤ 57)) := by
  unfold F_invigilatorref01_digit
  by_cases h : (48 : Int) ≤ c.toNat
  · have : 48 ≤ c.toNat := by omega
    simp only [h, this, decide_true, cond_true, Bool.true_and]
    congr 1
    rw [Bool.eq_iff_iff]; simp; omega
  · have : ¬ 48 ≤ c.toNat := by omega
    simp only [h, this, decide_false, cond_false, Bool.false_and]
theorem word_byte (c : UInt8) : decide (c ∈ wordSet) = (decide (97 ≤ c.toNat) && decide (c.toNat ≤ 122) || (decide (48 ≤ c.toNat) && decide (c.toNat ≤ 57)) || decide (c.toNat = 45)) := by
  have key : ∀ n : Fin 256, decide (UInt8.ofNat n ∈ wordSet) = (decide (97 ≤ n.val) && decide (n.val ≤ 122) || (decide (48 ≤ n.val) && decide (n.val ≤ 57)) || decide (n.val = 45)) := by decide +kernel
  have := key ⟨c.toNat, c.toNat_lt⟩
  simpa using this
theorem ref_Name_spec (s : List UInt8) (h : s.length ≤ 1000000000) : F_invigilatorref01_Name s = some (wname s) := by
  unfold F_invigilatorref01_Name
  cases s with
  | nil => rfl
  | cons a r =>
    have g1 : ¬ ((a :: r).length : Int) < 1 := by simp; omega
    simp only [g1, decide_false, cond_false]
    unfold wname
    by_cases h1 : (16 : Int) < ((a :: r).length : Int)
    · have : ¬ (a :: r).length ≤ 16 := by omega
      simp only [h1, decide_true, cond_true, this, decide_false, Bool.false_and]
    have h1' : (a :: r).length ≤ 16 := by omega
    have e5 : idxO (a :: r) 0 = fun f => (f a : Option Bool) := rfl
    simp only [h1, decide_false, cond_false, h1', decide_true, Bool.true_and, e5, lower_spec, Option.bind_some]
    cases e : (decide (97 ≤ a.toNat) && decide (a.toNat ≤ 122)) with
    | false => rfl
    | true =>
      simp only [Bool.not_true, cond_false, Bool.true_and]
      generalize a :: r = s at *
      rw [lp_scanE s.length (fun k => if decide (s.getD k 0 ∈ wordSet) = true then none else some false) () (fun k hk => ?_) (by simp)]
      · cases hs : scan (fun k => if decide (s.getD k 0 ∈ wordSet) = true then none else some false) 0 s.length with
        | none =>
          have := scan_none.1 hs
          simp only
          congr 1
          symm
          rw [List.all_eq_true]
          intro c hc
          obtain ⟨i, hi, rfl⟩ := List.getElem_of_mem hc
          have := this i (by omega) (by omega)
          rw [getD_lt (List.getElem?_eq_getElem hi)] at this
          split at this
          · assumption
          · cases this
        | some b =>
          simp only
          congr 1
          have hall : ¬ s.all (fun c => decide (c ∈ wordSet)) = true := by
            intro hall
            rw [List.all_eq_true] at hall
            have : scan (fun k => if decide (s.getD k 0 ∈ wordSet) = true then none else some false) 0 s.length = none := scan_none.2 fun i _ hi => by
              have hi' : i < s.length := by omega
              rw [getD_lt (List.getElem?_eq_getElem hi'), if_pos (hall _ (List.getElem_mem hi'))]
            rw [this] at hs; cases hs
          have hb : b = false := by
            have key : ∀ {j k : Nat}, scan (fun k => if decide (s.getD k 0 ∈ wordSet) = true then none else some false) k j = some b → b = false := by
              intro j
              induction j with
              | zero => intro k h; cases h
              | succ j ih =>
                intro k h
                simp only [scan] at h
                split at h
                · rename_i r hr
                  cases h
                  split at hr
                  · cases hr
                  · cases hr; rfl
                · exact ih h
            exact key hs
          rw [hb]
          cases e : s.all (fun c => decide (c ∈ wordSet)) with
          | false => rfl
          | true => exact absurd e hall
      · obtain ⟨x, hx⟩ := get_lt (l := s) (i := k) hk
        simp only [Int.ofNat_lt, hk, decide_true, cond_true, idxO, Int.toNat_natCast, hx, Option.bind_some, letO, Int.natCast_nonneg, if_true, lower_spec, digit_spec]
        rw [getD_lt hx, w64 (by omega) (by omega), word_byte]
        cases (decide (97 ≤ x.toNat) && decide (x.toNat ≤ 122)) with
        | true => simp
        | false =>
          cases (decide (48 ≤ x.toNat) && decide (x.toNat ≤ 57)) with
          | true => simp
          | false =>
            by_cases h45 : x.toNat = 45
            · simp [h45]
            · have : ¬ (x.toNat : Int) = 45 := by omega
              simp [h45, this]
theorem ref_names_eq (ns : List (List UInt8)) (h : ns.length ≤ 20) (hn : ∀ s ∈ ns, s.length ≤ 50) : F_invigilatorref03_names ns = some (namesR ns) := by
  unfold F_invigilatorref03_names namesR
  simp only [List.length_map]
  by_cases h1 : ns.length < 1
  · have : (ns.length : Int) < 1 := by omega
    simp [h1, this]
  by_cases h2 : 8 < ns.length
  · have : (8 : Int) < ns.length := by omega
    have g1 : ¬ (ns.length : Int) < 1 := by omega
    simp [h2, this, g1]
  have g1 : ¬ (ns.length : Int) < 1 := by omega
  have g2 : ¬ (8 : Int) < ns.length := by omega
  simp only [g1, g2, h1, h2, decide_false, cond_false, or_self, if_false]
  rw [lp_scanE ns.length (namesF ns) () (fun k hk => ?_) (by simp)]
  · cases scan (namesF ns) 0 ns.length <;> rfl
  · obtain ⟨x, hx⟩ := get_lt (l := ns) (i := k) hk
    have hxl := hn x (List.mem_of_getElem? hx)
    simp only [Int.ofNat_lt, hk, decide_true, cond_true, idxO, Int.toNat_natCast, hx, Option.bind_some, Int.natCast_nonneg, if_true]
    rw [ref_Name_spec x (by omega)]
    unfold namesF
    rw [getD_lt hx]
    cases e : wname x with
    | false => simp
    | true =>
      simp only [Option.bind_some, Bool.not_true, cond_false, if_true]
      rw [lp_scanE k (fun j => if ns.getD j [] = x then some (.inr (.inr ((k : Int), (8 : Int)))) else none) () (fun j hj => ?_) (by simp)]
      · by_cases hm : x ∈ ns.take k
        · obtain ⟨j, hj, rfl⟩ := List.getElem_of_mem hm
          have hj' : j < k ∧ j < ns.length := by simp at hj; omega
          cases hs : scan (fun i => if ns.getD i [] = (ns.take k)[j] then some ((.inr (.inr ((k : Int), (8 : Int)))) : Int ⊕ (Unit ⊕ (Int × Int))) else none) 0 k with
          | none =>
            have := scan_none.1 hs j (by omega) (by omega)
            rw [getD_lt (List.getElem?_eq_getElem hj'.2)] at this
            simp at this
          | some b =>
            have : b = .inr (.inr ((k : Int), (8 : Int))) := scan_val (fun i => by split <;> simp) hs
            rw [this, if_pos hm]
        · have : scan (fun j => if ns.getD j [] = x then some ((.inr (.inr ((k : Int), (8 : Int)))) : Int ⊕ (Unit ⊕ (Int × Int))) else none) 0 k = none := scan_none.2 fun i _ hi => by
            have hi' : i < ns.length := by omega
            rw [getD_lt (List.getElem?_eq_getElem hi'), if_neg]
            rintro rfl
            exact hm (List.mem_iff_getElem.2 ⟨i, by simp; omega, by simp⟩)
          rw [this]
          simp only [hm, if_false, letO]
          rw [w64 (by omega) (by omega)]
      · obtain ⟨y, hy⟩ := get_lt (l := ns) (i := j) (by omega)
        simp only [Int.ofNat_lt, hj, decide_true, cond_true, idxO, Int.toNat_natCast, hy, Option.bind_some, letO, Int.natCast_nonneg, if_true, hx]
        rw [getD_lt hy, w64 (by omega) (by omega)]
        by_cases hxy : y = x
        · simp [hxy]
        · simp [hxy]
end Go.Sx.O
namespace Go.Sx.O
open Go
def dn (l : TLattice) (b : Nat) : Nat → Nat
  | 0 => 0
  | k + 1 => dn l b k ||| (if up l k b = true then 2 ^ k else 0)
theorem dn_bit (l : TLattice) (b : Nat) : ∀ (k i : Nat), (dn l b k).testBit i = (decide (i < k) && up l i b)
  | 0, i => by simp [dn]
  | k + 1, i => by
    simp only [dn, Nat.testBit_or, dn_bit l b k i]
    by_cases h : up l k b = true
    · simp only [h, if_true, Nat.testBit_two_pow]
      by_cases hik : i = k
      · subst hik; simp [h]
      · have h1 : ¬ k = i := fun e => hik e.symm
        have h2 : (i < k + 1) = (i < k) := by simp; omega
        simp [h1, h2]
    · simp only [h, if_false, Nat.zero_testBit, Bool.or_false]
      by_cases hik : i = k
      · subst hik; simp [h]
      · have h2 : (i < k + 1) = (i < k) := by simp; omega
        simp [h2]
theorem dn_lt (l : TLattice) (b : Nat) : ∀ k : Nat, dn l b k < 2 ^ k
  | 0 => by simp [dn]
  | k + 1 => by
    simp only [dn]
    refine Nat.or_lt_two_pow (Nat.lt_of_lt_of_le (dn_lt l b k) (Nat.pow_le_pow_right (by omega) (by omega))) ?_
    split
    · exact Nat.pow_lt_pow_right (by omega) (by omega)
    · exact Nat.two_pow_pos _
theorem dn_256 (l : TLattice) (b : Nat) {k : Nat} (h : k ≤ 8) : dn l b k < 256 := Nat.lt_of_lt_of_le (dn_lt l b k) (Nat.pow_le_pow_right (n := 2) (by omega) h)
theorem shl_bit {c : Bool} {k : Nat} (h : k < 8) : IntKind.wrap .u8 ((if c = true then (1 : Int) else 0) * 2 ^ min k (IntKind.bits .u8)) = ((if c = true then 2 ^ k else 0 : Nat) : Int) := by
  have key : ∀ (c : Bool) (k : Fin 8), IntKind.wrap .u8 ((if c = true then (1 : Int) else 0) * 2 ^ min k.val (IntKind.bits .u8)) = ((if c = true then 2 ^ k.val else 0 : Nat) : Int) := by decide +kernel
  exact key c ⟨k, h⟩
theorem or_nat {a b : Nat} (ha : a < 256) (hb : b < 256) : bits .or .u8 (a : Int) (b : Int) = ((a ||| b : Nat) : Int) := by
  rw [bits_or (by omega) (by omega) (by omega) (by omega)]; rfl
theorem and_nat {a b : Nat} (ha : a < 256) (hb : b < 256) : bits .and .u8 (a : Int) (b : Int) = ((a &&& b : Nat) : Int) := by
  rw [bits_and (by omega) (by omega) (by omega) (by omega)]; rfl
theorem sh_lt {c : Bool} {k : Nat} (h : k < 8) : (if c = true then 2 ^ k else 0) < 256 := by
  split
  · exact Nat.lt_of_lt_of_le (Nat.pow_lt_pow_right (a := 2) (by omega) h) (by omega)
  · omega
theorem get_set {α : Type} {l : List α} {i j : Nat} {x : α} (h : i < l.length) : (l.set i x)[j]? = if i = j then some x else l[j]? := by
  rw [List.getElem?_set]
  split
  · simp [h]
  · rfl
theorem of_exact (l : TLattice) (hu : U8s l.Up) (hn : l.Names.length ≤ 8) (hl : l.Up.length = l.Names.length) :
    Tot (F_lattice_of l) fun o => o.n_ = l.Names.length ∧ o.up_.length = 8 ∧ o.down_.length = 8 ∧ (∀ j, j < l.Names.length → o.up_[j]? = l.Up[j]?) ∧ ∀ b, b < l.Names.length → o.down_[b]? = some (dn l b l.Names.length : Int) := by
  unfold F_lattice_of
  simp only [tot_bind, List.length_map]
  refine Tot.count l.Up.length (fun k s => s.1 = (k : Int) ∧ s.2.1.length = 8 ∧ s.2.2.length = 8 ∧ (∀ j, j < k → s.2.1[j]? = l.Up[j]?) ∧ ∀ b, b < l.Names.length → s.2.2[b]? = some (dn l b k : Int)) ?_ ⟨rfl, rfl, rfl, fun j hj => absurd hj (by omega), fun b hb => ?_⟩
  · rintro k ⟨i, up', down⟩ hk ⟨h0, h1, h2, h3, h4⟩
    simp only at h0 h1 h2 h3 h4
    subst h0
    simp only [tot_some, tot_cond, tot_let, tot_idx, tot_side, tot_bind, Sum.elim_inl, Sum.elim_inr, decide_eq_true_eq, decide_eq_false_iff_not, Int.toNat_natCast]
    refine ⟨fun hlt => ?_, fun hlt => ?_⟩
    · obtain ⟨x, hx⟩ := get_lt (l := l.Up) (i := k) (by omega)
      obtain ⟨y, hy⟩ := get_lt (l := up') (i := k) (by omega)
      refine ⟨by omega, x, hx, ⟨by omega, by omega⟩, by omega, y, hy, ?_⟩
      have hx' := hu.get hx
      refine Tot.count l.Names.length (fun j s => s.1 = (j : Int) ∧ s.2.length = 8 ∧ ∀ b, b < l.Names.length → s.2[b]? = some (dn l b (if b < j then k + 1 else k) : Int)) ?_ ⟨rfl, h2, fun b hb => by simpa using h4 b hb⟩
      rintro j ⟨i', d⟩ hj ⟨g0, g1, g2⟩
      simp only at g0 g1 g2
      subst g0
      simp only [tot_some, tot_cond, tot_let, tot_idx, tot_side, tot_bind, Sum.elim_inl, Sum.elim_inr, decide_eq_true_eq, decide_eq_false_iff_not, Int.toNat_natCast]
      refine ⟨fun hlt' => ?_, fun hlt' => ?_⟩
      · have hz := g2 j (by omega)
        rw [if_neg (by omega)] at hz
        rw [w64 (by omega) (by omega)]
        refine ⟨⟨by omega, by omega⟩, by omega, _, hz, by omega, by omega, ⟨by omega, by omega⟩, by omega, _, hz, by omega, by omega, by simpa using g1, fun b hb => ?_⟩
        rw [get_set (by omega)]
        by_cases hjb : j = b
        · subst hjb
          rw [if_pos rfl, if_pos (by omega), bitAt hx'.1 hx'.2 (by omega), ← up_of hx, shl_bit (by omega), or_nat (dn_256 l j (by omega)) (sh_lt (by omega))]
          rfl
        · rw [if_neg hjb, g2 b hb]
          have : (b < j + 1) = (b < j) := by simp; omega
          simp only [this]
      · rw [w64 (by omega) (by omega)]
        refine ⟨by omega, by omega, by simpa using h1, g1, fun q hq => ?_, fun b hb => ?_⟩
        · rw [get_set (by omega)]
          by_cases hkq : k = q
          · subst hkq; rw [if_pos rfl, hx]
          · rw [if_neg hkq]; exact h3 q (by omega)
        · rw [g2 b hb, if_pos (by omega)]
    · have hkn : k = l.Names.length := by omega
      subst hkn
      exact ⟨trivial, h1, h2, h3, h4⟩
  · have h8 : ∀ b : Fin 8, ([0, 0, 0, 0, 0, 0, 0, 0] : List Int)[b.val]? = some 0 := by decide
    exact h8 ⟨b, by omega⟩
theorem sideO_pos {ρ : Type} {p : Prop} [Decidable p] {x : Option ρ} (h : p) : sideO p x = x := by unfold sideO; rw [if_pos h]
def bnd (g : Nat → Nat) (n a b : Nat) : Option Nat := scan (fun c => if g c = g a &&& g b then some c else none) 0 n
def bndI (g : Nat → Nat) (n a b : Nat) : Int := match bnd g n a b with | some c => c | none => -1
theorem bound_exact (m : List Int) (g : Nat → Nat) (n a b : Nat) (hn : n ≤ 8) (hg : ∀ c, c < n → m[c]? = some (g c : Int)) (hg8 : ∀ c, c < n → g c < 256) (hs : ∀ c, c < n → (g c).testBit c = true) (ha : a < n) (hb : b < n) :
    F_lattice_bound_lattice_ups_ m n a b = some (bndI g n a b) := by
  unfold F_lattice_bound_lattice_ups_ bndI bnd
  have s1 : ((0 : Int) ≤ (a : Int) ∧ (a : Int) < ((8 : Nat) : Int)) := by omega
  have s2 : ((0 : Int) ≤ (b : Int) ∧ (b : Int) < ((8 : Nat) : Int)) := by omega
  simp only [sideO_pos s1, sideO_pos s2]
  simp only [idxO, Int.toNat_natCast, Int.natCast_nonneg, if_true, hg a ha, hg b hb, Option.bind_some, and_nat (hg8 a ha) (hg8 b hb)]
  have h8 : g a &&& g b < 256 := and_lt (hg8 a ha)
  generalize g a &&& g b = both at *
  rw [lp_scanE n (fun c => if g c = both then some (c : Int) else none) () (fun c hc => ?_) (by simp)]
  · have e : (fun c => if g c = both then some (c : Int) else none) = fun c => (if g c = both then some c else none).map (fun c : Nat => (c : Int)) := by
      funext c; split <;> rfl
    rw [e, scan_map]
    cases scan (fun c => if g c = both then some c else none) 0 n <;> rfl
  · have s3 : ((0 : Int) ≤ (c : Int) ∧ (c : Int) < ((8 : Nat) : Int)) := by omega
    simp only [sideO_pos s3]
    simp only [Int.ofNat_lt, hc, decide_true, cond_true, sideO, Int.natCast_nonneg, if_true, hg c hc, Option.bind_some, letO]
    rw [w64 (by omega) (by omega), bitAt (by omega) (by omega) (by omega)]
    simp only [Int.toNat_natCast]
    by_cases hbc : both.testBit c = true
    · simp only [hbc, if_true, decide_true, cond_true]
      rw [hg c hc]
      by_cases hgc : g c = both
      · simp [hgc]
      · have : ¬ (g c : Int) = (both : Int) := by omega
        simp [hgc, this]
    · have : g c ≠ both := fun e => hbc (e ▸ hs c hc)
      simp [hbc, this]
theorem nearest_exact (m : List Int) (g : Nat → Nat) (a b : Nat) (hn : m.length ≤ 8) (hg : ∀ c, c < m.length → m[c]? = some (g c : Int)) (hg8 : ∀ c, c < m.length → g c < 256) (ha : a < m.length) (hb : b < m.length) :
    F_invigilatorref03_nearest m a b = some (bndI g m.length a b) := by
  unfold F_invigilatorref03_nearest bndI bnd
  simp only [idxO, Int.toNat_natCast, Int.natCast_nonneg, if_true, hg a ha, hg b hb, Option.bind_some, and_nat (hg8 a ha) (hg8 b hb), List.length_map]
  have h8 : g a &&& g b < 256 := and_lt (hg8 a ha)
  generalize g a &&& g b = both at *
  rw [lp_scanE m.length (fun c => if g c = both then some (c : Int) else none) () (fun c hc => ?_) (by simp)]
  · have e : (fun c => if g c = both then some (c : Int) else none) = fun c => (if g c = both then some c else none).map (fun c : Nat => (c : Int)) := by
      funext c; split <;> rfl
    rw [e, scan_map]
    cases scan (fun c => if g c = both then some c else none) 0 m.length <;> rfl
  · simp only [Int.ofNat_lt, hc, decide_true, cond_true, hg c hc, Option.bind_some, letO]
    rw [w64 (by omega) (by omega), Int.toNat_natCast, if_pos (by omega), hg c hc]
    by_cases hgc : g c = both
    · simp [hgc]
    · have : ¬ (g c : Int) = (both : Int) := by omega
      simp [hgc, this]
end Go.Sx.O
namespace Go.Sx.O
open Go
def upN (l : TLattice) (a : Nat) : Nat := (l.Up.getD a 0).toNat
def ordB (l : TLattice) (a b : Nat) : Bool := !up l a b || ((decide (b = a) || !up l b a) && (List.range l.Names.length).all fun i => !up l b i || up l a i)
def ordA (l : TLattice) (a : Nat) : Bool := decide (upN l a < 2 ^ l.Names.length) && up l a a && (List.range l.Names.length).all fun b => ordB l a b
def dnN (l : TLattice) (b : Nat) : Nat := dn l b l.Names.length
def lacks (l : TLattice) (a b : Nat) : Bool := (bnd (upN l) l.Names.length a b).isNone || (bnd (dnN l) l.Names.length a b).isNone
def latC (l : TLattice) : Int × Int :=
  if (namesR l.Names).2 = 0 then
    if l.Up.length = l.Names.length then
      match scan (fun a => if ordA l a = true then none else some ((a : Int), (6 : Int))) 0 l.Names.length with
      | some r => r
      | none => (scan (fun a => scan (fun b => if lacks l a b = true then some ((a : Int), (4 : Int)) else none) 0 l.Names.length) 0 l.Names.length).getD (0, 0)
    else (-1, 6)
  else namesR l.Names
theorem scan_pv {α : Type} {p : Nat → Bool} {v : α} : ∀ {j k : Nat}, scan (fun i => if p i = true then none else some v) k j = if (List.range j).all (fun i => p (k + i)) = true then none else some v
  | 0, _ => by simp [scan]
  | j + 1, k => by
    simp only [scan, scan_pv (j := j) (k := k + 1)]
    have e : (List.range (j + 1)).all (fun i => p (k + i)) = (p k && (List.range j).all fun i => p (k + 1 + i)) := by
      rw [List.range_succ_eq_map, List.all_cons, List.all_map]
      congr 1
      congr 1
      funext i
      simp only [Function.comp]
      congr 1; omega
    rw [e]
    cases p k <;> simp
theorem scan_last {α : Type} {p : Nat → Bool} {u v : α} {n : Nat} : ∀ {j k : Nat}, k + j = n → 0 < j → scan (fun i => if p i = true then (if i + 1 = n then some u else none) else some v) k j = some (if (List.range j).all (fun i => p (k + i)) = true then u else v)
  | 0, _, _, h => by omega
  | j + 1, k, hk, _ => by
    have e : (List.range (j + 1)).all (fun i => p (k + i)) = (p k && (List.range j).all fun i => p (k + 1 + i)) := by
      rw [List.range_succ_eq_map, List.all_cons, List.all_map]
      congr 1
      congr 1
      funext i
      simp only [Function.comp]
      congr 1; omega
    rw [e]
    simp only [scan]
    cases hp : p k with
    | false => simp
    | true =>
      simp only [if_true, Bool.true_and]
      by_cases hj : j = 0
      · subst hj
        have : k + 1 = n := by omega
        simp [this]
      · have : ¬ k + 1 = n := by omega
        simp only [this, if_false]
        exact scan_last (by omega) (by omega)
theorem Len8_exact (x : Int) (h0 : 0 ≤ x) (h1 : x < 256) : Tot (F_math_bits_Len8 x) fun y => ∀ n : Nat, n ≤ 8 → decide ((n : Int) < y) = !decide (x.toNat < 2 ^ n) := by
  unfold F_math_bits_Len8
  rw [tot_idx]
  refine ⟨h0, ?_⟩
  have key : ∀ l : List UInt8, (∀ x : Fin 256, ∀ n : Fin 9, (l[x.val]?.map fun y => decide ((n.val : Int) < IntKind.wrap .i64 (y.toNat : Int))) = some (!decide (x.val < 2 ^ n.val))) →
      ∃ y, l[x.toNat]? = some y ∧ Tot (letO (IntKind.wrap .i64 (y.toNat : Int)) fun z => some z) fun y => ∀ n : Nat, n ≤ 8 → decide ((n : Int) < y) = !decide (x.toNat < 2 ^ n) := by
    intro l hl
    cases e : l[x.toNat]? with
    | none =>
      have := hl ⟨x.toNat, by omega⟩ ⟨0, by omega⟩
      simp only [e] at this
      cases this
    | some y =>
      refine ⟨y, rfl, .mk fun n hn => ?_⟩
      have := hl ⟨x.toNat, by omega⟩ ⟨n, by omega⟩
      simp only [e] at this
      exact Option.some.inj this
  exact key _ (by decide +kernel)
theorem Below_spec {l : TLattice} (hu : U8s l.Up) {a b : Nat} (ha : a < l.Up.length) (hb : b ≤ 8) : F_invigilatorref03_Below l a b = some (up l a b) := by
  unfold F_invigilatorref03_Below
  obtain ⟨x, hx⟩ := get_lt ha
  have hx' := hu.get hx
  have key : ∀ u : Fin 256, ∀ b : Fin 9, decide (Int.tmod (Int.fdiv (u.val : Int) (2 ^ min b.val (IntKind.bits .u8))) 2 = 1) = Nat.testBit u b := by decide +kernel
  have := key ⟨x.toNat, by omega⟩ ⟨b, by omega⟩
  simp only [Int.toNat_of_nonneg hx'.1] at this
  simp only [List.length_map, Int.natCast_nonneg, decide_true, cond_true, Int.ofNat_lt, ha, idxO, Int.toNat_natCast, if_true, hx, Option.bind_some, sideO, this, up_of hx]
theorem wrap_i64n {n : Nat} (h : n < 1000000) : IntKind.wrap .i64 (n : Int) = n := w64 (by omega) (by omega)
theorem ofInt_n (n : Nat) : BitVec.ofInt 64 (n : Int) = BitVec.ofNat 64 n := BitVec.ofInt_natCast 64 n
theorem and_i64 {a b : Nat} (ha : a < 1000000) (hb : b < 1000000) : bits .and .i64 (a : Int) (b : Int) = ((a &&& b : Nat) : Int) := by
  have e : bits .and .i64 (a : Int) (b : Int) = IntKind.wrap .i64 ((BitVec.ofInt 64 (a : Int) &&& BitVec.ofInt 64 (b : Int)).toNat : Int) := rfl
  rw [e, ofInt_n, ofInt_n, BitVec.toNat_and, BitVec.toNat_ofNat, BitVec.toNat_ofNat, Nat.mod_eq_of_lt (by omega), Nat.mod_eq_of_lt (by omega)]
  exact wrap_i64n (Nat.lt_of_le_of_lt Nat.and_le_left ha)
theorem sub_bits {x y n : Nat} : ((y &&& (2 ^ n - 1)) &&& x = y &&& (2 ^ n - 1)) ↔ ((List.range n).all fun i => !y.testBit i || x.testBit i) = true := by
  rw [List.all_eq_true]
  constructor
  · intro h i hi
    have hi' : i < n := by simpa using hi
    have := congrArg (fun z => z.testBit i) h
    simp only [Nat.testBit_and, Nat.testBit_two_pow_sub_one, hi', decide_true, Bool.and_true] at this
    cases e : y.testBit i with
    | false => rfl
    | true => rw [e] at this; simpa using this
  · intro h
    apply Nat.eq_of_testBit_eq
    intro i
    simp only [Nat.testBit_and, Nat.testBit_two_pow_sub_one]
    by_cases hi : i < n
    · have := h i (by simpa using hi)
      simp only [hi, decide_true, Bool.and_true]
      cases e : y.testBit i with
      | false => rfl
      | true => rw [e] at this; simpa using this
    · simp [hi]
end Go.Sx.O
namespace Go.Sx.O
open Go
theorem upN_of {l : TLattice} {a : Nat} {x : Int} (h : l.Up[a]? = some x) : upN l a = x.toNat := by unfold upN; rw [getD_lt h]
theorem upN_bit {l : TLattice} {a b : Nat} : (upN l a).testBit b = up l a b := rfl
theorem upN_lt {l : TLattice} (hu : U8s l.Up) {a : Nat} (ha : a < l.Up.length) : upN l a < 256 := by
  obtain ⟨x, hx⟩ := get_lt ha
  have := hu.get hx
  rw [upN_of hx]; omega
theorem upN_get {l : TLattice} (hu : U8s l.Up) {a : Nat} (ha : a < l.Up.length) : l.Up[a]? = some (upN l a : Int) := by
  obtain ⟨x, hx⟩ := get_lt ha
  have := hu.get hx
  rw [hx, upN_of hx, Int.toNat_of_nonneg this.1]
theorem ordered_spec {l : TLattice} (hu : U8s l.Up) (h8 : l.Names.length ≤ 8) (hl : l.Up.length = l.Names.length) {a : Nat} (ha : a < l.Names.length) : F_invigilatorref03_ordered l a = some (ordA l a) := by
  unfold F_invigilatorref03_ordered ordA
  have g0 : ((0 : Int) ≤ (l.Names.length : Int)) := by omega
  have hb := fun b (hb : b < l.Names.length) => Below_spec hu (a := a) (b := b) (by omega) (by omega)
  have hxa := upN_get hu (a := a) (by omega)
  have hlt := upN_lt hu (a := a) (by omega)
  have sh : decide ((0 : Int) < Int.fdiv (upN l a : Int) (2 ^ min l.Names.length (IntKind.bits .i64))) = !decide (upN l a < 2 ^ l.Names.length) := by
    have key : ∀ u : Fin 256, ∀ n : Fin 9, decide ((0 : Int) < Int.fdiv (u.val : Int) (2 ^ min n.val (IntKind.bits .i64))) = !decide (u.val < 2 ^ n.val) := by decide +kernel
    exact key ⟨upN l a, hlt⟩ ⟨l.Names.length, by omega⟩
  have mk : IntKind.wrap .i64 (IntKind.wrap .i64 (1 * 2 ^ min l.Names.length (IntKind.bits .i64)) - 1) = ((2 ^ l.Names.length - 1 : Nat) : Int) := by
    have key : ∀ n : Fin 9, IntKind.wrap .i64 (IntKind.wrap .i64 (1 * 2 ^ min n.val (IntKind.bits .i64)) - 1) = ((2 ^ n.val - 1 : Nat) : Int) := by decide +kernel
    exact key ⟨l.Names.length, by omega⟩
  have mk' : 2 ^ l.Names.length - 1 < 1000000 := by
    have : 2 ^ l.Names.length ≤ 2 ^ 8 := Nat.pow_le_pow_right (by omega) h8
    omega
  simp only [List.length_map, sideO_pos g0, Int.toNat_natCast]
  simp only [idxO, Int.toNat_natCast, Int.natCast_nonneg, if_true, hxa, Option.bind_some, letO]
  rw [wrap_i64n (by omega), sh, hb a ha, mk]
  cases e1 : decide (upN l a < 2 ^ l.Names.length) with
  | false => simp
  | true =>
    simp only [Bool.not_true, cond_false, Bool.true_and, Option.bind_some]
    cases e2 : up l a a with
    | false => simp
    | true =>
      simp only [Bool.not_true, cond_false, Bool.true_and]
      rw [lp_scanE l.Names.length (fun b => if ordB l a b = true then none else some false) () (fun b hbn => ?_) (by simp)]
      · rw [scan_pv]
        simp only [Nat.zero_add]
        cases (List.range l.Names.length).all fun b => ordB l a b <;> rfl
      · have hxb := upN_get hu (a := b) (by omega)
        have hltb := upN_lt hu (a := b) (by omega)
        simp only [Int.ofNat_lt, hbn, decide_true, cond_true, Option.bind_some, Int.toNat_natCast, hxb]
        rw [hb b hbn, wrap_i64n (n := upN l b) (by omega), and_i64 (by omega) mk', w64 (by omega) (by omega), Below_spec hu (by omega) (by omega)]
        have hand : upN l b &&& (2 ^ l.Names.length - 1) < 1000000 := Nat.lt_of_le_of_lt Nat.and_le_left (by omega)
        rw [and_i64 hand (by omega)]
        have hsub := sub_bits (x := upN l a) (y := upN l b) (n := l.Names.length)
        simp only [upN_bit] at hsub
        have hsub' : decide ((((upN l b &&& (2 ^ l.Names.length - 1)) &&& upN l a : Nat) : Int) = ((upN l b &&& (2 ^ l.Names.length - 1) : Nat) : Int)) = (List.range l.Names.length).all fun i => !up l b i || up l a i := by
          rw [Bool.eq_iff_iff, ← hsub, decide_eq_true_eq]; omega
        rw [hsub']
        unfold ordB
        cases e3 : up l a b with
        | false => simp
        | true =>
          simp only [Option.bind_some, Bool.not_true, cond_false, Bool.false_or]
          by_cases hba : b = a
          · subst hba
            simp only [decide_true, Bool.not_true, cond_false, Bool.true_or, Bool.true_and]
            cases (List.range l.Names.length).all fun i => !up l b i || up l b i <;> simp
          · have : ¬ (b : Int) = (a : Int) := by omega
            simp only [this, hba, decide_false, Bool.not_false, cond_true, Bool.false_or]
            cases up l b a with
            | true => simp
            | false =>
              cases (List.range l.Names.length).all fun i => !up l b i || up l a i <;> simp
theorem downs_spec {l : TLattice} (hu : U8s l.Up) (h8 : l.Names.length ≤ 8) (hl : l.Up.length = l.Names.length) : Tot (F_invigilatorref03_downs l) fun d => d.length = l.Names.length ∧ ∀ b, b < l.Names.length → d[b]? = some (dnN l b : Int) := by
  unfold F_invigilatorref03_downs
  simp only [tot_bind, tot_side, List.length_map, Int.toNat_natCast]
  refine ⟨⟨by omega, trivial, by omega, by omega⟩, ?_⟩
  refine Tot.count l.Names.length (fun k s => s.1 = (k : Int) ∧ s.2.length = l.Names.length ∧ ∀ b, b < l.Names.length → s.2[b]? = some (dn l b k : Int)) ?_ ⟨rfl, by simp, fun b hb => ?_⟩
  · rintro k ⟨i, down⟩ hk ⟨h0, h2, h4⟩
    simp only at h0 h2 h4
    subst h0
    simp only [tot_some, tot_cond, tot_let, tot_idx, tot_side, tot_bind, Sum.elim_inl, Sum.elim_inr, decide_eq_true_eq, decide_eq_false_iff_not, Int.toNat_natCast]
    refine ⟨fun hlt => ?_, fun hlt => ?_⟩
    · refine Tot.count l.Names.length (fun j s => s.1 = (j : Int) ∧ s.2.length = l.Names.length ∧ ∀ b, b < l.Names.length → s.2[b]? = some (dn l b (if b < j then k + 1 else k) : Int)) ?_ ⟨rfl, h2, fun b hb => by simpa using h4 b hb⟩
      rintro j ⟨i', d⟩ hj ⟨g0, g1, g2⟩
      simp only at g0 g1 g2
      subst g0
      simp only [tot_some, tot_cond, tot_let, tot_idx, tot_side, tot_bind, Sum.elim_inl, Sum.elim_inr, decide_eq_true_eq, decide_eq_false_iff_not, Int.toNat_natCast]
      refine ⟨fun hlt' => ?_, fun hlt' => ?_⟩
      · rw [Below_spec hu (by omega) (by omega), tot_some]
        have hz := g2 j (by omega)
        rw [if_neg (by omega)] at hz
        rw [w64 (by omega) (by omega)]
        refine ⟨fun hup => ⟨⟨by omega, by simp; omega⟩, by omega, _, hz, by omega, ⟨by omega, by simp; omega⟩, by omega, _, hz, by omega, by omega, by simpa using g1, fun b hb => ?_⟩, fun hup => ⟨by omega, by omega, g1, fun b hb => ?_⟩⟩
        · have hsh := shl_bit (c := true) (k := k) (by omega)
          simp only [if_true] at hsh
          rw [get_set (by omega), hsh]
          by_cases hjb : j = b
          · subst hjb
            have hp : 2 ^ k < 256 := Nat.lt_of_lt_of_le (Nat.pow_lt_pow_right (a := 2) (by omega) (show k < 8 by omega)) (by omega)
            rw [if_pos rfl, if_pos (by omega), or_nat (dn_256 l j (by omega)) hp]
            simp [dn, hup]
          · rw [if_neg hjb, g2 b hb]
            have : (b < j + 1) = (b < j) := by simp; omega
            simp only [this]
        · rw [g2 b hb]
          by_cases hjb : j = b
          · subst hjb
            rw [if_neg (by omega), if_pos (by omega)]
            simp [dn, hup]
          · have : (b < j + 1) = (b < j) := by simp; omega
            simp only [this]
      · rw [w64 (by omega) (by omega)]
        refine ⟨by omega, by omega, g1, fun b hb => ?_⟩
        rw [g2 b hb, if_pos (by omega)]
    · have hkn : k = l.Names.length := by omega
      subst hkn
      exact ⟨h2, h4⟩
  · rw [List.getElem?_replicate, if_pos hb]; rfl
end Go.Sx.O
namespace Go.Sx.O
open Go
theorem bnd_sign (g : Nat → Nat) (n a b : Nat) : decide (bndI g n a b < 0) = (bnd g n a b).isNone := by
  unfold bndI
  cases bnd g n a b with
  | none => rfl
  | some c => simp
theorem dnN_lt {l : TLattice} (h8 : l.Names.length ≤ 8) (b : Nat) : dnN l b < 256 := dn_256 l b h8
theorem ref_Check_eq (l : TLattice) (hu : U8s l.Up) (hn : l.Names.length ≤ 20) (hs : ∀ s ∈ l.Names, s.length ≤ 50) : F_invigilatorref03_Check l = some (latC l) := by
  unfold F_invigilatorref03_Check latC
  rw [ref_names_eq _ hn hs]
  simp only [Option.bind_some, List.length_map]
  by_cases h0 : (namesR l.Names).2 = 0
  case neg => simp [h0]
  simp only [h0, decide_true, Bool.not_true, cond_false, if_true]
  by_cases hlen : l.Up.length = l.Names.length
  case neg =>
    have : ¬ (l.Up.length : Int) = l.Names.length := by omega
    simp [hlen, this]
  have h8 : l.Names.length ≤ 8 := by
    unfold namesR at h0
    split at h0
    · cases h0
    · omega
  simp only [hlen, decide_true, Bool.not_true, cond_false, if_true]
  rw [lp_scanE l.Names.length (fun a => if ordA l a = true then none else some ((a : Int), (6 : Int))) () (fun a ha => ?_) (by simp)]
  · cases h1 : scan (fun a => if ordA l a = true then none else some ((a : Int), (6 : Int))) 0 l.Names.length with
    | some r => rfl
    | none =>
      simp only
      obtain ⟨d, ed, hdl, hd⟩ := downs_spec hu h8 hlen
      rw [ed, Option.bind_some]
      rw [lp_scanE l.Names.length (fun a => scan (fun b => if lacks l a b = true then some ((a : Int), (4 : Int)) else none) 0 l.Names.length) () (fun a ha => ?_) (by simp)]
      · cases scan (fun a => scan (fun b => if lacks l a b = true then some ((a : Int), (4 : Int)) else none) 0 l.Names.length) 0 l.Names.length <;> rfl
      · simp only [Int.ofNat_lt, ha, decide_true, cond_true]
        rw [lp_scanE l.Names.length (fun b => if lacks l a b = true then some (.inr (.inr ((a : Int), (4 : Int)))) else none) () (fun b hb => ?_) (by simp)]
        · have e : (fun b => if lacks l a b = true then some (Sum.inr (Sum.inr ((a : Int), (4 : Int))) : Int ⊕ (Unit ⊕ (Int × Int))) else none) = fun b => (if lacks l a b = true then some ((a : Int), (4 : Int)) else none).map fun v => .inr (.inr v) := by
            funext b; split <;> rfl
          rw [e, scan_map]
          cases scan (fun b => if lacks l a b = true then some ((a : Int), (4 : Int)) else none) 0 l.Names.length with
          | some r => rfl
          | none =>
            simp only [Option.map_none, letO]
            rw [w64 (by omega) (by omega)]
        · simp only [Int.ofNat_lt, hb, decide_true, cond_true]
          have n1 := nearest_exact l.Up (upN l) a b (by omega) (fun c hc => upN_get hu hc) (fun c hc => upN_lt hu hc) (by omega) (by omega)
          have n2 := nearest_exact d (dnN l) a b (by omega) (fun c hc => hd c (by omega)) (fun c hc => dnN_lt h8 c) (by omega) (by omega)
          rw [hlen] at n1
          rw [hdl] at n2
          rw [n1, n2]
          simp only [Option.bind_some, bnd_sign, letO]
          rw [w64 (by omega) (by omega)]
          unfold lacks
          cases (bnd (upN l) l.Names.length a b).isNone with
          | true => simp
          | false => cases (bnd (dnN l) l.Names.length a b).isNone <;> simp
  · simp only [Int.ofNat_lt, ha, decide_true, cond_true]
    rw [ordered_spec hu h8 hlen ha]
    simp only [Option.bind_some, letO]
    rw [w64 (by omega) (by omega)]
    cases ordA l a <;> simp
end Go.Sx.O
namespace Go.Sx.O
open Go
theorem Check_exact (l : TLattice) (hu : U8s l.Up) (hn : l.Names.length ≤ 20) (hs : ∀ s ∈ l.Names, s.length ≤ 50) : F_lattice_Check l = some (latC l) := by
  unfold F_lattice_Check latC
  rw [named_eq _ hn hs]
  simp only [Option.bind_some, List.length_map]
  by_cases h0 : (namesR l.Names).2 = 0
  case neg => simp [h0]
  simp only [h0, decide_true, Bool.not_true, cond_false, if_true]
  by_cases hlen : l.Up.length = l.Names.length
  case neg =>
    have : ¬ (l.Up.length : Int) = l.Names.length := by omega
    simp [hlen, this]
  have h8 : 1 ≤ l.Names.length ∧ l.Names.length ≤ 8 := by
    unfold namesR at h0
    split at h0
    · cases h0
    · omega
  obtain ⟨h1, h8⟩ := h8
  have g0 : ((0 : Int) ≤ (l.Names.length : Int)) := by omega
  simp only [hlen, decide_true, Bool.not_true, cond_false, if_true, sideO_pos g0, letO, Int.toNat_natCast]
  have hmask := mask_bit l.Names.length h8
  have hm0 := mod_u8 (e := IntKind.wrap .u8 (1 * 2 ^ min l.Names.length (IntKind.bits .u8)) - 1)
  rw [lp_scanE l.Names.length (fun a => if ordA l a = true then none else some ((a : Int), (6 : Int))) () (fun a ha => ?_) (by simp)]
  · cases h1 : scan (fun a => if ordA l a = true then none else some ((a : Int), (6 : Int))) 0 l.Names.length with
    | some r => rfl
    | none =>
      simp only
      have hself : ∀ a, a < l.Names.length → up l a a = true := by
        intro a ha
        have := scan_none.1 h1 a (by omega) (by omega)
        split at this
        · rename_i h
          unfold ordA at h
          simp only [Bool.and_eq_true] at h
          exact h.1.2
        · cases this
      obtain ⟨o, eo, _, o1, o2, o3, o4⟩ := of_exact l hu h8 hlen
      rw [eo, Option.bind_some]
      rw [lp_scanE l.Names.length (fun a => scan (fun b => if lacks l a b = true then some ((a : Int), (4 : Int)) else none) 0 l.Names.length) () (fun a ha => ?_) (by simp)]
      · cases scan (fun a => scan (fun b => if lacks l a b = true then some ((a : Int), (4 : Int)) else none) 0 l.Names.length) 0 l.Names.length <;> rfl
      · simp only [Int.ofNat_lt, ha, decide_true, cond_true]
        rw [lp_scanE l.Names.length (fun b => if lacks l a b = true then some (.inr (.inr ((a : Int), (4 : Int)))) else none) () (fun b hb => ?_) (by simp)]
        · have e : (fun b => if lacks l a b = true then some (Sum.inr (Sum.inr ((a : Int), (4 : Int))) : Int ⊕ (Unit ⊕ (Int × Int))) else none) = fun b => (if lacks l a b = true then some ((a : Int), (4 : Int)) else none).map fun v => .inr (.inr v) := by
            funext b; split <;> rfl
          rw [e, scan_map]
          cases scan (fun b => if lacks l a b = true then some ((a : Int), (4 : Int)) else none) 0 l.Names.length with
          | some r => rfl
          | none =>
            simp only [Option.map_none]
            rw [w64 (by omega) (by omega)]
        · simp only [Int.ofNat_lt, hb, decide_true, cond_true]
          have n1 := bound_exact o.up_ (upN l) l.Names.length a b h8 (fun c hc => by rw [o3 c hc]; exact upN_get hu (by omega)) (fun c hc => upN_lt hu (by omega)) (fun c hc => hself c hc) ha hb
          have n2 : F_lattice_bound_lattice_downs_ o.down_ l.Names.length a b = some (bndI (dnN l) l.Names.length a b) := bound_exact o.down_ (dnN l) l.Names.length a b h8 (fun c hc => o4 c hc) (fun c hc => dnN_lt h8 c) (fun c hc => by unfold dnN; rw [dn_bit, hself c hc]; simp [hc]) ha hb
          rw [n1, n2]
          simp only [Option.bind_some, bnd_sign]
          rw [w64 (by omega) (by omega)]
          unfold lacks
          cases (bnd (upN l) l.Names.length a b).isNone with
          | true => simp
          | false => cases (bnd (dnN l) l.Names.length a b).isNone <;> simp
  · -- one label's row
    have hxa := upN_get hu (a := a) (by omega)
    have hlt := upN_lt hu (a := a) (by omega)
    obtain ⟨y, ey, hy⟩ := Len8_exact (upN l a : Int) (by omega) (by omega)
    have hy := hy l.Names.length h8
    rw [Int.toNat_natCast] at hy
    have ga : ((0 : Int) ≤ (a : Int)) := by omega
    have hbit : ∀ b, b < l.Names.length → bits .and .u8 (Int.fdiv (upN l a : Int) (2 ^ min b (IntKind.bits .u8))) 1 = if up l a b = true then 1 else 0 := fun b hb => by
      rw [bitAt (by omega) (by omega) (by omega), Int.toNat_natCast]; rfl
    simp only [Int.ofNat_lt, ha, decide_true, cond_true, idxO, Int.toNat_natCast, if_pos ga, hxa, Option.bind_some, ey, hy, sideO_pos ga]
    simp only [hbit a ha]
    unfold ordA
    cases e1 : decide (upN l a < 2 ^ l.Names.length) with
    | false => simp
    | true =>
      simp only [Bool.not_true, cond_false, Bool.true_and]
      cases e2 : up l a a with
      | false => simp
      | true =>
        simp only [if_true, Int.reduceEq, decide_false, cond_false, Bool.true_and]
        rw [lp_scanE l.Names.length (fun b => if ordB l a b = true then (if b + 1 = l.Names.length then some (.inl ((a : Int) + 1)) else none) else some (.inr (.inr ((a : Int), (6 : Int))))) () (fun b hb => ?_) (by simp)]
        · rw [scan_last (by omega) (by omega)]
          simp only [Nat.zero_add]
          cases (List.range l.Names.length).all fun b => ordB l a b <;> rfl
        · have hxb := upN_get hu (a := b) (by omega)
          have hltb := upN_lt hu (a := b) (by omega)
          have gb : ((0 : Int) ≤ (b : Int)) := by omega
          have hbit' : bits .and .u8 (Int.fdiv (upN l b : Int) (2 ^ min a (IntKind.bits .u8))) 1 = if up l b a = true then 1 else 0 := by
            rw [bitAt (by omega) (by omega) (by omega), Int.toNat_natCast]; rfl
          simp only [Int.ofNat_lt, hb, decide_true, cond_true, Option.bind_some, Int.toNat_natCast, hxb, if_pos gb, sideO_pos gb]
          simp only [hbit b hb, hbit', w64 (e := (l.Names.length : Int) - 1) (by omega) (by omega), w64 (e := (a : Int) + 1) (by omega) (by omega), w64 (e := (b : Int) + 1) (by omega) (by omega)]
          have hnot : decide (bits .andNot .u8 (bits .and .u8 (upN l b : Int) (IntKind.wrap .u8 (IntKind.wrap .u8 (1 * 2 ^ min l.Names.length (IntKind.bits .u8)) - 1))) (upN l a : Int) = 0) = (List.range l.Names.length).all fun i => !up l b i || up l a i := by
            revert hmask hm0
            generalize IntKind.wrap .u8 (IntKind.wrap .u8 (1 * 2 ^ min l.Names.length (IntKind.bits .u8)) - 1) = mask
            intro hmask hm0
            have hand : bits .and .u8 (upN l b : Int) mask = ((upN l b &&& mask.toNat : Nat) : Int) := by
              rw [bits_and (by omega) (by omega) hm0.1 hm0.2, Int.toNat_natCast]
            have hlt2 : upN l b &&& mask.toNat < 256 := and_lt hltb
            rw [hand, Bool.eq_iff_iff, decide_eq_true_eq, bits_andNot (by omega) (by omega) (by omega) (by omega), List.all_eq_true]
            simp only [Int.toNat_natCast, Nat.testBit_and, hmask, upN_bit]
            constructor
            · intro h i hi
              have := h i
              have hi' : i < l.Names.length := by simpa using hi
              cases e : up l b i with
              | false => rfl
              | true => rw [e] at this; simpa [hi'] using this
            · intro h i hi
              simp only [Bool.and_eq_true, decide_eq_true_eq] at hi
              have := h i (by simpa using hi.2)
              rw [hi.1] at this; simpa using this
          simp only [hnot]
          have hlast : decide ((b : Int) = (l.Names.length : Int) - 1) = decide (b + 1 = l.Names.length) := by
            rw [Bool.eq_iff_iff, decide_eq_true_eq, decide_eq_true_eq]; omega
          simp only [hlast]
          unfold ordB
          cases e3 : up l a b with
          | false => by_cases hl : b + 1 = l.Names.length <;> simp [hl]
          | true =>
            by_cases hba : b = a
            · subst hba
              have d2 : decide ((b : Int) = (b : Int)) = true := by simp
              cases (List.range l.Names.length).all fun i => !up l b i || up l b i with
              | false => by_cases hl : b + 1 = l.Names.length <;> simp [hl]
              | true => by_cases hl : b + 1 = l.Names.length <;> simp [hl]
            · have d2 : decide ((b : Int) = (a : Int)) = false := by simp; omega
              have d3 : decide (b = a) = false := by simp [hba]
              simp only [d2, d3]
              cases up l b a with
              | true => by_cases hl : b + 1 = l.Names.length <;> simp [hl]
              | false =>
                cases (List.range l.Names.length).all fun i => !up l b i || up l a i with
                | false => by_cases hl : b + 1 = l.Names.length <;> simp [hl]
                | true => by_cases hl : b + 1 = l.Names.length <;> simp [hl]
theorem latR_eq {l : TLattice} (h : LatIn l) : latR l = latC l := by
  unfold latR; rw [Check_exact l h.u8 h.names h.name]; rfl
end Go.Sx.O
namespace Go.Sx.O
open Go
theorem ref_asked_spec {l : TLattice} (h : LatIn l) (a b : Int) : F_invigilatorref03_asked l a b = some (askE l [a, b]) := by
  unfold F_invigilatorref03_asked askE
  rw [ref_Check_eq l h.u8 h.names h.name, latR_eq h]
  simp only [Option.bind_some, List.length_map, List.all_cons, List.all_nil, Bool.and_true]
  by_cases h0 : (latC l).2 = 0
  · simp only [h0, decide_true, cond_true, if_true]
    unfold isLab
    by_cases a1 : a < 0
    · have : ¬ 0 ≤ a := by omega
      simp [a1, this]
    by_cases a2 : (l.Names.length : Int) ≤ a
    · have : ¬ a < (l.Names.length : Int) := by omega
      simp [a1, a2, this]
    by_cases b1 : b < 0
    · have : ¬ 0 ≤ b := by omega
      simp [a1, a2, b1, this]
    by_cases b2 : (l.Names.length : Int) ≤ b
    · have : ¬ b < (l.Names.length : Int) := by omega
      simp [a1, a2, b1, b2, this]
    have a1' : 0 ≤ a := by omega
    have a2' : a < (l.Names.length : Int) := by omega
    have b1' : 0 ≤ b := by omega
    have b2' : b < (l.Names.length : Int) := by omega
    simp [a1, a2, b1, b2, a1', a2', b1', b2']
  · simp [h0]
theorem ref_Leq_spec {l : TLattice} (h : LatIn l) (a b : Int) : F_invigilatorref03_Leq l a b = some (sees l a b, askE l [a, b]) := by
  unfold F_invigilatorref03_Leq
  rw [ref_asked_spec h]
  simp only [Option.bind_some]
  by_cases h0 : askE l [a, b] = 0
  · simp only [h0, decide_true, cond_true]
    have h0' := h0
    unfold askE at h0
    split at h0
    case isFalse h1 => exact absurd h0 h1
    rename_i h1
    split at h0
    case isFalse => cases h0
    rename_i h2
    simp only [List.all_cons, List.all_nil, Bool.and_true, Bool.and_eq_true] at h2
    have ok := lat_ok h h1
    have ha := h2.1
    have hb := h2.2
    unfold isLab at ha hb
    simp only [Bool.and_eq_true, decide_eq_true_eq] at ha hb
    have hB := Below_spec h.u8 (a := a.toNat) (b := b.toNat) (by rw [ok.len]; omega) (by have := ok.le; omega)
    rw [Int.toNat_of_nonneg ha.1, Int.toNat_of_nonneg hb.1] at hB
    rw [hB]
    unfold sees
    simp [h1, h2.1, h2.2]
  · have : sees l a b = false := by
      cases e : sees l a b with
      | false => rfl
      | true => exact absurd (sees_ok e) h0
    simp [h0, this]
theorem ref_SameArray_spec (a b : TArray) (h : a.Cells.length ≤ 1000000000) : Tot (F_invigilatorref24_SameArray a b) fun r => (r = true ↔ a = b) := by
  unfold F_invigilatorref24_SameArray
  obtain ⟨k1, r1, ⟨p1, q1⟩, c1⟩ := a
  obtain ⟨k2, r2, ⟨p2, q2⟩, c2⟩ := b
  simp only [TArray.mk.injEq, Prod.mk.injEq, List.length_map]
  by_cases e1 : k1 = k2
  case neg => simp [e1, tot_some]
  by_cases e2 : r1 = r2
  case neg => simp [e1, e2, tot_some]
  by_cases e3 : p1 = p2
  case neg => simp [e1, e2, e3, tot_some]
  by_cases e4 : q1 = q2
  case neg => simp [e1, e2, e3, e4, tot_some]
  by_cases e5 : c1.length = c2.length
  case neg =>
    have e6 : ¬ (c1.length : Int) = c2.length := by omega
    have e7 : c1 ≠ c2 := fun e => e5 (by rw [e])
    simp [e1, e2, e3, e4, e6, e7, tot_some]
  simp only [e1, e2, e3, e4, e5, decide_true, Bool.not_true, cond_false, Bool.and_true, true_and, tot_bind, and_self]
  simp only at h
  refine zip_loop (l := c1) (m := c2) c2.length (fun x y => decide (x = y)) (bad := fun _ => false) (e := ()) (by omega) (Nat.le_refl _) (fun k x y hx hy hk => ?_) (by simp) (fun hall => ?_) (fun k x y hx hy hk e _ => ?_)
  · simp only [Int.ofNat_lt, hk, decide_true, cond_true, idxO, Int.toNat_natCast, hx, hy, Option.bind_some, letO, Int.natCast_nonneg, if_true]
    rw [w64 (by omega) (by omega)]
    by_cases hxy : x = y <;> simp [hxy]
  · have : c1 = c2 := eq_of_get e5 fun k x y hx hy hk => by simpa using hall k x y hx hy (by omega)
    simp [this, tot_some]
  · have : c1 ≠ c2 := by
      rintro rfl
      rw [hx] at hy; cases hy
      simp at e
    simp [this, tot_some]
theorem SameEvents_spec (a b : List TEvEvent) (h : a.length ≤ 1000000) (hv : ∀ v ∈ a, v.Value.Cells.length ≤ 450) : Tot (F_invigilatorref29_SameEvents a b) fun r => (r = true ↔ a = b) := by
  unfold F_invigilatorref29_SameEvents
  simp only [List.length_map]
  by_cases e5 : a.length = b.length
  case neg =>
    have e6 : ¬ (a.length : Int) = b.length := by omega
    have e7 : a ≠ b := fun e => e5 (by rw [e])
    simp [e6, e7, tot_some]
  simp only [e5, decide_true, Bool.not_true, cond_false, tot_bind]
  open Classical in
  refine zip_loop (l := a) (m := b) b.length (fun x y => decide (x = y)) (bad := fun _ => false) (e := ()) (by omega) (Nat.le_refl _) (fun k x y hx hy hk => ?_) (by simp) (fun hall => ?_) (fun k x y hx hy hk e _ => ?_)
  · obtain ⟨r, e, hr⟩ := ref_SameArray_spec x.Value y.Value (by have := hv x (List.mem_of_getElem? hx); omega)
    simp only [Int.ofNat_lt, hk, decide_true, cond_true, idxO, Int.toNat_natCast, hx, hy, Option.bind_some, letO, Int.natCast_nonneg, if_true, e]
    rw [w64 (by omega) (by omega)]
    obtain ⟨x1, x2, x3, x4, x5, x6, x7⟩ := x
    obtain ⟨y1, y2, y3, y4, y5, y6, y7⟩ := y
    simp only [TEvEvent.mk.injEq]
    simp only at hr
    by_cases z1 : x1 = y1 <;> by_cases z2 : x2 = y2 <;> by_cases z3 : x3 = y3 <;> by_cases z4 : x4 = y4 <;> by_cases z5 : x5 = y5 <;> by_cases z6 : x6 = y6 <;> by_cases z7 : x7 = y7 <;> cases r <;> simp_all
  · have : a = b := eq_of_get e5 fun k x y hx hy hk => by simpa using hall k x y hx hy (by omega)
    simp [this, tot_some]
  · have : a ≠ b := by
      rintro rfl
      rw [hx] at hy; cases hy
      simp at e
    simp [this, tot_some]
end Go.Sx.O
namespace Go.Sx.O
open Go
theorem bnd_some {g : Nat → Nat} {n a b c : Nat} (h : bnd g n a b = some c) : c < n ∧ g c = g a &&& g b := by
  have key : ∀ {j k : Nat}, scan (fun c => if g c = g a &&& g b then some c else none) k j = some c → c < k + j ∧ g c = g a &&& g b := by
    intro j
    induction j with
    | zero => intro k h; cases h
    | succ j ih =>
      intro k h
      simp only [scan] at h
      split at h
      · rename_i r hr
        cases h
        split at hr
        · rename_i hh; cases hr; exact ⟨by omega, hh⟩
        · cases hr
      · have := ih h
        exact ⟨by omega, this.2⟩
  have := key h
  simpa using this
theorem lat_join {l : TLattice} (h : LatIn l) (k : (latR l).2 = 0) {a b : Nat} (ha : a < l.Names.length) (hb : b < l.Names.length) : ∃ c, c < l.Names.length ∧ upN l c = upN l a &&& upN l b := by
  rw [latR_eq h] at k
  unfold latC at k
  split at k
  case isFalse h0 => exact absurd k h0
  split at k
  case isFalse => cases k
  split at k
  case h_1 r hr =>
    have := scan_none (f := fun a => if ordA l a = true then none else some ((a : Int), (6 : Int))) (j := l.Names.length) (k := 0)
    exfalso
    have key : ∀ {j k : Nat}, scan (fun a => if ordA l a = true then none else some ((a : Int), (6 : Int))) k j = some r → r.2 = 6 := by
      intro j
      induction j with
      | zero => intro k h; cases h
      | succ j ih =>
        intro k h
        simp only [scan] at h
        split at h
        · rename_i r' hr'
          cases h
          split at hr'
          · cases hr'
          · cases hr'; rfl
        · exact ih h
    rw [key hr] at k; cases k
  case h_2 =>
    have key2 : ∀ {a j k : Nat} {r : Int × Int}, scan (fun b => if lacks l a b = true then some ((a : Int), (4 : Int)) else none) k j = some r → r.2 = 4 := by
      intro a j
      induction j with
      | zero => intro k r h; cases h
      | succ j ih =>
        intro k r h
        simp only [scan] at h
        split at h
        · rename_i r' hr'
          cases h
          split at hr'
          · cases hr'; rfl
          · cases hr'
        · exact ih h
    have key : ∀ {j k : Nat} {r : Int × Int}, scan (fun a => scan (fun b => if lacks l a b = true then some ((a : Int), (4 : Int)) else none) 0 l.Names.length) k j = some r → r.2 = 4 := by
      intro j
      induction j with
      | zero => intro k r h; cases h
      | succ j ih =>
        intro k r h
        simp only [scan] at h
        split at h
        · rename_i r' hr'
          cases h
          exact key2 hr'
        · exact ih h
    cases hs : scan (fun a => scan (fun b => if lacks l a b = true then some ((a : Int), (4 : Int)) else none) 0 l.Names.length) 0 l.Names.length with
    | some r =>
      rw [hs] at k
      have := key hs
      simp only [Option.getD_some] at k
      rw [this] at k; cases k
    | none =>
      have h1 := scan_none.1 (scan_none.1 hs a (by omega) (by omega)) b (by omega) (by omega)
      split at h1
      · cases h1
      · rename_i h2
        unfold lacks at h2
        cases e : bnd (upN l) l.Names.length a b with
        | none => rw [e] at h2; simp at h2
        | some c => exact ⟨c, bnd_some e⟩
theorem up_trans {l : TLattice} (ok : LatOK l) {a b c : Nat} (ha : a < l.Names.length) (hb : b < l.Names.length) (hc : c < l.Names.length) (h1 : up l a b = true) (h2 : up l b c = true) : up l a c = true := (ok.row a ha b hb h1).2 c hc h2
theorem lat_top {l : TLattice} (h : LatIn l) (k : (latR l).2 = 0) : ∃ t, t < l.Names.length ∧ ∀ a, a < l.Names.length → up l a t = true := by
  have ok := lat_ok h k
  have key : ∀ j, j ≤ l.Names.length → ∃ t, t < l.Names.length ∧ ∀ a, a < j → up l a t = true := by
    intro j
    induction j with
    | zero => intro _; exact ⟨0, ok.pos, fun a ha => absurd ha (by omega)⟩
    | succ j ih =>
      intro hj
      obtain ⟨t, ht, hall⟩ := ih (by omega)
      obtain ⟨c, hc, hg⟩ := lat_join h k ht (show j < l.Names.length by omega)
      have hcc := ok.self c hc
      have hb : (upN l t &&& upN l j).testBit c = true := by rw [← hg]; exact hcc
      rw [Nat.testBit_and, Bool.and_eq_true] at hb
      refine ⟨c, hc, fun a ha => ?_⟩
      rcases Nat.lt_or_ge a j with g | g
      · exact up_trans ok (by omega) ht hc (hall a g) hb.1
      · have : a = j := by omega
        subst this; exact hb.2
  exact key _ (Nat.le_refl _)
theorem sees_of {l : TLattice} (k : (latR l).2 = 0) {a o : Int} (ha : isLab l a = true) (ho : isLab l o = true) : sees l a o = up l a.toNat o.toNat := by
  unfold sees; simp [k, ha, ho]
theorem lab_lt {l : TLattice} {a : Int} (h : isLab l a = true) : 0 ≤ a ∧ a.toNat < l.Names.length := by
  unfold isLab at h; simp at h; omega
theorem sees_trans {l : TLattice} (h : LatIn l) {a q o : Int} (h1 : sees l a q = true) (h2 : sees l q o = true) : sees l a o = true := by
  unfold sees at *
  simp only [Bool.and_eq_true, decide_eq_true_eq] at *
  obtain ⟨⟨⟨k, la⟩, lq⟩, u1⟩ := h1
  obtain ⟨⟨⟨_, _⟩, lo⟩, u2⟩ := h2
  exact ⟨⟨⟨k, la⟩, lo⟩, up_trans (lat_ok h k) (lab_lt la).2 (lab_lt lq).2 (lab_lt lo).2 u1 u2⟩
theorem seen_part {l : TLattice} (h : LatIn l) (t : TEvTrace) {q o : Int} (hq : sees l q o = true) : (seenE l t o).filter (fun v => sees l v.Label q) = seenE l t q := by
  unfold seenE
  rw [List.filter_filter]
  congr 1
  funext v
  cases e : sees l v.Label q with
  | false => rfl
  | true => rw [sees_trans h e hq]; rfl
theorem seen_all {l : TLattice} (h : LatIn l) {t : TEvTrace} (ht : TraceIn t) (k : (trR l t).2 = 0) : ∃ o : Nat, o < l.Names.length ∧ ∀ t : TEvTrace, TraceIn t → (trR l t).2 = 0 → seenE l t o = t.Events := by
  obtain ⟨k0, _⟩ := tr_ok h ht k
  obtain ⟨o, ho, hall⟩ := lat_top h k0
  refine ⟨o, ho, fun t ht k => ?_⟩
  unfold seenE
  rw [List.filter_eq_self]
  intro v hv
  have hl := (tr_ok h ht k).2 v hv
  have lo : isLab l (o : Int) = true := by unfold isLab; simp; omega
  rw [sees_of k0 hl lo]
  exact hall _ (lab_lt hl).2
end Go.Sx.O
namespace Go.Sx.O
open Go
open Classical in
theorem Blind_spec {l : TLattice} {a b : TEvTrace} (hl : LatIn l) (ha : TraceIn a) (hb : TraceIn b) : Tot (F_view_Blind l a b) fun r => r.2 = 0 → (trR l a).2 = 0 ∧ (trR l b).2 = 0 ∧ r.1 = ((List.range l.Names.length).filter fun (o : Nat) => decide (seenE l a (o : Int) = seenE l b (o : Int))).map fun (o : Nat) => (o : Int) := by
  unfold F_view_Blind
  rw [Check_eq hl, Option.bind_some, tot_cond]
  refine ⟨fun h => .mk fun e => by simp at h; exact absurd e h, fun h0 => ?_⟩
  have h0' : (latR l).2 = 0 := by simpa using h0
  have ok := lat_ok hl h0'
  have h8 := ok.le
  rw [vasked_spec hl 0 [a, b] (by intro t ht; simp at ht; rcases ht with rfl | rfl <;> assumption) (by simp), Option.bind_some, tot_cond]
  refine ⟨fun h => .mk fun e => by simp at h; exact absurd e h, fun h1 => ?_⟩
  have h1' : vask l 0 [a, b] = 0 := by simpa using h1
  have hv := (vask_nil.1 h1').2
  rw [tot_bind]
  simp only [List.length_map]
  refine Tot.count l.Names.length (fun k s => s.1 = (k : Int) ∧ s.2 = ((List.range k).filter fun (o : Nat) => decide (seenE l a (o : Int) = seenE l b (o : Int))).map fun (o : Nat) => (o : Int)) ?_ ⟨rfl, rfl⟩
  rintro k ⟨i, out⟩ hk ⟨g0, g1⟩
  simp only at g0 g1
  subst g0
  have hlen : out.length ≤ k := by
    rw [g1, List.length_map]
    exact Nat.le_trans (List.length_filter_le _ _) (by simp)
  simp only [tot_cond, tot_some, tot_let, tot_side, tot_bind, Sum.elim_inl, Sum.elim_inr, decide_eq_true_eq, decide_eq_false_iff_not]
  refine ⟨fun hlt => ?_, fun hlt _ => ?_⟩
  · rw [events_spec hl a k (by have := ha.events; omega), events_spec hl b k (by have := hb.events; omega), tot_some, tot_some]
    refine (EqualFunc_spec (seenE l a k) (seenE l b k) (seenE_len ha) (seenE_val ha)).mono fun r hr => ?_
    rw [w64 (by omega) (by omega), List.range_succ, List.filter_append, List.map_append, ← g1]
    refine ⟨fun e => ⟨by omega, by omega, by omega, ?_⟩, fun e => ⟨by omega, by omega, ?_⟩⟩
    · simp [hr.1 e]
    · have : ¬ seenE l a k = seenE l b k := fun h => by rw [hr.2 h] at e; cases e
      simp [this]
  · have : k = l.Names.length := by omega
    subst this
    exact ⟨hv a (by simp), hv b (by simp), g1⟩
theorem leq_spec {l : TLattice} (h : LatIn l) (a b : Int) : F_invigilatorlaw31_leq l a b = some (sees l a b) := by
  unfold F_invigilatorlaw31_leq
  rw [ref_Leq_spec h, Option.bind_some]
  by_cases h0 : askE l [a, b] = 0
  · simp [h0]
  · have : sees l a b = false := by
      cases e : sees l a b with
      | false => rfl
      | true => exact absurd (sees_ok e) h0
    simp [h0, this]
theorem part_spec {l : TLattice} (h : LatIn l) (es : List TEvEvent) (q : Int) (hl : es.length ≤ 60) {τ : Type} {Q : (List TEvEvent ⊕ τ) → Prop} (hQ : Q (.inl (es.filter fun v => sees l v.Label q))) :
    Tot (lpO (fun (s : Int × List TEvEvent) => cond (decide (s.fst < (es.length : Int))) (idxO es s.fst fun x => Option.bind (F_invigilatorlaw31_leq l x.Label q) fun z => cond z (idxO es s.fst fun y => sideO ((s.snd.length + 1) * 112 ≤ 70368744177664) (letO (IntKind.wrap .i64 (s.fst + 1)) fun u => some (Sum.inl (u, s.snd ++ [y])))) (letO (IntKind.wrap .i64 (s.fst + 1)) fun u => some (Sum.inl (u, s.snd)))) (some (Sum.inr (Sum.inl s.snd)))) ((0 : Int), ([] : List TEvEvent))) Q := by
  refine Tot.count es.length (fun k s => s.1 = (k : Int) ∧ s.2 = (es.take k).filter fun v => sees l v.Label q) ?_ ⟨rfl, by simp⟩
  rintro k ⟨i, out⟩ hk ⟨h0, h1⟩
  simp only at h0 h1
  subst h0
  simp only [tot_cond, tot_some, tot_let, tot_idx, tot_side, tot_bind, Sum.elim_inl, Sum.elim_inr, decide_eq_true_eq, decide_eq_false_iff_not, Int.toNat_natCast]
  refine ⟨fun hlt => ?_, fun hlt => ?_⟩
  · obtain ⟨x, hx⟩ := get_lt (l := es) (i := k) (by omega)
    refine ⟨by omega, x, hx, ?_⟩
    rw [leq_spec h, tot_some]
    have hlen : out.length ≤ k := by
      rw [h1]
      refine Nat.le_trans (List.length_filter_le _ _) (by simp; omega)
    rw [w64 (by omega) (by omega)]
    have hs : ((es.take (k + 1)).filter fun v => sees l v.Label q) = out ++ (if sees l x.Label q = true then [x] else []) := by
      rw [List.take_add_one, hx, List.filter_append, ← h1]
      congr 1
      simp only [Option.toList_some, List.filter_cons, List.filter_nil]
    refine ⟨fun g => ⟨by omega, x, hx, by omega, by omega, by omega, ?_⟩, fun g => ⟨by omega, by omega, ?_⟩⟩
    · rw [hs, g]; rfl
    · rw [hs, g]; simp
  · rw [h1, List.take_of_length_le (by omega)]; exact hQ
end Go.Sx.O
namespace Go.Sx.O
open Go
theorem ViewMore_law (l : TLattice) (t : TEvTrace × TEvTrace) (hu : U8s l.Up) : F_invigilatorlaw31_ViewMore l t = some true := by
  obtain ⟨a, b⟩ := t
  unfold F_invigilatorlaw31_ViewMore
  obtain ⟨x0, e0, hl0⟩ := Large_spec l
  obtain ⟨xa, ea, ha0⟩ := far_spec a
  obtain ⟨xb, eb, hb0⟩ := far_spec b
  simp only [e0, ea, eb, Option.bind_some]
  cases x0 with
  | true => rfl
  | false =>
  cases xa with
  | true => rfl
  | false =>
  cases xb with
  | true => rfl
  | false =>
  simp only [cond_false]
  obtain ⟨n1, n2, n3⟩ := hl0 rfl
  have hl : LatIn l := ⟨hu, n1, n3⟩
  obtain ⟨p1, p2, p3⟩ := ha0 rfl
  have ha : TraceIn a := ⟨p1, p2, p3⟩
  obtain ⟨p1, p2, p3⟩ := hb0 rfl
  have hb : TraceIn b := ⟨p1, p2, p3⟩
  apply Tot.eq
  rw [tot_bind]
  refine (Blind_spec hl ha hb).mono fun w hw => ?_
  rw [tot_cond]
  refine ⟨fun _ => .mk rfl, fun h0 => ?_⟩
  obtain ⟨va, vb, ew⟩ := hw (by simpa using h0)
  obtain ⟨k0, _⟩ := tr_ok hl ha va
  have ok := lat_ok hl k0
  have h8 := ok.le
  rw [tot_bind]
  refine (SameEvents_spec a.Events b.Events (by have := ha.events; omega) (fun v hv => (ha.event v hv).2)).mono fun r hr => ?_
  have hwr : (decide (((List.map (SV.int .i64) w.1).length : Int) = ((List.map SV.str l.Names).length : Int)) == r) = true := by
    rw [beq_iff_eq, Bool.eq_iff_iff, decide_eq_true_eq, hr, List.length_map, List.length_map, ew, List.length_map]
    classical
    constructor
    · intro h
      have h' : ((List.range l.Names.length).filter fun (o : Nat) => decide (seenE l a (o : Int) = seenE l b (o : Int))).length = (List.range l.Names.length).length := by
        rw [List.length_range]; omega
      have hall := List.filter_eq_self.1 (List.filter_sublist.eq_of_length h')
      obtain ⟨o, ho, hseen⟩ := seen_all hl ha va
      have := hall o (by simpa using ho)
      rw [decide_eq_true_eq, hseen a ha va, hseen b hb vb] at this
      exact this
    · intro h
      have : ((List.range l.Names.length).filter fun (o : Nat) => decide (seenE l a (o : Int) = seenE l b (o : Int))) = List.range l.Names.length := by
        rw [List.filter_eq_self]
        intro o _
        rw [decide_eq_true_eq]
        unfold seenE
        rw [h]
      rw [this, List.length_range]
  rw [hwr]
  simp only [Bool.not_true, cond_false, List.length_map]
  have hvk : ∀ o : Nat, o < l.Names.length → isLab l (o : Int) = true := fun o ho => by unfold isLab; simp; omega
  have v2 : ∀ o : Nat, o < l.Names.length → vask l (o : Int) [a, b] = 0 := fun o ho => vask_nil.2 ⟨hvk o ho, fun t ht => by simp at ht; rcases ht with rfl | rfl <;> assumption⟩
  have v1 : ∀ o : Nat, o < l.Names.length → vask l (o : Int) [a] = 0 := fun o ho => vask_nil.2 ⟨hvk o ho, fun t ht => by simp at ht; subst ht; assumption⟩
  rw [tot_bind]
  refine Tot.count l.Names.length (fun k s => s = (k : Int)) ?_ rfl
  rintro o _ ho rfl
  rw [tot_cond]
  refine ⟨fun hlt => ?_, fun _ => by simp only [tot_some, Sum.elim_inr, Sum.elim_inl]⟩
  have ho' : o < l.Names.length := by simp at hlt; omega
  rw [tot_bind]
  refine (Alike_spec hl ha hb o).mono fun x hx => ?_
  have hx0 : x.2 = 0 := hx.1.trans (v2 o ho')
  have hx1 := hx.2 hx0
  rw [Events_spec hl ha o, v1 o ho']
  simp only [Option.bind_some, hx0, decide_true, Bool.not_true, cond_false, if_true]
  rw [tot_bind]
  refine Tot.count l.Names.length (fun k s => s = (k : Int)) ?_ rfl
  rintro q _ hq rfl
  rw [tot_cond]
  refine ⟨fun hlt => ?_, fun _ => ?_⟩
  · have hq' : q < l.Names.length := by simp at hlt; omega
    have next : q < l.Names.length ∧ IntKind.wrap .i64 ((q : Int) + 1) = ((q + 1 : Nat) : Int) := by
      rw [w64 (by omega) (by omega)]; exact ⟨hq', by omega⟩
    rw [leq_spec hl, Option.bind_some, tot_cond]
    refine ⟨fun _ => by rw [tot_let, tot_some]; exact next, fun hs => ?_⟩
    have hs' : sees l q o = true := by cases e : sees l q o <;> simp_all
    rw [tot_bind]
    refine (Alike_spec hl ha hb q).mono fun y hy => ?_
    have hy0 : y.2 = 0 := hy.1.trans (v2 q hq')
    have hy1 := hy.2 hy0
    rw [Events_spec hl ha q, v1 q hq']
    simp only [Option.bind_some, hy0, decide_true, Bool.not_true, cond_false, if_true]
    have fin : ∀ {Q : Int ⊕ (Unit ⊕ (Int ⊕ (Unit ⊕ Bool))) → Prop}, True := fun {_} => trivial
    have part := seen_part hl a hs'
    have body : Tot (Option.bind (F_invigilatorref29_SameEvents ((seenE l a o).filter fun v => sees l v.Label q) (seenE l a q)) fun z => some z) fun z => z = true := by
      rw [part, tot_bind]
      exact (SameEvents_spec (seenE l a q) (seenE l a q) (by have := seenE_len (l := l) (o := q) ha; omega) (seenE_val ha)).mono fun z hz => .mk (hz.2 rfl)
    obtain ⟨z, ez, hz⟩ := body
    have ez' : F_invigilatorref29_SameEvents ((seenE l a o).filter fun v => sees l v.Label q) (seenE l a q) = some true := by
      rw [Option.bind_eq_some_iff] at ez
      obtain ⟨z', e1, e2⟩ := ez
      cases e2; rw [e1, hz]
    rw [tot_cond]
    refine ⟨fun hxx => ?_, fun _ => ?_⟩
    · have : y.1 = true := by
        refine hy1.2 ?_
        rw [← seen_part hl a hs', ← seen_part hl b hs', hx1.1 hxx]
      rw [this]
      simp only [Bool.not_true, cond_false]
      rw [tot_bind]
      refine part_spec hl _ _ (seenE_len ha) ?_
      simp only [Sum.elim_inl, ez', Option.bind_some, Bool.not_true, cond_false, tot_let, tot_some]
      exact next
    · rw [tot_bind]
      refine part_spec hl _ _ (seenE_len ha) ?_
      simp only [Sum.elim_inl, ez', Option.bind_some, Bool.not_true, cond_false, tot_let, tot_some]
      exact next
  · simp only [tot_some, Sum.elim_inr, Sum.elim_inl, tot_let]
    rw [w64 (by omega) (by omega)]
    exact ⟨by omega, by omega⟩
end Go.Sx.O
