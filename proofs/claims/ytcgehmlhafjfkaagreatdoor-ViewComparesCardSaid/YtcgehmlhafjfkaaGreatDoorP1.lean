/-
  THE PLAIN STRUCT TYPES, and their symbolic values. Printed by a program. An own text.
  WHAT THE LIBRARY's BODILESS FUNCTIONS RETURN. An own text.
  DATA AS THEY COME: numbers in their kinds' ranges. Printed by a program. An own text.
  PLAIN FUNCTIONS: what the program computes. Printed by a program. An own text.
  PLAIN LAWS of the library's functions and of words, lattice. An own text.
  PLAIN LAWS: slices.Index, strings.Trim, words.Name. An own text.
  PLAIN LAWS: strings.Trim over ASCII, words.Name. An own text.
  PLAIN LAWS: bits; lattice.named, .of, .bound. An own text.
  PLAIN LAWS: lattice.of, .bound, .Check, .Leq. An own text.
  PLAIN LAWS: lattice.Leq; what an observer sees. An own text.
  PLAIN LAWS: shapes, arrays; arrays and events that are the same. An own text.
  PLAIN LAWS: expr.Name returns. An own text.
  PLAIN LAWS: view. An own text.
  PLAIN LAWS: view's functions. An own text.
-/
import Derived.Test.YtcgehmlhafjfkaaGreatDoorA5
import Derived.Lib.Bytealg
namespace Go.Sx.O
structure Tlexer_reader where
  s_ : List UInt8
  at_ : Int
def enc_Tlexer_reader (x : Tlexer_reader) : SV := .agg [SV.str x.s_, (SV.int .i64) x.at_]
structure TLattice where
  Names : List (List UInt8)
  Up : List (Int)
def enc_TLattice (x : TLattice) : SV := .agg [(encSl 1 SV.str) x.Names, (encSl 1 (SV.int .u8)) x.Up]
structure TLxToken where
  Kind : Int
  From : Int
  To : Int
  N : Int
  S : List UInt8
def enc_TLxToken (x : TLxToken) : SV := .agg [(SV.int .i64) x.Kind, (SV.int .i64) x.From, (SV.int .i64) x.To, (SV.int .i64) x.N, SV.str x.S]
structure Tlattice_order where
  n_ : Int
  up_ : List (Int)
  down_ : List (Int)
def enc_Tlattice_order (x : Tlattice_order) : SV := .agg [(SV.int .i64) x.n_, (encA 8 1 (SV.int .u8)) x.up_, (encA 8 1 (SV.int .u8)) x.down_]
structure TArray where
  Kind : Int
  Rank : Int
  Lens : (Int) × (Int)
  Cells : List (Int)
def enc_TArray (x : TArray) : SV := .agg [(SV.int .i64) x.Kind, (SV.int .i64) x.Rank, (encA2 1 (SV.int .i64)) x.Lens, (encSl 1 (SV.int .i64)) x.Cells]
structure TWsVar where
  Name : List UInt8
  Value : TArray
def enc_TWsVar (x : TWsVar) : SV := .agg [SV.str x.Name, enc_TArray x.Value]
structure TReEntry where
  Site : Int
  Fold : Int
  From : Int
  Goal : Int
  Cells : Int
  Value : (Int) × (Int)
def enc_TReEntry (x : TReEntry) : SV := .agg [(SV.int .i64) x.Site, (SV.int .i64) x.Fold, (SV.int .i64) x.From, (SV.int .i64) x.Goal, (SV.int .i64) x.Cells, (encA2 1 (SV.int .i64)) x.Value]
structure TEvEvent where
  Kind : Int
  Site : Int
  Steps : Int
  Label : Int
  Channel : List UInt8
  Value : TArray
  E : Int
def enc_TEvEvent (x : TEvEvent) : SV := .agg [(SV.int .i64) x.Kind, (SV.int .i64) x.Site, (SV.int .i64) x.Steps, (SV.int .i64) x.Label, SV.str x.Channel, enc_TArray x.Value, (SV.int .i64) x.E]
structure TEvTrace where
  Events : List (TEvEvent)
  Log : List (TReEntry)
  Vars : List (TWsVar)
  Steps : Int
def enc_TEvTrace (x : TEvTrace) : SV := .agg [(encSl 11 enc_TEvEvent) x.Events, (encSl 7 enc_TReEntry) x.Log, (encSl 6 enc_TWsVar) x.Vars, (SV.int .i64) x.Steps]
end Go.Sx.O
namespace Go.Sx.O
noncomputable def F_internal_stringslite_IndexByte (a0 : List UInt8) (a1 : Int) : Option Int := some (Go.Lib.indexByte a0 a1.toNat.toUInt8)
end Go.Sx.O
namespace Go.Sx.O
open Go
def inK (k : IntKind) (n : Int) : Prop := k.min ≤ n ∧ n ≤ k.max
def allW {α : Type} (W : α → Prop) (l : List α) : Prop := ∀ x ∈ l, W x
def w2 {α : Type} (W : α → Prop) (p : α × α) : Prop := W p.1 ∧ W p.2
def w3 {α : Type} (W : α → Prop) (p : α × α × α) : Prop := W p.1 ∧ W p.2.1 ∧ W p.2.2
def wN {α : Type} (n : Nat) (W : α → Prop) (l : List α) : Prop := l.length = n ∧ ∀ x ∈ l, W x
structure W_Tlexer_reader (x : Tlexer_reader) : Prop where
  s_ : (fun _ => True) x.s_
  at_ : (inK .i64) x.at_
structure W_TLattice (x : TLattice) : Prop where
  Names : (allW (fun _ => True)) x.Names
  Up : (allW (inK .u8)) x.Up
structure W_TLxToken (x : TLxToken) : Prop where
  Kind : (inK .i64) x.Kind
  From : (inK .i64) x.From
  To : (inK .i64) x.To
  N : (inK .i64) x.N
  S : (fun _ => True) x.S
structure W_Tlattice_order (x : Tlattice_order) : Prop where
  n_ : (inK .i64) x.n_
  up_ : (wN 8 (inK .u8)) x.up_
  down_ : (wN 8 (inK .u8)) x.down_
structure W_TArray (x : TArray) : Prop where
  Kind : (inK .i64) x.Kind
  Rank : (inK .i64) x.Rank
  Lens : (w2 (inK .i64)) x.Lens
  Cells : (allW (inK .i64)) x.Cells
structure W_TWsVar (x : TWsVar) : Prop where
  Name : (fun _ => True) x.Name
  Value : W_TArray x.Value
structure W_TReEntry (x : TReEntry) : Prop where
  Site : (inK .i64) x.Site
  Fold : (inK .i64) x.Fold
  From : (inK .i64) x.From
  Goal : (inK .i64) x.Goal
  Cells : (inK .i64) x.Cells
  Value : (w2 (inK .i64)) x.Value
structure W_TEvEvent (x : TEvEvent) : Prop where
  Kind : (inK .i64) x.Kind
  Site : (inK .i64) x.Site
  Steps : (inK .i64) x.Steps
  Label : (inK .i64) x.Label
  Channel : (fun _ => True) x.Channel
  Value : W_TArray x.Value
  E : (inK .i64) x.E
structure W_TEvTrace (x : TEvTrace) : Prop where
  Events : (allW W_TEvEvent) x.Events
  Log : (allW W_TReEntry) x.Log
  Vars : (allW W_TWsVar) x.Vars
  Steps : (inK .i64) x.Steps
end Go.Sx.O
namespace Go.Sx.O
noncomputable def F_invigilatorlaw20_Large (a0 : TLattice) : Option (Bool) :=
 Option.bind (
  lpO (fun (s3 : Int) =>
  cond (decide (s3 < (↑(List.length (List.map SV.str a0.Names)) : Int)))
  (cond (decide (s3 < 30))
  (idxO (a0.Names) (s3) fun x9 =>
  cond (decide (50 < (↑(List.length x9) : Int)))
  (some (Sum.inr (Sum.inr (true))))
  (letO (IntKind.wrap IntKind.i64 (s3 + 1)) fun x11 =>
  some (Sum.inl (x11))))
  (some (Sum.inr (Sum.inl (())))))
  (some (Sum.inr (Sum.inl (()))))) (0))
  (Sum.elim (fun (s1 : Unit) =>
  cond (decide (20 < (↑(List.length (List.map SV.str a0.Names)) : Int)))
  (some (true))
  (some (decide (20 < (↑(List.length (List.map (SV.int IntKind.u8) a0.Up)) : Int))))) some)
noncomputable def F_invigilatorlaw31_far (a0 : TEvTrace) : Option (Bool) :=
 Option.bind (
  lpO (fun (s17 : Int) =>
  cond (decide (s17 < (↑(List.length (List.map enc_TEvEvent a0.Events)) : Int)))
  (cond (decide (s17 < 70))
  (idxO (a0.Events) (s17) fun x25 =>
  cond (decide (100 < (↑(List.length x25.Channel) : Int)))
  (some (Sum.inr (Sum.inr (true))))
  (idxO (a0.Events) (s17) fun x27 =>
  cond (decide (450 < (↑(List.length (List.map (SV.int IntKind.i64) x27.Value.Cells)) : Int)))
  (some (Sum.inr (Sum.inr (true))))
  (letO (IntKind.wrap IntKind.i64 (s17 + 1)) fun x29 =>
  some (Sum.inl (x29)))))
  (some (Sum.inr (Sum.inl (())))))
  (some (Sum.inr (Sum.inl (()))))) (0))
  (Sum.elim (fun (s15 : Unit) =>
  cond (decide (60 < (↑(List.length (List.map enc_TEvEvent a0.Events)) : Int)))
  (some (true))
  (some (decide (60 < (↑(List.length (List.map enc_TReEntry a0.Log)) : Int))))) some)
noncomputable def F_strings_trimRightByte (a0 : List UInt8) (a1 : Int) : Option (List UInt8) :=
 Option.bind (
  lpO (fun (s59 : List UInt8) =>
  cond (decide (0 < (↑(List.length s59) : Int)))
  (letO (IntKind.wrap IntKind.i64 ((↑(List.length s59) : Int) - 1)) fun x66 =>
  idxO (s59) (x66) fun x67 =>
  cond (decide ((↑(UInt8.toNat x67) : Int) = a1))
  (letO (IntKind.wrap IntKind.i64 ((↑(List.length s59) : Int) - 1)) fun x69 =>
  sideO ((0 : Int) ≤ x69 ∧ x69 ≤ (↑(List.length s59) : Int)) (
  some (Sum.inl (List.drop (Int.toNat 0) (List.take (Int.toNat x69) s59)))))
  (some (Sum.inr (Sum.inl (s59)))))
  (some (Sum.inr (Sum.inl (s59))))) (a0))
  (Sum.elim (fun (s57 : List UInt8) =>
  some (s57)) some)
noncomputable def F_strings_trimLeftByte (a0 : List UInt8) (a1 : Int) : Option (List UInt8) :=
 Option.bind (
  lpO (fun (s74 : List UInt8) =>
  cond (decide (0 < (↑(List.length s74) : Int)))
  (idxO (s74) (0) fun x79 =>
  cond (decide ((↑(UInt8.toNat x79) : Int) = a1))
  (sideO ((0 : Int) ≤ (1 : Int) ∧ (1 : Int) ≤ (↑(List.length s74) : Int)) (
  some (Sum.inl (List.drop (Int.toNat 1) (List.take (Int.toNat (↑(List.length s74) : Int)) s74)))))
  (some (Sum.inr (Sum.inl (s74)))))
  (some (Sum.inr (Sum.inl (s74))))) (a0))
  (Sum.elim (fun (s72 : List UInt8) =>
  some (s72)) some)
noncomputable def F_strings_makeASCIISet (a0 : List UInt8) : Option (List Bool × Bool) :=
 Option.bind (
  lpO (fun (s84 : Int × List Bool) =>
  cond (decide (s84.fst < (↑(List.length a0) : Int)))
  (idxO (a0) (s84.fst) fun x90 =>
  cond (decide (128 ≤ (↑(UInt8.toNat x90) : Int)))
  (some (Sum.inr (Sum.inr ((s84.snd, false)))))
  (sideO ((0 : Int) ≤ (↑(UInt8.toNat x90) : Int) ∧ (↑(UInt8.toNat x90) : Int) < (↑(256 : Nat) : Int)) (
  idxO (s84.snd) ((↑(Int.toNat (↑(UInt8.toNat x90) : Int)) : Int)) fun x92 =>
  letO (IntKind.wrap IntKind.i64 (s84.fst + 1)) fun x93 =>
  some (Sum.inl ((x93, List.set s84.snd (Int.toNat (↑(UInt8.toNat x90) : Int)) true))))))
  (some (Sum.inr (Sum.inl (s84.snd))))) ((0, List.replicate 256 false)))
  (Sum.elim (fun (s82 : List Bool) =>
  some ((s82, true))) some)
noncomputable def F__Pstrings_asciiSet__contains (a0 : List Bool) (a1 : Int) : Option (Bool) :=
 sideO ((0 : Int) ≤ a1 ∧ a1 < (↑(256 : Nat) : Int)) (
  idxO (a0) ((↑(Int.toNat a1) : Int)) fun x101 =>
  some (x101))
noncomputable def F_strings_trimRightASCII (a0 : List UInt8) (a1 : List Bool) : Option (List UInt8) :=
 Option.bind (
  lpO (fun (s98 : List UInt8) =>
  cond (decide (0 < (↑(List.length s98) : Int)))
  (letO (IntKind.wrap IntKind.i64 ((↑(List.length s98) : Int) - 1)) fun x106 =>
  idxO (s98) (x106) fun x107 =>
  Option.bind (F__Pstrings_asciiSet__contains (a1) ((↑(UInt8.toNat x107) : Int))) fun x108 =>
  cond (!x108)
  (some (Sum.inr (Sum.inl (s98))))
  (letO (IntKind.wrap IntKind.i64 ((↑(List.length s98) : Int) - 1)) fun x110 =>
  sideO ((0 : Int) ≤ x110 ∧ x110 ≤ (↑(List.length s98) : Int)) (
  some (Sum.inl (List.drop (Int.toNat 0) (List.take (Int.toNat x110) s98))))))
  (some (Sum.inr (Sum.inl (s98))))) (a0))
  (Sum.elim (fun (s96 : List UInt8) =>
  some (s96)) some)
noncomputable def F_strings_trimLeftASCII (a0 : List UInt8) (a1 : List Bool) : Option (List UInt8) :=
 Option.bind (
  lpO (fun (s114 : List UInt8) =>
  cond (decide (0 < (↑(List.length s114) : Int)))
  (idxO (s114) (0) fun x120 =>
  Option.bind (F__Pstrings_asciiSet__contains (a1) ((↑(UInt8.toNat x120) : Int))) fun x121 =>
  cond (!x121)
  (some (Sum.inr (Sum.inl (s114))))
  (sideO ((0 : Int) ≤ (1 : Int) ∧ (1 : Int) ≤ (↑(List.length s114) : Int)) (
  some (Sum.inl (List.drop (Int.toNat 1) (List.take (Int.toNat (↑(List.length s114) : Int)) s114))))))
  (some (Sum.inr (Sum.inl (s114))))) (a0))
  (Sum.elim (fun (s112 : List UInt8) =>
  some (s112)) some)
noncomputable def F_unicode_utf8_RuneStart (a0 : Int) : Option (Bool) :=
 some (!decide (bits BinOp.and IntKind.u8 a0 192 = 128))
noncomputable def F_unicode_utf8_decodeRuneInStringSlow (a0 : List UInt8) : Option (Int × Int) :=
 cond (decide ((↑(List.length a0) : Int) < 1))
  (some ((65533, 0)))
  (idxO (a0) (0) fun x158 =>
  none)
noncomputable def F_unicode_utf8_DecodeRuneInString (a0 : List UInt8) : Option (Int × Int) :=
 cond (!decide (a0 = (ByteArray.mk #[]).data.toList))
  (idxO (a0) (0) fun x153 =>
  cond (decide ((↑(UInt8.toNat x153) : Int) < 128))
  (idxO (a0) (0) fun x155 =>
  letO (IntKind.wrap IntKind.i32 (↑(UInt8.toNat x155) : Int)) fun x156 =>
  some ((x156, 1)))
  (Option.bind (F_unicode_utf8_decodeRuneInStringSlow (a0)) fun x159 =>
  some (x159)))
  (Option.bind (F_unicode_utf8_decodeRuneInStringSlow (a0)) fun x160 =>
  some (x160))
noncomputable def F_unicode_utf8_DecodeLastRuneInString (a0 : List UInt8) : Option (Int × Int) :=
 cond (decide ((↑(List.length a0) : Int) = 0))
  (some ((65533, 0)))
  (letO (IntKind.wrap IntKind.i64 ((↑(List.length a0) : Int) - 1)) fun x132 =>
  idxO (a0) (x132) fun x133 =>
  letO (IntKind.wrap IntKind.i32 (↑(UInt8.toNat x133) : Int)) fun x134 =>
  cond (decide (x134 < 128))
  (some ((x134, 1)))
  (letO (IntKind.wrap IntKind.i64 ((↑(List.length a0) : Int) - 4)) fun x136 =>
  letO (IntKind.wrap IntKind.i64 (x132 - 1)) fun x137 =>
  Option.bind (
  lpO (fun (s140 : Int) =>
  cond (decide (max x136 0 ≤ s140))
  (idxO (a0) (s140) fun x147 =>
  Option.bind (F_unicode_utf8_RuneStart ((↑(UInt8.toNat x147) : Int))) fun x148 =>
  cond (x148)
  (some (Sum.inr (Sum.inl (s140))))
  (letO (IntKind.wrap IntKind.i64 (s140 - 1)) fun x150 =>
  some (Sum.inl (x150))))
  (some (Sum.inr (Sum.inl (s140))))) (x137))
  (Sum.elim (fun (s138 : Int) =>
  cond (decide (s138 < 0))
  (sideO ((0 : Int) ≤ (0 : Int) ∧ (0 : Int) ≤ (↑(List.length a0) : Int) ∧ (↑(List.length a0) : Int) ≤ (↑(List.length a0) : Int)) (
  Option.bind (F_unicode_utf8_DecodeRuneInString (List.drop (Int.toNat 0) (List.take (Int.toNat (↑(List.length a0) : Int)) a0))) fun x161 =>
  letO (IntKind.wrap IntKind.i64 (0 + x161.snd)) fun x162 =>
  cond (!decide (x162 = (↑(List.length a0) : Int)))
  (some ((65533, 1)))
  (some (x161))))
  (sideO ((0 : Int) ≤ s138 ∧ s138 ≤ (↑(List.length a0) : Int) ∧ (↑(List.length a0) : Int) ≤ (↑(List.length a0) : Int)) (
  Option.bind (F_unicode_utf8_DecodeRuneInString (List.drop (Int.toNat s138) (List.take (Int.toNat (↑(List.length a0) : Int)) a0))) fun x164 =>
  letO (IntKind.wrap IntKind.i64 (s138 + x164.snd)) fun x165 =>
  cond (!decide (x165 = (↑(List.length a0) : Int)))
  (some ((65533, 1)))
  (some (x164))))) some)))
noncomputable def F_strings_IndexByte (a0 : List UInt8) (a1 : Int) : Option (Int) :=
 Option.bind (F_internal_stringslite_IndexByte (a0) (a1)) fun x171 =>
  some (x171)
noncomputable def F_unicode_utf8_ValidRune (a0 : Int) : Option (Bool) :=
 cond (decide (0 ≤ a0))
  (cond (decide (a0 < 55296))
  (some (true))
  (cond (decide (57343 < a0))
  (cond (decide (a0 ≤ 1114111))
  (some (true))
  (some (false)))
  (some (false))))
  (cond (decide (57343 < a0))
  (cond (decide (a0 ≤ 1114111))
  (some (true))
  (some (false)))
  (some (false)))
noncomputable def F_strings_IndexRune (a0 : List UInt8) (a1 : Int) : Option (Int) :=
 cond (decide (0 ≤ a1))
  (cond (decide (a1 < 128))
  (letO (IntKind.wrap IntKind.u8 a1) fun x170 =>
  Option.bind (F_strings_IndexByte (a0) (x170)) fun x172 =>
  some (x172))
  (cond (decide (a1 = 65533))
  (none)
  (Option.bind (F_unicode_utf8_ValidRune (a1)) fun x180 =>
  cond (!x180)
  (some ((-1 : Int)))
  (letO (IntKind.wrap IntKind.i64 ((↑(List.length (Utf8.encode a1).data.toList) : Int) - 1)) fun x182 =>
  Option.bind (
  lpO (fun (s185 : Unit) =>
  cond (decide (x182 < (↑(List.length a0) : Int)))
  (idxO (a0) (x182) fun x187 =>
  idxO ((Utf8.encode a1).data.toList) (x182) fun x188 =>
  cond (!decide ((↑(UInt8.toNat x187) : Int) = (↑(UInt8.toNat x188) : Int)))
  (letO (IntKind.wrap IntKind.i64 (x182 + 1)) fun x190 =>
  sideO ((0 : Int) ≤ x190 ∧ x190 ≤ (↑(List.length a0) : Int)) (
  idxO ((Utf8.encode a1).data.toList) (x182) fun x191 =>
  Option.bind (F_strings_IndexByte (List.drop (Int.toNat x190) (List.take (Int.toNat (↑(List.length a0) : Int)) a0)) ((↑(UInt8.toNat x191) : Int))) fun x192 =>
  cond (decide (x192 < 0))
  (some (Sum.inr (Sum.inr ((-1 : Int)))))
  (letO (IntKind.wrap IntKind.i64 (x192 + 1)) fun x194 =>
  letO (IntKind.wrap IntKind.i64 (x182 + x194)) fun x195 =>
  Option.bind (
  lpO (fun (s198 : Int) =>
  cond (decide (s198 < (↑(List.length (Utf8.encode a1).data.toList) : Int)))
  (letO (IntKind.wrap IntKind.i64 (x195 - s198)) fun x206 =>
  idxO (a0) (x206) fun x207 =>
  letO (IntKind.wrap IntKind.i64 (x182 - s198)) fun x208 =>
  idxO ((Utf8.encode a1).data.toList) (x208) fun x209 =>
  cond (!decide ((↑(UInt8.toNat x207) : Int) = (↑(UInt8.toNat x209) : Int)))
  (none)
  (letO (IntKind.wrap IntKind.i64 (s198 + 1)) fun x211 =>
  some (Sum.inl (x211))))
  (some (Sum.inr (Sum.inl (()))))) (1))
  (Sum.elim (fun (s196 : Unit) =>
  letO (IntKind.wrap IntKind.i64 (x195 - x182)) fun x212 =>
  some (Sum.inr (Sum.inr (x212)))) some))))
  (Option.bind (
  lpO (fun (s215 : Int) =>
  cond (decide (s215 < (↑(List.length (Utf8.encode a1).data.toList) : Int)))
  (letO (IntKind.wrap IntKind.i64 (x182 - s215)) fun x223 =>
  idxO (a0) (x223) fun x224 =>
  letO (IntKind.wrap IntKind.i64 (x182 - s215)) fun x225 =>
  idxO ((Utf8.encode a1).data.toList) (x225) fun x226 =>
  cond (!decide ((↑(UInt8.toNat x224) : Int) = (↑(UInt8.toNat x226) : Int)))
  (none)
  (letO (IntKind.wrap IntKind.i64 (s215 + 1)) fun x228 =>
  some (Sum.inl (x228))))
  (some (Sum.inr (Sum.inl (()))))) (1))
  (Sum.elim (fun (s213 : Unit) =>
  letO (IntKind.wrap IntKind.i64 (x182 - x182)) fun x229 =>
  some (Sum.inr (Sum.inr (x229)))) some)))
  (some (Sum.inr (Sum.inl (()))))) (()))
  (Sum.elim (fun (s183 : Unit) =>
  some ((-1 : Int))) some)))))
  (cond (decide (a1 = 65533))
  (none)
  (Option.bind (F_unicode_utf8_ValidRune (a1)) fun x231 =>
  cond (!x231)
  (some ((-1 : Int)))
  (letO (IntKind.wrap IntKind.i64 ((↑(List.length (Utf8.encode a1).data.toList) : Int) - 1)) fun x233 =>
  Option.bind (
  lpO (fun (s236 : Unit) =>
  cond (decide (x233 < (↑(List.length a0) : Int)))
  (idxO (a0) (x233) fun x238 =>
  idxO ((Utf8.encode a1).data.toList) (x233) fun x239 =>
  cond (!decide ((↑(UInt8.toNat x238) : Int) = (↑(UInt8.toNat x239) : Int)))
  (letO (IntKind.wrap IntKind.i64 (x233 + 1)) fun x241 =>
  sideO ((0 : Int) ≤ x241 ∧ x241 ≤ (↑(List.length a0) : Int)) (
  idxO ((Utf8.encode a1).data.toList) (x233) fun x242 =>
  Option.bind (F_strings_IndexByte (List.drop (Int.toNat x241) (List.take (Int.toNat (↑(List.length a0) : Int)) a0)) ((↑(UInt8.toNat x242) : Int))) fun x243 =>
  cond (decide (x243 < 0))
  (some (Sum.inr (Sum.inr ((-1 : Int)))))
  (letO (IntKind.wrap IntKind.i64 (x243 + 1)) fun x245 =>
  letO (IntKind.wrap IntKind.i64 (x233 + x245)) fun x246 =>
  Option.bind (
  lpO (fun (s249 : Int) =>
  cond (decide (s249 < (↑(List.length (Utf8.encode a1).data.toList) : Int)))
  (letO (IntKind.wrap IntKind.i64 (x246 - s249)) fun x257 =>
  idxO (a0) (x257) fun x258 =>
  letO (IntKind.wrap IntKind.i64 (x233 - s249)) fun x259 =>
  idxO ((Utf8.encode a1).data.toList) (x259) fun x260 =>
  cond (!decide ((↑(UInt8.toNat x258) : Int) = (↑(UInt8.toNat x260) : Int)))
  (none)
  (letO (IntKind.wrap IntKind.i64 (s249 + 1)) fun x262 =>
  some (Sum.inl (x262))))
  (some (Sum.inr (Sum.inl (()))))) (1))
  (Sum.elim (fun (s247 : Unit) =>
  letO (IntKind.wrap IntKind.i64 (x246 - x233)) fun x263 =>
  some (Sum.inr (Sum.inr (x263)))) some))))
  (Option.bind (
  lpO (fun (s266 : Int) =>
  cond (decide (s266 < (↑(List.length (Utf8.encode a1).data.toList) : Int)))
  (letO (IntKind.wrap IntKind.i64 (x233 - s266)) fun x274 =>
  idxO (a0) (x274) fun x275 =>
  letO (IntKind.wrap IntKind.i64 (x233 - s266)) fun x276 =>
  idxO ((Utf8.encode a1).data.toList) (x276) fun x277 =>
  cond (!decide ((↑(UInt8.toNat x275) : Int) = (↑(UInt8.toNat x277) : Int)))
  (none)
  (letO (IntKind.wrap IntKind.i64 (s266 + 1)) fun x279 =>
  some (Sum.inl (x279))))
  (some (Sum.inr (Sum.inl (()))))) (1))
  (Sum.elim (fun (s264 : Unit) =>
  letO (IntKind.wrap IntKind.i64 (x233 - x233)) fun x280 =>
  some (Sum.inr (Sum.inr (x280)))) some)))
  (some (Sum.inr (Sum.inl (()))))) (()))
  (Sum.elim (fun (s234 : Unit) =>
  some ((-1 : Int))) some))))
noncomputable def F_strings_ContainsRune (a0 : List UInt8) (a1 : Int) : Option (Bool) :=
 Option.bind (F_strings_IndexRune (a0) (a1)) fun x281 =>
  some (decide (0 ≤ x281))
noncomputable def F_strings_trimRightUnicode (a0 : List UInt8) (a1 : List UInt8) : Option (List UInt8) :=
 Option.bind (
  lpO (fun (s126 : List UInt8) =>
  cond (decide (0 < (↑(List.length s126) : Int)))
  (letO (IntKind.wrap IntKind.i64 ((↑(List.length s126) : Int) - 1)) fun x140 =>
  idxO (s126) (x140) fun x141 =>
  letO (IntKind.wrap IntKind.i32 (↑(UInt8.toNat x141) : Int)) fun x142 =>
  cond (decide (128 ≤ x142))
  (Option.bind (F_unicode_utf8_DecodeLastRuneInString (s126)) fun x144 =>
  Option.bind (F_strings_ContainsRune (a1) (x144.fst)) fun x145 =>
  cond (!x145)
  (some (Sum.inr (Sum.inl (s126))))
  (letO (IntKind.wrap IntKind.i64 ((↑(List.length s126) : Int) - x144.snd)) fun x147 =>
  sideO ((0 : Int) ≤ x147 ∧ x147 ≤ (↑(List.length s126) : Int)) (
  some (Sum.inl (List.drop (Int.toNat 0) (List.take (Int.toNat x147) s126))))))
  (Option.bind (F_strings_ContainsRune (a1) (x142)) fun x148 =>
  cond (!x148)
  (some (Sum.inr (Sum.inl (s126))))
  (letO (IntKind.wrap IntKind.i64 ((↑(List.length s126) : Int) - 1)) fun x150 =>
  sideO ((0 : Int) ≤ x150 ∧ x150 ≤ (↑(List.length s126) : Int)) (
  some (Sum.inl (List.drop (Int.toNat 0) (List.take (Int.toNat x150) s126)))))))
  (some (Sum.inr (Sum.inl (s126))))) (a0))
  (Sum.elim (fun (s124 : List UInt8) =>
  some (s124)) some)
noncomputable def F_strings_trimLeftUnicode (a0 : List UInt8) (a1 : List UInt8) : Option (List UInt8) :=
 Option.bind (
  lpO (fun (s154 : List UInt8) =>
  cond (decide (0 < (↑(List.length s154) : Int)))
  (Option.bind (F_unicode_utf8_DecodeRuneInString (s154)) fun x160 =>
  Option.bind (F_strings_ContainsRune (a1) (x160.fst)) fun x161 =>
  cond (!x161)
  (some (Sum.inr (Sum.inl (s154))))
  (sideO ((0 : Int) ≤ x160.snd ∧ x160.snd ≤ (↑(List.length s154) : Int)) (
  some (Sum.inl (List.drop (Int.toNat x160.snd) (List.take (Int.toNat (↑(List.length s154) : Int)) s154))))))
  (some (Sum.inr (Sum.inl (s154))))) (a0))
  (Sum.elim (fun (s152 : List UInt8) =>
  some (s152)) some)
noncomputable def F_strings_Trim (a0 : List UInt8) (a1 : List UInt8) : Option (List UInt8) :=
 cond (decide (a0 = (ByteArray.mk #[]).data.toList))
  (some (a0))
  (cond (decide (a1 = (ByteArray.mk #[]).data.toList))
  (some (a0))
  (cond (decide ((↑(List.length a1) : Int) = 1))
  (idxO (a1) (0) fun x54 =>
  cond (decide ((↑(UInt8.toNat x54) : Int) < 128))
  (idxO (a1) (0) fun x56 =>
  Option.bind (F_strings_trimRightByte (a0) ((↑(UInt8.toNat x56) : Int))) fun x70 =>
  idxO (a1) (0) fun x71 =>
  Option.bind (F_strings_trimLeftByte (x70) ((↑(UInt8.toNat x71) : Int))) fun x81 =>
  some (x81))
  (Option.bind (F_strings_makeASCIISet (a1)) fun x94 =>
  cond (x94.snd)
  (Option.bind (F_strings_trimRightASCII (a0) (x94.fst)) fun x111 =>
  Option.bind (F_strings_trimLeftASCII (x111) (x94.fst)) fun x123 =>
  some (x123))
  (Option.bind (F_strings_trimRightUnicode (a0) (a1)) fun x151 =>
  Option.bind (F_strings_trimLeftUnicode (x151) (a1)) fun x163 =>
  some (x163))))
  (Option.bind (F_strings_makeASCIISet (a1)) fun x164 =>
  cond (x164.snd)
  (Option.bind (F_strings_trimRightASCII (a0) (x164.fst)) fun x166 =>
  Option.bind (F_strings_trimLeftASCII (x166) (x164.fst)) fun x167 =>
  some (x167))
  (Option.bind (F_strings_trimRightUnicode (a0) (a1)) fun x168 =>
  Option.bind (F_strings_trimLeftUnicode (x168) (a1)) fun x169 =>
  some (x169)))))
noncomputable def F_words_Name (a0 : List UInt8) : Option (Bool) :=
 cond (decide (a0 = (ByteArray.mk #[]).data.toList))
  (some (false))
  (cond (decide (16 < (↑(List.length a0) : Int)))
  (some (false))
  (idxO (a0) (0) fun x47 =>
  cond (decide ((↑(UInt8.toNat x47) : Int) < 97))
  (some (false))
  (idxO (a0) (0) fun x49 =>
  cond (decide (122 < (↑(UInt8.toNat x49) : Int)))
  (some (false))
  (Option.bind (F_strings_Trim (a0) ((ByteArray.mk #[97, 98, 99, 100, 101, 102, 103, 104, 105, 106, 107, 108, 109, 110, 111, 112, 113, 114, 115, 116, 117, 118, 119, 120, 121, 122, 48, 49, 50, 51, 52, 53, 54, 55, 56, 57, 45]).data.toList)) fun x170 =>
  some (decide (x170 = (ByteArray.mk #[]).data.toList))))))
noncomputable def F_slices_Index___string_string_ (a0 : List (List UInt8)) (a1 : List UInt8) : Option (Int) :=
 Option.bind (
  lpO (fun (s175 : Int) =>
  cond (decide (s175 < (↑(List.length (List.map SV.str a0)) : Int)))
  (idxO (a0) (s175) fun x180 =>
  cond (decide (a1 = x180))
  (some (Sum.inr (Sum.inr (s175))))
  (letO (IntKind.wrap IntKind.i64 (s175 + 1)) fun x182 =>
  some (Sum.inl (x182))))
  (some (Sum.inr (Sum.inl (()))))) (0))
  (Sum.elim (fun (s173 : Unit) =>
  some ((-1 : Int))) some)
noncomputable def F_slices_Contains___string_string_ (a0 : List (List UInt8)) (a1 : List UInt8) : Option (Bool) :=
 Option.bind (F_slices_Index___string_string_ (a0) (a1)) fun x183 =>
  some (decide (0 ≤ x183))
noncomputable def F_lattice_named (a0 : List (List UInt8)) : Option (Int × Int) :=
 cond (decide ((↑(List.length (List.map SV.str a0)) : Int) < 1))
  (some (((-1 : Int), 3)))
  (cond (decide (8 < (↑(List.length (List.map SV.str a0)) : Int)))
  (some (((-1 : Int), 3)))
  (Option.bind (
  lpO (fun (s43 : Int) =>
  cond (decide (s43 < (↑(List.length (List.map SV.str a0)) : Int)))
  (idxO (a0) (s43) fun x51 =>
  Option.bind (F_words_Name (x51)) fun x52 =>
  cond (!x52)
  (some (Sum.inr (Sum.inr ((s43, 6)))))
  (sideO ((0 : Int) ≤ s43 ∧ s43 ≤ (↑(List.length (List.map SV.str a0)) : Int)) (
  Option.bind (F_slices_Contains___string_string_ (List.drop (Int.toNat 0) (List.take (Int.toNat s43) a0)) (x51)) fun x54 =>
  cond (x54)
  (some (Sum.inr (Sum.inr ((s43, 8)))))
  (letO (IntKind.wrap IntKind.i64 (s43 + 1)) fun x56 =>
  some (Sum.inl (x56))))))
  (some (Sum.inr (Sum.inl (()))))) (0))
  (Sum.elim (fun (s41 : Unit) =>
  some ((0, 0))) some)))
noncomputable def F_math_bits_Len8 (a0 : Int) : Option (Int) :=
 idxO ((ByteArray.mk (List.toArray (List.append (List.append [(0 : UInt8), (1 : UInt8), (2 : UInt8), (2 : UInt8), (3 : UInt8), (3 : UInt8), (3 : UInt8), (3 : UInt8), (4 : UInt8), (4 : UInt8), (4 : UInt8), (4 : UInt8), (4 : UInt8), (4 : UInt8), (4 : UInt8), (4 : UInt8), (5 : UInt8), (5 : UInt8), (5 : UInt8), (5 : UInt8), (5 : UInt8), (5 : UInt8), (5 : UInt8), (5 : UInt8), (5 : UInt8), (5 : UInt8), (5 : UInt8), (5 : UInt8), (5 : UInt8), (5 : UInt8), (5 : UInt8), (5 : UInt8), (6 : UInt8), (6 : UInt8), (6 : UInt8), (6 : UInt8), (6 : UInt8), (6 : UInt8), (6 : UInt8), (6 : UInt8), (6 : UInt8), (6 : UInt8), (6 : UInt8), (6 : UInt8), (6 : UInt8), (6 : UInt8), (6 : UInt8), (6 : UInt8), (6 : UInt8), (6 : UInt8), (6 : UInt8), (6 : UInt8), (6 : UInt8), (6 : UInt8), (6 : UInt8), (6 : UInt8), (6 : UInt8), (6 : UInt8), (6 : UInt8), (6 : UInt8), (6 : UInt8), (6 : UInt8), (6 : UInt8), (6 : UInt8)] [(7 : UInt8), (7 : UInt8), (7 : UInt8), (7 : UInt8), (7 : UInt8), (7 : UInt8), (7 : UInt8), (7 : UInt8), (7 : UInt8), (7 : UInt8), (7 : UInt8), (7 : UInt8), (7 : UInt8), (7 : UInt8), (7 : UInt8), (7 : UInt8), (7 : UInt8), (7 : UInt8), (7 : UInt8), (7 : UInt8), (7 : UInt8), (7 : UInt8), (7 : UInt8), (7 : UInt8), (7 : UInt8), (7 : UInt8), (7 : UInt8), (7 : UInt8), (7 : UInt8), (7 : UInt8), (7 : UInt8), (7 : UInt8), (7 : UInt8), (7 : UInt8), (7 : UInt8), (7 : UInt8), (7 : UInt8), (7 : UInt8), (7 : UInt8), (7 : UInt8), (7 : UInt8), (7 : UInt8), (7 : UInt8), (7 : UInt8), (7 : UInt8), (7 : UInt8), (7 : UInt8), (7 : UInt8), (7 : UInt8), (7 : UInt8), (7 : UInt8), (7 : UInt8), (7 : UInt8), (7 : UInt8), (7 : UInt8), (7 : UInt8), (7 : UInt8), (7 : UInt8), (7 : UInt8), (7 : UInt8), (7 : UInt8), (7 : UInt8), (7 : UInt8), (7 : UInt8)]) (List.append [(8 : UInt8), (8 : UInt8), (8 : UInt8), (8 : UInt8), (8 : UInt8), (8 : UInt8), (8 : UInt8), (8 : UInt8), (8 : UInt8), (8 : UInt8), (8 : UInt8), (8 : UInt8), (8 : UInt8), (8 : UInt8), (8 : UInt8), (8 : UInt8), (8 : UInt8), (8 : UInt8), (8 : UInt8), (8 : UInt8), (8 : UInt8), (8 : UInt8), (8 : UInt8), (8 : UInt8), (8 : UInt8), (8 : UInt8), (8 : UInt8), (8 : UInt8), (8 : UInt8), (8 : UInt8), (8 : UInt8), (8 : UInt8), (8 : UInt8), (8 : UInt8), (8 : UInt8), (8 : UInt8), (8 : UInt8), (8 : UInt8), (8 : UInt8), (8 : UInt8), (8 : UInt8), (8 : UInt8), (8 : UInt8), (8 : UInt8), (8 : UInt8), (8 : UInt8), (8 : UInt8), (8 : UInt8), (8 : UInt8), (8 : UInt8), (8 : UInt8), (8 : UInt8), (8 : UInt8), (8 : UInt8), (8 : UInt8), (8 : UInt8), (8 : UInt8), (8 : UInt8), (8 : UInt8), (8 : UInt8), (8 : UInt8), (8 : UInt8), (8 : UInt8), (8 : UInt8)] [(8 : UInt8), (8 : UInt8), (8 : UInt8), (8 : UInt8), (8 : UInt8), (8 : UInt8), (8 : UInt8), (8 : UInt8), (8 : UInt8), (8 : UInt8), (8 : UInt8), (8 : UInt8), (8 : UInt8), (8 : UInt8), (8 : UInt8), (8 : UInt8), (8 : UInt8), (8 : UInt8), (8 : UInt8), (8 : UInt8), (8 : UInt8), (8 : UInt8), (8 : UInt8), (8 : UInt8), (8 : UInt8), (8 : UInt8), (8 : UInt8), (8 : UInt8), (8 : UInt8), (8 : UInt8), (8 : UInt8), (8 : UInt8), (8 : UInt8), (8 : UInt8), (8 : UInt8), (8 : UInt8), (8 : UInt8), (8 : UInt8), (8 : UInt8), (8 : UInt8), (8 : UInt8), (8 : UInt8), (8 : UInt8), (8 : UInt8), (8 : UInt8), (8 : UInt8), (8 : UInt8), (8 : UInt8), (8 : UInt8), (8 : UInt8), (8 : UInt8), (8 : UInt8), (8 : UInt8), (8 : UInt8), (8 : UInt8), (8 : UInt8), (8 : UInt8), (8 : UInt8), (8 : UInt8), (8 : UInt8), (8 : UInt8), (8 : UInt8), (8 : UInt8), (8 : UInt8)])))).data.toList) (a0) fun x66 =>
  letO (IntKind.wrap IntKind.i64 (↑(UInt8.toNat x66) : Int)) fun x67 =>
  some (x67)
noncomputable def F_lattice_of (a0 : TLattice) : Option (Tlattice_order) :=
 Option.bind (
  lpO (fun (s139 : Int × List Int × List Int) =>
  cond (decide (s139.fst < (↑(List.length (List.map (SV.int IntKind.u8) a0.Up)) : Int)))
  (idxO (a0.Up) (s139.fst) fun x153 =>
  sideO ((0 : Int) ≤ s139.fst ∧ s139.fst < (↑(8 : Nat) : Int)) (
  idxO (s139.snd.fst) ((↑(Int.toNat s139.fst) : Int)) fun x154 =>
  Option.bind (
  lpO (fun (s157 : Int × List Int) =>
  cond (decide (s157.fst < (↑(List.length (List.map SV.str a0.Names)) : Int)))
  (sideO ((0 : Int) ≤ s157.fst ∧ s157.fst < (↑(8 : Nat) : Int)) (
  idxO (s157.snd) ((↑(Int.toNat s157.fst) : Int)) fun x163 =>
  sideO ((0 : Int) ≤ s157.fst) (
  sideO ((0 : Int) ≤ s139.fst) (
  letO (IntKind.wrap IntKind.u8 (bits BinOp.and IntKind.u8 (Int.fdiv x153 (2 ^ min (Int.toNat s157.fst) (IntKind.bits IntKind.u8))) 1 * 2 ^ min (Int.toNat s139.fst) (IntKind.bits IntKind.u8))) fun x164 =>
  sideO ((0 : Int) ≤ s157.fst ∧ s157.fst < (↑(8 : Nat) : Int)) (
  idxO (s157.snd) ((↑(Int.toNat s157.fst) : Int)) fun x165 =>
  letO (IntKind.wrap IntKind.i64 (s157.fst + 1)) fun x166 =>
  some (Sum.inl ((x166, List.set s157.snd (Int.toNat s157.fst) (bits BinOp.or IntKind.u8 x163 x164)))))))))
  (some (Sum.inr (Sum.inl (s157.snd))))) ((0, s139.snd.snd)))
  (Sum.elim (fun (s155 : List Int) =>
  letO (IntKind.wrap IntKind.i64 (s139.fst + 1)) fun x167 =>
  some (Sum.inl ((x167, List.set s139.snd.fst (Int.toNat s139.fst) x153, s155)))) some)))
  (some (Sum.inr (Sum.inl (s139.snd))))) ((0, [0, 0, 0, 0, 0, 0, 0, 0], [0, 0, 0, 0, 0, 0, 0, 0])))
  (Sum.elim (fun (s137 : List Int × List Int) =>
  some (Tlattice_order.mk (↑(List.length (List.map SV.str a0.Names)) : Int) s137.fst s137.snd)) some)
noncomputable def F_lattice_bound_lattice_ups_ (a0 : List Int) (a1 : Int) (a2 : Int) (a3 : Int) : Option (Int) :=
 sideO ((0 : Int) ≤ a2 ∧ a2 < (↑(8 : Nat) : Int)) (
  idxO (a0) ((↑(Int.toNat a2) : Int)) fun x174 =>
  sideO ((0 : Int) ≤ a3 ∧ a3 < (↑(8 : Nat) : Int)) (
  idxO (a0) ((↑(Int.toNat a3) : Int)) fun x175 =>
  Option.bind (
  lpO (fun (s178 : Int) =>
  cond (decide (s178 < a1))
  (sideO ((0 : Int) ≤ s178) (
  cond (decide (bits BinOp.and IntKind.u8 (Int.fdiv (bits BinOp.and IntKind.u8 x174 x175) (2 ^ min (Int.toNat s178) (IntKind.bits IntKind.u8))) 1 = 1))
  (sideO ((0 : Int) ≤ s178 ∧ s178 < (↑(8 : Nat) : Int)) (
  idxO (a0) ((↑(Int.toNat s178) : Int)) fun x185 =>
  cond (decide (x185 = bits BinOp.and IntKind.u8 x174 x175))
  (some (Sum.inr (Sum.inr (s178))))
  (letO (IntKind.wrap IntKind.i64 (s178 + 1)) fun x187 =>
  some (Sum.inl (x187)))))
  (letO (IntKind.wrap IntKind.i64 (s178 + 1)) fun x188 =>
  some (Sum.inl (x188)))))
  (some (Sum.inr (Sum.inl (()))))) (0))
  (Sum.elim (fun (s176 : Unit) =>
  some ((-1 : Int))) some)))
noncomputable def F_lattice_bound_lattice_downs_ (a0 : List Int) (a1 : Int) (a2 : Int) (a3 : Int) : Option (Int) :=
 sideO ((0 : Int) ≤ a2 ∧ a2 < (↑(8 : Nat) : Int)) (
  idxO (a0) ((↑(Int.toNat a2) : Int)) fun x191 =>
  sideO ((0 : Int) ≤ a3 ∧ a3 < (↑(8 : Nat) : Int)) (
  idxO (a0) ((↑(Int.toNat a3) : Int)) fun x192 =>
  Option.bind (
  lpO (fun (s195 : Int) =>
  cond (decide (s195 < a1))
  (sideO ((0 : Int) ≤ s195) (
  cond (decide (bits BinOp.and IntKind.u8 (Int.fdiv (bits BinOp.and IntKind.u8 x191 x192) (2 ^ min (Int.toNat s195) (IntKind.bits IntKind.u8))) 1 = 1))
  (sideO ((0 : Int) ≤ s195 ∧ s195 < (↑(8 : Nat) : Int)) (
  idxO (a0) ((↑(Int.toNat s195) : Int)) fun x202 =>
  cond (decide (x202 = bits BinOp.and IntKind.u8 x191 x192))
  (some (Sum.inr (Sum.inr (s195))))
  (letO (IntKind.wrap IntKind.i64 (s195 + 1)) fun x204 =>
  some (Sum.inl (x204)))))
  (letO (IntKind.wrap IntKind.i64 (s195 + 1)) fun x205 =>
  some (Sum.inl (x205)))))
  (some (Sum.inr (Sum.inl (()))))) (0))
  (Sum.elim (fun (s193 : Unit) =>
  some ((-1 : Int))) some)))
noncomputable def F_lattice_Check (a0 : TLattice) : Option (Int × Int) :=
 Option.bind (F_lattice_named (a0.Names)) fun x57 =>
  cond (!decide (x57.snd = 0))
  (some (x57))
  (cond (!decide ((↑(List.length (List.map (SV.int IntKind.u8) a0.Up)) : Int) = (↑(List.length (List.map SV.str a0.Names)) : Int)))
  (some (((-1 : Int), 6)))
  (sideO ((0 : Int) ≤ (↑(List.length (List.map SV.str a0.Names)) : Int)) (
  letO (IntKind.wrap IntKind.u8 (1 * 2 ^ min (Int.toNat (↑(List.length (List.map SV.str a0.Names)) : Int)) (IntKind.bits IntKind.u8))) fun x60 =>
  letO (IntKind.wrap IntKind.u8 (x60 - 1)) fun x61 =>
  Option.bind (
  lpO (fun (s64 : Int) =>
  cond (decide (s64 < (↑(List.length (List.map (SV.int IntKind.u8) a0.Up)) : Int)))
  (idxO (a0.Up) (s64) fun x94 =>
  Option.bind (F_math_bits_Len8 (x94)) fun x95 =>
  cond (decide ((↑(List.length (List.map SV.str a0.Names)) : Int) < x95))
  (some (Sum.inr (Sum.inr ((s64, 6)))))
  (sideO ((0 : Int) ≤ s64) (
  cond (decide (bits BinOp.and IntKind.u8 (Int.fdiv x94 (2 ^ min (Int.toNat s64) (IntKind.bits IntKind.u8))) 1 = 0))
  (some (Sum.inr (Sum.inr ((s64, 6)))))
  (Option.bind (
  lpO (fun (s100 : Int) =>
  cond (decide (s100 < (↑(List.length (List.map (SV.int IntKind.u8) a0.Up)) : Int)))
  (idxO (a0.Up) (s100) fun x118 =>
  sideO ((0 : Int) ≤ s100) (
  cond (decide (bits BinOp.and IntKind.u8 (Int.fdiv x94 (2 ^ min (Int.toNat s100) (IntKind.bits IntKind.u8))) 1 = 0))
  (letO (IntKind.wrap IntKind.i64 ((↑(List.length (List.map SV.str a0.Names)) : Int) - 1)) fun x120 =>
  cond (decide (s100 = x120))
  (letO (IntKind.wrap IntKind.i64 (s64 + 1)) fun x122 =>
  some (Sum.inr (Sum.inr (Sum.inl (x122)))))
  (letO (IntKind.wrap IntKind.i64 (s100 + 1)) fun x123 =>
  some (Sum.inl (x123))))
  (cond (!decide (s100 = s64))
  (sideO ((0 : Int) ≤ s64) (
  cond (decide (bits BinOp.and IntKind.u8 (Int.fdiv x118 (2 ^ min (Int.toNat s64) (IntKind.bits IntKind.u8))) 1 = 1))
  (some (Sum.inr (Sum.inr (Sum.inr (Sum.inr ((s64, 6)))))))
  (cond (!decide (bits BinOp.andNot IntKind.u8 (bits BinOp.and IntKind.u8 x118 x61) x94 = 0))
  (some (Sum.inr (Sum.inr (Sum.inr (Sum.inr ((s64, 6)))))))
  (letO (IntKind.wrap IntKind.i64 ((↑(List.length (List.map SV.str a0.Names)) : Int) - 1)) fun x127 =>
  cond (decide (s100 = x127))
  (letO (IntKind.wrap IntKind.i64 (s64 + 1)) fun x129 =>
  some (Sum.inr (Sum.inr (Sum.inl (x129)))))
  (letO (IntKind.wrap IntKind.i64 (s100 + 1)) fun x130 =>
  some (Sum.inl (x130)))))))
  (cond (!decide (bits BinOp.andNot IntKind.u8 (bits BinOp.and IntKind.u8 x118 x61) x94 = 0))
  (some (Sum.inr (Sum.inr (Sum.inr (Sum.inr ((s64, 6)))))))
  (letO (IntKind.wrap IntKind.i64 ((↑(List.length (List.map SV.str a0.Names)) : Int) - 1)) fun x132 =>
  cond (decide (s100 = x132))
  (letO (IntKind.wrap IntKind.i64 (s64 + 1)) fun x134 =>
  some (Sum.inr (Sum.inr (Sum.inl (x134)))))
  (letO (IntKind.wrap IntKind.i64 (s100 + 1)) fun x135 =>
  some (Sum.inl (x135))))))))
  (some (Sum.inr (Sum.inl (()))))) (0))
  (Sum.elim (fun (s98 : Unit) =>
  letO (IntKind.wrap IntKind.i64 (s64 + 1)) fun x136 =>
  some (Sum.inl (x136))) some)))))
  (some (Sum.inr (Sum.inl (()))))) (0))
  (Sum.elim (fun (s62 : Unit) =>
  Option.bind (F_lattice_of (a0)) fun x168 =>
  Option.bind (
  lpO (fun (s171 : Int) =>
  cond (decide (s171 < (↑(List.length (List.map SV.str a0.Names)) : Int)))
  (Option.bind (
  lpO (fun (s189 : Int) =>
  cond (decide (s189 < (↑(List.length (List.map SV.str a0.Names)) : Int)))
  (Option.bind (F_lattice_bound_lattice_ups_ (x168.up_) ((↑(List.length (List.map SV.str a0.Names)) : Int)) (s171) (s189)) fun x196 =>
  cond (decide (x196 < 0))
  (some (Sum.inr (Sum.inr (Sum.inr (Sum.inr ((s171, 4)))))))
  (Option.bind (F_lattice_bound_lattice_downs_ (x168.down_) ((↑(List.length (List.map SV.str a0.Names)) : Int)) (s171) (s189)) fun x198 =>
  cond (decide (x198 < 0))
  (some (Sum.inr (Sum.inr (Sum.inr (Sum.inr ((s171, 4)))))))
  (letO (IntKind.wrap IntKind.i64 (s189 + 1)) fun x200 =>
  some (Sum.inl (x200)))))
  (some (Sum.inr (Sum.inl (()))))) (0))
  (Sum.elim (fun (s187 : Unit) =>
  letO (IntKind.wrap IntKind.i64 (s171 + 1)) fun x201 =>
  some (Sum.inl (x201))) some))
  (some (Sum.inr (Sum.inl (()))))) (0))
  (Sum.elim (fun (s169 : Unit) =>
  some ((0, 0))) some)) some))))
noncomputable def F_view_label (a0 : TLattice) (a1 : Int) : Option (Bool) :=
 cond (decide (0 ≤ a1))
  (some (decide (a1 < (↑(List.length (List.map SV.str a0.Names)) : Int))))
  (some (false))
noncomputable def F_prims_Find (a0 : List UInt8) : Option (Int × Int) :=
 Option.bind (
  cond (decide ([(110 : UInt8), (101 : UInt8), (103 : UInt8)] = a0))
  (some (Sum.inr ((1, 0))))
  (cond (decide ([(97 : UInt8), (98 : UInt8), (115 : UInt8)] = a0))
  (some (Sum.inr ((2, 0))))
  (cond (decide ([(110 : UInt8), (111 : UInt8), (116 : UInt8)] = a0))
  (some (Sum.inr ((3, 0))))
  (cond (decide ([(115 : UInt8), (104 : UInt8), (97 : UInt8), (112 : UInt8), (101 : UInt8)] = a0))
  (some (Sum.inr ((4, 0))))
  (cond (decide ([(114 : UInt8), (97 : UInt8), (118 : UInt8), (101 : UInt8), (108 : UInt8)] = a0))
  (some (Sum.inr ((5, 0))))
  (cond (decide ([(114 : UInt8), (101 : UInt8), (118 : UInt8), (101 : UInt8), (114 : UInt8), (115 : UInt8), (101 : UInt8)] = a0))
  (some (Sum.inr ((6, 0))))
  (cond (decide ([(102 : UInt8), (108 : UInt8), (105 : UInt8), (112 : UInt8)] = a0))
  (some (Sum.inr ((7, 0))))
  (cond (decide ([(105 : UInt8), (111 : UInt8), (116 : UInt8), (97 : UInt8)] = a0))
  (some (Sum.inr ((8, 0))))
  (cond (decide ([(115 : UInt8), (117 : UInt8), (109 : UInt8)] = a0))
  (some (Sum.inr ((9, 0))))
  (cond (decide ([(108 : UInt8), (101 : UInt8), (97 : UInt8), (115 : UInt8), (116 : UInt8)] = a0))
  (some (Sum.inr ((10, 0))))
  (cond (decide ([(109 : UInt8), (111 : UInt8), (115 : UInt8), (116 : UInt8)] = a0))
  (some (Sum.inr ((11, 0))))
  (cond (decide ([(99 : UInt8), (111 : UInt8), (117 : UInt8), (110 : UInt8), (116 : UInt8)] = a0))
  (some (Sum.inr ((12, 0))))
  (cond (decide ([(115 : UInt8), (99 : UInt8), (97 : UInt8), (110 : UInt8)] = a0))
  (some (Sum.inr ((13, 0))))
  (cond (decide ([(103 : UInt8), (114 : UInt8), (97 : UInt8), (100 : UInt8), (101 : UInt8)] = a0))
  (some (Sum.inr ((14, 0))))
  (cond (decide ([(97 : UInt8), (100 : UInt8), (100 : UInt8)] = a0))
  (some (Sum.inr ((15, 0))))
  (cond (decide ([(115 : UInt8), (117 : UInt8), (98 : UInt8)] = a0))
  (some (Sum.inr ((16, 0))))
  (cond (decide ([(109 : UInt8), (117 : UInt8), (108 : UInt8)] = a0))
  (some (Sum.inr ((17, 0))))
  (cond (decide ([(100 : UInt8), (105 : UInt8), (118 : UInt8)] = a0))
  (some (Sum.inr ((18, 0))))
  (cond (decide ([(109 : UInt8), (111 : UInt8), (100 : UInt8)] = a0))
  (some (Sum.inr ((19, 0))))
  (cond (decide ([(112 : UInt8), (108 : UInt8), (117 : UInt8), (115 : UInt8)] = a0))
  (some (Sum.inr ((20, 0))))
  (cond (decide ([(109 : UInt8), (105 : UInt8), (110 : UInt8), (117 : UInt8), (115 : UInt8)] = a0))
  (some (Sum.inr ((21, 0))))
  (cond (decide ([(116 : UInt8), (105 : UInt8), (109 : UInt8), (101 : UInt8), (115 : UInt8)] = a0))
  (some (Sum.inr ((22, 0))))
  (cond (decide ([(101 : UInt8), (113 : UInt8)] = a0))
  (some (Sum.inr ((23, 0))))
  (cond (decide ([(110 : UInt8), (101 : UInt8)] = a0))
  (some (Sum.inr ((24, 0))))
  (cond (decide ([(108 : UInt8), (116 : UInt8)] = a0))
  (some (Sum.inr ((25, 0))))
  (cond (decide ([(108 : UInt8), (101 : UInt8)] = a0))
  (some (Sum.inr ((26, 0))))
  (cond (decide ([(103 : UInt8), (116 : UInt8)] = a0))
  (some (Sum.inr ((27, 0))))
  (cond (decide ([(103 : UInt8), (101 : UInt8)] = a0))
  (some (Sum.inr ((28, 0))))
  (cond (decide ([(97 : UInt8), (110 : UInt8), (100 : UInt8)] = a0))
  (some (Sum.inr ((29, 0))))
  (cond (decide ([(111 : UInt8), (114 : UInt8)] = a0))
  (some (Sum.inr ((30, 0))))
  (cond (decide ([(109 : UInt8), (105 : UInt8), (110 : UInt8)] = a0))
  (some (Sum.inr ((31, 0))))
  (cond (decide ([(109 : UInt8), (97 : UInt8), (120 : UInt8)] = a0))
  (some (Sum.inr ((32, 0))))
  (cond (decide ([(116 : UInt8), (97 : UInt8), (107 : UInt8), (101 : UInt8)] = a0))
  (some (Sum.inr ((33, 0))))
  (cond (decide ([(100 : UInt8), (114 : UInt8), (111 : UInt8), (112 : UInt8)] = a0))
  (some (Sum.inr ((34, 0))))
  (cond (decide ([(102 : UInt8), (105 : UInt8), (108 : UInt8), (108 : UInt8)] = a0))
  (some (Sum.inr ((35, 0))))
  (cond (decide ([(103 : UInt8), (114 : UInt8), (105 : UInt8), (100 : UInt8)] = a0))
  (some (Sum.inr ((36, 0))))
  (cond (decide ([(99 : UInt8), (97 : UInt8), (116 : UInt8)] = a0))
  (some (Sum.inr ((37, 0))))
  (cond (decide ([(97 : UInt8), (116 : UInt8)] = a0))
  (some (Sum.inr ((38, 0))))
  (cond (decide ([(105 : UInt8), (110 : UInt8)] = a0))
  (some (Sum.inr ((39, 0))))
  (cond (decide ([(112 : UInt8), (105 : UInt8), (99 : UInt8), (107 : UInt8)] = a0))
  (some (Sum.inr ((40, 0))))
  (some (Sum.inl (())))))))))))))))))))))))))))))))))))))))))))
  (Sum.elim (fun (s232 : Unit) =>
  some ((0, 4))) some)
noncomputable def F_runes_is (a0 : Int) : Option (Bool) :=
 letO (IntKind.wrap IntKind.i32 a0) fun x291 =>
  letO (IntKind.wrap IntKind.i64 x291) fun x292 =>
  cond (decide (a0 = x292))
  (letO (IntKind.wrap IntKind.i32 a0) fun x294 =>
  Option.bind (F_unicode_utf8_ValidRune (x294)) fun x295 =>
  some (x295))
  (some (false))
noncomputable def F_runes_classes : Option (List (List UInt8)) :=
 some ([[], (ByteArray.mk #[32]).data.toList, (ByteArray.mk #[10]).data.toList, (ByteArray.mk #[40, 91]).data.toList, (ByteArray.mk #[41, 93]).data.toList, (ByteArray.mk #[34]).data.toList, [], (ByteArray.mk #[45]).data.toList, [], (ByteArray.mk #[60, 61]).data.toList])
noncomputable def F_runes_Class (a0 : Int) : Option (Int × Int) :=
 Option.bind (F_runes_is (a0)) fun x296 =>
  cond (!x296)
  (some ((0, 7)))
  (cond (decide (48 ≤ a0))
  (cond (decide (a0 ≤ 57))
  (some ((6, 0)))
  (cond (decide (97 ≤ a0))
  (cond (decide (a0 ≤ 122))
  (some ((8, 0)))
  (Option.bind (F_runes_classes) fun x302 =>
  Option.bind (
  lpO (fun (s305 : Int) =>
  cond (decide (s305 < 10))
  (idxO (x302) (s305) fun x311 =>
  letO (IntKind.wrap IntKind.i32 a0) fun x312 =>
  Option.bind (F_strings_ContainsRune (x311) (x312)) fun x313 =>
  cond (x313)
  (some (Sum.inr (Sum.inr ((s305, 0)))))
  (letO (IntKind.wrap IntKind.i64 (s305 + 1)) fun x315 =>
  some (Sum.inl (x315))))
  (some (Sum.inr (Sum.inl (()))))) (0))
  (Sum.elim (fun (s303 : Unit) =>
  some ((10, 0))) some)))
  (Option.bind (F_runes_classes) fun x316 =>
  Option.bind (
  lpO (fun (s319 : Int) =>
  cond (decide (s319 < 10))
  (idxO (x316) (s319) fun x325 =>
  letO (IntKind.wrap IntKind.i32 a0) fun x326 =>
  Option.bind (F_strings_ContainsRune (x325) (x326)) fun x327 =>
  cond (x327)
  (some (Sum.inr (Sum.inr ((s319, 0)))))
  (letO (IntKind.wrap IntKind.i64 (s319 + 1)) fun x329 =>
  some (Sum.inl (x329))))
  (some (Sum.inr (Sum.inl (()))))) (0))
  (Sum.elim (fun (s317 : Unit) =>
  some ((10, 0))) some))))
  (cond (decide (97 ≤ a0))
  (cond (decide (a0 ≤ 122))
  (some ((8, 0)))
  (Option.bind (F_runes_classes) fun x332 =>
  Option.bind (
  lpO (fun (s335 : Int) =>
  cond (decide (s335 < 10))
  (idxO (x332) (s335) fun x341 =>
  letO (IntKind.wrap IntKind.i32 a0) fun x342 =>
  Option.bind (F_strings_ContainsRune (x341) (x342)) fun x343 =>
  cond (x343)
  (some (Sum.inr (Sum.inr ((s335, 0)))))
  (letO (IntKind.wrap IntKind.i64 (s335 + 1)) fun x345 =>
  some (Sum.inl (x345))))
  (some (Sum.inr (Sum.inl (()))))) (0))
  (Sum.elim (fun (s333 : Unit) =>
  some ((10, 0))) some)))
  (Option.bind (F_runes_classes) fun x346 =>
  Option.bind (
  lpO (fun (s349 : Int) =>
  cond (decide (s349 < 10))
  (idxO (x346) (s349) fun x355 =>
  letO (IntKind.wrap IntKind.i32 a0) fun x356 =>
  Option.bind (F_strings_ContainsRune (x355) (x356)) fun x357 =>
  cond (x357)
  (some (Sum.inr (Sum.inr ((s349, 0)))))
  (letO (IntKind.wrap IntKind.i64 (s349 + 1)) fun x359 =>
  some (Sum.inl (x359))))
  (some (Sum.inr (Sum.inl (()))))) (0))
  (Sum.elim (fun (s347 : Unit) =>
  some ((10, 0))) some))))
noncomputable def F_unicode_utf8_word_string_ (a0 : List UInt8) : Option (Int) :=
 idxO (a0) (0) fun x404 =>
  letO (IntKind.wrap IntKind.u64 (↑(UInt8.toNat x404) : Int)) fun x405 =>
  idxO (a0) (1) fun x406 =>
  letO (IntKind.wrap IntKind.u64 (↑(UInt8.toNat x406) : Int)) fun x407 =>
  letO (IntKind.wrap IntKind.u64 (x407 * 2 ^ min (Int.toNat 8) (IntKind.bits IntKind.u64))) fun x408 =>
  idxO (a0) (2) fun x409 =>
  letO (IntKind.wrap IntKind.u64 (↑(UInt8.toNat x409) : Int)) fun x410 =>
  letO (IntKind.wrap IntKind.u64 (x410 * 2 ^ min (Int.toNat 16) (IntKind.bits IntKind.u64))) fun x411 =>
  idxO (a0) (3) fun x412 =>
  letO (IntKind.wrap IntKind.u64 (↑(UInt8.toNat x412) : Int)) fun x413 =>
  letO (IntKind.wrap IntKind.u64 (x413 * 2 ^ min (Int.toNat 24) (IntKind.bits IntKind.u64))) fun x414 =>
  idxO (a0) (4) fun x415 =>
  letO (IntKind.wrap IntKind.u64 (↑(UInt8.toNat x415) : Int)) fun x416 =>
  letO (IntKind.wrap IntKind.u64 (x416 * 2 ^ min (Int.toNat 32) (IntKind.bits IntKind.u64))) fun x417 =>
  idxO (a0) (5) fun x418 =>
  letO (IntKind.wrap IntKind.u64 (↑(UInt8.toNat x418) : Int)) fun x419 =>
  letO (IntKind.wrap IntKind.u64 (x419 * 2 ^ min (Int.toNat 40) (IntKind.bits IntKind.u64))) fun x420 =>
  idxO (a0) (6) fun x421 =>
  letO (IntKind.wrap IntKind.u64 (↑(UInt8.toNat x421) : Int)) fun x422 =>
  letO (IntKind.wrap IntKind.u64 (x422 * 2 ^ min (Int.toNat 48) (IntKind.bits IntKind.u64))) fun x423 =>
  idxO (a0) (7) fun x424 =>
  letO (IntKind.wrap IntKind.u64 (↑(UInt8.toNat x424) : Int)) fun x425 =>
  letO (IntKind.wrap IntKind.u64 (x425 * 2 ^ min (Int.toNat 56) (IntKind.bits IntKind.u64))) fun x426 =>
  some (bits BinOp.or IntKind.u64 (bits BinOp.or IntKind.u64 (bits BinOp.or IntKind.u64 (bits BinOp.or IntKind.u64 (bits BinOp.or IntKind.u64 (bits BinOp.or IntKind.u64 (bits BinOp.or IntKind.u64 x405 x408) x411) x414) x417) x420) x423) x426)
noncomputable def F_unicode_utf8_ValidString (a0 : List UInt8) : Option (Bool) :=
 Option.bind (
  lpO (fun (s400 : List UInt8) =>
  cond (decide (0 < (↑(List.length s400) : Int)))
  (idxO (s400) (0) fun x427 =>
  cond (decide ((↑(UInt8.toNat x427) : Int) < 128))
  (sideO ((0 : Int) ≤ (1 : Int) ∧ (1 : Int) ≤ (↑(List.length s400) : Int)) (
  cond (decide (8 < (↑(List.length (List.drop (Int.toNat 1) (List.take (Int.toNat (↑(List.length s400) : Int)) s400))) : Int)))
  (Option.bind (F_unicode_utf8_word_string_ (List.drop (Int.toNat 1) (List.take (Int.toNat (↑(List.length s400) : Int)) s400))) fun x430 =>
  cond (decide (bits BinOp.and IntKind.u64 x430 9259542123273814144 = 0))
  (sideO ((0 : Int) ≤ (8 : Int) ∧ (8 : Int) ≤ (↑(List.length (List.drop (Int.toNat (1 : Int)) (List.take (Int.toNat (↑(List.length s400) : Int)) s400))) : Int)) (
  cond (decide (16 < (↑(List.length (List.drop (Int.toNat 8) (List.take (Int.toNat (↑(List.length (List.drop (Int.toNat 1) (List.take (Int.toNat (↑(List.length s400) : Int)) s400))) : Int)) (List.drop (Int.toNat 1) (List.take (Int.toNat (↑(List.length s400) : Int)) s400))))) : Int)))
  (Option.bind (F_unicode_utf8_word_string_ (List.drop (Int.toNat 8) (List.take (Int.toNat (↑(List.length (List.drop (Int.toNat 1) (List.take (Int.toNat (↑(List.length s400) : Int)) s400))) : Int)) (List.drop (Int.toNat 1) (List.take (Int.toNat (↑(List.length s400) : Int)) s400))))) fun x433 =>
  sideO ((0 : Int) ≤ (8 : Int) ∧ (8 : Int) ≤ (↑(List.length (List.drop (Int.toNat (8 : Int)) (List.take (Int.toNat (↑(List.length (List.drop (Int.toNat (1 : Int)) (List.take (Int.toNat (↑(List.length s400) : Int)) s400))) : Int)) (List.drop (Int.toNat (1 : Int)) (List.take (Int.toNat (↑(List.length s400) : Int)) s400))))) : Int)) (
  Option.bind (F_unicode_utf8_word_string_ (List.drop (Int.toNat 8) (List.take (Int.toNat (↑(List.length (List.drop (Int.toNat 8) (List.take (Int.toNat (↑(List.length (List.drop (Int.toNat 1) (List.take (Int.toNat (↑(List.length s400) : Int)) s400))) : Int)) (List.drop (Int.toNat 1) (List.take (Int.toNat (↑(List.length s400) : Int)) s400))))) : Int)) (List.drop (Int.toNat 8) (List.take (Int.toNat (↑(List.length (List.drop (Int.toNat 1) (List.take (Int.toNat (↑(List.length s400) : Int)) s400))) : Int)) (List.drop (Int.toNat 1) (List.take (Int.toNat (↑(List.length s400) : Int)) s400))))))) fun x434 =>
  cond (decide (bits BinOp.and IntKind.u64 (bits BinOp.or IntKind.u64 x433 x434) 9259542123273814144 = 0))
  (sideO ((0 : Int) ≤ (16 : Int) ∧ (16 : Int) ≤ (↑(List.length (List.drop (Int.toNat (8 : Int)) (List.take (Int.toNat (↑(List.length (List.drop (Int.toNat (1 : Int)) (List.take (Int.toNat (↑(List.length s400) : Int)) s400))) : Int)) (List.drop (Int.toNat (1 : Int)) (List.take (Int.toNat (↑(List.length s400) : Int)) s400))))) : Int)) (
  Option.bind (
  lpO (fun (s438 : List UInt8) =>
  cond (decide (32 < (↑(List.length s438) : Int)))
  (Option.bind (F_unicode_utf8_word_string_ (s438)) fun x446 =>
  sideO ((0 : Int) ≤ (8 : Int) ∧ (8 : Int) ≤ (↑(List.length s438) : Int)) (
  Option.bind (F_unicode_utf8_word_string_ (List.drop (Int.toNat 8) (List.take (Int.toNat (↑(List.length s438) : Int)) s438))) fun x447 =>
  sideO ((0 : Int) ≤ (16 : Int) ∧ (16 : Int) ≤ (↑(List.length s438) : Int)) (
  Option.bind (F_unicode_utf8_word_string_ (List.drop (Int.toNat 16) (List.take (Int.toNat (↑(List.length s438) : Int)) s438))) fun x448 =>
  sideO ((0 : Int) ≤ (24 : Int) ∧ (24 : Int) ≤ (↑(List.length s438) : Int)) (
  Option.bind (F_unicode_utf8_word_string_ (List.drop (Int.toNat 24) (List.take (Int.toNat (↑(List.length s438) : Int)) s438))) fun x449 =>
  cond (decide (bits BinOp.and IntKind.u64 (bits BinOp.or IntKind.u64 (bits BinOp.or IntKind.u64 x446 x447) (bits BinOp.or IntKind.u64 x448 x449)) 9259542123273814144 = 0))
  (sideO ((0 : Int) ≤ (32 : Int) ∧ (32 : Int) ≤ (↑(List.length s438) : Int)) (
  some (Sum.inl (List.drop (Int.toNat 32) (List.take (Int.toNat (↑(List.length s438) : Int)) s438)))))
  (some (Sum.inr (Sum.inl (s438))))))))
  (some (Sum.inr (Sum.inl (s438))))) (List.drop (Int.toNat 16) (List.take (Int.toNat (↑(List.length (List.drop (Int.toNat 8) (List.take (Int.toNat (↑(List.length (List.drop (Int.toNat 1) (List.take (Int.toNat (↑(List.length s400) : Int)) s400))) : Int)) (List.drop (Int.toNat 1) (List.take (Int.toNat (↑(List.length s400) : Int)) s400))))) : Int)) (List.drop (Int.toNat 8) (List.take (Int.toNat (↑(List.length (List.drop (Int.toNat 1) (List.take (Int.toNat (↑(List.length s400) : Int)) s400))) : Int)) (List.drop (Int.toNat 1) (List.take (Int.toNat (↑(List.length s400) : Int)) s400)))))))
  (Sum.elim (fun (s436 : List UInt8) =>
  some (Sum.inl (s436))) some)))
  (some (Sum.inl (List.drop (Int.toNat 8) (List.take (Int.toNat (↑(List.length (List.drop (Int.toNat 1) (List.take (Int.toNat (↑(List.length s400) : Int)) s400))) : Int)) (List.drop (Int.toNat 1) (List.take (Int.toNat (↑(List.length s400) : Int)) s400))))))))
  (some (Sum.inl (List.drop (Int.toNat 8) (List.take (Int.toNat (↑(List.length (List.drop (Int.toNat 1) (List.take (Int.toNat (↑(List.length s400) : Int)) s400))) : Int)) (List.drop (Int.toNat 1) (List.take (Int.toNat (↑(List.length s400) : Int)) s400))))))))
  (some (Sum.inl (List.drop (Int.toNat 1) (List.take (Int.toNat (↑(List.length s400) : Int)) s400)))))
  (some (Sum.inl (List.drop (Int.toNat 1) (List.take (Int.toNat (↑(List.length s400) : Int)) s400))))))
  (none))
  (some (Sum.inr (Sum.inl (()))))) (a0))
  (Sum.elim (fun (s398 : Unit) =>
  some (true)) some)
noncomputable def F_lexer_Check (a0 : TLxToken) : Option (Int) :=
 Option.bind (
  cond (decide (a0.Kind = 1))
  (some (Sum.inl ((0, a0.S))))
  (cond (decide (a0.Kind = 3))
  (some (Sum.inl ((0, a0.S))))
  (cond (decide (a0.Kind = 2))
  (some (Sum.inl ((a0.N, []))))
  (some (Sum.inl ((0, [])))))))
  (Sum.elim (fun (s277 : Int × List UInt8) =>
  cond (decide (a0.Kind < 1))
  (some (2))
  (cond (decide (9 < a0.Kind))
  (some (2))
  (cond (!(decide (a0.Kind = a0.Kind) && (decide (a0.From = a0.From) && (decide (a0.To = a0.To) && (decide (a0.N = s277.fst) && (decide (a0.S = s277.snd) && true))))))
  (some (2))
  (Option.bind (
  cond (decide (a0.Kind = 1))
  (cond (decide ((↑(List.length a0.S) : Int) ≤ 0))
  (some (Sum.inr (6)))
  (idxO (a0.S) (0) fun x290 =>
  letO (IntKind.wrap IntKind.i64 (↑(UInt8.toNat x290) : Int)) fun x291 =>
  Option.bind (F_runes_Class (x291)) fun x292 =>
  cond (!decide (x292.fst = 8))
  (some (Sum.inr (6)))
  (idxO (a0.S) (0) fun x296 =>
  letO (IntKind.wrap IntKind.i64 (↑(UInt8.toNat x296) : Int)) fun x297 =>
  Option.bind (F_runes_Class (x297)) fun x298 =>
  Option.bind (
  lpO (fun (s301 : Int × Int) =>
  cond (decide (s301.fst = 8))
  (letO (IntKind.wrap IntKind.i64 (s301.snd + 1)) fun x315 =>
  cond (decide ((↑(List.length a0.S) : Int) ≤ x315))
  (some (Sum.inl ((10, x315))))
  (idxO (a0.S) (x315) fun x318 =>
  letO (IntKind.wrap IntKind.i64 (↑(UInt8.toNat x318) : Int)) fun x319 =>
  Option.bind (F_runes_Class (x319)) fun x320 =>
  some (Sum.inl ((x320.fst, x315)))))
  (cond (decide (s301.fst = 6))
  (letO (IntKind.wrap IntKind.i64 (s301.snd + 1)) fun x322 =>
  cond (decide ((↑(List.length a0.S) : Int) ≤ x322))
  (some (Sum.inl ((10, x322))))
  (idxO (a0.S) (x322) fun x325 =>
  letO (IntKind.wrap IntKind.i64 (↑(UInt8.toNat x325) : Int)) fun x326 =>
  Option.bind (F_runes_Class (x326)) fun x327 =>
  some (Sum.inl ((x327.fst, x322)))))
  (some (Sum.inr (Sum.inl ((decide (s301.fst = 6), s301))))))) ((x298.fst, 0)))
  (Sum.elim (fun (s299 : Bool × Int × Int) =>
  sideO ((0 : Int) ≤ (0 : Int) ∧ (0 : Int) ≤ s299.snd.snd ∧ s299.snd.snd ≤ (↑(List.length a0.S) : Int)) (
  cond (!decide (List.drop (Int.toNat 0) (List.take (Int.toNat s299.snd.snd) a0.S) = a0.S))
  (some (Sum.inr (6)))
  (some (Sum.inl (16))))) some))))
  (cond (decide (a0.Kind = 3))
  (Option.bind (F_unicode_utf8_ValidString (a0.S)) fun x330 =>
  cond (!x330)
  (some (Sum.inr (6)))
  (some (Sum.inl (2000))))
  (some (Sum.inl (0)))))
  (Sum.elim (fun (s285 : Int) =>
  cond (decide (s285 < (↑(List.length a0.S) : Int)))
  (some (3))
  (some (0))) some))))) some)
noncomputable def F_expr_Name (a0 : List UInt8) : Option (Bool) :=
 cond (decide (a0 = (ByteArray.mk #[118, 97, 114]).data.toList))
  (some (false))
  (cond (decide (a0 = (ByteArray.mk #[100, 101, 102]).data.toList))
  (some (false))
  (cond (decide (a0 = (ByteArray.mk #[111, 117, 116]).data.toList))
  (some (false))
  (cond (decide (a0 = (ByteArray.mk #[105, 102]).data.toList))
  (some (false))
  (cond (decide (a0 = (ByteArray.mk #[101, 108, 115, 101]).data.toList))
  (some (false))
  (cond (decide (a0 = (ByteArray.mk #[119, 104, 105, 108, 101]).data.toList))
  (some (false))
  (cond (decide (a0 = (ByteArray.mk #[101, 110, 100]).data.toList))
  (some (false))
  (cond (decide (a0 = (ByteArray.mk #[114, 101, 108, 101, 97, 115, 101]).data.toList))
  (some (false))
  (cond (decide (a0 = (ByteArray.mk #[105, 110, 116]).data.toList))
  (some (false))
  (cond (decide (a0 = (ByteArray.mk #[99, 104, 97, 114]).data.toList))
  (some (false))
  (Option.bind (F_prims_Find (a0)) fun x275 =>
  cond (decide (x275.snd = 0))
  (some (false))
  (Option.bind (F_lexer_Check (TLxToken.mk 1 0 0 0 a0)) fun x333 =>
  some (decide (x333 = 0)))))))))))))
noncomputable def F_shapes_Check_1 (a0 : Int) : Option (Bool) :=
 some (decide (a0 < 0))
noncomputable def F_slices_IndexFunc___int_int_ (a0 : List Int) : Option (Int) :=
 Option.bind (
  lpO (fun (s342 : Int) =>
  cond (decide (s342 < (↑(List.length (List.map (SV.int IntKind.i64) a0)) : Int)))
  (idxO (a0) (s342) fun x348 =>
  Option.bind (F_shapes_Check_1 (x348)) fun x349 =>
  cond (x349)
  (some (Sum.inr (Sum.inr (s342))))
  (letO (IntKind.wrap IntKind.i64 (s342 + 1)) fun x351 =>
  some (Sum.inl (x351))))
  (some (Sum.inr (Sum.inl (()))))) (0))
  (Sum.elim (fun (s340 : Unit) =>
  some ((-1 : Int))) some)
noncomputable def F_slices_ContainsFunc___int_int_ (a0 : List Int) : Option (Bool) :=
 Option.bind (F_slices_IndexFunc___int_int_ (a0)) fun x352 =>
  some (decide (0 ≤ x352))
noncomputable def F_shapes_Check_2 (a0 : Int) : Option (Bool) :=
 some (!decide (a0 = 0))
noncomputable def F_slices_IndexFunc___int_int__v1 (a0 : List Int) : Option (Int) :=
 Option.bind (
  lpO (fun (s357 : Int) =>
  cond (decide (s357 < (↑(List.length (List.map (SV.int IntKind.i64) a0)) : Int)))
  (idxO (a0) (s357) fun x363 =>
  Option.bind (F_shapes_Check_2 (x363)) fun x364 =>
  cond (x364)
  (some (Sum.inr (Sum.inr (s357))))
  (letO (IntKind.wrap IntKind.i64 (s357 + 1)) fun x366 =>
  some (Sum.inl (x366))))
  (some (Sum.inr (Sum.inl (()))))) (0))
  (Sum.elim (fun (s355 : Unit) =>
  some ((-1 : Int))) some)
noncomputable def F_slices_ContainsFunc___int_int__v1 (a0 : List Int) : Option (Bool) :=
 Option.bind (F_slices_IndexFunc___int_int__v1 (a0)) fun x367 =>
  some (decide (0 ≤ x367))
noncomputable def F_shapes_Check_3 (a0 : Int) : Option (Bool) :=
 some (decide (400 < a0))
noncomputable def F_slices_IndexFunc___int_int__v2 (a0 : List Int) : Option (Int) :=
 Option.bind (
  lpO (fun (s372 : Int) =>
  cond (decide (s372 < (↑(List.length (List.map (SV.int IntKind.i64) a0)) : Int)))
  (idxO (a0) (s372) fun x378 =>
  Option.bind (F_shapes_Check_3 (x378)) fun x379 =>
  cond (x379)
  (some (Sum.inr (Sum.inr (s372))))
  (letO (IntKind.wrap IntKind.i64 (s372 + 1)) fun x381 =>
  some (Sum.inl (x381))))
  (some (Sum.inr (Sum.inl (()))))) (0))
  (Sum.elim (fun (s370 : Unit) =>
  some ((-1 : Int))) some)
noncomputable def F_slices_ContainsFunc___int_int__v2 (a0 : List Int) : Option (Bool) :=
 Option.bind (F_slices_IndexFunc___int_int__v2 (a0)) fun x382 =>
  some (decide (0 ≤ x382))
noncomputable def F_shapes_product (a0 : Int) (a1 : Int × Int) : Option (Int) :=
 cond (decide (a0 = 2))
  (letO (IntKind.wrap IntKind.i64 (1 * a1.snd)) fun x386 =>
  letO (IntKind.wrap IntKind.i64 (x386 * a1.fst)) fun x387 =>
  some (x387))
  (cond (decide (a0 = 1))
  (letO (IntKind.wrap IntKind.i64 (1 * a1.fst)) fun x389 =>
  some (x389))
  (some (1)))
noncomputable def F_shapes_Check (a0 : Int) (a1 : Int × Int) : Option (Int) :=
 cond (decide (a0 < 0))
  (some (7))
  (cond (decide (2 < a0))
  (some (7))
  (sideO ((0 : Int) ≤ a0 ∧ a0 ≤ (↑(2 : Nat) : Int)) (
  sideO ((0 : Int) ≤ a0 ∧ a0 ≤ (↑(2 : Nat) : Int)) (
  Option.bind (F_slices_ContainsFunc___int_int_ (List.drop (Int.toNat 0) (List.take (Int.toNat a0) [a1.fst, a1.snd]))) fun x353 =>
  cond (x353)
  (some (7))
  (Option.bind (F_slices_ContainsFunc___int_int__v1 (List.drop (Int.toNat a0) (List.take (Int.toNat (↑2 : Int)) [a1.fst, a1.snd]))) fun x368 =>
  cond (x368)
  (some (6))
  (Option.bind (F_slices_ContainsFunc___int_int__v2 (List.drop (Int.toNat 0) (List.take (Int.toNat a0) [a1.fst, a1.snd]))) fun x383 =>
  cond (x383)
  (some (15))
  (Option.bind (F_shapes_product (a0) (a1)) fun x390 =>
  cond (decide (400 < x390))
  (some (15))
  (some (0)))))))))
noncomputable def F_shapes_Cells (a0 : Int) (a1 : Int × Int) : Option (Int × Int) :=
 Option.bind (F_shapes_Check (a0) (a1)) fun x392 =>
  cond (!decide (x392 = 0))
  (some ((0, x392)))
  (Option.bind (F_shapes_product (a0) (a1)) fun x394 =>
  some ((x394, 0)))
noncomputable def F_arrays_right (a0 : Int) (a1 : Int) : Option (Bool) :=
 cond (decide (a0 = 1))
  (some (true))
  (cond (decide (0 ≤ a1))
  (cond (decide (a1 ≤ 1114111))
  (letO (IntKind.wrap IntKind.i32 a1) fun x405 =>
  Option.bind (F_unicode_utf8_ValidRune (x405)) fun x406 =>
  some (x406))
  (some (false)))
  (some (false)))
noncomputable def F_arrays_Check_1 (a0 : Int) (a1 : TArray) : Option (Bool) :=
 Option.bind (F_arrays_right (a1.Kind) (a0)) fun x407 =>
  some (!x407)
noncomputable def F_slices_IndexFunc___int64_int64_ (a0 : List Int) (a1 : TArray) : Option (Int) :=
 Option.bind (
  lpO (fun (s400 : Int) =>
  cond (decide (s400 < (↑(List.length (List.map (SV.int IntKind.i64) a0)) : Int)))
  (idxO (a0) (s400) fun x406 =>
  Option.bind (F_arrays_Check_1 (x406) (a1)) fun x407 =>
  cond (x407)
  (some (Sum.inr (Sum.inr (s400))))
  (letO (IntKind.wrap IntKind.i64 (s400 + 1)) fun x409 =>
  some (Sum.inl (x409))))
  (some (Sum.inr (Sum.inl (()))))) (0))
  (Sum.elim (fun (s398 : Unit) =>
  some ((-1 : Int))) some)
noncomputable def F_slices_ContainsFunc___int64_int64_ (a0 : List Int) (a1 : TArray) : Option (Bool) :=
 Option.bind (F_slices_IndexFunc___int64_int64_ (a0) (a1)) fun x410 =>
  some (decide (0 ≤ x410))
noncomputable def F_arrays_Check (a0 : TArray) : Option (Int) :=
 cond (!decide (a0.Kind = 1))
  (cond (!decide (a0.Kind = 2))
  (some (2))
  (Option.bind (F_shapes_Cells (a0.Rank) (a0.Lens)) fun x395 =>
  cond (!decide (x395.snd = 0))
  (some (x395.snd))
  (cond (!decide ((↑(List.length (List.map (SV.int IntKind.i64) a0.Cells)) : Int) = x395.fst))
  (some (6))
  (Option.bind (F_slices_ContainsFunc___int64_int64_ (a0.Cells) (a0)) fun x411 =>
  cond (x411)
  (some (7))
  (some (0))))))
  (Option.bind (F_shapes_Cells (a0.Rank) (a0.Lens)) fun x413 =>
  cond (!decide (x413.snd = 0))
  (some (x413.snd))
  (cond (!decide ((↑(List.length (List.map (SV.int IntKind.i64) a0.Cells)) : Int) = x413.fst))
  (some (6))
  (Option.bind (F_slices_ContainsFunc___int64_int64_ (a0.Cells) (a0)) fun x416 =>
  cond (x416)
  (some (7))
  (some (0)))))
noncomputable def F_slices_Equal___int64_int64_ (a0 : List Int) (a1 : List Int) : Option (Bool) :=
 cond (!decide ((↑(List.length (List.map (SV.int IntKind.i64) a0)) : Int) = (↑(List.length (List.map (SV.int IntKind.i64) a1)) : Int)))
  (some (false))
  (Option.bind (
  lpO (fun (s427 : Int) =>
  cond (decide (s427 < (↑(List.length (List.map (SV.int IntKind.i64) a0)) : Int)))
  (idxO (a0) (s427) fun x433 =>
  idxO (a1) (s427) fun x434 =>
  cond (!decide (x433 = x434))
  (some (Sum.inr (Sum.inr (false))))
  (letO (IntKind.wrap IntKind.i64 (s427 + 1)) fun x436 =>
  some (Sum.inl (x436))))
  (some (Sum.inr (Sum.inl (()))))) (0))
  (Sum.elim (fun (s425 : Unit) =>
  some (true)) some))
noncomputable def F_view_sameArray (a0 : TArray) (a1 : TArray) : Option (Bool) :=
 cond (decide (a0.Kind = a1.Kind))
  (cond (decide (a0.Rank = a1.Rank))
  (cond (decide (a0.Lens.fst = a1.Lens.fst) && (decide (a0.Lens.snd = a1.Lens.snd) && true))
  (Option.bind (F_slices_Equal___int64_int64_ (a0.Cells) (a1.Cells)) fun x437 =>
  some (x437))
  (some (false)))
  (some (false)))
  (some (false))
noncomputable def F_view_bad (a0 : TLattice) (a1 : TEvEvent) (a2 : Int) (a3 : Int) (a4 : Bool) : Option (Int) :=
 Option.bind (F_view_label (a0) (a1.Label)) fun x211 =>
  cond (!x211)
  (some (7))
  (cond (decide (a1.Site < 0))
  (some (7))
  (cond (decide (1000000000 < a1.Site))
  (some (7))
  (cond (decide (a1.Steps < a2))
  (some (7))
  (cond (decide (a3 < a1.Steps))
  (some (7))
  (cond (decide (a1.Kind < 1))
  (some (6))
  (cond (decide (4 < a1.Kind))
  (some (6))
  (cond (decide (a1.Kind = 1) == a4)
  (some (6))
  (cond (!(!decide (a1.E = 0)) == decide (a1.Kind = 2))
  (some (6))
  (cond (decide (a1.Kind = 1))
  (Option.bind (F_expr_Name (a1.Channel)) fun x334 =>
  cond (!x334)
  (some (6))
  (Option.bind (F_arrays_Check (a1.Value)) fun x418 =>
  cond (!decide (x418 = 0))
  (some (6))
  (some (0))))
  (cond (!decide (a1.Channel = (ByteArray.mk #[]).data.toList))
  (some (6))
  (Option.bind (F_view_sameArray (a1.Value) (TArray.mk 0 0 (0, 0) [])) fun x438 =>
  cond (!x438)
  (some (6))
  (some (0)))))))))))))
noncomputable def F_view_Check (a0 : TLattice) (a1 : TEvTrace) : Option (Int × Int) :=
 Option.bind (F_lattice_Check (a0)) fun x202 =>
  cond (!decide (x202.snd = 0))
  (some (((-1 : Int), x202.snd)))
  (cond (decide ((↑(List.length (List.map enc_TEvEvent a1.Events)) : Int) = 0))
  (some (((-1 : Int), 6)))
  (letO (IntKind.wrap IntKind.i64 ((↑(List.length (List.map enc_TEvEvent a1.Events)) : Int) - 1)) fun x205 =>
  Option.bind (
  lpO (fun (s208 : Int × Int) =>
  cond (decide (s208.fst < (↑(List.length (List.map enc_TEvEvent a1.Events)) : Int)))
  (idxO (a1.Events) (s208.fst) fun x214 =>
  Option.bind (F_view_bad (a0) (x214) (s208.snd) (a1.Steps) (decide (s208.fst = x205))) fun x215 =>
  cond (!decide (x215 = 0))
  (some (Sum.inr (Sum.inr ((s208.fst, x215)))))
  (letO (IntKind.wrap IntKind.i64 (s208.fst + 1)) fun x217 =>
  some (Sum.inl ((x217, x214.Steps)))))
  (some (Sum.inr (Sum.inl (()))))) ((0, 0)))
  (Sum.elim (fun (s206 : Unit) =>
  Option.bind (
  lpO (fun (s220 : Int) =>
  cond (decide (s220 < (↑(List.length (List.map enc_TReEntry a1.Log)) : Int)))
  (idxO (a1.Log) (s220) fun x236 =>
  Option.bind (F_view_label (a0) (x236.From)) fun x237 =>
  cond (!x237)
  (some (Sum.inr (Sum.inr (((↑(List.length (List.map enc_TEvEvent a1.Events)) : Int), 7)))))
  (Option.bind (F_view_label (a0) (x236.Goal)) fun x239 =>
  cond (!x239)
  (some (Sum.inr (Sum.inr (((↑(List.length (List.map enc_TEvEvent a1.Events)) : Int), 7)))))
  (cond (decide (x236.Fold < 1))
  (some (Sum.inr (Sum.inr (((↑(List.length (List.map enc_TEvEvent a1.Events)) : Int), 6)))))
  (cond (decide (4 < x236.Fold))
  (some (Sum.inr (Sum.inr (((↑(List.length (List.map enc_TEvEvent a1.Events)) : Int), 6)))))
  (cond (decide (x236.Cells < 0))
  (some (Sum.inr (Sum.inr (((↑(List.length (List.map enc_TEvEvent a1.Events)) : Int), 6)))))
  (cond (decide (400 < x236.Cells))
  (some (Sum.inr (Sum.inr (((↑(List.length (List.map enc_TEvEvent a1.Events)) : Int), 6)))))
  (cond (decide (x236.Site < 0))
  (some (Sum.inr (Sum.inr (((↑(List.length (List.map enc_TEvEvent a1.Events)) : Int), 6)))))
  (cond (decide (1000000000 < x236.Site))
  (some (Sum.inr (Sum.inr (((↑(List.length (List.map enc_TEvEvent a1.Events)) : Int), 6)))))
  (cond (!decide (x236.Value.fst = 1))
  (cond (!(decide (x236.Value.fst = 0) && (decide (x236.Value.snd = 0) && true)))
  (some (Sum.inr (Sum.inr (((↑(List.length (List.map enc_TEvEvent a1.Events)) : Int), 6)))))
  (letO (IntKind.wrap IntKind.i64 (s220 + 1)) fun x249 =>
  some (Sum.inl (x249))))
  (letO (IntKind.wrap IntKind.i64 (s220 + 1)) fun x250 =>
  some (Sum.inl (x250))))))))))))
  (some (Sum.inr (Sum.inl (()))))) (0))
  (Sum.elim (fun (s218 : Unit) =>
  some ((0, 0))) some)) some)))
noncomputable def F_view_asked (a0 : TLattice) (a1 : Int) (a2 : List TEvTrace) : Option (Int) :=
 Option.bind (
  lpO (fun (s37 : Int) =>
  cond (decide (s37 < (↑(List.length (List.map enc_TEvTrace a2)) : Int)))
  (idxO (a2) (s37) fun x43 =>
  Option.bind (F_view_Check (a0) (x43)) fun x44 =>
  cond (!decide (x44.snd = 0))
  (some (Sum.inr (Sum.inr (x44.snd))))
  (letO (IntKind.wrap IntKind.i64 (s37 + 1)) fun x46 =>
  some (Sum.inl (x46))))
  (some (Sum.inr (Sum.inl (()))))) (0))
  (Sum.elim (fun (s35 : Unit) =>
  Option.bind (F_view_label (a0) (a1)) fun x47 =>
  cond (!x47)
  (some (7))
  (some (0))) some)
noncomputable def F_view_seen_api_EvEvent_ (a0 : TLattice) (a1 : Int) (a2 : List TEvEvent) : Option (List TEvEvent × TLattice × Unit × Int) :=
 some ((a2, a0, (), a1))
noncomputable def F_view_events_1 (a0 : TEvEvent) : Option (Int) :=
 some (a0.Label)
noncomputable def F_lattice_asked (a0 : TLattice) (a1 : List Int) : Option (Int) :=
 Option.bind (F_lattice_Check (a0)) fun x58 =>
  cond (!decide (x58.snd = 0))
  (some (x58.snd))
  (Option.bind (
  lpO (fun (s62 : Int) =>
  cond (decide (s62 < (↑(List.length (List.map (SV.int IntKind.i64) a1)) : Int)))
  (idxO (a1) (s62) fun x68 =>
  cond (decide (x68 < 0))
  (some (Sum.inr (Sum.inr (7))))
  (cond (decide ((↑(List.length (List.map SV.str a0.Names)) : Int) ≤ x68))
  (some (Sum.inr (Sum.inr (7))))
  (letO (IntKind.wrap IntKind.i64 (s62 + 1)) fun x71 =>
  some (Sum.inl (x71)))))
  (some (Sum.inr (Sum.inl (()))))) (0))
  (Sum.elim (fun (s60 : Unit) =>
  some (0)) some))
noncomputable def F_lattice_Leq (a0 : TLattice) (a1 : Int) (a2 : Int) : Option (Bool × Int) :=
 Option.bind (F_lattice_asked (a0) ([a1, a2])) fun x72 =>
  cond (!decide (x72 = 0))
  (some ((false, x72)))
  (idxO (a0.Up) (a1) fun x74 =>
  sideO ((0 : Int) ≤ a2) (
  some ((decide (bits BinOp.and IntKind.u8 (Int.fdiv x74 (2 ^ min (Int.toNat a2) (IntKind.bits IntKind.u8))) 1 = 1), 0))))
noncomputable def F_slices_AppendSeq___api_EvEvent_api_EvEvent_ (a1 : List TEvEvent × TLattice × Unit × Int) : Option (List TEvEvent) :=
 Option.bind (
  lpO (fun (s55 : Int × List TEvEvent) =>
  cond (decide (s55.fst < (↑(List.length (List.map enc_TEvEvent a1.fst)) : Int)))
  (idxO (a1.fst) (s55.fst) fun x71 =>
  Option.bind (F_view_events_1 (x71)) fun x72 =>
  Option.bind (F_lattice_Leq (a1.snd.fst) (x72) (a1.snd.snd.snd)) fun x73 =>
  cond (decide (x73.snd = 0))
  (cond (x73.fst)
  (sideO ((List.length (List.map enc_TEvEvent s55.snd) + (1 : Nat)) * (112 : Nat) ≤ (70368744177664 : Nat)) (
  letO (IntKind.wrap IntKind.i64 (s55.fst + 1)) fun x77 =>
  some (Sum.inl ((x77, s55.snd ++ [x71])))))
  (letO (IntKind.wrap IntKind.i64 (s55.fst + 1)) fun x78 =>
  some (Sum.inl ((x78, s55.snd)))))
  (letO (IntKind.wrap IntKind.i64 (s55.fst + 1)) fun x79 =>
  some (Sum.inl ((x79, s55.snd)))))
  (some (Sum.inr (Sum.inl ((decide (s55.fst < (↑(List.length (List.map enc_TEvEvent a1.fst)) : Int)), s55)))))) ((0, [])))
  (Sum.elim (fun (s53 : Bool × Int × List TEvEvent) =>
  some (s53.snd.snd)) some)
noncomputable def F_slices_Collect_api_EvEvent_ (a0 : List TEvEvent × TLattice × Unit × Int) : Option (List TEvEvent) :=
 Option.bind (F_slices_AppendSeq___api_EvEvent_api_EvEvent_ ((a0.fst, a0.snd.fst, (), a0.snd.snd.snd))) fun x80 =>
  some (x80)
noncomputable def F_view_events (a0 : TLattice) (a1 : TEvTrace) (a2 : Int) : Option (List TEvEvent) :=
 Option.bind (F_view_seen_api_EvEvent_ (a0) (a2) (a1.Events)) fun x51 =>
  Option.bind (F_slices_Collect_api_EvEvent_ ((x51.fst, x51.snd.fst, (), x51.snd.snd.snd))) fun x81 =>
  some (x81)
noncomputable def F_view_same (a0 : TEvEvent) (a1 : TEvEvent) : Option (Bool) :=
 cond (decide (a0.Kind = a1.Kind))
  (cond (decide (a0.Site = a1.Site))
  (cond (decide (a0.Steps = a1.Steps))
  (cond (decide (a0.Label = a1.Label))
  (cond (decide (a0.Channel = a1.Channel))
  (cond (decide (a0.E = a1.E))
  (Option.bind (F_view_sameArray (a0.Value) (a1.Value)) fun x96 =>
  some (x96))
  (some (false)))
  (some (false)))
  (some (false)))
  (some (false)))
  (some (false)))
  (some (false))
noncomputable def F_slices_EqualFunc___api_EvEvent___api_EvEvent_api_EvEvent_api_EvEvent_ (a0 : List TEvEvent) (a1 : List TEvEvent) : Option (Bool) :=
 cond (!decide ((↑(List.length (List.map enc_TEvEvent a0)) : Int) = (↑(List.length (List.map enc_TEvEvent a1)) : Int)))
  (some (false))
  (Option.bind (
  lpO (fun (s87 : Int) =>
  cond (decide (s87 < (↑(List.length (List.map enc_TEvEvent a0)) : Int)))
  (idxO (a0) (s87) fun x94 =>
  idxO (a1) (s87) fun x95 =>
  Option.bind (F_view_same (x94) (x95)) fun x96 =>
  cond (!x96)
  (some (Sum.inr (Sum.inr (false))))
  (letO (IntKind.wrap IntKind.i64 (s87 + 1)) fun x98 =>
  some (Sum.inl (x98))))
  (some (Sum.inr (Sum.inl (()))))) (0))
  (Sum.elim (fun (s85 : Unit) =>
  some (true)) some))
noncomputable def F_view_Alike (a0 : TLattice) (a1 : TEvTrace) (a2 : TEvTrace) (a3 : Int) : Option (Bool × Int) :=
 Option.bind (F_view_asked (a0) (a3) ([a1, a2])) fun x49 =>
  cond (!decide (x49 = 0))
  (some ((false, x49)))
  (Option.bind (F_view_events (a0) (a1) (a3)) fun x82 =>
  Option.bind (F_view_events (a0) (a2) (a3)) fun x83 =>
  Option.bind (F_slices_EqualFunc___api_EvEvent___api_EvEvent_api_EvEvent_api_EvEvent_ (x82) (x83)) fun x99 =>
  some ((x99, 0)))
noncomputable def F_invigilatorref01_lower (a0 : Int) : Option (Bool) :=
 cond (decide (97 ≤ a0))
  (some (decide (a0 ≤ 122)))
  (some (false))
noncomputable def F_invigilatorref01_digit (a0 : Int) : Option (Bool) :=
 cond (decide (48 ≤ a0))
  (some (decide (a0 ≤ 57)))
  (some (false))
noncomputable def F_invigilatorref01_Name (a0 : List UInt8) : Option (Bool) :=
 cond (decide ((↑(List.length a0) : Int) < 1))
  (some (false))
  (cond (decide (16 < (↑(List.length a0) : Int)))
  (some (false))
  (idxO (a0) (0) fun x113 =>
  Option.bind (F_invigilatorref01_lower ((↑(UInt8.toNat x113) : Int))) fun x115 =>
  cond (!x115)
  (some (false))
  (Option.bind (
  lpO (fun (s119 : Int) =>
  cond (decide (s119 < (↑(List.length a0) : Int)))
  (idxO (a0) (s119) fun x130 =>
  Option.bind (F_invigilatorref01_lower ((↑(UInt8.toNat x130) : Int))) fun x131 =>
  cond (!x131)
  (idxO (a0) (s119) fun x133 =>
  Option.bind (F_invigilatorref01_digit ((↑(UInt8.toNat x133) : Int))) fun x134 =>
  cond (!x134)
  (idxO (a0) (s119) fun x136 =>
  cond (!decide ((↑(UInt8.toNat x136) : Int) = 45))
  (some (Sum.inr (Sum.inr (false))))
  (letO (IntKind.wrap IntKind.i64 (s119 + 1)) fun x138 =>
  some (Sum.inl (x138))))
  (letO (IntKind.wrap IntKind.i64 (s119 + 1)) fun x139 =>
  some (Sum.inl (x139))))
  (letO (IntKind.wrap IntKind.i64 (s119 + 1)) fun x140 =>
  some (Sum.inl (x140))))
  (some (Sum.inr (Sum.inl (()))))) (0))
  (Sum.elim (fun (s117 : Unit) =>
  some (true)) some))))
noncomputable def F_invigilatorref03_names (a0 : List (List UInt8)) : Option (Int × Int) :=
 cond (decide ((↑(List.length (List.map SV.str a0)) : Int) < 1))
  (some (((-1 : Int), 3)))
  (cond (decide (8 < (↑(List.length (List.map SV.str a0)) : Int)))
  (some (((-1 : Int), 3)))
  (Option.bind (
  lpO (fun (s109 : Int) =>
  cond (decide (s109 < (↑(List.length (List.map SV.str a0)) : Int)))
  (idxO (a0) (s109) fun x118 =>
  Option.bind (F_invigilatorref01_Name (x118)) fun x119 =>
  cond (!x119)
  (some (Sum.inr (Sum.inr ((s109, 6)))))
  (Option.bind (
  lpO (fun (s123 : Int) =>
  cond (decide (s123 < s109))
  (idxO (a0) (s123) fun x129 =>
  idxO (a0) (s109) fun x130 =>
  cond (decide (x129 = x130))
  (some (Sum.inr (Sum.inr (Sum.inr (Sum.inr ((s109, 8)))))))
  (letO (IntKind.wrap IntKind.i64 (s123 + 1)) fun x132 =>
  some (Sum.inl (x132))))
  (some (Sum.inr (Sum.inl (()))))) (0))
  (Sum.elim (fun (s121 : Unit) =>
  letO (IntKind.wrap IntKind.i64 (s109 + 1)) fun x133 =>
  some (Sum.inl (x133))) some)))
  (some (Sum.inr (Sum.inl (()))))) (0))
  (Sum.elim (fun (s107 : Unit) =>
  some ((0, 0))) some)))
noncomputable def F_invigilatorref03_Below (a0 : TLattice) (a1 : Int) (a2 : Int) : Option (Bool) :=
 cond (decide (0 ≤ a1))
  (cond (decide (a1 < (↑(List.length (List.map (SV.int IntKind.u8) a0.Up)) : Int)))
  (cond (decide (0 ≤ a2))
  (idxO (a0.Up) (a1) fun x146 =>
  sideO ((0 : Int) ≤ a2) (
  some (decide (Int.tmod (Int.fdiv x146 (2 ^ min (Int.toNat a2) (IntKind.bits IntKind.u8))) 2 = 1))))
  (some (false)))
  (some (false)))
  (some (false))
noncomputable def F_invigilatorref03_ordered (a0 : TLattice) (a1 : Int) : Option (Bool) :=
 idxO (a0.Up) (a1) fun x140 =>
  letO (IntKind.wrap IntKind.i64 x140) fun x141 =>
  sideO ((0 : Int) ≤ (↑(List.length (List.map SV.str a0.Names)) : Int)) (
  cond (decide (0 < Int.fdiv x141 (2 ^ min (Int.toNat (↑(List.length (List.map SV.str a0.Names)) : Int)) (IntKind.bits IntKind.i64))))
  (some (false))
  (Option.bind (F_invigilatorref03_Below (a0) (a1) (a1)) fun x147 =>
  cond (!x147)
  (some (false))
  (Option.bind (
  lpO (fun (s151 : Int) =>
  cond (decide (s151 < (↑(List.length (List.map SV.str a0.Names)) : Int)))
  (Option.bind (F_invigilatorref03_Below (a0) (a1) (s151)) fun x165 =>
  cond (!x165)
  (letO (IntKind.wrap IntKind.i64 (s151 + 1)) fun x167 =>
  some (Sum.inl (x167)))
  (idxO (a0.Up) (s151) fun x168 =>
  letO (IntKind.wrap IntKind.i64 x168) fun x169 =>
  sideO ((0 : Int) ≤ (↑(List.length (List.map SV.str a0.Names)) : Int)) (
  letO (IntKind.wrap IntKind.i64 (1 * 2 ^ min (Int.toNat (↑(List.length (List.map SV.str a0.Names)) : Int)) (IntKind.bits IntKind.i64))) fun x170 =>
  letO (IntKind.wrap IntKind.i64 (x170 - 1)) fun x171 =>
  cond (!decide (s151 = a1))
  (Option.bind (F_invigilatorref03_Below (a0) (s151) (a1)) fun x173 =>
  cond (x173)
  (some (Sum.inr (Sum.inr (false))))
  (cond (!decide (bits BinOp.and IntKind.i64 (bits BinOp.and IntKind.i64 x169 x171) x141 = bits BinOp.and IntKind.i64 x169 x171))
  (some (Sum.inr (Sum.inr (false))))
  (letO (IntKind.wrap IntKind.i64 (s151 + 1)) fun x176 =>
  some (Sum.inl (x176)))))
  (cond (!decide (bits BinOp.and IntKind.i64 (bits BinOp.and IntKind.i64 x169 x171) x141 = bits BinOp.and IntKind.i64 x169 x171))
  (some (Sum.inr (Sum.inr (false))))
  (letO (IntKind.wrap IntKind.i64 (s151 + 1)) fun x178 =>
  some (Sum.inl (x178)))))))
  (some (Sum.inr (Sum.inl (()))))) (0))
  (Sum.elim (fun (s149 : Unit) =>
  some (true)) some))))
noncomputable def F_invigilatorref03_downs (a0 : TLattice) : Option (List Int) :=
 sideO ((0 : Int) ≤ (↑(List.length (List.map SV.str a0.Names)) : Int) ∧ (↑(List.length (List.map SV.str a0.Names)) : Int) = (↑(List.length (List.map SV.str a0.Names)) : Int) ∧ (↑(List.length (List.map SV.str a0.Names)) : Int) ≤ (70368744177664 : Int) ∧ (↑(List.length (List.map SV.str a0.Names)) : Int) * (↑(1 : Nat) : Int) ≤ (70368744177664 : Int)) (
  Option.bind (
  lpO (fun (s149 : Int × List Int) =>
  cond (decide (s149.fst < (↑(List.length (List.map SV.str a0.Names)) : Int)))
  (Option.bind (
  lpO (fun (s168 : Int × List Int) =>
  cond (decide (s168.fst < (↑(List.length (List.map SV.str a0.Names)) : Int)))
  (Option.bind (F_invigilatorref03_Below (a0) (s149.fst) (s168.fst)) fun x176 =>
  cond (x176)
  (sideO ((0 : Int) ≤ s168.fst ∧ s168.fst < (↑(List.length (List.map (SV.int IntKind.u8) s168.snd)) : Int)) (
  idxO (s168.snd) ((↑(Int.toNat s168.fst) : Int)) fun x178 =>
  sideO ((0 : Int) ≤ s149.fst) (
  letO (IntKind.wrap IntKind.u8 (1 * 2 ^ min (Int.toNat s149.fst) (IntKind.bits IntKind.u8))) fun x179 =>
  sideO ((0 : Int) ≤ s168.fst ∧ s168.fst < (↑(List.length (List.map (SV.int IntKind.u8) s168.snd)) : Int)) (
  idxO (s168.snd) ((↑(Int.toNat s168.fst) : Int)) fun x180 =>
  letO (IntKind.wrap IntKind.i64 (s168.fst + 1)) fun x181 =>
  some (Sum.inl ((x181, List.set s168.snd (Int.toNat s168.fst) (bits BinOp.or IntKind.u8 x178 x179))))))))
  (letO (IntKind.wrap IntKind.i64 (s168.fst + 1)) fun x182 =>
  some (Sum.inl ((x182, s168.snd)))))
  (some (Sum.inr (Sum.inl (s168.snd))))) ((0, s149.snd)))
  (Sum.elim (fun (s166 : List Int) =>
  letO (IntKind.wrap IntKind.i64 (s149.fst + 1)) fun x183 =>
  some (Sum.inl ((x183, s166)))) some))
  (some (Sum.inr (Sum.inl (s149.snd))))) ((0, List.replicate (Int.toNat (↑(List.length (List.map SV.str a0.Names)) : Int)) 0)))
  (Sum.elim (fun (s147 : List Int) =>
  some (s147)) some))
noncomputable def F_invigilatorref03_nearest (a0 : List Int) (a1 : Int) (a2 : Int) : Option (Int) :=
 idxO (a0) (a1) fun x190 =>
  idxO (a0) (a2) fun x191 =>
  Option.bind (
  lpO (fun (s194 : Int) =>
  cond (decide (s194 < (↑(List.length (List.map (SV.int IntKind.u8) a0)) : Int)))
  (idxO (a0) (s194) fun x199 =>
  cond (decide (x199 = bits BinOp.and IntKind.u8 x190 x191))
  (some (Sum.inr (Sum.inr (s194))))
  (letO (IntKind.wrap IntKind.i64 (s194 + 1)) fun x201 =>
  some (Sum.inl (x201))))
  (some (Sum.inr (Sum.inl (()))))) (0))
  (Sum.elim (fun (s192 : Unit) =>
  some ((-1 : Int))) some)
noncomputable def F_invigilatorref03_Check (a0 : TLattice) : Option (Int × Int) :=
 Option.bind (F_invigilatorref03_names (a0.Names)) fun x134 =>
  cond (!decide (x134.snd = 0))
  (some (x134))
  (cond (!decide ((↑(List.length (List.map (SV.int IntKind.u8) a0.Up)) : Int) = (↑(List.length (List.map SV.str a0.Names)) : Int)))
  (some (((-1 : Int), 6)))
  (Option.bind (
  lpO (fun (s139 : Int) =>
  cond (decide (s139 < (↑(List.length (List.map SV.str a0.Names)) : Int)))
  (Option.bind (F_invigilatorref03_ordered (a0) (s139)) fun x144 =>
  cond (!x144)
  (some (Sum.inr (Sum.inr ((s139, 6)))))
  (letO (IntKind.wrap IntKind.i64 (s139 + 1)) fun x146 =>
  some (Sum.inl (x146))))
  (some (Sum.inr (Sum.inl (()))))) (0))
  (Sum.elim (fun (s137 : Unit) =>
  Option.bind (F_invigilatorref03_downs (a0)) fun x184 =>
  Option.bind (
  lpO (fun (s187 : Int) =>
  cond (decide (s187 < (↑(List.length (List.map SV.str a0.Names)) : Int)))
  (Option.bind (
  lpO (fun (s205 : Int) =>
  cond (decide (s205 < (↑(List.length (List.map SV.str a0.Names)) : Int)))
  (Option.bind (F_invigilatorref03_nearest (a0.Up) (s187) (s205)) fun x212 =>
  cond (decide (x212 < 0))
  (some (Sum.inr (Sum.inr (Sum.inr (Sum.inr ((s187, 4)))))))
  (Option.bind (F_invigilatorref03_nearest (x184) (s187) (s205)) fun x214 =>
  cond (decide (x214 < 0))
  (some (Sum.inr (Sum.inr (Sum.inr (Sum.inr ((s187, 4)))))))
  (letO (IntKind.wrap IntKind.i64 (s205 + 1)) fun x216 =>
  some (Sum.inl (x216)))))
  (some (Sum.inr (Sum.inl (()))))) (0))
  (Sum.elim (fun (s203 : Unit) =>
  letO (IntKind.wrap IntKind.i64 (s187 + 1)) fun x217 =>
  some (Sum.inl (x217))) some))
  (some (Sum.inr (Sum.inl (()))))) (0))
  (Sum.elim (fun (s185 : Unit) =>
  some ((0, 0))) some)) some)))
noncomputable def F_invigilatorref20_Label (a0 : TLattice) (a1 : Int) : Option (Bool) :=
 cond (decide (0 ≤ a1))
  (some (decide (a1 < (↑(List.length (List.map SV.str a0.Names)) : Int))))
  (some (false))
noncomputable def F_invigilatorref31_none (a0 : TArray) : Option (Bool) :=
 cond (decide (a0.Kind = 0))
  (cond (decide (a0.Rank = 0))
  (cond (decide (a0.Lens.fst = 0) && (decide (a0.Lens.snd = 0) && true))
  (some (decide ((↑(List.length (List.map (SV.int IntKind.i64) a0.Cells)) : Int) = 0)))
  (some (false)))
  (some (false)))
  (some (false))
noncomputable def F_invigilatorref12_names : Option (List (List UInt8)) :=
 some ([(ByteArray.mk #[110, 101, 103]).data.toList, (ByteArray.mk #[97, 98, 115]).data.toList, (ByteArray.mk #[110, 111, 116]).data.toList, (ByteArray.mk #[115, 104, 97, 112, 101]).data.toList, (ByteArray.mk #[114, 97, 118, 101, 108]).data.toList, (ByteArray.mk #[114, 101, 118, 101, 114, 115, 101]).data.toList, (ByteArray.mk #[102, 108, 105, 112]).data.toList, (ByteArray.mk #[105, 111, 116, 97]).data.toList, (ByteArray.mk #[115, 117, 109]).data.toList, (ByteArray.mk #[108, 101, 97, 115, 116]).data.toList, (ByteArray.mk #[109, 111, 115, 116]).data.toList, (ByteArray.mk #[99, 111, 117, 110, 116]).data.toList, (ByteArray.mk #[115, 99, 97, 110]).data.toList, (ByteArray.mk #[103, 114, 97, 100, 101]).data.toList, (ByteArray.mk #[97, 100, 100]).data.toList, (ByteArray.mk #[115, 117, 98]).data.toList, (ByteArray.mk #[109, 117, 108]).data.toList, (ByteArray.mk #[100, 105, 118]).data.toList, (ByteArray.mk #[109, 111, 100]).data.toList, (ByteArray.mk #[112, 108, 117, 115]).data.toList, (ByteArray.mk #[109, 105, 110, 117, 115]).data.toList, (ByteArray.mk #[116, 105, 109, 101, 115]).data.toList, (ByteArray.mk #[101, 113]).data.toList, (ByteArray.mk #[110, 101]).data.toList, (ByteArray.mk #[108, 116]).data.toList, (ByteArray.mk #[108, 101]).data.toList, (ByteArray.mk #[103, 116]).data.toList, (ByteArray.mk #[103, 101]).data.toList, (ByteArray.mk #[97, 110, 100]).data.toList, (ByteArray.mk #[111, 114]).data.toList, (ByteArray.mk #[109, 105, 110]).data.toList, (ByteArray.mk #[109, 97, 120]).data.toList, (ByteArray.mk #[116, 97, 107, 101]).data.toList, (ByteArray.mk #[100, 114, 111, 112]).data.toList, (ByteArray.mk #[102, 105, 108, 108]).data.toList, (ByteArray.mk #[103, 114, 105, 100]).data.toList, (ByteArray.mk #[99, 97, 116]).data.toList, (ByteArray.mk #[97, 116]).data.toList, (ByteArray.mk #[105, 110]).data.toList, (ByteArray.mk #[112, 105, 99, 107]).data.toList])
noncomputable def F_invigilatorref12_Find (a0 : List UInt8) : Option (Int × Int) :=
 Option.bind (F_invigilatorref12_names) fun x246 =>
  Option.bind (
  lpO (fun (s249 : Int) =>
  cond (decide (s249 < (↑(List.length (List.map SV.str x246)) : Int)))
  (idxO (x246) (s249) fun x254 =>
  cond (decide (x254 = a0))
  (letO (IntKind.wrap IntKind.i64 (s249 + 1)) fun x256 =>
  some (Sum.inr (Sum.inr ((x256, 0)))))
  (letO (IntKind.wrap IntKind.i64 (s249 + 1)) fun x257 =>
  some (Sum.inl (x257))))
  (some (Sum.inr (Sum.inl (()))))) (0))
  (Sum.elim (fun (s247 : Unit) =>
  some ((0, 4))) some)
noncomputable def F_invigilatorref14_letter (a0 : Int) : Option (Bool) :=
 cond (decide (97 ≤ a0))
  (some (decide (a0 ≤ 122)))
  (some (false))
noncomputable def F_invigilatorref14_digit (a0 : Int) : Option (Bool) :=
 cond (decide (48 ≤ a0))
  (some (decide (a0 ≤ 57)))
  (some (false))
noncomputable def F_invigilatorref14_named (a0 : List UInt8) : Option (Bool) :=
 cond (decide (a0 = (ByteArray.mk #[]).data.toList))
  (some (false))
  (idxO (a0) (0) fun x268 =>
  Option.bind (F_invigilatorref14_letter ((↑(UInt8.toNat x268) : Int))) fun x270 =>
  cond (!x270)
  (some (false))
  (Option.bind (
  lpO (fun (s274 : Int) =>
  cond (decide (s274 < (↑(List.length a0) : Int)))
  (idxO (a0) (s274) fun x283 =>
  Option.bind (F_invigilatorref14_letter ((↑(UInt8.toNat x283) : Int))) fun x284 =>
  cond (!x284)
  (idxO (a0) (s274) fun x286 =>
  Option.bind (F_invigilatorref14_digit ((↑(UInt8.toNat x286) : Int))) fun x287 =>
  cond (!x287)
  (some (Sum.inr (Sum.inr (false))))
  (letO (IntKind.wrap IntKind.i64 (s274 + 1)) fun x289 =>
  some (Sum.inl (x289))))
  (letO (IntKind.wrap IntKind.i64 (s274 + 1)) fun x290 =>
  some (Sum.inl (x290))))
  (some (Sum.inr (Sum.inl (()))))) (0))
  (Sum.elim (fun (s272 : Unit) =>
  some (true)) some)))
noncomputable def F_invigilatorref14_runes (a0 : List UInt8) : Option (List Int × Bool) :=
 Option.bind (
  lpO (fun (s297 : Unit) =>
  cond (decide (0 < (↑(List.length a0) : Int)))
  (none)
  (some (Sum.inr (Sum.inl (()))))) (()))
  (Sum.elim (fun (s295 : Unit) =>
  some (([], true))) some)
noncomputable def F_invigilatorref14_Check (a0 : TLxToken) : Option (Int) :=
 cond (decide (a0.Kind < 1))
  (some (2))
  (cond (decide (9 < a0.Kind))
  (some (2))
  (cond (!decide (a0.Kind = 2))
  (cond (!decide (a0.N = 0))
  (some (2))
  (cond (!decide (a0.Kind = 1))
  (cond (!decide (a0.Kind = 3))
  (cond (!decide (a0.S = (ByteArray.mk #[]).data.toList))
  (some (2))
  (cond (decide (a0.Kind = 1))
  (Option.bind (F_invigilatorref14_named (a0.S)) fun x291 =>
  cond (!x291)
  (some (6))
  (cond (decide (16 < (↑(List.length a0.S) : Int)))
  (some (3))
  (some (0))))
  (cond (decide (a0.Kind = 3))
  (Option.bind (F_invigilatorref14_runes (a0.S)) fun x299 =>
  cond (!x299.snd)
  (some (6))
  (cond (decide (2000 < (↑(List.length a0.S) : Int)))
  (some (3))
  (some (0))))
  (some (0)))))
  (cond (decide (a0.Kind = 1))
  (Option.bind (F_invigilatorref14_named (a0.S)) fun x303 =>
  cond (!x303)
  (some (6))
  (cond (decide (16 < (↑(List.length a0.S) : Int)))
  (some (3))
  (some (0))))
  (cond (decide (a0.Kind = 3))
  (Option.bind (F_invigilatorref14_runes (a0.S)) fun x307 =>
  cond (!x307.snd)
  (some (6))
  (cond (decide (2000 < (↑(List.length a0.S) : Int)))
  (some (3))
  (some (0))))
  (some (0)))))
  (cond (decide (a0.Kind = 1))
  (Option.bind (F_invigilatorref14_named (a0.S)) fun x311 =>
  cond (!x311)
  (some (6))
  (cond (decide (16 < (↑(List.length a0.S) : Int)))
  (some (3))
  (some (0))))
  (cond (decide (a0.Kind = 3))
  (Option.bind (F_invigilatorref14_runes (a0.S)) fun x315 =>
  cond (!x315.snd)
  (some (6))
  (cond (decide (2000 < (↑(List.length a0.S) : Int)))
  (some (3))
  (some (0))))
  (some (0))))))
  (cond (!decide (a0.Kind = 1))
  (cond (!decide (a0.Kind = 3))
  (cond (!decide (a0.S = (ByteArray.mk #[]).data.toList))
  (some (2))
  (cond (decide (a0.Kind = 1))
  (Option.bind (F_invigilatorref14_named (a0.S)) fun x322 =>
  cond (!x322)
  (some (6))
  (cond (decide (16 < (↑(List.length a0.S) : Int)))
  (some (3))
  (some (0))))
  (cond (decide (a0.Kind = 3))
  (Option.bind (F_invigilatorref14_runes (a0.S)) fun x326 =>
  cond (!x326.snd)
  (some (6))
  (cond (decide (2000 < (↑(List.length a0.S) : Int)))
  (some (3))
  (some (0))))
  (some (0)))))
  (cond (decide (a0.Kind = 1))
  (Option.bind (F_invigilatorref14_named (a0.S)) fun x330 =>
  cond (!x330)
  (some (6))
  (cond (decide (16 < (↑(List.length a0.S) : Int)))
  (some (3))
  (some (0))))
  (cond (decide (a0.Kind = 3))
  (Option.bind (F_invigilatorref14_runes (a0.S)) fun x334 =>
  cond (!x334.snd)
  (some (6))
  (cond (decide (2000 < (↑(List.length a0.S) : Int)))
  (some (3))
  (some (0))))
  (some (0)))))
  (cond (decide (a0.Kind = 1))
  (Option.bind (F_invigilatorref14_named (a0.S)) fun x338 =>
  cond (!x338)
  (some (6))
  (cond (decide (16 < (↑(List.length a0.S) : Int)))
  (some (3))
  (some (0))))
  (cond (decide (a0.Kind = 3))
  (Option.bind (F_invigilatorref14_runes (a0.S)) fun x342 =>
  cond (!x342.snd)
  (some (6))
  (cond (decide (2000 < (↑(List.length a0.S) : Int)))
  (some (3))
  (some (0))))
  (some (0)))))))
noncomputable def F_invigilatorref15_reserved (a0 : List UInt8) : Option (Bool) :=
 Option.bind (
  lpO (fun (s350 : Int) =>
  cond (decide (s350 < (↑10 : Int)))
  (sideO ((0 : Int) ≤ s350 ∧ s350 < (↑(10 : Nat) : Int)) (
  idxO ([(ByteArray.mk #[118, 97, 114]).data.toList, (ByteArray.mk #[100, 101, 102]).data.toList, (ByteArray.mk #[111, 117, 116]).data.toList, (ByteArray.mk #[105, 102]).data.toList, (ByteArray.mk #[101, 108, 115, 101]).data.toList, (ByteArray.mk #[119, 104, 105, 108, 101]).data.toList, (ByteArray.mk #[101, 110, 100]).data.toList, (ByteArray.mk #[114, 101, 108, 101, 97, 115, 101]).data.toList, (ByteArray.mk #[105, 110, 116]).data.toList, (ByteArray.mk #[99, 104, 97, 114]).data.toList]) ((↑(Int.toNat s350) : Int)) fun x353 =>
  cond (decide (x353 = a0))
  (some (Sum.inr (Sum.inr (true))))
  (letO (IntKind.wrap IntKind.i64 (s350 + 1)) fun x355 =>
  some (Sum.inl (x355)))))
  (some (Sum.inr (Sum.inl (()))))) (0))
  (Sum.elim (fun (s348 : Unit) =>
  some (false)) some)
noncomputable def F_invigilatorref15_Name (a0 : List UInt8) : Option (Bool) :=
 Option.bind (F_invigilatorref12_Find (a0)) fun x258 =>
  Option.bind (F_invigilatorref14_Check (TLxToken.mk 1 0 0 0 a0)) fun x345 =>
  cond (decide (x345 = 0))
  (cond (!decide (x258.snd = 0))
  (Option.bind (F_invigilatorref15_reserved (a0)) fun x356 =>
  some (!x356))
  (some (false)))
  (some (false))
noncomputable def F_invigilatorref05_Many (a0 : Int) (a1 : Int × Int) : Option (Int) :=
 Option.bind (
  lpO (fun (s387 : Int × Int) =>
  cond (decide (s387.fst < a0))
  (sideO ((0 : Int) ≤ s387.fst ∧ s387.fst < (↑(2 : Nat) : Int)) (
  idxO ([a1.fst, a1.snd]) ((↑(Int.toNat s387.fst) : Int)) fun x391 =>
  letO (IntKind.wrap IntKind.i64 (s387.snd * x391)) fun x392 =>
  letO (IntKind.wrap IntKind.i64 (s387.fst + 1)) fun x393 =>
  some (Sum.inl ((x393, x392)))))
  (some (Sum.inr (Sum.inl (s387.snd))))) ((0, 1)))
  (Sum.elim (fun (s385 : Int) =>
  some (s385)) some)
noncomputable def F_invigilatorref05_Check (a0 : Int) (a1 : Int × Int) : Option (Int) :=
 cond (decide (a0 < 0))
  (some (7))
  (cond (decide (2 < a0))
  (some (7))
  (Option.bind (
  lpO (fun (s365 : Int) =>
  cond (decide (s365 < a0))
  (sideO ((0 : Int) ≤ s365 ∧ s365 < (↑(2 : Nat) : Int)) (
  idxO ([a1.fst, a1.snd]) ((↑(Int.toNat s365) : Int)) fun x369 =>
  cond (decide (x369 < 0))
  (some (Sum.inr (Sum.inr (7))))
  (letO (IntKind.wrap IntKind.i64 (s365 + 1)) fun x371 =>
  some (Sum.inl (x371)))))
  (some (Sum.inr (Sum.inl (()))))) (0))
  (Sum.elim (fun (s363 : Unit) =>
  Option.bind (
  lpO (fun (s374 : Int) =>
  cond (decide (s374 < 2))
  (sideO ((0 : Int) ≤ s374 ∧ s374 < (↑(2 : Nat) : Int)) (
  idxO ([a1.fst, a1.snd]) ((↑(Int.toNat s374) : Int)) fun x380 =>
  cond (!decide (x380 = 0))
  (some (Sum.inr (Sum.inr (6))))
  (letO (IntKind.wrap IntKind.i64 (s374 + 1)) fun x382 =>
  some (Sum.inl (x382)))))
  (some (Sum.inr (Sum.inl (()))))) (a0))
  (Sum.elim (fun (s372 : Unit) =>
  cond (decide (400 < a1.fst))
  (some (15))
  (cond (decide (400 < a1.snd))
  (some (15))
  (Option.bind (F_invigilatorref05_Many (a0) (a1)) fun x394 =>
  cond (decide (400 < x394))
  (some (15))
  (some (0))))) some)) some)))
noncomputable def F_invigilatorref05_Cells (a0 : Int) (a1 : Int × Int) : Option (Int × Int) :=
 Option.bind (F_invigilatorref05_Check (a0) (a1)) fun x396 =>
  cond (!decide (x396 = 0))
  (some ((0, x396)))
  (Option.bind (F_invigilatorref05_Many (a0) (a1)) fun x398 =>
  some ((x398, 0)))
noncomputable def F_invigilatorref06_rune64 (a0 : Int) : Option (Bool) :=
 cond (decide (0 ≤ a0))
  (cond (decide (a0 ≤ 1114111))
  (cond (decide (a0 < 55296))
  (some (true))
  (some (decide (57343 < a0))))
  (some (false)))
  (some (false))
noncomputable def F_invigilatorref06_Check (a0 : TArray) : Option (Int) :=
 cond (!decide (a0.Kind = 1))
  (cond (!decide (a0.Kind = 2))
  (some (2))
  (Option.bind (F_invigilatorref05_Cells (a0.Rank) (a0.Lens)) fun x399 =>
  cond (decide (x399.snd = 0))
  (cond (!decide ((↑(List.length (List.map (SV.int IntKind.i64) a0.Cells)) : Int) = x399.fst))
  (Option.bind (
  lpO (fun (s404 : Unit) =>
  cond (decide (0 < (↑(List.length (List.map (SV.int IntKind.i64) a0.Cells)) : Int)))
  (some (Sum.inr (Sum.inl (()))))
  (some (Sum.inr (Sum.inl (()))))) (()))
  (Sum.elim (fun (s402 : Unit) =>
  some (6)) some))
  (Option.bind (
  lpO (fun (s408 : Int × Int) =>
  cond (decide (s408.fst < (↑(List.length (List.map (SV.int IntKind.i64) a0.Cells)) : Int)))
  (cond (decide (s408.snd = 0))
  (cond (decide (a0.Kind = 2))
  (idxO (a0.Cells) (s408.fst) fun x417 =>
  Option.bind (F_invigilatorref06_rune64 (x417)) fun x418 =>
  cond (!x418)
  (letO (IntKind.wrap IntKind.i64 (s408.fst + 1)) fun x420 =>
  some (Sum.inl ((x420, 7))))
  (letO (IntKind.wrap IntKind.i64 (s408.fst + 1)) fun x421 =>
  some (Sum.inl ((x421, s408.snd)))))
  (letO (IntKind.wrap IntKind.i64 (s408.fst + 1)) fun x422 =>
  some (Sum.inl ((x422, s408.snd)))))
  (some (Sum.inr (Sum.inl (s408.snd)))))
  (some (Sum.inr (Sum.inl (s408.snd))))) ((0, x399.snd)))
  (Sum.elim (fun (s406 : Int) =>
  some (s406)) some)))
  (Option.bind (
  lpO (fun (s425 : Unit) =>
  cond (decide (0 < (↑(List.length (List.map (SV.int IntKind.i64) a0.Cells)) : Int)))
  (some (Sum.inr (Sum.inl (()))))
  (some (Sum.inr (Sum.inl (()))))) (()))
  (Sum.elim (fun (s423 : Unit) =>
  some (x399.snd)) some))))
  (Option.bind (F_invigilatorref05_Cells (a0.Rank) (a0.Lens)) fun x427 =>
  cond (decide (x427.snd = 0))
  (cond (!decide ((↑(List.length (List.map (SV.int IntKind.i64) a0.Cells)) : Int) = x427.fst))
  (Option.bind (
  lpO (fun (s432 : Unit) =>
  cond (decide (0 < (↑(List.length (List.map (SV.int IntKind.i64) a0.Cells)) : Int)))
  (some (Sum.inr (Sum.inl (()))))
  (some (Sum.inr (Sum.inl (()))))) (()))
  (Sum.elim (fun (s430 : Unit) =>
  some (6)) some))
  (Option.bind (
  lpO (fun (s436 : Int × Int) =>
  cond (decide (s436.fst < (↑(List.length (List.map (SV.int IntKind.i64) a0.Cells)) : Int)))
  (cond (decide (s436.snd = 0))
  (cond (decide (a0.Kind = 2))
  (idxO (a0.Cells) (s436.fst) fun x445 =>
  Option.bind (F_invigilatorref06_rune64 (x445)) fun x446 =>
  cond (!x446)
  (letO (IntKind.wrap IntKind.i64 (s436.fst + 1)) fun x448 =>
  some (Sum.inl ((x448, 7))))
  (letO (IntKind.wrap IntKind.i64 (s436.fst + 1)) fun x449 =>
  some (Sum.inl ((x449, s436.snd)))))
  (letO (IntKind.wrap IntKind.i64 (s436.fst + 1)) fun x450 =>
  some (Sum.inl ((x450, s436.snd)))))
  (some (Sum.inr (Sum.inl (s436.snd)))))
  (some (Sum.inr (Sum.inl (s436.snd))))) ((0, x427.snd)))
  (Sum.elim (fun (s434 : Int) =>
  some (s434)) some)))
  (Option.bind (
  lpO (fun (s453 : Unit) =>
  cond (decide (0 < (↑(List.length (List.map (SV.int IntKind.i64) a0.Cells)) : Int)))
  (some (Sum.inr (Sum.inl (()))))
  (some (Sum.inr (Sum.inl (()))))) (()))
  (Sum.elim (fun (s451 : Unit) =>
  some (x427.snd)) some)))
noncomputable def F_invigilatorref31_event (a0 : TLattice) (a1 : TEvTrace) (a2 : TEvEvent) (a3 : Int) (a4 : Bool) : Option (Int) :=
 Option.bind (F_invigilatorref20_Label (a0) (a2.Label)) fun x228 =>
  cond (!x228)
  (some (7))
  (cond (decide (a2.Site < 0))
  (some (7))
  (cond (decide (1000000000 < a2.Site))
  (some (7))
  (cond (decide (a2.Steps < a3))
  (some (7))
  (cond (decide (a1.Steps < a2.Steps))
  (some (7))
  (cond (decide (a2.Kind < 1))
  (some (6))
  (cond (decide (4 < a2.Kind))
  (some (6))
  (cond (decide (a2.Kind = 1) == a4)
  (some (6))
  (cond (!(!decide (a2.E = 0)) == decide (a2.Kind = 2))
  (some (6))
  (cond (!decide (a2.Kind = 1))
  (cond (!decide (a2.Channel = (ByteArray.mk #[]).data.toList))
  (some (6))
  (Option.bind (F_invigilatorref31_none (a2.Value)) fun x243 =>
  cond (!x243)
  (some (6))
  (cond (decide (a2.Kind = 1))
  (Option.bind (F_invigilatorref15_Name (a2.Channel)) fun x357 =>
  cond (!x357)
  (some (6))
  (Option.bind (F_invigilatorref06_Check (a2.Value)) fun x455 =>
  cond (!decide (x455 = 0))
  (some (6))
  (some (0))))
  (some (0)))))
  (cond (decide (a2.Kind = 1))
  (Option.bind (F_invigilatorref15_Name (a2.Channel)) fun x458 =>
  cond (!x458)
  (some (6))
  (Option.bind (F_invigilatorref06_Check (a2.Value)) fun x460 =>
  cond (!decide (x460 = 0))
  (some (6))
  (some (0))))
  (some (0))))))))))))
noncomputable def F_invigilatorref31_entry (a0 : TLattice) (a1 : TReEntry) : Option (Int) :=
 Option.bind (F_invigilatorref20_Label (a0) (a1.From)) fun x242 =>
  cond (!x242)
  (some (7))
  (Option.bind (F_invigilatorref20_Label (a0) (a1.Goal)) fun x244 =>
  cond (!x244)
  (some (7))
  (cond (decide (a1.Fold < 1))
  (some (6))
  (cond (decide (4 < a1.Fold))
  (some (6))
  (cond (decide (a1.Cells < 0))
  (some (6))
  (cond (decide (400 < a1.Cells))
  (some (6))
  (cond (decide (a1.Site < 0))
  (some (6))
  (cond (decide (1000000000 < a1.Site))
  (some (6))
  (cond (!decide (a1.Value.fst = 1))
  (cond (!(decide (a1.Value.fst = 0) && (decide (a1.Value.snd = 0) && true)))
  (some (6))
  (some (0)))
  (some (0))))))))))
noncomputable def F_invigilatorref31_Check (a0 : TLattice) (a1 : TEvTrace) : Option (Int × Int) :=
 Option.bind (F_invigilatorref03_Check (a0)) fun x218 =>
  cond (decide (x218.snd = 0))
  (cond (decide ((↑(List.length (List.map enc_TEvEvent a1.Events)) : Int) = 0))
  (some (((-1 : Int), 6)))
  (cond (!decide (x218.snd = 0))
  (some (((-1 : Int), x218.snd)))
  (Option.bind (
  lpO (fun (s224 : Int × Int) =>
  cond (decide (s224.fst < (↑(List.length (List.map enc_TEvEvent a1.Events)) : Int)))
  (idxO (a1.Events) (s224.fst) fun x232 =>
  letO (IntKind.wrap IntKind.i64 ((↑(List.length (List.map enc_TEvEvent a1.Events)) : Int) - 1)) fun x233 =>
  Option.bind (F_invigilatorref31_event (a0) (a1) (x232) (s224.snd) (decide (s224.fst = x233))) fun x234 =>
  cond (!decide (x234 = 0))
  (some (Sum.inr (Sum.inr ((s224.fst, x234)))))
  (idxO (a1.Events) (s224.fst) fun x236 =>
  letO (IntKind.wrap IntKind.i64 (s224.fst + 1)) fun x237 =>
  some (Sum.inl ((x237, x236.Steps)))))
  (some (Sum.inr (Sum.inl (()))))) ((0, 0)))
  (Sum.elim (fun (s222 : Unit) =>
  Option.bind (
  lpO (fun (s240 : Int) =>
  cond (decide (s240 < (↑(List.length (List.map enc_TReEntry a1.Log)) : Int)))
  (idxO (a1.Log) (s240) fun x246 =>
  Option.bind (F_invigilatorref31_entry (a0) (x246)) fun x247 =>
  cond (!decide (x247 = 0))
  (some (Sum.inr (Sum.inr (((↑(List.length (List.map enc_TEvEvent a1.Events)) : Int), x247)))))
  (letO (IntKind.wrap IntKind.i64 (s240 + 1)) fun x249 =>
  some (Sum.inl (x249))))
  (some (Sum.inr (Sum.inl (()))))) (0))
  (Sum.elim (fun (s238 : Unit) =>
  some ((0, 0))) some)) some))))
  (cond (!decide (x218.snd = 0))
  (some (((-1 : Int), x218.snd)))
  (Option.bind (
  lpO (fun (s253 : Int × Int) =>
  cond (decide (s253.fst < (↑(List.length (List.map enc_TEvEvent a1.Events)) : Int)))
  (idxO (a1.Events) (s253.fst) fun x261 =>
  letO (IntKind.wrap IntKind.i64 ((↑(List.length (List.map enc_TEvEvent a1.Events)) : Int) - 1)) fun x262 =>
  Option.bind (F_invigilatorref31_event (a0) (a1) (x261) (s253.snd) (decide (s253.fst = x262))) fun x263 =>
  cond (!decide (x263 = 0))
  (some (Sum.inr (Sum.inr ((s253.fst, x263)))))
  (idxO (a1.Events) (s253.fst) fun x265 =>
  letO (IntKind.wrap IntKind.i64 (s253.fst + 1)) fun x266 =>
  some (Sum.inl ((x266, x265.Steps)))))
  (some (Sum.inr (Sum.inl (()))))) ((0, 0)))
  (Sum.elim (fun (s251 : Unit) =>
  Option.bind (
  lpO (fun (s269 : Int) =>
  cond (decide (s269 < (↑(List.length (List.map enc_TReEntry a1.Log)) : Int)))
  (idxO (a1.Log) (s269) fun x275 =>
  Option.bind (F_invigilatorref31_entry (a0) (x275)) fun x276 =>
  cond (!decide (x276 = 0))
  (some (Sum.inr (Sum.inr (((↑(List.length (List.map enc_TEvEvent a1.Events)) : Int), x276)))))
  (letO (IntKind.wrap IntKind.i64 (s269 + 1)) fun x278 =>
  some (Sum.inl (x278))))
  (some (Sum.inr (Sum.inl (()))))) (0))
  (Sum.elim (fun (s267 : Unit) =>
  some ((0, 0))) some)) some)))
noncomputable def F_invigilatorref31_asked (a0 : TLattice) (a1 : Int) (a2 : List TEvTrace) : Option (Int) :=
 Option.bind (
  lpO (fun (s103 : Int) =>
  cond (decide (s103 < (↑(List.length (List.map enc_TEvTrace a2)) : Int)))
  (idxO (a2) (s103) fun x109 =>
  Option.bind (F_invigilatorref31_Check (a0) (x109)) fun x110 =>
  cond (!decide (x110.snd = 0))
  (some (Sum.inr (Sum.inr (x110.snd))))
  (letO (IntKind.wrap IntKind.i64 (s103 + 1)) fun x112 =>
  some (Sum.inl (x112))))
  (some (Sum.inr (Sum.inl (()))))) (0))
  (Sum.elim (fun (s101 : Unit) =>
  Option.bind (F_invigilatorref20_Label (a0) (a1)) fun x113 =>
  cond (!x113)
  (some (7))
  (some (0))) some)
noncomputable def F_invigilatorref03_asked (a0 : TLattice) (a1 : Int) (a2 : Int) : Option (Int) :=
 Option.bind (F_invigilatorref03_Check (a0)) fun x121 =>
  cond (decide (x121.snd = 0))
  (cond (decide (a1 < 0))
  (some (7))
  (cond (decide ((↑(List.length (List.map SV.str a0.Names)) : Int) ≤ a1))
  (some (7))
  (cond (decide (a2 < 0))
  (some (7))
  (cond (decide ((↑(List.length (List.map SV.str a0.Names)) : Int) ≤ a2))
  (some (7))
  (some (x121.snd))))))
  (some (x121.snd))
noncomputable def F_invigilatorref03_Leq (a0 : TLattice) (a1 : Int) (a2 : Int) : Option (Bool × Int) :=
 Option.bind (F_invigilatorref03_asked (a0) (a1) (a2)) fun x127 =>
  cond (decide (x127 = 0))
  (Option.bind (F_invigilatorref03_Below (a0) (a1) (a2)) fun x129 =>
  some ((x129, x127)))
  (some ((false, x127)))
noncomputable def F_invigilatorref31_sees (a0 : TLattice) (a1 : Int) (a2 : Int) : Option (Bool) :=
 Option.bind (F_invigilatorref03_Leq (a0) (a1) (a2)) fun x130 =>
  some (x130.fst)
noncomputable def F_invigilatorref31_seen (a0 : TLattice) (a1 : TEvTrace) (a2 : Int) : Option (List TEvEvent) :=
 Option.bind (
  lpO (fun (s119 : Int × List TEvEvent) =>
  cond (decide (s119.fst < (↑(List.length (List.map enc_TEvEvent a1.Events)) : Int)))
  (idxO (a1.Events) (s119.fst) fun x126 =>
  Option.bind (F_invigilatorref31_sees (a0) (x126.Label) (a2)) fun x127 =>
  cond (x127)
  (idxO (a1.Events) (s119.fst) fun x129 =>
  sideO ((List.length (List.map enc_TEvEvent s119.snd) + (1 : Nat)) * (112 : Nat) ≤ (70368744177664 : Nat)) (
  letO (IntKind.wrap IntKind.i64 (s119.fst + 1)) fun x130 =>
  some (Sum.inl ((x130, s119.snd ++ [x129])))))
  (letO (IntKind.wrap IntKind.i64 (s119.fst + 1)) fun x131 =>
  some (Sum.inl ((x131, s119.snd)))))
  (some (Sum.inr (Sum.inl (s119.snd))))) ((0, [])))
  (Sum.elim (fun (s117 : List TEvEvent) =>
  some (s117)) some)
noncomputable def F_invigilatorref24_SameArray (a0 : TArray) (a1 : TArray) : Option (Bool) :=
 cond (!decide (a0.Kind = a1.Kind))
  (some (false))
  (cond (!decide (a0.Rank = a1.Rank))
  (some (false))
  (cond (!(decide (a0.Lens.fst = a1.Lens.fst) && (decide (a0.Lens.snd = a1.Lens.snd) && true)))
  (some (false))
  (cond (!decide ((↑(List.length (List.map (SV.int IntKind.i64) a0.Cells)) : Int) = (↑(List.length (List.map (SV.int IntKind.i64) a1.Cells)) : Int)))
  (some (false))
  (Option.bind (
  lpO (fun (s152 : Int) =>
  cond (decide (s152 < (↑(List.length (List.map (SV.int IntKind.i64) a0.Cells)) : Int)))
  (idxO (a0.Cells) (s152) fun x158 =>
  idxO (a1.Cells) (s152) fun x159 =>
  cond (!decide (x158 = x159))
  (some (Sum.inr (Sum.inr (false))))
  (letO (IntKind.wrap IntKind.i64 (s152 + 1)) fun x161 =>
  some (Sum.inl (x161))))
  (some (Sum.inr (Sum.inl (()))))) (0))
  (Sum.elim (fun (s150 : Unit) =>
  some (true)) some)))))
noncomputable def F_invigilatorref29_SameEvents (a0 : List TEvEvent) (a1 : List TEvEvent) : Option (Bool) :=
 cond (!decide ((↑(List.length (List.map enc_TEvEvent a0)) : Int) = (↑(List.length (List.map enc_TEvEvent a1)) : Int)))
  (some (false))
  (Option.bind (
  lpO (fun (s137 : Int) =>
  cond (decide (s137 < (↑(List.length (List.map enc_TEvEvent a0)) : Int)))
  (idxO (a0) (s137) fun x150 =>
  idxO (a1) (s137) fun x151 =>
  cond (!decide (x150.Kind = x151.Kind))
  (some (Sum.inr (Sum.inr (false))))
  (cond (!decide (x150.Site = x151.Site))
  (some (Sum.inr (Sum.inr (false))))
  (cond (!decide (x150.Steps = x151.Steps))
  (some (Sum.inr (Sum.inr (false))))
  (cond (!decide (x150.Label = x151.Label))
  (some (Sum.inr (Sum.inr (false))))
  (cond (!decide (x150.Channel = x151.Channel))
  (some (Sum.inr (Sum.inr (false))))
  (cond (!decide (x150.E = x151.E))
  (some (Sum.inr (Sum.inr (false))))
  (Option.bind (F_invigilatorref24_SameArray (x150.Value) (x151.Value)) fun x158 =>
  cond (!x158)
  (some (Sum.inr (Sum.inr (false))))
  (letO (IntKind.wrap IntKind.i64 (s137 + 1)) fun x160 =>
  some (Sum.inl (x160))))))))))
  (some (Sum.inr (Sum.inl (()))))) (0))
  (Sum.elim (fun (s135 : Unit) =>
  some (true)) some))
noncomputable def F_invigilatorref31_Alike (a0 : TLattice) (a1 : TEvTrace) (a2 : TEvTrace) (a3 : Int) : Option (Bool × Int) :=
 Option.bind (F_invigilatorref31_asked (a0) (a3) ([a1, a2])) fun x115 =>
  cond (!decide (x115 = 0))
  (some ((false, x115)))
  (Option.bind (F_invigilatorref31_seen (a0) (a1) (a3)) fun x132 =>
  Option.bind (F_invigilatorref31_seen (a0) (a2) (a3)) fun x133 =>
  Option.bind (F_invigilatorref29_SameEvents (x132) (x133)) fun x161 =>
  some ((x161, 0)))
noncomputable def F_view_seen_api_ReEntry_ (a0 : TLattice) (a1 : Int) (a2 : List TReEntry) : Option (List TReEntry × TLattice × Unit × Int) :=
 some ((a2, a0, (), a1))
noncomputable def F_view_entries_1 (a0 : TReEntry) : Option (Int) :=
 some (a0.Goal)
noncomputable def F_slices_AppendSeq___api_ReEntry_api_ReEntry_ (a1 : List TReEntry × TLattice × Unit × Int) : Option (List TReEntry) :=
 Option.bind (
  lpO (fun (s171 : Int × List TReEntry) =>
  cond (decide (s171.fst < (↑(List.length (List.map enc_TReEntry a1.fst)) : Int)))
  (idxO (a1.fst) (s171.fst) fun x187 =>
  Option.bind (F_view_entries_1 (x187)) fun x188 =>
  Option.bind (F_lattice_Leq (a1.snd.fst) (x188) (a1.snd.snd.snd)) fun x189 =>
  cond (decide (x189.snd = 0))
  (cond (x189.fst)
  (sideO ((List.length (List.map enc_TReEntry s171.snd) + (1 : Nat)) * (56 : Nat) ≤ (70368744177664 : Nat)) (
  letO (IntKind.wrap IntKind.i64 (s171.fst + 1)) fun x193 =>
  some (Sum.inl ((x193, s171.snd ++ [x187])))))
  (letO (IntKind.wrap IntKind.i64 (s171.fst + 1)) fun x194 =>
  some (Sum.inl ((x194, s171.snd)))))
  (letO (IntKind.wrap IntKind.i64 (s171.fst + 1)) fun x195 =>
  some (Sum.inl ((x195, s171.snd)))))
  (some (Sum.inr (Sum.inl ((decide (s171.fst < (↑(List.length (List.map enc_TReEntry a1.fst)) : Int)), s171)))))) ((0, [])))
  (Sum.elim (fun (s169 : Bool × Int × List TReEntry) =>
  some (s169.snd.snd)) some)
noncomputable def F_slices_Collect_api_ReEntry_ (a0 : List TReEntry × TLattice × Unit × Int) : Option (List TReEntry) :=
 Option.bind (F_slices_AppendSeq___api_ReEntry_api_ReEntry_ ((a0.fst, a0.snd.fst, (), a0.snd.snd.snd))) fun x196 =>
  some (x196)
noncomputable def F_view_entries (a0 : TLattice) (a1 : TEvTrace) (a2 : Int) : Option (List TReEntry) :=
 Option.bind (F_view_seen_api_ReEntry_ (a0) (a2) (a1.Log)) fun x167 =>
  Option.bind (F_slices_Collect_api_ReEntry_ ((x167.fst, x167.snd.fst, (), x167.snd.snd.snd))) fun x197 =>
  some (x197)
noncomputable def F_view_Agree_1 (a0 : TReEntry) (a1 : TReEntry) : Option (Bool) :=
 some (decide (a0.Value.fst = a1.Value.fst) && (decide (a0.Value.snd = a1.Value.snd) && true))
noncomputable def F_view_differ_api_ReEntry_ (a0 : List TReEntry) (a1 : List TReEntry) : Option (Int) :=
 Option.bind (
  lpO (fun (s202 : Int) =>
  cond (decide (s202 < min (↑(List.length (List.map enc_TReEntry a0)) : Int) (↑(List.length (List.map enc_TReEntry a1)) : Int)))
  (idxO (a0) (s202) fun x209 =>
  idxO (a1) (s202) fun x210 =>
  Option.bind (F_view_Agree_1 (x209) (x210)) fun x211 =>
  cond (!x211)
  (some (Sum.inr (Sum.inr (s202))))
  (letO (IntKind.wrap IntKind.i64 (s202 + 1)) fun x213 =>
  some (Sum.inl (x213))))
  (some (Sum.inr (Sum.inl (()))))) (0))
  (Sum.elim (fun (s200 : Unit) =>
  some (min (↑(List.length (List.map enc_TReEntry a0)) : Int) (↑(List.length (List.map enc_TReEntry a1)) : Int))) some)
noncomputable def F_view_Agree (a0 : TLattice) (a1 : TEvTrace) (a2 : TEvTrace) (a3 : Int) : Option (Bool × Int) :=
 Option.bind (F_view_asked (a0) (a3) ([a1, a2])) fun x165 =>
  cond (!decide (x165 = 0))
  (some ((false, x165)))
  (Option.bind (F_view_entries (a0) (a1) (a3)) fun x198 =>
  Option.bind (F_view_entries (a0) (a2) (a3)) fun x199 =>
  Option.bind (F_view_differ_api_ReEntry_ (x198) (x199)) fun x214 =>
  some ((decide (x214 = min (↑(List.length (List.map enc_TReEntry x198)) : Int) (↑(List.length (List.map enc_TReEntry x199)) : Int)), 0)))
noncomputable def F_invigilatorref31_log (a0 : TLattice) (a1 : TEvTrace) (a2 : Int) : Option (List TReEntry) :=
 Option.bind (
  lpO (fun (s222 : Int × List TReEntry) =>
  cond (decide (s222.fst < (↑(List.length (List.map enc_TReEntry a1.Log)) : Int)))
  (idxO (a1.Log) (s222.fst) fun x229 =>
  Option.bind (F_invigilatorref31_sees (a0) (x229.Goal) (a2)) fun x230 =>
  cond (x230)
  (idxO (a1.Log) (s222.fst) fun x232 =>
  sideO ((List.length (List.map enc_TReEntry s222.snd) + (1 : Nat)) * (56 : Nat) ≤ (70368744177664 : Nat)) (
  letO (IntKind.wrap IntKind.i64 (s222.fst + 1)) fun x233 =>
  some (Sum.inl ((x233, s222.snd ++ [x232])))))
  (letO (IntKind.wrap IntKind.i64 (s222.fst + 1)) fun x234 =>
  some (Sum.inl ((x234, s222.snd)))))
  (some (Sum.inr (Sum.inl (s222.snd))))) ((0, [])))
  (Sum.elim (fun (s220 : List TReEntry) =>
  some (s220)) some)
noncomputable def F_invigilatorref31_Pairs (a0 : TLattice) (a1 : TEvTrace) (a2 : Int) : Option (List (Int × Int) × Int) :=
 Option.bind (F_invigilatorref31_asked (a0) (a2) ([a1])) fun x218 =>
  cond (!decide (x218 = 0))
  (some (([], x218)))
  (Option.bind (F_invigilatorref31_log (a0) (a1) (a2)) fun x235 =>
  Option.bind (
  lpO (fun (s238 : Int × List (Int × Int)) =>
  cond (decide (s238.fst < (↑(List.length (List.map enc_TReEntry x235)) : Int)))
  (idxO (x235) (s238.fst) fun x242 =>
  sideO ((List.length (List.map (encA2 (1 : Nat) (SV.int IntKind.i64)) s238.snd) + (1 : Nat)) * (16 : Nat) ≤ (70368744177664 : Nat)) (
  letO (IntKind.wrap IntKind.i64 (s238.fst + 1)) fun x243 =>
  some (Sum.inl ((x243, s238.snd ++ [x242.Value])))))
  (some (Sum.inr (Sum.inl (s238.snd))))) ((0, [])))
  (Sum.elim (fun (s236 : List (Int × Int)) =>
  some ((s236, 0))) some))
noncomputable def F_invigilatorref31_Agree (a0 : TLattice) (a1 : TEvTrace) (a2 : TEvTrace) (a3 : Int) : Option (Bool × Int) :=
 Option.bind (F_invigilatorref31_asked (a0) (a3) ([a1, a2])) fun x216 =>
  cond (!decide (x216 = 0))
  (some ((false, x216)))
  (Option.bind (F_invigilatorref31_Pairs (a0) (a1) (a3)) fun x244 =>
  Option.bind (F_invigilatorref31_Pairs (a0) (a2) (a3)) fun x245 =>
  Option.bind (
  lpO (fun (s248 : Int) =>
  cond (decide (s248 < (↑(List.length (List.map (encA2 1 (SV.int IntKind.i64)) x244.fst)) : Int)))
  (cond (decide (s248 < (↑(List.length (List.map (encA2 1 (SV.int IntKind.i64)) x245.fst)) : Int)))
  (idxO (x244.fst) (s248) fun x256 =>
  idxO (x245.fst) (s248) fun x257 =>
  cond (!(decide (x256.fst = x257.fst) && (decide (x256.snd = x257.snd) && true)))
  (some (Sum.inr (Sum.inr ((false, 0)))))
  (letO (IntKind.wrap IntKind.i64 (s248 + 1)) fun x259 =>
  some (Sum.inl (x259))))
  (some (Sum.inr (Sum.inl (())))))
  (some (Sum.inr (Sum.inl (()))))) (0))
  (Sum.elim (fun (s246 : Unit) =>
  some ((true, 0))) some))
noncomputable def F_view_differ_api_EvEvent_ (a0 : List TEvEvent) (a1 : List TEvEvent) : Option (Int) :=
 Option.bind (
  lpO (fun (s269 : Int) =>
  cond (decide (s269 < min (↑(List.length (List.map enc_TEvEvent a0)) : Int) (↑(List.length (List.map enc_TEvEvent a1)) : Int)))
  (idxO (a0) (s269) fun x276 =>
  idxO (a1) (s269) fun x277 =>
  Option.bind (F_view_same (x276) (x277)) fun x278 =>
  cond (!x278)
  (some (Sum.inr (Sum.inr (s269))))
  (letO (IntKind.wrap IntKind.i64 (s269 + 1)) fun x280 =>
  some (Sum.inl (x280))))
  (some (Sum.inr (Sum.inl (()))))) (0))
  (Sum.elim (fun (s267 : Unit) =>
  some (min (↑(List.length (List.map enc_TEvEvent a0)) : Int) (↑(List.length (List.map enc_TEvEvent a1)) : Int))) some)
noncomputable def F_view_Differ (a0 : TLattice) (a1 : TEvTrace) (a2 : TEvTrace) (a3 : Int) : Option (Int × Int) :=
 Option.bind (F_view_asked (a0) (a3) ([a1, a2])) fun x263 =>
  cond (!decide (x263 = 0))
  (some ((0, x263)))
  (Option.bind (F_view_events (a0) (a1) (a3)) fun x265 =>
  Option.bind (F_view_events (a0) (a2) (a3)) fun x266 =>
  Option.bind (F_view_differ_api_EvEvent_ (x265) (x266)) fun x281 =>
  some ((x281, 0)))
noncomputable def F_invigilatorref31_Differ (a0 : TLattice) (a1 : TEvTrace) (a2 : TEvTrace) (a3 : Int) : Option (Int × Int) :=
 Option.bind (F_invigilatorref31_asked (a0) (a3) ([a1, a2])) fun x283 =>
  cond (!decide (x283 = 0))
  (some ((0, x283)))
  (Option.bind (F_invigilatorref31_seen (a0) (a1) (a3)) fun x285 =>
  Option.bind (F_invigilatorref31_seen (a0) (a2) (a3)) fun x286 =>
  Option.bind (
  lpO (fun (s289 : Int) =>
  cond (decide (s289 < (↑(List.length (List.map enc_TEvEvent x285)) : Int)))
  (cond (decide (s289 < (↑(List.length (List.map enc_TEvEvent x286)) : Int)))
  (letO (IntKind.wrap IntKind.i64 (s289 + 1)) fun x296 =>
  sideO ((0 : Int) ≤ s289 ∧ s289 ≤ x296 ∧ x296 ≤ (↑(List.length (List.map enc_TEvEvent x285)) : Int)) (
  letO (IntKind.wrap IntKind.i64 (s289 + 1)) fun x297 =>
  sideO ((0 : Int) ≤ s289 ∧ s289 ≤ x297 ∧ x297 ≤ (↑(List.length (List.map enc_TEvEvent x286)) : Int)) (
  Option.bind (F_invigilatorref29_SameEvents (List.drop (Int.toNat s289) (List.take (Int.toNat x296) x285)) (List.drop (Int.toNat s289) (List.take (Int.toNat x297) x286))) fun x298 =>
  cond (!x298)
  (some (Sum.inr (Sum.inr ((s289, 0)))))
  (letO (IntKind.wrap IntKind.i64 (s289 + 1)) fun x300 =>
  some (Sum.inl (x300))))))
  (some (Sum.inr (Sum.inl (())))))
  (some (Sum.inr (Sum.inl (()))))) (0))
  (Sum.elim (fun (s287 : Unit) =>
  some ((min (↑(List.length (List.map enc_TEvEvent x285)) : Int) (↑(List.length (List.map enc_TEvEvent x286)) : Int), 0))) some))
noncomputable def F_view_Blind (a0 : TLattice) (a1 : TEvTrace) (a2 : TEvTrace) : Option (List Int × Int) :=
 Option.bind (F_lattice_Check (a0)) fun x304 =>
  cond (!decide (x304.snd = 0))
  (some (([], x304.snd)))
  (Option.bind (F_view_asked (a0) (0) ([a1, a2])) fun x306 =>
  cond (!decide (x306 = 0))
  (some (([], x306)))
  (Option.bind (
  lpO (fun (s310 : Int × List Int) =>
  cond (decide (s310.fst < (↑(List.length (List.map SV.str a0.Names)) : Int)))
  (Option.bind (F_view_events (a0) (a1) (s310.fst)) fun x317 =>
  Option.bind (F_view_events (a0) (a2) (s310.fst)) fun x318 =>
  Option.bind (F_slices_EqualFunc___api_EvEvent___api_EvEvent_api_EvEvent_api_EvEvent_ (x317) (x318)) fun x319 =>
  cond (x319)
  (sideO ((List.length (List.map (SV.int IntKind.i64) s310.snd) + (1 : Nat)) * (8 : Nat) ≤ (70368744177664 : Nat)) (
  letO (IntKind.wrap IntKind.i64 (s310.fst + 1)) fun x321 =>
  some (Sum.inl ((x321, s310.snd ++ [s310.fst])))))
  (letO (IntKind.wrap IntKind.i64 (s310.fst + 1)) fun x322 =>
  some (Sum.inl ((x322, s310.snd)))))
  (some (Sum.inr (Sum.inl (s310.snd))))) ((0, [])))
  (Sum.elim (fun (s308 : List Int) =>
  some ((s308, 0))) some)))
noncomputable def F_invigilatorref31_Blind (a0 : TLattice) (a1 : TEvTrace) (a2 : TEvTrace) : Option (List Int × Int) :=
 Option.bind (F_invigilatorref03_Check (a0)) fun x324 =>
  cond (decide (x324.snd = 0))
  (Option.bind (F_invigilatorref31_asked (a0) (0) ([a1, a2])) fun x326 =>
  cond (!decide (x326 = 0))
  (some (([], x326)))
  (Option.bind (
  lpO (fun (s330 : Int × List Int) =>
  cond (decide (s330.fst < (↑(List.length (List.map SV.str a0.Names)) : Int)))
  (Option.bind (F_invigilatorref31_Alike (a0) (a1) (a2) (s330.fst)) fun x335 =>
  cond (x335.fst)
  (sideO ((List.length (List.map (SV.int IntKind.i64) s330.snd) + (1 : Nat)) * (8 : Nat) ≤ (70368744177664 : Nat)) (
  letO (IntKind.wrap IntKind.i64 (s330.fst + 1)) fun x337 =>
  some (Sum.inl ((x337, s330.snd ++ [s330.fst])))))
  (letO (IntKind.wrap IntKind.i64 (s330.fst + 1)) fun x338 =>
  some (Sum.inl ((x338, s330.snd)))))
  (some (Sum.inr (Sum.inl (s330.snd))))) ((0, [])))
  (Sum.elim (fun (s328 : List Int) =>
  some ((s328, 0))) some)))
  (cond (!decide (x324.snd = 0))
  (some (([], x324.snd)))
  (Option.bind (
  lpO (fun (s342 : Int × List Int) =>
  cond (decide (s342.fst < (↑(List.length (List.map SV.str a0.Names)) : Int)))
  (Option.bind (F_invigilatorref31_Alike (a0) (a1) (a2) (s342.fst)) fun x347 =>
  cond (x347.fst)
  (sideO ((List.length (List.map (SV.int IntKind.i64) s342.snd) + (1 : Nat)) * (8 : Nat) ≤ (70368744177664 : Nat)) (
  letO (IntKind.wrap IntKind.i64 (s342.fst + 1)) fun x349 =>
  some (Sum.inl ((x349, s342.snd ++ [s342.fst])))))
  (letO (IntKind.wrap IntKind.i64 (s342.fst + 1)) fun x350 =>
  some (Sum.inl ((x350, s342.snd)))))
  (some (Sum.inr (Sum.inl (s342.snd))))) ((0, [])))
  (Sum.elim (fun (s340 : List Int) =>
  some ((s340, 0))) some)))
noncomputable def F_view_Cut (a0 : TLattice) (a1 : TEvTrace) (a2 : Int) : Option (TEvTrace × Int) :=
 Option.bind (F_view_asked (a0) (a2) ([a1])) fun x366 =>
  cond (!decide (x366 = 0))
  (some ((TEvTrace.mk [] [] [] 0, x366)))
  (Option.bind (F_view_events (a0) (a1) (a2)) fun x368 =>
  Option.bind (F_view_entries (a0) (a1) (a2)) fun x369 =>
  cond (decide (0 < (↑(List.length (List.map enc_TEvEvent x368)) : Int)))
  (letO (IntKind.wrap IntKind.i64 ((↑(List.length (List.map enc_TEvEvent x368)) : Int) - 1)) fun x371 =>
  idxO (x368) (x371) fun x372 =>
  some ((TEvTrace.mk x368 x369 [] x372.Steps, 0)))
  (some ((TEvTrace.mk x368 x369 [] 0, 0))))
noncomputable def F_invigilatorref31_Cut (a0 : TLattice) (a1 : TEvTrace) (a2 : Int) : Option (TEvTrace × Int) :=
 Option.bind (F_invigilatorref31_asked (a0) (a2) ([a1])) fun x374 =>
  cond (!decide (x374 = 0))
  (some ((TEvTrace.mk [] [] [] 0, x374)))
  (Option.bind (F_invigilatorref31_seen (a0) (a1) (a2)) fun x376 =>
  Option.bind (F_invigilatorref31_log (a0) (a1) (a2)) fun x377 =>
  cond (decide (0 < (↑(List.length (List.map enc_TEvEvent x376)) : Int)))
  (letO (IntKind.wrap IntKind.i64 ((↑(List.length (List.map enc_TEvEvent x376)) : Int) - 1)) fun x379 =>
  idxO (x376) (x379) fun x380 =>
  some ((TEvTrace.mk x376 x377 [] x380.Steps, 0)))
  (some ((TEvTrace.mk x376 x377 [] 0, 0))))
noncomputable def F_invigilatorref29_SameLog (a0 : List TReEntry) (a1 : List TReEntry) : Option (Bool) :=
 Option.bind (
  lpO (fun (s386 : Int) =>
  cond (decide (s386 < (↑(List.length (List.map enc_TReEntry a0)) : Int)))
  (cond (decide (s386 < (↑(List.length (List.map enc_TReEntry a1)) : Int)))
  (idxO (a0) (s386) fun x394 =>
  idxO (a1) (s386) fun x395 =>
  cond (!(decide (x394.Site = x395.Site) && (decide (x394.Fold = x395.Fold) && (decide (x394.From = x395.From) && (decide (x394.Goal = x395.Goal) && (decide (x394.Cells = x395.Cells) && (decide (x394.Value.fst = x395.Value.fst) && (decide (x394.Value.snd = x395.Value.snd) && true) && true)))))))
  (some (Sum.inr (Sum.inr (false))))
  (letO (IntKind.wrap IntKind.i64 (s386 + 1)) fun x397 =>
  some (Sum.inl (x397))))
  (some (Sum.inr (Sum.inl (())))))
  (some (Sum.inr (Sum.inl (()))))) (0))
  (Sum.elim (fun (s384 : Unit) =>
  some (decide ((↑(List.length (List.map enc_TReEntry a0)) : Int) = (↑(List.length (List.map enc_TReEntry a1)) : Int)))) some)
noncomputable def F_invigilatorref24_SameSpace (a0 : List TWsVar) (a1 : List TWsVar) : Option (Bool) :=
 cond (!decide ((↑(List.length (List.map enc_TWsVar a0)) : Int) = (↑(List.length (List.map enc_TWsVar a1)) : Int)))
  (some (false))
  (Option.bind (
  lpO (fun (s403 : Int) =>
  cond (decide (s403 < (↑(List.length (List.map enc_TWsVar a0)) : Int)))
  (idxO (a0) (s403) fun x413 =>
  idxO (a1) (s403) fun x414 =>
  cond (!decide (x413.Name = x414.Name))
  (some (Sum.inr (Sum.inr (false))))
  (idxO (a0) (s403) fun x416 =>
  idxO (a1) (s403) fun x417 =>
  Option.bind (F_invigilatorref24_SameArray (x416.Value) (x417.Value)) fun x418 =>
  cond (!x418)
  (some (Sum.inr (Sum.inr (false))))
  (letO (IntKind.wrap IntKind.i64 (s403 + 1)) fun x420 =>
  some (Sum.inl (x420)))))
  (some (Sum.inr (Sum.inl (()))))) (0))
  (Sum.elim (fun (s401 : Unit) =>
  some (true)) some))
noncomputable def F_invigilatorref29_Same (a0 : TEvTrace) (a1 : TEvTrace) : Option (Bool) :=
 Option.bind (F_invigilatorref29_SameEvents (a0.Events) (a1.Events)) fun x382 =>
  cond (x382)
  (Option.bind (F_invigilatorref29_SameLog (a0.Log) (a1.Log)) fun x398 =>
  cond (x398)
  (Option.bind (F_invigilatorref24_SameSpace (a0.Vars) (a1.Vars)) fun x421 =>
  cond (x421)
  (some (decide (a0.Steps = a1.Steps)))
  (some (false)))
  (some (false)))
  (some (false))
noncomputable def F_invigilatorlaw31_ViewCompares (a0 : TLattice) (a1 : TEvTrace × TEvTrace) (a2 : Int) : Option (Bool) :=
 Option.bind (F_invigilatorlaw20_Large (a0)) fun x13 =>
  cond (x13)
  (some (true))
  (Option.bind (F_invigilatorlaw31_far (a1.fst)) fun x31 =>
  cond (x31)
  (some (true))
  (Option.bind (F_invigilatorlaw31_far (a1.snd)) fun x33 =>
  cond (x33)
  (some (true))
  (Option.bind (F_view_Alike (a0) (a1.fst) (a1.snd) (a2)) fun x100 =>
  Option.bind (F_invigilatorref31_Alike (a0) (a1.fst) (a1.snd) (a2)) fun x162 =>
  cond (!x100.fst == x162.fst)
  (some (false))
  (cond (!decide (x100.snd = x162.snd))
  (some (false))
  (Option.bind (F_view_Agree (a0) (a1.fst) (a1.snd) (a2)) fun x215 =>
  Option.bind (F_invigilatorref31_Agree (a0) (a1.fst) (a1.snd) (a2)) fun x260 =>
  cond (!x215.fst == x260.fst)
  (some (false))
  (cond (!decide (x215.snd = x260.snd))
  (some (false))
  (Option.bind (F_view_Differ (a0) (a1.fst) (a1.snd) (a2)) fun x282 =>
  Option.bind (F_invigilatorref31_Differ (a0) (a1.fst) (a1.snd) (a2)) fun x301 =>
  cond (!decide (x282.fst = x301.fst))
  (some (false))
  (cond (!decide (x282.snd = x301.snd))
  (some (false))
  (Option.bind (F_view_Blind (a0) (a1.fst) (a1.snd)) fun x323 =>
  Option.bind (F_invigilatorref31_Blind (a0) (a1.fst) (a1.snd)) fun x351 =>
  cond (!decide ((↑(List.length (List.map (SV.int IntKind.i64) x323.fst)) : Int) = (↑(List.length (List.map (SV.int IntKind.i64) x351.fst)) : Int)))
  (some (false))
  (cond (!decide (x323.snd = x351.snd))
  (some (false))
  (Option.bind (
  lpO (fun (s356 : Int) =>
  cond (decide (s356 < (↑(List.length (List.map (SV.int IntKind.i64) x323.fst)) : Int)))
  (idxO (x323.fst) (s356) fun x362 =>
  idxO (x351.fst) (s356) fun x363 =>
  cond (!decide (x362 = x363))
  (some (Sum.inr (Sum.inr (false))))
  (letO (IntKind.wrap IntKind.i64 (s356 + 1)) fun x365 =>
  some (Sum.inl (x365))))
  (some (Sum.inr (Sum.inl (()))))) (0))
  (Sum.elim (fun (s354 : Unit) =>
  Option.bind (F_view_Cut (a0) (a1.fst) (a2)) fun x373 =>
  Option.bind (F_invigilatorref31_Cut (a0) (a1.fst) (a2)) fun x381 =>
  Option.bind (F_invigilatorref29_Same (x373.fst) (x381.fst)) fun x423 =>
  cond (x423)
  (cond (decide (x373.snd = x381.snd))
  (some (true))
  (some (false)))
  (some (false))) some))))))))))))
end Go.Sx.O
namespace Go.Sx.O
open Go
theorem Large_spec (l : TLattice) : Tot (F_invigilatorlaw20_Large l) fun r => r = false → l.Names.length ≤ 20 ∧ l.Up.length ≤ 20 ∧ ∀ s ∈ l.Names, s.length ≤ 50 := by
  unfold F_invigilatorlaw20_Large
  simp only [tot_bind, List.length_map]
  refine Tot.count l.Names.length (fun k s => s = (k : Int) ∧ k ≤ 30 ∧ ∀ x ∈ l.Names.take k, x.length ≤ 50) ?_ ⟨rfl, by omega, by simp⟩
  rintro k _ hk ⟨rfl, h30, hall⟩
  simp only [tot_some, tot_cond, tot_let, tot_idx, Sum.elim_inl, Sum.elim_inr, decide_eq_true_eq, decide_eq_false_iff_not, Int.toNat_natCast]
  refine ⟨fun h1 => ⟨fun h2 => ⟨by omega, _, List.getElem?_eq_getElem (by omega), fun h3 => by simp, fun h3 => ?_⟩, fun h2 => ?_⟩, fun h1 => ?_⟩
  · rw [w64 (by omega) (by omega)]
    refine ⟨by omega, by omega, by omega, fun x hx => ?_⟩
    rw [List.take_add_one, List.getElem?_eq_getElem (by omega)] at hx
    rcases List.mem_append.1 hx with hx | hx
    · exact hall x hx
    · simp at hx; subst hx; omega
  · refine ⟨fun h => by simp, fun h hh => ?_⟩
    simp at hh
    omega
  · refine ⟨fun h => by simp, fun h hh => ?_⟩
    simp at hh
    refine ⟨by omega, by omega, ?_⟩
    rw [List.take_of_length_le (by omega)] at hall
    exact hall
theorem far_spec (t : TEvTrace) : Tot (F_invigilatorlaw31_far t) fun r => r = false → t.Events.length ≤ 60 ∧ t.Log.length ≤ 60 ∧ ∀ v ∈ t.Events, v.Channel.length ≤ 100 ∧ v.Value.Cells.length ≤ 450 := by
  unfold F_invigilatorlaw31_far
  simp only [tot_bind, List.length_map]
  refine Tot.count t.Events.length (fun k s => s = (k : Int) ∧ k ≤ 70 ∧ ∀ v ∈ t.Events.take k, v.Channel.length ≤ 100 ∧ v.Value.Cells.length ≤ 450) ?_ ⟨rfl, by omega, by simp⟩
  rintro k _ hk ⟨rfl, h30, hall⟩
  simp only [tot_some, tot_cond, tot_let, tot_idx, Sum.elim_inl, Sum.elim_inr, decide_eq_true_eq, decide_eq_false_iff_not, Int.toNat_natCast]
  refine ⟨fun h1 => ⟨fun h2 => ⟨by omega, _, List.getElem?_eq_getElem (by omega), fun h3 => by simp, fun h3 => ⟨by omega, _, List.getElem?_eq_getElem (by omega), fun h4 => by simp, fun h4 => ?_⟩⟩, fun h2 => ?_⟩, fun h1 => ?_⟩
  · rw [w64 (by omega) (by omega)]
    refine ⟨by omega, by omega, by omega, fun x hx => ?_⟩
    rw [List.take_add_one, List.getElem?_eq_getElem (by omega)] at hx
    rcases List.mem_append.1 hx with hx | hx
    · exact hall x hx
    · simp at hx; subst hx; omega
  · refine ⟨fun h => by simp, fun h hh => ?_⟩
    simp at hh
    omega
  · refine ⟨fun h => by simp, fun h hh => ?_⟩
    simp at hh
    refine ⟨by omega, by omega, ?_⟩
    rw [List.take_of_length_le (by omega)] at hall
    exact hall
theorem find_loop {α τ : Type} {l : List α} (p : α → Bool) {step : Int → Option (Int ⊕ τ)} {d : τ} {g : Int → τ}
    (h1 : ∀ (k : Nat) x, l[k]? = some x → step (k : Int) = if p x then some (.inr (g k)) else some (.inl ((k : Int) + 1)))
    (h2 : step (l.length : Int) = some (.inr d)) :
    lpO step 0 = (match l.findIdx? p with | some i => some (g i) | none => some d) := by
  have key : ∀ j k, j + k = l.length → lpO step (k : Int) = (match (l.drop k).findIdx? p with | some i => some (g ((k + i : Nat) : Int)) | none => some d) := by
    intro j
    induction j with
    | zero =>
      intro k hk
      rw [lpO_eq]
      have : k = l.length := by omega
      subst this
      rw [h2]
      simp
    | succ j ih =>
      intro k hk
      have hlt : k < l.length := by omega
      rw [lpO_eq, h1 k _ (List.getElem?_eq_getElem hlt), List.drop_eq_getElem_cons hlt, List.findIdx?_cons]
      split
      · simp
      · have := ih (k + 1) (by omega)
        simp only [Option.bind_some, Sum.elim_inl]
        push_cast at this
        rw [this]
        cases (l.drop (k + 1)).findIdx? p with
        | none => rfl
        | some i => simp; congr 1; omega
  have := key l.length 0 (by omega)
  simpa using this
end Go.Sx.O
namespace Go.Sx.O
open Go
theorem dropWhile_nil {α : Type} {p : α → Bool} : ∀ {l : List α}, l.dropWhile p = [] ↔ ∀ x ∈ l, p x = true
  | [] => by simp
  | a :: l => by
    rw [List.dropWhile_cons]
    cases h : p a with
    | true => simp [h, dropWhile_nil (l := l)]
    | false => simp [h]
theorem Index_strings_spec (l : List (List UInt8)) (s : List UInt8) (hl : l.length ≤ 1000000000) :
    F_slices_Index___string_string_ l s = some (match l.findIdx? (fun x => decide (s = x)) with | some i => (i : Int) | none => -1) := by
  unfold F_slices_Index___string_string_
  rw [find_loop (l := l) (fun x => decide (s = x)) (d := .inl ()) (g := .inr) ?_ ?_]
  · cases l.findIdx? (fun x => decide (s = x)) <;> rfl
  · intro k x hx
    have hlt : k < l.length := by
      by_cases h : k < l.length
      · exact h
      · rw [List.getElem?_eq_none (by omega)] at hx; cases hx
    simp only [List.length_map, Int.ofNat_lt, hlt, decide_true, cond_true, idxO, Int.toNat_natCast, hx, Option.bind_some, letO, Int.natCast_nonneg, if_true]
    rw [w64 (by omega) (by omega)]
    cases decide (s = x) <;> rfl
  · simp
theorem Contains_strings_spec (l : List (List UInt8)) (s : List UInt8) (hl : l.length ≤ 1000000000) :
    F_slices_Contains___string_string_ l s = some (decide (s ∈ l)) := by
  unfold F_slices_Contains___string_string_
  rw [Index_strings_spec l s hl]
  cases h : l.findIdx? (fun x => decide (s = x)) with
  | none =>
    have := List.findIdx?_eq_none_iff.1 h
    simp only [Option.bind_some]
    congr 1
    have hn : s ∉ l := fun hm => by have := this s hm; simp at this
    simp [hn]
  | some i =>
    have := List.findIdx?_eq_some_iff_getElem.1 h
    obtain ⟨hi, h1, _⟩ := this
    have hm : s ∈ l := by
      have e : s = l[i] := by simpa using h1
      rw [e]; exact List.getElem_mem hi
    simp [hm]
def inSet (set : List Bool) (c : UInt8) : Bool := set.getD c.toNat false
theorem contains_spec (set : List Bool) (c : UInt8) (h : set.length = 256) : F__Pstrings_asciiSet__contains set (c.toNat : Int) = some (inSet set c) := by
  unfold F__Pstrings_asciiSet__contains
  have hc : c.toNat < 256 := c.toNat_lt
  have h2 : set[c.toNat]? = some (set[c.toNat]'(by omega)) := List.getElem?_eq_getElem _
  have h3 : (c.toNat : Int) < 256 := by omega
  simp [sideO, idxO, inSet, h2, h3]
def trimR (p : UInt8 → Bool) (s : List UInt8) : List UInt8 := (s.reverse.dropWhile p).reverse
theorem trimR_all {p : UInt8 → Bool} {s : List UInt8} : (trimR p s).dropWhile p = [] ↔ ∀ c ∈ s, p c = true := by
  unfold trimR
  constructor
  · intro h c hc
    have h1 : ∀ c ∈ (s.reverse.dropWhile p).reverse, p c = true := dropWhile_nil.1 h
    have h2 : s.reverse.dropWhile p = [] := by
      cases e : s.reverse.dropWhile p with
      | nil => rfl
      | cons a r =>
        have := List.head?_dropWhile_not p s.reverse
        rw [e] at this
        simp at this
        rw [e] at h1
        rw [h1 a (by simp)] at this
        cases this
    exact dropWhile_nil.1 h2 c (by simpa using hc)
  · intro h
    have : s.reverse.dropWhile p = [] := dropWhile_nil.2 fun c hc => h c (by simpa using hc)
    rw [this]; rfl
theorem trimRightASCII_spec (s : List UInt8) (set : List Bool) (h : set.length = 256) (hs : s.length ≤ 1000000000) : F_strings_trimRightASCII s set = some (trimR (inSet set) s) := by
  unfold F_strings_trimRightASCII
  apply Tot.eq
  simp only [tot_bind]
  refine Tot.loop (fun s => s.length) (fun r => r.length ≤ 1000000000 ∧ trimR (inSet set) r = trimR (inSet set) s) ?_ ⟨hs, rfl⟩
  rintro r ⟨hr, he⟩
  simp only [tot_some, tot_cond, tot_let, tot_idx, tot_side, tot_bind, Sum.elim_inl, Sum.elim_inr, decide_eq_true_eq, decide_eq_false_iff_not]
  refine ⟨fun h1 => ?_, fun h1 => ?_⟩
  · have h0 : r ≠ [] := by rintro rfl; simp at h1
    rw [w64 (by omega) (by omega)]
    have e1 : ((r.length : Int) - 1).toNat = r.length - 1 := by omega
    rw [e1]
    refine ⟨by omega, _, List.getElem?_eq_getElem (by omega), ?_⟩
    rw [contains_spec set _ h]
    simp only [tot_some, Bool.not_eq_true', Bool.not_eq_false']
    have hr2 : r = r.dropLast ++ [r[r.length - 1]'(by omega)] := by
      rw [← List.getLast_eq_getElem h0]; exact (List.dropLast_concat_getLast h0).symm
    refine ⟨fun h2 => ?_, fun h2 => ⟨⟨by omega, by omega⟩, ⟨by simp; omega, ?_⟩, by simp; omega⟩⟩
    · rw [← he]
      unfold trimR
      rw [hr2]
      simp [h2]
    · rw [← he]
      simp only [Int.toNat_zero, List.drop_zero]
      rw [← List.dropLast_eq_take]
      conv => rhs; rw [hr2]
      unfold trimR
      simp [h2]
  · have h0 : r = [] := List.length_eq_zero_iff.1 (by omega)
    rw [← he, h0]; rfl
theorem trimLeftASCII_spec (s : List UInt8) (set : List Bool) (h : set.length = 256) (hs : s.length ≤ 1000000000) : F_strings_trimLeftASCII s set = some (s.dropWhile (inSet set)) := by
  unfold F_strings_trimLeftASCII
  apply Tot.eq
  simp only [tot_bind]
  refine Tot.loop (fun s => s.length) (fun r => r.length ≤ 1000000000 ∧ r.dropWhile (inSet set) = s.dropWhile (inSet set)) ?_ ⟨hs, rfl⟩
  rintro r ⟨hr, he⟩
  simp only [tot_some, tot_cond, tot_let, tot_idx, tot_side, tot_bind, Sum.elim_inl, Sum.elim_inr, decide_eq_true_eq, decide_eq_false_iff_not]
  cases r with
  | nil => simp [← he]
  | cons a r =>
    refine ⟨fun h1 => ⟨by omega, a, rfl, ?_⟩, fun h1 => absurd h1 (by simp)⟩
    rw [contains_spec set _ h]
    simp only [tot_some, Bool.not_eq_true', Bool.not_eq_false']
    refine ⟨fun h2 => ?_, fun h2 => ⟨by simp; omega, ⟨?_, ?_⟩, ?_⟩⟩
    · rw [← he]; simp [h2]
    · simp at hr ⊢; omega
    · rw [← he]; simp [h2]
    · simp
end Go.Sx.O
namespace Go.Sx.O
open Go
theorem inSet_set {set : List Bool} {c d : UInt8} (h : set.length = 256) : inSet (set.set c.toNat true) d = (decide (d = c) || inSet set d) := by
  have hc : c.toNat < 256 := c.toNat_lt
  unfold inSet
  rw [List.getD_eq_getElem?_getD, List.getD_eq_getElem?_getD, List.getElem?_set]
  by_cases e : c.toNat = d.toNat
  · have : d = c := (UInt8.toNat_inj.1 e).symm
    subst this
    simp [h, hc]
  · have : d ≠ c := fun e' => e (by rw [e'])
    simp [e, this]
theorem makeASCIISet_spec (cs : List UInt8) (h : ∀ c ∈ cs, c.toNat < 128) (hs : cs.length ≤ 1000000000) : Tot (F_strings_makeASCIISet cs) fun r => r.2 = true ∧ r.1.length = 256 ∧ ∀ d, inSet r.1 d = decide (d ∈ cs) := by
  unfold F_strings_makeASCIISet
  simp only [tot_bind]
  refine Tot.count cs.length (fun k s => s.1 = (k : Int) ∧ s.2.length = 256 ∧ ∀ d, inSet s.2 d = decide (d ∈ cs.take k)) ?_ ⟨rfl, List.length_replicate, fun d => ?_⟩
  · rintro k ⟨i, set⟩ hk ⟨h0, h1, h2⟩
    simp only at h0 h1 h2
    subst h0
    simp only [tot_some, tot_cond, tot_let, tot_idx, tot_side, Sum.elim_inl, Sum.elim_inr, decide_eq_true_eq, decide_eq_false_iff_not, Int.toNat_natCast]
    refine ⟨fun hlt => ⟨by omega, _, List.getElem?_eq_getElem (by omega), fun h3 => ?_, fun h3 => ?_⟩, fun hlt => ?_⟩
    · have := h cs[k] (List.getElem_mem _)
      omega
    · have hc : cs[k].toNat < 256 := (cs[k]'(by omega)).toNat_lt
      refine ⟨⟨by omega, by omega⟩, by omega, _, List.getElem?_eq_getElem (by omega), ?_⟩
      rw [w64 (by omega) (by omega)]
      refine ⟨by omega, by omega, by simpa using h1, fun d => ?_⟩
      have hm : d ∈ cs.take (k + 1) ↔ d ∈ cs.take k ∨ d = cs[k] := by
        rw [List.take_add_one, List.getElem?_eq_getElem (by omega), List.mem_append]
        simp
      rw [inSet_set h1, h2, Bool.eq_iff_iff]
      simp only [Bool.or_eq_true, decide_eq_true_eq, hm]
      exact or_comm
    · refine ⟨trivial, h1, fun d => ?_⟩
      rw [h2, List.take_of_length_le (by omega)]
  · unfold inSet
    rw [List.getD_eq_getElem?_getD, List.getElem?_replicate]
    split <;> simp
theorem Trim_spec (s cs : List UInt8) (h : ∀ c ∈ cs, c.toNat < 128) (h1 : 2 ≤ cs.length) (hs : cs.length ≤ 1000000000) (hl : s.length ≤ 1000000000) :
    F_strings_Trim s cs = some ((trimR (fun c => decide (c ∈ cs)) s).dropWhile (fun c => decide (c ∈ cs))) := by
  unfold F_strings_Trim
  have e0 : (ByteArray.mk #[]).data.toList = [] := rfl
  simp only [e0]
  cases s with
  | nil => simp [trimR]
  | cons a r =>
    have e1 : decide (a :: r = []) = false := by simp
    have e2 : decide (cs = []) = false := by cases cs <;> simp at h1 ⊢
    have e3 : decide ((cs.length : Int) = 1) = false := by simp; omega
    simp only [e1, e2, e3, cond_false]
    obtain ⟨x, hx, hx1, hx2, hx3⟩ := makeASCIISet_spec cs h hs
    have e4 : inSet x.1 = fun c => decide (c ∈ cs) := funext hx3
    rw [hx]
    simp only [Option.bind_some, hx1, cond_true]
    rw [trimRightASCII_spec _ _ hx2 hl]
    simp only [Option.bind_some]
    rw [trimLeftASCII_spec _ _ hx2 (by
      refine Nat.le_trans ?_ hl
      unfold trimR
      rw [List.length_reverse]
      refine Nat.le_trans (List.dropWhile_sublist _).length_le (by simp))]
    rw [e4]
    rfl
def wordSet : List UInt8 := [97, 98, 99, 100, 101, 102, 103, 104, 105, 106, 107, 108, 109, 110, 111, 112, 113, 114, 115, 116, 117, 118, 119, 120, 121, 122, 48, 49, 50, 51, 52, 53, 54, 55, 56, 57, 45]
def wname (s : List UInt8) : Bool := decide (s.length ≤ 16) && (match s with | [] => false | c :: _ => decide (97 ≤ c.toNat) && decide (c.toNat ≤ 122)) && s.all fun c => decide (c ∈ wordSet)
theorem Name_spec (s : List UInt8) (hl : s.length ≤ 1000000000) : F_words_Name s = some (wname s) := by
  unfold F_words_Name
  have e0 : (ByteArray.mk #[]).data.toList = [] := rfl
  simp only [e0]
  rw [Trim_spec s _ (by decide) (by decide) (by decide) hl]
  cases s with
  | nil => rfl
  | cons a r =>
    have e1 : decide (a :: r = []) = false := by simp
    simp only [e1, cond_false, Option.bind_some]
    have e5 : idxO (a :: r) 0 = fun f => (f a : Option Bool) := rfl
    simp only [e5]
    unfold wname
    by_cases h1 : (16 : Int) < ((a :: r).length : Int)
    · have : ¬ (a :: r).length ≤ 16 := by omega
      simp only [h1, decide_true, cond_true, this, decide_false, Bool.false_and]
    · have h1' : (a :: r).length ≤ 16 := by omega
      simp only [h1, decide_false, cond_false, h1', decide_true, Bool.true_and]
      by_cases h2 : (a.toNat : Int) < 97
      · have : ¬ 97 ≤ a.toNat := by omega
        simp only [h2, decide_true, cond_true, this, decide_false, Bool.false_and]
      · have h2' : 97 ≤ a.toNat := by omega
        simp only [h2, decide_false, cond_false, h2', decide_true, Bool.true_and]
        by_cases h3 : (122 : Int) < (a.toNat : Int)
        · have : ¬ a.toNat ≤ 122 := by omega
          simp only [h3, decide_true, cond_true, this, decide_false, Bool.false_and]
        · have h3' : a.toNat ≤ 122 := by omega
          simp only [h3, decide_false, cond_false, h3', decide_true, Bool.true_and]
          congr 1
          rw [Bool.eq_iff_iff, decide_eq_true_eq, trimR_all, List.all_eq_true]
          rfl
end Go.Sx.O
namespace Go.Sx.O
open Go
theorem bit_at : ∀ u : Fin 256, ∀ b : Fin 9, bits .and .u8 (Int.fdiv (u.val : Int) (2 ^ min b.val (IntKind.bits .u8))) 1 = if Nat.testBit u b then 1 else 0 := by decide +kernel
theorem bitAt {u : Int} {b : Nat} (h0 : 0 ≤ u) (h1 : u < 256) (hb : b ≤ 8) : bits .and .u8 (Int.fdiv u (2 ^ min b (IntKind.bits .u8))) 1 = if u.toNat.testBit b then 1 else 0 := by
  have := bit_at ⟨u.toNat, by omega⟩ ⟨b, by omega⟩
  simp only at this
  rw [Int.toNat_of_nonneg h0] at this
  exact this
theorem ofInt_u8 {u : Int} (h0 : 0 ≤ u) : BitVec.ofInt 8 u = BitVec.ofNat 8 u.toNat := by
  conv => lhs; rw [← Int.toNat_of_nonneg h0]
  exact BitVec.ofInt_natCast 8 u.toNat
theorem wrap_u8 {n : Nat} (h : n < 256) : IntKind.wrap .u8 (n : Int) = n := by
  simp only [IntKind.wrap, IntKind.signed, IntKind.bits, Bool.false_and]
  have h3 : (2 : Int) ^ 8 = 256 := by decide
  simp only [h3]
  have : (n : Int) % 256 = n := by omega
  simp [this]
theorem bits_and {a b : Int} (ha : 0 ≤ a) (ha' : a < 256) (hb : 0 ≤ b) (hb' : b < 256) : bits .and .u8 a b = ((a.toNat &&& b.toNat : Nat) : Int) := by
  have e : bits .and .u8 a b = IntKind.wrap .u8 ((BitVec.ofInt 8 a &&& BitVec.ofInt 8 b).toNat : Int) := rfl
  rw [e, ofInt_u8 ha, ofInt_u8 hb]
  rw [wrap_u8 (BitVec.isLt _)]
  rw [BitVec.toNat_and, BitVec.toNat_ofNat, BitVec.toNat_ofNat, Nat.mod_eq_of_lt (by omega), Nat.mod_eq_of_lt (by omega)]
theorem bits_or {a b : Int} (ha : 0 ≤ a) (ha' : a < 256) (hb : 0 ≤ b) (hb' : b < 256) : bits .or .u8 a b = ((a.toNat ||| b.toNat : Nat) : Int) := by
  have e : bits .or .u8 a b = IntKind.wrap .u8 ((BitVec.ofInt 8 a ||| BitVec.ofInt 8 b).toNat : Int) := rfl
  rw [e, ofInt_u8 ha, ofInt_u8 hb]
  rw [wrap_u8 (BitVec.isLt _)]
  rw [BitVec.toNat_or, BitVec.toNat_ofNat, BitVec.toNat_ofNat, Nat.mod_eq_of_lt (by omega), Nat.mod_eq_of_lt (by omega)]
theorem bits_andNot {a b : Int} (ha : 0 ≤ a) (ha' : a < 256) (hb : 0 ≤ b) (hb' : b < 256) : bits .andNot .u8 a b = 0 ↔ ∀ i, a.toNat.testBit i = true → b.toNat.testBit i = true := by
  have e : bits .andNot .u8 a b = IntKind.wrap .u8 ((BitVec.ofInt 8 a &&& ~~~BitVec.ofInt 8 b).toNat : Int) := rfl
  rw [e, ofInt_u8 ha, ofInt_u8 hb]
  rw [wrap_u8 (BitVec.isLt _)]
  have hbit : ∀ i, (BitVec.ofNat 8 a.toNat &&& ~~~BitVec.ofNat 8 b.toNat).getLsbD i = (decide (i < 8) && a.toNat.testBit i && !(b.toNat.testBit i)) := by
    intro i
    rw [BitVec.getLsbD_and, BitVec.getLsbD_not, BitVec.getLsbD_ofNat, BitVec.getLsbD_ofNat]
    cases decide (i < 8) <;> simp
  have h8 : ∀ i, a.toNat.testBit i = true → i < 8 := by
    intro i hi
    rcases Nat.lt_or_ge i 8 with g | g
    · exact g
    · rw [Nat.testBit_lt_two_pow (Nat.lt_of_lt_of_le (show a.toNat < 2 ^ 8 by omega) (Nat.pow_le_pow_right (by omega) g))] at hi
      cases hi
  constructor
  · intro h i hi
    have h0 : (BitVec.ofNat 8 a.toNat &&& ~~~BitVec.ofNat 8 b.toNat).toNat = 0 := Int.ofNat_eq_zero.1 h
    have h1 := hbit i
    rw [← BitVec.testBit_toNat, h0, Nat.zero_testBit] at h1
    have := h8 i hi
    simp [this, hi] at h1
    exact h1
  · intro h
    have h1 : (BitVec.ofNat 8 a.toNat &&& ~~~BitVec.ofNat 8 b.toNat).toNat = 0 := by
      apply Nat.eq_of_testBit_eq
      intro i
      rw [BitVec.testBit_toNat, hbit i, Nat.zero_testBit]
      cases hi : a.toNat.testBit i with
      | false => simp
      | true => simp [h i hi]
    rw [h1]; rfl
theorem and_lt {a b : Nat} (h : a < 256) : a &&& b < 256 := Nat.lt_of_le_of_lt Nat.and_le_left h
theorem or_lt {a b : Nat} (h : a < 256) (k : b < 256) : a ||| b < 256 := Nat.or_lt_two_pow (n := 8) h k
theorem named_total (ns : List (List UInt8)) (h : ns.length ≤ 20) (hn : ∀ s ∈ ns, s.length ≤ 50) : Tot (F_lattice_named ns) fun r => r.2 = 0 → 1 ≤ ns.length ∧ ns.length ≤ 8 := by
  unfold F_lattice_named
  simp only [tot_cond, tot_some, tot_bind, List.length_map, decide_eq_true_eq, decide_eq_false_iff_not]
  refine ⟨fun _ h => absurd h (by decide), fun h1 => ⟨fun _ h => absurd h (by decide), fun h2 => ?_⟩⟩
  refine Tot.count ns.length (fun k s => s = (k : Int)) ?_ rfl
  rintro k _ hk rfl
  simp only [tot_some, tot_cond, tot_let, tot_idx, tot_side, tot_bind, Sum.elim_inl, Sum.elim_inr, decide_eq_true_eq, decide_eq_false_iff_not, Int.toNat_natCast]
  refine ⟨fun hlt => ⟨by omega, _, List.getElem?_eq_getElem (by omega), ?_⟩, fun hlt => fun _ => by omega⟩
  rw [Name_spec _ (by have := hn ns[k] (List.getElem_mem _); omega), tot_some]
  refine ⟨fun _ h => absurd h (by decide), fun _ => ⟨⟨by omega, by omega⟩, ?_⟩⟩
  rw [Contains_strings_spec _ _ (by simp; omega), tot_some]
  refine ⟨fun _ h => absurd h (by decide), fun _ => ?_⟩
  rw [w64 (by omega) (by omega)]
  exact ⟨by omega, by omega⟩
end Go.Sx.O
namespace Go.Sx.O
open Go
def U8s (l : List Int) : Prop := ∀ x ∈ l, 0 ≤ x ∧ x < 256
theorem U8s.get {l : List Int} (h : U8s l) {i : Nat} {x : Int} (hx : l[i]? = some x) : 0 ≤ x ∧ x < 256 := h x (List.mem_of_getElem? hx)
theorem U8s.set {l : List Int} (h : U8s l) {i : Nat} {x : Int} (h0 : 0 ≤ x) (h1 : x < 256) : U8s (l.set i x) := by
  intro y hy
  rcases List.mem_or_eq_of_mem_set hy with g | g
  · exact h y g
  · subst g; exact ⟨h0, h1⟩
theorem mod_u8 {e : Int} : 0 ≤ IntKind.wrap .u8 e ∧ IntKind.wrap .u8 e < 256 := by
  simp only [IntKind.wrap, IntKind.signed, IntKind.bits, Bool.false_and]
  have h3 : (2 : Int) ^ 8 = 256 := by decide
  simp only [h3]
  refine ⟨?_, ?_⟩ <;> simp <;> omega
theorem orU {a b : Int} (ha : 0 ≤ a) (ha' : a < 256) (hb : 0 ≤ b) (hb' : b < 256) : 0 ≤ bits .or .u8 a b ∧ bits .or .u8 a b < 256 := by
  rw [bits_or ha ha' hb hb']
  have := or_lt (a := a.toNat) (b := b.toNat) (by omega) (by omega)
  omega
theorem get_lt {α : Type} {l : List α} {i : Nat} (h : i < l.length) : ∃ x, l[i]? = some x := ⟨_, List.getElem?_eq_getElem h⟩
theorem of_total (l : TLattice) (hu : U8s l.Up) (hn : l.Names.length ≤ 8) (hl : l.Up.length ≤ 8) :
    Tot (F_lattice_of l) fun o => o.n_ = l.Names.length ∧ o.up_.length = 8 ∧ o.down_.length = 8 ∧ U8s o.up_ ∧ U8s o.down_ := by
  unfold F_lattice_of
  simp only [tot_bind, List.length_map]
  refine Tot.count l.Up.length (fun k s => s.1 = (k : Int) ∧ s.2.1.length = 8 ∧ s.2.2.length = 8 ∧ U8s s.2.1 ∧ U8s s.2.2) ?_ ⟨rfl, rfl, rfl, by intro x hx; simp at hx; omega, by intro x hx; simp at hx; omega⟩
  rintro k ⟨i, up, down⟩ hk ⟨h0, h1, h2, h3, h4⟩
  simp only at h0 h1 h2 h3 h4
  subst h0
  simp only [tot_some, tot_cond, tot_let, tot_idx, tot_side, tot_bind, Sum.elim_inl, Sum.elim_inr, decide_eq_true_eq, decide_eq_false_iff_not, Int.toNat_natCast]
  refine ⟨fun hlt => ?_, fun hlt => ⟨trivial, h1, h2, h3, h4⟩⟩
  obtain ⟨x, hx⟩ := get_lt (l := l.Up) (i := k) (by omega)
  obtain ⟨y, hy⟩ := get_lt (l := up) (i := k) (by omega)
  refine ⟨by omega, x, hx, ⟨by omega, by omega⟩, by omega, y, hy, ?_⟩
  have hx' := hu.get hx
  refine Tot.count l.Names.length (fun j s => s.1 = (j : Int) ∧ s.2.length = 8 ∧ U8s s.2) ?_ ⟨rfl, h2, h4⟩
  rintro j ⟨i', d⟩ hj ⟨g0, g1, g2⟩
  simp only at g0 g1 g2
  subst g0
  simp only [tot_some, tot_cond, tot_let, tot_idx, tot_side, tot_bind, Sum.elim_inl, Sum.elim_inr, decide_eq_true_eq, decide_eq_false_iff_not, Int.toNat_natCast]
  refine ⟨fun hlt' => ?_, fun _ => ?_⟩
  · obtain ⟨z, hz⟩ := get_lt (l := d) (i := j) (by omega)
    have hz' := g2.get hz
    rw [w64 (by omega) (by omega)]
    refine ⟨⟨by omega, by omega⟩, by omega, z, hz, by omega, by omega, ⟨by omega, by omega⟩, by omega, z, hz, by omega, by omega, by simpa using g1, ?_⟩
    have hw := mod_u8 (e := bits .and .u8 (Int.fdiv x (2 ^ min j (IntKind.bits .u8))) 1 * 2 ^ min k (IntKind.bits .u8))
    have ho := orU hz'.1 hz'.2 hw.1 hw.2
    exact g2.set ho.1 ho.2
  · rw [w64 (by omega) (by omega)]
    exact ⟨by omega, by omega, by simpa using h1, g1, h3.set hx'.1 hx'.2, g2⟩
theorem bound_ups_total (m : List Int) (n : Nat) (a b : Nat) (hm : m.length = 8) (hu : U8s m) (hn : n ≤ 8) (ha : a < n) (hb : b < n) : Tot (F_lattice_bound_lattice_ups_ m n a b) fun _ => True := by
  unfold F_lattice_bound_lattice_ups_
  obtain ⟨x, hx⟩ := get_lt (l := m) (i := a) (by omega)
  obtain ⟨y, hy⟩ := get_lt (l := m) (i := b) (by omega)
  simp only [tot_some, tot_cond, tot_let, tot_idx, tot_side, tot_bind, Int.toNat_natCast]
  refine ⟨⟨by omega, by omega⟩, by omega, x, hx, ⟨by omega, by omega⟩, by omega, y, hy, ?_⟩
  refine Tot.count n (fun k s => s = (k : Int)) ?_ rfl
  rintro k _ hk rfl
  simp only [tot_some, tot_cond, tot_let, tot_idx, tot_side, tot_bind, Sum.elim_inl, Sum.elim_inr, decide_eq_true_eq, decide_eq_false_iff_not, Int.toNat_natCast]
  refine ⟨fun hlt => ⟨by omega, fun _ => ?_, fun _ => ?_⟩, fun _ => trivial⟩
  · obtain ⟨z, hz⟩ := get_lt (l := m) (i := k) (by omega)
    rw [w64 (by omega) (by omega)]
    exact ⟨⟨by omega, by omega⟩, by omega, z, hz, fun _ => trivial, fun _ => ⟨by omega, by omega⟩⟩
  · rw [w64 (by omega) (by omega)]
    exact ⟨by omega, by omega⟩
theorem bound_downs_total (m : List Int) (n : Nat) (a b : Nat) (hm : m.length = 8) (hu : U8s m) (hn : n ≤ 8) (ha : a < n) (hb : b < n) : Tot (F_lattice_bound_lattice_downs_ m n a b) fun _ => True := bound_ups_total m n a b hm hu hn ha hb
theorem Len8_total (x : Int) (h0 : 0 ≤ x) (h1 : x < 256) : Tot (F_math_bits_Len8 x) fun _ => True := by
  unfold F_math_bits_Len8
  rw [tot_idx]
  refine ⟨h0, ?_⟩
  have key : ∀ l : List UInt8, l.length = 256 → ∃ y, l[x.toNat]? = some y ∧ Tot (letO (IntKind.wrap .i64 (y.toNat : Int)) fun z => some z) fun _ => True := by
    intro l hl
    obtain ⟨y, hy⟩ := get_lt (l := l) (i := x.toNat) (by omega)
    exact ⟨y, hy, .mk trivial⟩
  exact key _ (by decide +kernel)
def up (l : TLattice) (a b : Nat) : Bool := (l.Up.getD a 0).toNat.testBit b
def rowOK (l : TLattice) (a b : Nat) : Prop := up l a b = true → (b ≠ a → up l b a = false) ∧ ∀ i, i < l.Names.length → up l b i = true → up l a i = true
structure LatOK (l : TLattice) : Prop where
  pos : 1 ≤ l.Names.length
  le : l.Names.length ≤ 8
  len : l.Up.length = l.Names.length
  u8 : U8s l.Up
  self : ∀ a, a < l.Names.length → up l a a = true
  row : ∀ a, a < l.Names.length → ∀ b, b < l.Names.length → rowOK l a b
theorem up_of {l : TLattice} {a : Nat} {x : Int} (h : l.Up[a]? = some x) (b : Nat) : up l a b = x.toNat.testBit b := by
  unfold up; rw [List.getD_eq_getElem?_getD, h]; rfl
theorem mask_bit (n : Nat) (h : n ≤ 8) (i : Nat) : (IntKind.wrap .u8 (IntKind.wrap .u8 (1 * 2 ^ min n (IntKind.bits .u8)) - 1)).toNat.testBit i = decide (i < n) := by
  have key : ∀ n : Fin 9, (IntKind.wrap .u8 (IntKind.wrap .u8 (1 * 2 ^ min n.val (IntKind.bits .u8)) - 1)).toNat = 2 ^ n.val - 1 := by decide +kernel
  rw [key ⟨n, by omega⟩]
  exact Nat.testBit_two_pow_sub_one n i
theorem Check_lat (l : TLattice) (hu : U8s l.Up) (hn : l.Names.length ≤ 20) (hs : ∀ s ∈ l.Names, s.length ≤ 50) : Tot (F_lattice_Check l) fun r => r.2 = 0 → LatOK l := by
  unfold F_lattice_Check
  simp only [tot_bind, List.length_map]
  refine (named_total l.Names hn hs).mono fun x53 h53 => ?_
  simp only [tot_cond, tot_some, Bool.not_eq_true', Bool.not_eq_false', decide_eq_true_eq, decide_eq_false_iff_not]
  refine ⟨fun h h' => absurd h' h, fun h => ⟨fun _ h' => absurd h' (by decide), fun hlen => ?_⟩⟩
  obtain ⟨p1, p8⟩ := h53 h
  have hlen' : l.Up.length = l.Names.length := by omega
  rw [tot_side, tot_let, tot_let, tot_bind]
  refine ⟨by omega, ?_⟩
  rw [Int.toNat_natCast]
  have hmask := mask_bit l.Names.length p8
  have hm0 := mod_u8 (e := IntKind.wrap .u8 (1 * 2 ^ min l.Names.length (IntKind.bits .u8)) - 1)
  revert hmask hm0
  generalize IntKind.wrap .u8 (IntKind.wrap .u8 (1 * 2 ^ min l.Names.length (IntKind.bits .u8)) - 1) = mask
  intro hmask hm0
  refine Tot.count l.Names.length (fun k s => s = (k : Int) ∧ (∀ a, a < k → up l a a = true) ∧ ∀ a, a < k → ∀ b, b < l.Names.length → rowOK l a b) ?_ ⟨rfl, fun a ha => absurd ha (by omega), fun a ha => absurd ha (by omega)⟩
  rintro k _ hk ⟨rfl, hself, hrow⟩
  simp only [tot_cond, tot_some, tot_let, Sum.elim_inl, Sum.elim_inr, decide_eq_true_eq, decide_eq_false_iff_not]
  refine ⟨fun hlt => ?_, fun hlt => ?_⟩
  · -- a round
    simp only [tot_idx, Int.toNat_natCast]
    obtain ⟨x, hx⟩ := get_lt (l := l.Up) (i := k) (by omega)
    have hx' := hu.get hx
    refine ⟨by omega, x, hx, ?_⟩
    rw [tot_bind]
    refine (Len8_total x hx'.1 hx'.2).mono fun x91 _ => ?_
    simp only [tot_cond, tot_some, tot_side, Sum.elim_inl, Sum.elim_inr, decide_eq_true_eq, decide_eq_false_iff_not, Int.toNat_natCast]
    refine ⟨fun _ h' => absurd h' (by decide), fun _ => ⟨by omega, fun _ h' => absurd h' (by decide), fun hs => ?_⟩⟩
    rw [bitAt hx'.1 hx'.2 (by omega), ← up_of hx] at hs
    have hkk : up l k k = true := by
      cases e : up l k k with
      | true => rfl
      | false => rw [e] at hs; simp at hs
    rw [tot_bind]
    refine Tot.count l.Names.length (fun j s => s = (j : Int) ∧ ∀ b, b < j → rowOK l k b) ?_ ⟨rfl, fun b hb => absurd hb (by omega)⟩
    rintro j _ hj ⟨rfl, hr⟩
    have fin : (∀ b, b < l.Names.length → rowOK l k b) → k < l.Names.length ∧ IntKind.wrap .i64 ((k : Int) + 1) = ((k + 1 : Nat) : Int) ∧ (∀ a, a < k + 1 → up l a a = true) ∧ ∀ a, a < k + 1 → ∀ b, b < l.Names.length → rowOK l a b := by
      intro hall
      rw [w64 (by omega) (by omega)]
      refine ⟨by omega, by omega, fun a ha => ?_, fun a ha => ?_⟩
      · rcases Nat.lt_or_ge a k with g | g
        · exact hself a g
        · have : a = k := by omega
          subst this; exact hkk
      · rcases Nat.lt_or_ge a k with g | g
        · exact hrow a g
        · have : a = k := by omega
          subst this; exact hall
    have ext : ∀ {b}, rowOK l k j → b < j + 1 → rowOK l k b := by
      intro b h hb
      rcases Nat.lt_or_ge b j with g | g
      · exact hr b g
      · have : b = j := by omega
        subst this; exact h
    simp only [tot_cond, tot_some, tot_let, tot_side, Sum.elim_inl, Sum.elim_inr, decide_eq_true_eq, decide_eq_false_iff_not, Bool.not_eq_true', Bool.not_eq_false', Int.toNat_natCast]
    refine ⟨fun hjl => ?_, fun hjl => ?_⟩
    · simp only [tot_idx, Int.toNat_natCast]
      obtain ⟨y, hy⟩ := get_lt (l := l.Up) (i := j) (by omega)
      have hy' := hu.get hy
      refine ⟨by omega, y, hy, ?_⟩
      simp only [tot_cond, tot_some, tot_let, tot_side, Sum.elim_inl, Sum.elim_inr, decide_eq_true_eq, decide_eq_false_iff_not, Bool.not_eq_true', Bool.not_eq_false', Int.toNat_natCast]
      rw [bitAt hx'.1 hx'.2 (by omega), ← up_of hx]
      rw [w64 (e := (l.Names.length : Int) - 1) (by omega) (by omega)]
      have stay : rowOK l k j → ((j : Int) = (l.Names.length : Int) - 1 → k < l.Names.length ∧ IntKind.wrap .i64 ((k : Int) + 1) = ((k + 1 : Nat) : Int) ∧ (∀ a, a < k + 1 → up l a a = true) ∧ ∀ a, a < k + 1 → ∀ b, b < l.Names.length → rowOK l a b) ∧ (¬ (j : Int) = (l.Names.length : Int) - 1 → j < l.Names.length ∧ IntKind.wrap .i64 ((j : Int) + 1) = ((j + 1 : Nat) : Int) ∧ ∀ b, b < j + 1 → rowOK l k b) := by
        intro hrow'
        refine ⟨fun e => fin fun b hb => ext hrow' (by omega), fun e => ?_⟩
        rw [w64 (by omega) (by omega)]
        exact ⟨by omega, by omega, fun b hb => ext hrow' hb⟩
      refine ⟨by omega, fun hb => ?_, fun hb => ⟨fun hne => ⟨by omega, fun _ h' => absurd h' (by decide), fun hba => ⟨fun _ h' => absurd h' (by decide), fun han => ?_⟩⟩, fun heq => ⟨fun _ h' => absurd h' (by decide), fun han => ?_⟩⟩⟩
      · refine stay fun hup => ?_
        rw [hup] at hb; simp at hb
      · refine stay fun _ => ⟨fun _ => ?_, fun i hi hyi => ?_⟩
        · rw [bitAt hy'.1 hy'.2 (by omega), ← up_of hy] at hba
          cases e : up l j k with
          | false => rfl
          | true => rw [e] at hba; simp at hba
        · rw [bits_and hy'.1 hy'.2 hm0.1 hm0.2] at han
          have hand := and_lt (a := y.toNat) (b := mask.toNat) (by omega)
          have := (bits_andNot (by omega) (by omega) hx'.1 hx'.2).1 han i (by
            rw [Int.toNat_natCast, Nat.testBit_and, hmask, ← up_of hy, hyi]; simp [hi])
          rw [up_of hx]; exact this
      · refine stay fun _ => ⟨fun hne => absurd (by omega) hne, fun i hi hyi => ?_⟩
        rw [bits_and hy'.1 hy'.2 hm0.1 hm0.2] at han
        have hand := and_lt (a := y.toNat) (b := mask.toNat) (by omega)
        have := (bits_andNot (by omega) (by omega) hx'.1 hx'.2).1 han i (by
          rw [Int.toNat_natCast, Nat.testBit_and, hmask, ← up_of hy, hyi]; simp [hi])
        rw [up_of hx]; exact this
    · exact fin fun b hb => hr b (by omega)
  · -- the end
    have hk' : k = l.Names.length := by omega
    subst hk'
    have good : LatOK l := ⟨p1, p8, hlen', hu, hself, hrow⟩
    rw [tot_bind]
    refine (of_total l hu p8 (by omega)).mono fun o ho => ?_
    obtain ⟨_, o1, o2, o3, o4⟩ := ho
    rw [tot_bind]
    refine Tot.count l.Names.length (fun j s => s = (j : Int)) ?_ rfl
    rintro j _ hj rfl
    simp only [tot_cond, tot_some, tot_let, tot_bind, Sum.elim_inl, Sum.elim_inr, decide_eq_true_eq, decide_eq_false_iff_not]
    refine ⟨fun hlt => ?_, fun _ _ => good⟩
    refine Tot.count l.Names.length (fun i s => s = (i : Int)) ?_ rfl
    rintro i _ hi rfl
    simp only [tot_cond, tot_some, tot_let, tot_bind, Sum.elim_inl, Sum.elim_inr, decide_eq_true_eq, decide_eq_false_iff_not]
    refine ⟨fun hlt' => ?_, fun _ => ?_⟩
    · refine (bound_ups_total _ _ _ _ o1 o3 p8 (by omega) (by omega)).mono fun b1 _ => ⟨fun _ h' => absurd h' (by decide), fun _ => ?_⟩
      refine (bound_downs_total _ _ _ _ o2 o4 p8 (by omega) (by omega)).mono fun b2 _ => ⟨fun _ h' => absurd h' (by decide), fun _ => ?_⟩
      rw [w64 (by omega) (by omega)]
      exact ⟨by omega, by omega⟩
    · rw [w64 (by omega) (by omega)]
      exact ⟨by omega, by omega⟩
end Go.Sx.O
namespace Go.Sx.O
open Go
structure LatIn (l : TLattice) : Prop where
  u8 : U8s l.Up
  names : l.Names.length ≤ 20
  name : ∀ s ∈ l.Names, s.length ≤ 50
noncomputable def latR (l : TLattice) : Int × Int := (F_lattice_Check l).getD (0, 0)
theorem Check_eq {l : TLattice} (h : LatIn l) : F_lattice_Check l = some (latR l) := by
  obtain ⟨r, e, _⟩ := Check_lat l h.u8 h.names h.name
  unfold latR; rw [e]; rfl
theorem lat_ok {l : TLattice} (h : LatIn l) (k : (latR l).2 = 0) : LatOK l := by
  obtain ⟨r, e, q⟩ := Check_lat l h.u8 h.names h.name
  have := Check_eq h
  rw [e] at this; cases this
  exact q k
def isLab (l : TLattice) (a : Int) : Bool := decide (0 ≤ a) && decide (a < (l.Names.length : Int))
theorem label_spec (l : TLattice) (a : Int) : F_view_label l a = some (isLab l a) := by
  unfold F_view_label isLab
  rw [List.length_map]
  cases decide (0 ≤ a) <;> rfl
noncomputable def askE (l : TLattice) (xs : List Int) : Int := if (latR l).2 = 0 then (if xs.all (isLab l) then 0 else 7) else (latR l).2
theorem lasked_spec {l : TLattice} (h : LatIn l) (xs : List Int) (hx : xs.length ≤ 1000000000) : F_lattice_asked l xs = some (askE l xs) := by
  unfold F_lattice_asked askE
  rw [Check_eq h]
  simp only [Option.bind_some]
  by_cases h0 : (latR l).2 = 0
  · simp only [h0, decide_true, Bool.not_true, cond_false, if_true]
    apply Tot.eq
    simp only [tot_bind, List.length_map]
    refine Tot.count xs.length (fun k s => s = (k : Int) ∧ (xs.take k).all (isLab l) = true) ?_ ⟨rfl, by simp⟩
    rintro k _ hk ⟨rfl, hall⟩
    simp only [tot_cond, tot_some, tot_let, tot_idx, Sum.elim_inl, Sum.elim_inr, decide_eq_true_eq, decide_eq_false_iff_not, Int.toNat_natCast]
    refine ⟨fun hlt => ?_, fun hlt => ?_⟩
    · obtain ⟨x, hx'⟩ := get_lt (l := xs) (i := k) (by omega)
      have hm := List.mem_of_getElem? hx'
      have bad : isLab l x = false → (7 : Int) = if xs.all (isLab l) = true then 0 else 7 := by
        intro e
        have : xs.all (isLab l) = false := by
          rw [List.all_eq_false]; exact ⟨x, hm, by simp [e]⟩
        simp [this]
      refine ⟨by omega, x, hx', fun g => bad (by unfold isLab; simp; omega), fun g1 => ⟨fun g => bad (by unfold isLab; simp; omega), fun g2 => ?_⟩⟩
      rw [w64 (by omega) (by omega)]
      refine ⟨by omega, by omega, ?_⟩
      rw [List.take_add_one, hx', List.all_append, hall]
      simp [isLab]; omega
    · rw [List.take_of_length_le (by omega)] at hall
      simp [hall]
  · simp only [h0, decide_false, Bool.not_false, cond_true, if_false]
noncomputable def sees (l : TLattice) (a o : Int) : Bool := decide ((latR l).2 = 0) && isLab l a && isLab l o && up l a.toNat o.toNat
theorem Leq_spec {l : TLattice} (h : LatIn l) (a b : Int) : F_lattice_Leq l a b = some (sees l a b, askE l [a, b]) := by
  unfold F_lattice_Leq
  rw [lasked_spec h _ (by simp)]
  simp only [Option.bind_some]
  by_cases h0 : askE l [a, b] = 0
  · simp only [h0, decide_true, Bool.not_true, cond_false]
    unfold askE at h0
    split at h0
    case isFalse h1 => exact absurd h0 h1
    rename_i h1
    split at h0
    case isFalse => cases h0
    rename_i h2
    simp only [List.all_cons, List.all_nil, Bool.and_true, Bool.and_eq_true] at h2
    have ok := lat_ok h h1
    have ha := h2.1
    have hb := h2.2
    unfold isLab at ha hb
    simp only [Bool.and_eq_true, decide_eq_true_eq] at ha hb
    obtain ⟨x, hx⟩ := get_lt (l := l.Up) (i := a.toNat) (by rw [ok.len]; omega)
    have hx' := ok.u8.get hx
    have : b.toNat ≤ 8 := by have := ok.le; omega
    simp only [idxO, ha.1, if_true, hx, Option.bind_some, sideO, hb.1]
    congr 1
    rw [bitAt hx'.1 hx'.2 this]
    unfold sees
    rw [up_of hx]
    simp only [h1, h2.1, h2.2, decide_true, Bool.true_and]
    cases x.toNat.testBit b.toNat <;> simp
  · simp only [h0, decide_false, Bool.not_false, cond_true]
    congr 1
    have : sees l a b = false := by
      unfold askE at h0
      unfold sees
      split at h0
      · rename_i h1
        split at h0
        · exact absurd rfl h0
        · rename_i h2
          simp only [List.all_cons, List.all_nil, Bool.and_true] at h2
          have : (isLab l a && isLab l b) = false := by cases e : (isLab l a && isLab l b) <;> simp_all
          rw [Bool.and_assoc (decide _)]
          simp [this]
      · rename_i h1; simp [h1]
    rw [this]
theorem sees_ok {l : TLattice} {a o : Int} (h : sees l a o = true) : askE l [a, o] = 0 := by
  unfold sees at h
  simp only [Bool.and_eq_true, decide_eq_true_eq] at h
  unfold askE
  simp [h.1.1.1, h.1.1.2, h.1.2]
theorem AppendSeq_ev_spec {l : TLattice} (h : LatIn l) (es : List TEvEvent) (o : Int) (hl : es.length ≤ 1000000) :
    F_slices_AppendSeq___api_EvEvent_api_EvEvent_ (es, l, (), o) = some (es.filter fun v => sees l v.Label o) := by
  unfold F_slices_AppendSeq___api_EvEvent_api_EvEvent_
  apply Tot.eq
  simp only [tot_bind, List.length_map]
  refine Tot.count es.length (fun k s => s.1 = (k : Int) ∧ s.2 = (es.take k).filter fun v => sees l v.Label o) ?_ ⟨rfl, by simp⟩
  rintro k ⟨i, out⟩ hk ⟨h0, h1⟩
  simp only at h0 h1
  subst h0
  simp only [tot_cond, tot_some, tot_let, tot_idx, tot_side, tot_bind, Sum.elim_inl, Sum.elim_inr, decide_eq_true_eq, decide_eq_false_iff_not, Int.toNat_natCast]
  refine ⟨fun hlt => ?_, fun hlt => ?_⟩
  · obtain ⟨x, hx⟩ := get_lt (l := es) (i := k) (by omega)
    refine ⟨by omega, x, hx, ?_⟩
    have e1 : F_view_events_1 x = some x.Label := rfl
    rw [e1, tot_some, Leq_spec h, tot_some]
    have hlen : out.length ≤ k := by
      rw [h1]
      refine Nat.le_trans (List.length_filter_le _ _) (by simp; omega)
    rw [w64 (by omega) (by omega)]
    have hs : ((es.take (k + 1)).filter fun v => sees l v.Label o) = out ++ (if sees l x.Label o = true then [x] else []) := by
      rw [List.take_add_one, hx, List.filter_append, ← h1]
      congr 1
      simp only [Option.toList_some, List.filter_cons, List.filter_nil]
    refine ⟨fun g => ⟨fun g1 => ⟨by omega, by omega, by omega, ?_⟩, fun g1 => ⟨by omega, by omega, ?_⟩⟩, fun g => ⟨by omega, by omega, ?_⟩⟩
    · simp only at g1; rw [hs, g1]; rfl
    · rw [hs]; simp only at g1; rw [g1]; simp
    · rw [hs]
      have : sees l x.Label o = false := by
        cases e : sees l x.Label o with
        | false => rfl
        | true => exact absurd (sees_ok e) g
      rw [this]; simp
  · rw [h1, List.take_of_length_le (by omega)]
theorem events_spec {l : TLattice} (h : LatIn l) (t : TEvTrace) (o : Int) (hl : t.Events.length ≤ 1000000) : F_view_events l t o = some (t.Events.filter fun v => sees l v.Label o) := by
  unfold F_view_events F_view_seen_api_EvEvent_ F_slices_Collect_api_EvEvent_
  simp only [Option.bind_some]
  rw [AppendSeq_ev_spec h _ _ hl]
  rfl
theorem AppendSeq_re_spec {l : TLattice} (h : LatIn l) (es : List TReEntry) (o : Int) (hl : es.length ≤ 1000000) :
    F_slices_AppendSeq___api_ReEntry_api_ReEntry_ (es, l, (), o) = some (es.filter fun v => sees l v.Goal o) := by
  unfold F_slices_AppendSeq___api_ReEntry_api_ReEntry_
  apply Tot.eq
  simp only [tot_bind, List.length_map]
  refine Tot.count es.length (fun k s => s.1 = (k : Int) ∧ s.2 = (es.take k).filter fun v => sees l v.Goal o) ?_ ⟨rfl, by simp⟩
  rintro k ⟨i, out⟩ hk ⟨h0, h1⟩
  simp only at h0 h1
  subst h0
  simp only [tot_cond, tot_some, tot_let, tot_idx, tot_side, tot_bind, Sum.elim_inl, Sum.elim_inr, decide_eq_true_eq, decide_eq_false_iff_not, Int.toNat_natCast]
  refine ⟨fun hlt => ?_, fun hlt => ?_⟩
  · obtain ⟨x, hx⟩ := get_lt (l := es) (i := k) (by omega)
    refine ⟨by omega, x, hx, ?_⟩
    have e1 : F_view_entries_1 x = some x.Goal := rfl
    rw [e1, tot_some, Leq_spec h, tot_some]
    have hlen : out.length ≤ k := by
      rw [h1]
      refine Nat.le_trans (List.length_filter_le _ _) (by simp; omega)
    rw [w64 (by omega) (by omega)]
    have hs : ((es.take (k + 1)).filter fun v => sees l v.Goal o) = out ++ (if sees l x.Goal o = true then [x] else []) := by
      rw [List.take_add_one, hx, List.filter_append, ← h1]
      congr 1
      simp only [Option.toList_some, List.filter_cons, List.filter_nil]
    refine ⟨fun g => ⟨fun g1 => ⟨by omega, by omega, by omega, ?_⟩, fun g1 => ⟨by omega, by omega, ?_⟩⟩, fun g => ⟨by omega, by omega, ?_⟩⟩
    · simp only at g1; rw [hs, g1]; rfl
    · rw [hs]; simp only at g1; rw [g1]; simp
    · rw [hs]
      have : sees l x.Goal o = false := by
        cases e : sees l x.Goal o with
        | false => rfl
        | true => exact absurd (sees_ok e) g
      rw [this]; simp
  · rw [h1, List.take_of_length_le (by omega)]
theorem entries_spec {l : TLattice} (h : LatIn l) (t : TEvTrace) (o : Int) (hl : t.Log.length ≤ 1000000) : F_view_entries l t o = some (t.Log.filter fun v => sees l v.Goal o) := by
  unfold F_view_entries F_view_seen_api_ReEntry_ F_slices_Collect_api_ReEntry_
  simp only [Option.bind_some]
  rw [AppendSeq_re_spec h _ _ hl]
  rfl
end Go.Sx.O
namespace Go.Sx.O
open Go
theorem any_loop {α : Type} {l : List α} (p : α → Bool) {ε : Type} {step : Int → Option (Int ⊕ (ε ⊕ Int))} {e : ε} {G : Option Int}
    (hG : G = (lpO step 0).bind (Sum.elim (fun _ => some (-1)) some))
    (h1 : ∀ (k : Nat) x, l[k]? = some x → k < l.length → step (k : Int) = if p x then some (.inr (.inr (k : Int))) else some (.inl ((k : Int) + 1)))
    (h2 : step (l.length : Int) = some (.inr (.inl e))) : G.bind (fun x => some (decide (0 ≤ x))) = some (l.any p) := by
  rw [hG, find_loop (l := l) p (d := .inl e) (g := .inr) (fun k x hx => h1 k x hx (by
    rcases Nat.lt_or_ge k l.length with g | g
    · exact g
    · rw [List.getElem?_eq_none g] at hx; cases hx)) h2]
  cases h : l.findIdx? p with
  | none =>
    have := List.findIdx?_eq_none_iff.1 h
    simp only [Option.bind_some, Sum.elim_inl]
    have hn : l.any p = false := by rw [List.any_eq_false]; intro x hx; simp [this x hx]
    rw [hn]; rfl
  | some i =>
    obtain ⟨hi, hp, _⟩ := List.findIdx?_eq_some_iff_getElem.1 h
    have hy : l.any p = true := List.any_eq_true.2 ⟨_, List.getElem_mem hi, hp⟩
    simp [hy]
theorem ContainsFunc1 (l : List Int) (h : l.length ≤ 1000000000) : F_slices_ContainsFunc___int_int_ l = some (l.any fun x => decide (x < 0)) := by
  unfold F_slices_ContainsFunc___int_int_ F_slices_IndexFunc___int_int_
  refine any_loop (l := l) (fun x => decide (x < 0)) (e := ()) rfl (fun k x hx hlt => ?_) (by simp)
  simp only [List.length_map, Int.ofNat_lt, hlt, decide_true, cond_true, idxO, Int.toNat_natCast, hx, Option.bind_some, letO, Int.natCast_nonneg, if_true, F_shapes_Check_1]
  rw [w64 (by omega) (by omega)]
  cases decide (x < 0) <;> rfl
theorem ContainsFunc2 (l : List Int) (h : l.length ≤ 1000000000) : F_slices_ContainsFunc___int_int__v1 l = some (l.any fun x => !decide (x = 0)) := by
  unfold F_slices_ContainsFunc___int_int__v1 F_slices_IndexFunc___int_int__v1
  refine any_loop (l := l) (fun x => !decide (x = 0)) (e := ()) rfl (fun k x hx hlt => ?_) (by simp)
  simp only [List.length_map, Int.ofNat_lt, hlt, decide_true, cond_true, idxO, Int.toNat_natCast, hx, Option.bind_some, letO, Int.natCast_nonneg, if_true, F_shapes_Check_2]
  rw [w64 (by omega) (by omega)]
  cases decide (x = 0) <;> rfl
theorem ContainsFunc3 (l : List Int) (h : l.length ≤ 1000000000) : F_slices_ContainsFunc___int_int__v2 l = some (l.any fun x => decide (400 < x)) := by
  unfold F_slices_ContainsFunc___int_int__v2 F_slices_IndexFunc___int_int__v2
  refine any_loop (l := l) (fun x => decide (400 < x)) (e := ()) rfl (fun k x hx hlt => ?_) (by simp)
  simp only [List.length_map, Int.ofNat_lt, hlt, decide_true, cond_true, idxO, Int.toNat_natCast, hx, Option.bind_some, letO, Int.natCast_nonneg, if_true, F_shapes_Check_3]
  rw [w64 (by omega) (by omega)]
  cases decide (400 < x) <;> rfl
theorem product_total (r : Int) (lens : Int × Int) : Tot (F_shapes_product r lens) fun _ => True := by
  unfold F_shapes_product
  simp only [tot_cond, tot_let, tot_some, implies_true, and_self]
theorem shapes_Check_total (r : Int) (lens : Int × Int) : Tot (F_shapes_Check r lens) fun _ => True := by
  unfold F_shapes_Check
  rw [tot_cond]; refine ⟨fun _ => .mk trivial, fun h0 => ?_⟩
  rw [tot_cond]; refine ⟨fun _ => .mk trivial, fun h2 => ?_⟩
  simp only [decide_eq_false_iff_not] at h0 h2
  rw [tot_side, tot_side, tot_bind, ContainsFunc1 _ (by simp; omega), tot_some, tot_cond]
  refine ⟨⟨by omega, by omega⟩, ⟨by omega, by omega⟩, fun _ => .mk trivial, fun _ => ?_⟩
  rw [tot_bind, ContainsFunc2 _ (by simp; omega), tot_some, tot_cond]
  refine ⟨fun _ => .mk trivial, fun _ => ?_⟩
  rw [tot_bind, ContainsFunc3 _ (by simp; omega), tot_some, tot_cond]
  refine ⟨fun _ => .mk trivial, fun _ => ?_⟩
  rw [tot_bind]
  refine (product_total _ _).mono fun _ _ => ?_
  rw [tot_cond]
  exact ⟨fun _ => .mk trivial, fun _ => .mk trivial⟩
theorem shapes_total (r : Int) (lens : Int × Int) : Tot (F_shapes_Cells r lens) fun _ => True := by
  unfold F_shapes_Cells
  rw [tot_bind]
  refine (shapes_Check_total _ _).mono fun _ _ => ?_
  rw [tot_cond]
  refine ⟨fun _ => .mk trivial, fun _ => ?_⟩
  rw [tot_bind]
  exact (product_total _ _).mono fun _ _ => .mk trivial
theorem ValidRune_total (x : Int) : Tot (F_unicode_utf8_ValidRune x) fun _ => True := by
  unfold F_unicode_utf8_ValidRune
  simp only [tot_cond, tot_some, implies_true, and_self]
theorem right_total (k c : Int) : Tot (F_arrays_right k c) fun _ => True := by
  unfold F_arrays_right
  simp only [tot_cond, tot_some, tot_let, tot_bind, implies_true, and_self, true_and, and_true]
  exact fun _ _ _ => (ValidRune_total _).mono fun _ _ => trivial
theorem ContainsFunc4 (l : List Int) (a : TArray) (h : l.length ≤ 1000000000) : Tot (F_slices_ContainsFunc___int64_int64_ l a) fun _ => True := by
  unfold F_slices_ContainsFunc___int64_int64_ F_slices_IndexFunc___int64_int64_
  simp only [tot_bind, tot_some, List.length_map]
  refine Tot.count l.length (fun k s => s = (k : Int)) ?_ rfl
  rintro k _ hk rfl
  simp only [tot_cond, tot_some, tot_let, tot_idx, tot_bind, Sum.elim_inl, Sum.elim_inr, decide_eq_true_eq, decide_eq_false_iff_not, Int.toNat_natCast]
  refine ⟨fun hlt => ?_, fun _ => trivial⟩
  obtain ⟨x, hx⟩ := get_lt (l := l) (i := k) (by omega)
  refine ⟨by omega, x, hx, ?_⟩
  unfold F_arrays_Check_1
  rw [tot_bind]
  refine (right_total _ _).mono fun b _ => ?_
  rw [tot_some]
  refine ⟨fun _ => trivial, fun _ => ?_⟩
  rw [w64 (by omega) (by omega)]
  exact ⟨by omega, by omega⟩
theorem arrays_Check_total (a : TArray) (h : a.Cells.length ≤ 1000000000) : Tot (F_arrays_Check a) fun _ => True := by
  unfold F_arrays_Check
  simp only [tot_cond, tot_some, tot_bind, implies_true, true_and]
  exact ⟨fun _ _ => (shapes_total _ _).mono fun _ _ _ _ => ContainsFunc4 _ _ h, fun _ => (shapes_total _ _).mono fun _ _ _ _ => ContainsFunc4 _ _ h⟩
theorem zip_loop {α β : Type} {l : List α} {m : List β} (n : Nat) (p : α → β → Bool) {τ ε : Type} {step : Int → Option (Int ⊕ (ε ⊕ τ))} {bad : Int → τ} {e : ε} {Q : ε ⊕ τ → Prop}
    (hn : n ≤ l.length) (hm : n ≤ m.length)
    (h1 : ∀ (k : Nat) x y, l[k]? = some x → m[k]? = some y → k < n → step (k : Int) = if p x y then some (.inl ((k : Int) + 1)) else some (.inr (.inr (bad k))))
    (h2 : step (n : Int) = some (.inr (.inl e)))
    (q1 : (∀ (k : Nat) x y, l[k]? = some x → m[k]? = some y → k < n → p x y = true) → Q (.inl e))
    (q2 : ∀ (k : Nat) x y, l[k]? = some x → m[k]? = some y → k < n → p x y = false → (∀ (j : Nat) x y, l[j]? = some x → m[j]? = some y → j < k → p x y = true) → Q (.inr (bad k))) : Tot (lpO step 0) Q := by
  refine Tot.count n (fun k s => s = (k : Int) ∧ ∀ (j : Nat) x y, l[j]? = some x → m[j]? = some y → j < k → p x y = true) ?_ ⟨rfl, fun j _ _ _ _ hj => absurd hj (by omega)⟩
  rintro k _ hk ⟨rfl, hall⟩
  rcases Nat.lt_or_ge k n with g | g
  · obtain ⟨x, hx⟩ := get_lt (l := l) (i := k) (by omega)
    obtain ⟨y, hy⟩ := get_lt (l := m) (i := k) (by omega)
    rw [h1 k x y hx hy g]
    cases e : p x y with
    | true =>
      simp only [if_true, tot_some, Sum.elim_inl]
      refine ⟨g, by omega, fun j x' y' hx' hy' hj => ?_⟩
      rcases Nat.lt_or_ge j k with g' | g'
      · exact hall j x' y' hx' hy' g'
      · have : j = k := by omega
        subst this
        rw [hx] at hx'; rw [hy] at hy'
        cases hx'; cases hy'; exact e
    | false =>
      simp only [Bool.false_eq_true, if_false, tot_some, Sum.elim_inr]
      exact q2 k x y hx hy g e hall
  · have : k = n := by omega
    subst this
    rw [h2]
    simp only [tot_some, Sum.elim_inr]
    exact q1 fun j x y hx hy hj => hall j x y hx hy hj
theorem eq_of_get {α : Type} : ∀ {l m : List α}, l.length = m.length → (∀ (k : Nat) x y, l[k]? = some x → m[k]? = some y → k < l.length → x = y) → l = m
  | [], [], _, _ => rfl
  | a :: l, b :: m, h, k => by
    have h0 := k 0 a b rfl rfl (by simp)
    subst h0
    rw [eq_of_get (l := l) (m := m) (by simpa using h) fun j x y hx hy hj => k (j + 1) x y (by simpa using hx) (by simpa using hy) (by simp; omega)]
  | [], _ :: _, h, _ => by simp at h
  | _ :: _, [], h, _ => by simp at h
theorem Equal_ints_spec (a b : List Int) (h : a.length ≤ 1000000000) : F_slices_Equal___int64_int64_ a b = some (decide (a = b)) := by
  unfold F_slices_Equal___int64_int64_
  apply Tot.eq
  simp only [List.length_map, tot_cond, tot_some, tot_bind, Bool.not_eq_true', Bool.not_eq_false', decide_eq_true_eq, decide_eq_false_iff_not]
  refine ⟨fun hne => ?_, fun heq => ?_⟩
  · have : a ≠ b := fun e => hne (by rw [e])
    simp [this]
  · have hl : a.length = b.length := by omega
    refine zip_loop (l := a) (m := b) a.length (fun x y => decide (x = y)) (bad := fun _ => false) (e := ()) (Nat.le_refl _) (by omega) (fun k x y hx hy hk => ?_) (by simp) (fun hall => ?_) (fun k x y hx hy hk e _ => ?_)
    · simp only [Int.ofNat_lt, hk, decide_true, cond_true, idxO, Int.toNat_natCast, hx, hy, Option.bind_some, letO, Int.natCast_nonneg, if_true]
      rw [w64 (by omega) (by omega)]
      cases decide (x = y) <;> rfl
    · have : a = b := eq_of_get hl fun k x y hx hy hk => by simpa using hall k x y hx hy hk
      simp [this, tot_some]
    · have : a ≠ b := by
        rintro rfl
        rw [hx] at hy; cases hy
        simp at e
      simp [this, tot_some]
theorem sameArray_spec (a b : TArray) (h : a.Cells.length ≤ 1000000000) : Tot (F_view_sameArray a b) fun r => (r = true ↔ a = b) := by
  unfold F_view_sameArray
  obtain ⟨k1, r1, ⟨p1, q1⟩, c1⟩ := a
  obtain ⟨k2, r2, ⟨p2, q2⟩, c2⟩ := b
  rw [Equal_ints_spec _ _ h]
  simp only [tot_cond, tot_some, tot_bind, decide_eq_true_eq, decide_eq_false_iff_not, Bool.and_eq_true, Bool.and_eq_false_iff, and_true, TArray.mk.injEq, Prod.mk.injEq, Bool.false_eq_true, false_iff, not_and, Bool.true_eq_false, or_false]
  refine ⟨fun e1 => ⟨fun e2 => ⟨fun e3 => by simp [e1, e2, e3], fun e3 _ _ h4 h5 => ?_⟩, fun e2 _ h => absurd h e2⟩, fun e1 h => absurd h e1⟩
  rcases e3 with e3 | e3
  · exact absurd h4 (fun h => e3 h.1)
  · exact absurd h4 (fun h => e3 h.2)
end Go.Sx.O
namespace Go.Sx.O
open Go
theorem indexByte_none {l : List UInt8} {c : UInt8} (h : c ∉ l) : Lib.indexByte l c = -1 := by
  induction l with
  | nil => rfl
  | cons a l ih =>
    simp only [List.mem_cons, not_or] at h
    have : (a == c) = false := by simp; exact fun e => h.1 e.symm
    simp [Lib.indexByte, this, ih h.2]
theorem hi_enc {r : Int} (h0 : 128 ≤ r) (h1 : r < 256) : ∃ x y, (Utf8.encode r).data.toList = [x, y] ∧ 128 ≤ y.toNat := by
  refine ⟨UInt8.ofNat (0xC0 + r.toNat / 64), UInt8.ofNat (0x80 + r.toNat % 64), ?_, ?_⟩
  · have hv : Utf8.valid r = true := by unfold Utf8.valid; simp; omega
    unfold Utf8.encode
    simp only [hv, if_true]
    rw [if_neg (by omega), if_pos (by omega)]
  · rw [UInt8.toNat_ofNat']; omega
theorem IndexRune_total (s : List UInt8) (r : Int) (hs : ∀ c ∈ s, c.toNat < 128) (hl : s.length ≤ 1000) (h0 : 0 ≤ r) (h1 : r < 256) : Tot (F_strings_IndexRune s r) fun _ => True := by
  unfold F_strings_IndexRune
  have e0 : decide (0 ≤ r) = true := by simp [h0]
  simp only [e0, cond_true]
  rw [tot_cond]
  refine ⟨fun _ => ?_, fun h2 => ?_⟩
  · rw [tot_let, tot_bind]
    unfold F_strings_IndexByte F_internal_stringslite_IndexByte
    simp only [Option.bind_some, tot_some]
  · simp only [decide_eq_false_iff_not] at h2
    obtain ⟨x, y, exy, hy⟩ := hi_enc (r := r) (by omega) h1
    have e1 : decide (r = 65533) = false := by simp; omega
    simp only [e1, cond_false, exy]
    rw [tot_bind]
    refine (ValidRune_total r).mono fun v _ => ?_
    rw [tot_cond]
    refine ⟨fun _ => .mk trivial, fun _ => ?_⟩
    rw [tot_let]
    have e2 : IntKind.wrap .i64 (((List.length [x, y] : Nat) : Int) - 1) = 1 := rfl
    rw [e2, tot_bind]
    refine Tot.loop (fun _ => 0) (fun _ => True) (fun _ _ => ?_) trivial
    rw [tot_cond]
    refine ⟨fun h3 => ?_, fun _ => ?_⟩
    · simp only [decide_eq_true_eq] at h3
      obtain ⟨c, hc⟩ := get_lt (l := s) (i := 1) (by omega)
      have hc' := hs c (List.mem_of_getElem? hc)
      have e3 : (1 : Int).toNat = 1 := rfl
      simp only [tot_idx, e3]
      refine ⟨by omega, c, hc, by omega, y, rfl, ?_⟩
      have e4 : decide ((c.toNat : Int) = (y.toNat : Int)) = false := by simp; omega
      simp only [e4, Bool.not_false, cond_true]
      rw [tot_let]
      have e5 : IntKind.wrap .i64 (1 + 1) = 2 := rfl
      rw [e5, tot_side]
      refine ⟨by omega, ?_⟩
      simp only [tot_idx, e3]
      refine ⟨by omega, y, rfl, ?_⟩
      unfold F_strings_IndexByte F_internal_stringslite_IndexByte
      simp only [Option.bind_some]
      have hn : ((y.toNat : Int).toNat.toUInt8) = y := by simp
      rw [hn, indexByte_none (fun hm => by
        have := hs y (List.mem_of_mem_take (List.mem_of_mem_drop hm))
        omega)]
      have e6 : decide ((-1 : Int) < 0) = true := rfl
      simp only [e6, cond_true, tot_some, Sum.elim_inr]
    · simp only [tot_some, Sum.elim_inr, Sum.elim_inl]
theorem ContainsRune_total (s : List UInt8) (r : Int) (hs : ∀ c ∈ s, c.toNat < 128) (hl : s.length ≤ 1000) (h0 : 0 ≤ r) (h1 : r < 256) : Tot (F_strings_ContainsRune s r) fun _ => True := by
  unfold F_strings_ContainsRune
  rw [tot_bind]
  exact (IndexRune_total s r hs hl h0 h1).mono fun _ _ => .mk trivial
theorem wrap_i32 {r : Int} (h0 : 0 ≤ r) (h1 : r < 256) : IntKind.wrap .i32 r = r := by
  simp only [IntKind.wrap, IntKind.signed, IntKind.bits]
  have h3 : (2 : Int) ^ 32 = 4294967296 := by decide
  have h4 : (2 : Int) ^ (32 - 1) = 2147483648 := by decide
  simp only [h3, h4, Bool.true_and, decide_eq_true_eq, ge_iff_le]
  split <;> omega
theorem runes_is_total (r : Int) : Tot (F_runes_is r) fun _ => True := by
  unfold F_runes_is
  rw [tot_let, tot_let, tot_cond]
  refine ⟨fun _ => ?_, fun _ => .mk trivial⟩
  rw [tot_let, tot_bind]
  exact (ValidRune_total _).mono fun _ _ => .mk trivial
theorem class_loop {cs : List (List UInt8)} (hcs : cs.length = 10) (h : ∀ s ∈ cs, s.length ≤ 1000 ∧ ∀ c ∈ s, c.toNat < 128) (r : Int) (h0 : 0 ≤ r) (h1 : r < 256) {Q : Unit ⊕ (Int × Int) → Prop} (hQ : ∀ x, Q x) :
    Tot (lpO (fun (s : Int) => cond (decide (s < 10)) (idxO cs s fun x => letO (IntKind.wrap IntKind.i32 r) fun y => Option.bind (F_strings_ContainsRune x y) fun z => cond z (some (Sum.inr (Sum.inr (s, (0 : Int))))) (letO (IntKind.wrap IntKind.i64 (s + 1)) fun u => some (Sum.inl u))) (some (Sum.inr (Sum.inl ())))) 0) Q := by
  refine Tot.count 10 (fun k s => s = (k : Int)) ?_ rfl
  rintro k _ hk rfl
  simp only [tot_cond, tot_some, tot_let, tot_idx, tot_bind, Sum.elim_inl, Sum.elim_inr, decide_eq_true_eq, decide_eq_false_iff_not, Int.toNat_natCast]
  refine ⟨fun hlt => ?_, fun _ => hQ _⟩
  obtain ⟨x, hx⟩ := get_lt (l := cs) (i := k) (by omega)
  have hx' := h x (List.mem_of_getElem? hx)
  refine ⟨by omega, x, hx, ?_⟩
  rw [wrap_i32 h0 h1]
  refine (ContainsRune_total x r hx'.2 hx'.1 h0 h1).mono fun _ _ => ⟨fun _ => hQ _, fun _ => ?_⟩
  rw [w64 (by omega) (by omega)]
  exact ⟨by omega, by omega⟩
theorem Class_total (r : Int) (h0 : 0 ≤ r) (h1 : r < 256) : Tot (F_runes_Class r) fun _ => True := by
  unfold F_runes_Class F_runes_classes
  rw [tot_bind]
  refine (runes_is_total r).mono fun v _ => ?_
  simp only [Option.bind_some]
  have L := class_loop (cs := [[], [32], [10], [40, 91], [41, 93], [34], [], [45], [], [60, 61]]) rfl (by decide) r h0 h1 (Q := fun a => Tot (Sum.elim (fun _ => some ((10 : Int), (0 : Int))) some a) fun _ => True) (fun x => by cases x <;> exact .mk trivial)
  simp only [tot_cond, tot_some, implies_true, true_and, tot_bind]
  exact fun _ => ⟨fun _ _ => ⟨fun _ _ => L, fun _ => L⟩, fun _ => ⟨fun _ _ => L, fun _ => L⟩⟩
theorem prims_Find_total (s : List UInt8) : Tot (F_prims_Find s) fun _ => True := by
  unfold F_prims_Find
  simp only [tot_bind, tot_cond, tot_some, Sum.elim_inl, Sum.elim_inr, implies_true, and_self]
theorem byte_class (c : UInt8) : Tot (F_runes_Class (IntKind.wrap .i64 (c.toNat : Int))) fun _ => True := by
  have := c.toNat_lt
  rw [w64 (by omega) (by omega)]
  exact Class_total _ (by omega) (by omega)
theorem lexer_word_total (s : List UInt8) (h : s.length ≤ 1000000) : Tot (F_lexer_Check (TLxToken.mk 1 0 0 0 s)) fun _ => True := by
  unfold F_lexer_Check
  dsimp only
  have e1 : decide ((1 : Int) = 1) = true := rfl
  have e2 : decide ((1 : Int) < 1) = false := rfl
  have e3 : decide ((9 : Int) < 1) = false := rfl
  have e4 : decide ((0 : Int) = 0) = true := rfl
  have e5 : decide (s = s) = true := by simp
  simp only [e2, e3, decide_true, cond_true, cond_false, Option.bind_some, Sum.elim_inl, Bool.and_self, Bool.not_true]
  rw [tot_bind]
  have Q : ∀ x : Int ⊕ Int, Tot (Sum.elim (fun (n : Int) => cond (decide (n < (s.length : Int))) (some (3 : Int)) (some (0 : Int))) some x) fun _ => True := by
    intro x
    cases x with
    | inl n => simp only [Sum.elim_inl, tot_cond, tot_some, implies_true, and_self]
    | inr n => exact .mk trivial
  refine Tot.mono (Q := fun _ => True) ?_ fun x _ => Q x
  rw [tot_cond]
  refine ⟨fun _ => .mk trivial, fun h1 => ?_⟩
  simp only [decide_eq_false_iff_not] at h1
  obtain ⟨c, hc⟩ := get_lt (l := s) (i := 0) (by omega)
  have e0 : (0 : Int).toNat = 0 := rfl
  simp only [tot_idx, tot_let, tot_bind, e0]
  refine ⟨by omega, c, hc, (byte_class c).mono fun x _ => ?_⟩
  rw [tot_cond]
  refine ⟨fun _ => .mk trivial, fun _ => ?_⟩
  simp only [tot_idx, tot_let, tot_bind, e0]
  refine ⟨by omega, c, hc, (byte_class c).mono fun y _ => ?_⟩
  refine Tot.loop (fun (p : Int × Int) => s.length - p.2.toNat) (fun (p : Int × Int) => 0 ≤ p.2 ∧ p.2 ≤ (s.length : Int) ∧ (p.1 = 8 ∨ p.1 = 6 → p.2 < (s.length : Int))) ?_ ⟨by simp, by simp, fun _ => by simp only; omega⟩
  rintro ⟨k, a⟩ ⟨h2, h3, h4⟩
  simp only at h2 h3 h4
  have round : (k = 8 ∨ k = 6) → ∀ {Q : (Bool × Int × Int) ⊕ (Int ⊕ Int) → Prop}, Tot (letO (IntKind.wrap .i64 (a + 1)) fun (u : Int) => cond (decide ((s.length : Int) ≤ u)) (some (Sum.inl ((10 : Int), u))) (idxO s u fun (v : UInt8) => letO (IntKind.wrap .i64 (v.toNat : Int)) fun (z : Int) => Option.bind (F_runes_Class z) fun r => some (Sum.inl (r.1, u)))) (Sum.elim (fun (s' : Int × Int) => (0 ≤ s'.2 ∧ s'.2 ≤ (s.length : Int) ∧ (s'.1 = 8 ∨ s'.1 = 6 → s'.2 < (s.length : Int))) ∧ s.length - s'.2.toNat < s.length - a.toNat) Q) := by
    intro hk Q
    have hlt := h4 hk
    rw [tot_let, w64 (by omega) (by omega), tot_cond]
    refine ⟨fun g => ?_, fun g => ?_⟩
    · simp only [decide_eq_true_eq] at g
      simp only [tot_some, Sum.elim_inl]
      exact ⟨⟨by omega, by omega, fun e => by omega⟩, by omega⟩
    · simp only [decide_eq_false_iff_not] at g
      obtain ⟨d, hd⟩ := get_lt (l := s) (i := (a + 1).toNat) (by omega)
      simp only [tot_idx, tot_let, tot_bind]
      refine ⟨by omega, d, hd, (byte_class d).mono fun z _ => ?_⟩
      simp only [tot_some, Sum.elim_inl]
      exact ⟨⟨by omega, by omega, fun e => by omega⟩, by omega⟩
  rw [tot_cond]
  refine ⟨fun g => round (.inl (by simpa using g)), fun g => ?_⟩
  rw [tot_cond]
  refine ⟨fun g' => round (.inr (by simpa using g')), fun g' => ?_⟩
  simp only [tot_some, Sum.elim_inr, Sum.elim_inl, tot_side, tot_cond, implies_true, and_self, and_true]
  omega
theorem expr_Name_total (s : List UInt8) (h : s.length ≤ 1000000) : Tot (F_expr_Name s) fun _ => True := by
  unfold F_expr_Name
  simp only [tot_cond, tot_some, implies_true, true_and, tot_bind]
  intros
  exact (prims_Find_total s).mono fun _ _ _ => (lexer_word_total s h).mono fun _ _ => trivial
end Go.Sx.O
namespace Go.Sx.O
open Go
structure TraceIn (t : TEvTrace) : Prop where
  events : t.Events.length ≤ 60
  log : t.Log.length ≤ 60
  event : ∀ v ∈ t.Events, v.Channel.length ≤ 100 ∧ v.Value.Cells.length ≤ 450
theorem same_spec (a b : TEvEvent) (h : a.Value.Cells.length ≤ 450) : Tot (F_view_same a b) fun r => (r = true ↔ a = b) := by
  unfold F_view_same
  obtain ⟨k1, s1, p1, l1, c1, v1, e1⟩ := a
  obtain ⟨k2, s2, p2, l2, c2, v2, e2⟩ := b
  simp only [tot_cond, tot_some, tot_bind, decide_eq_true_eq, decide_eq_false_iff_not, TEvEvent.mk.injEq, Bool.false_eq_true, false_iff, not_and]
  refine ⟨fun h1 => ⟨fun h2 => ⟨fun h3 => ⟨fun h4 => ⟨fun h5 => ⟨fun h6 => ?_, fun h6 _ _ _ _ _ _ h => h6 h⟩, fun h5 _ _ _ _ h => absurd h h5⟩, fun h4 _ _ _ h => absurd h h4⟩, fun h3 _ _ h => absurd h h3⟩, fun h2 _ h => absurd h h2⟩, fun h1 h => absurd h h1⟩
  refine (sameArray_spec v1 v2 (by simp only at h; omega)).mono fun r hr => ?_
  rw [hr]
  simp [h1, h2, h3, h4, h5, h6]
theorem bad_total (l : TLattice) (v : TEvEvent) (least most : Int) (last : Bool) (h : v.Channel.length ≤ 100) (h2 : v.Value.Cells.length ≤ 450) : Tot (F_view_bad l v least most last) fun r => r = 0 → isLab l v.Label = true := by
  unfold F_view_bad
  rw [label_spec]
  rw [Option.bind_some, tot_cond]
  refine ⟨fun _ => .mk fun e => absurd e (by decide), fun hl => ?_⟩
  have hl' : isLab l v.Label = true := by cases e : isLab l v.Label <;> simp_all
  simp only [hl', implies_true]
  simp only [tot_cond, tot_some, tot_bind, implies_true, true_and, and_true]
  intros
  refine ⟨fun _ => ?_, fun _ _ => ?_⟩
  · exact (expr_Name_total _ (by omega)).mono fun _ _ _ => (arrays_Check_total _ (by omega)).mono fun _ _ => trivial
  · exact (sameArray_spec _ _ (by omega)).mono fun _ _ => trivial
noncomputable def trR (l : TLattice) (t : TEvTrace) : Int × Int := (F_view_Check l t).getD (0, 0)
theorem view_Check_total {l : TLattice} {t : TEvTrace} (hl : LatIn l) (ht : TraceIn t) : Tot (F_view_Check l t) fun r => r.2 = 0 → (latR l).2 = 0 ∧ ∀ v ∈ t.Events, isLab l v.Label = true := by
  unfold F_view_Check
  rw [Check_eq hl, Option.bind_some]
  simp only [List.length_map]
  rw [tot_cond]
  refine ⟨fun h => .mk fun e => by simp at h; exact absurd e h, fun h0 => ?_⟩
  have h0' : (latR l).2 = 0 := by simpa using h0
  rw [tot_cond]
  refine ⟨fun _ => .mk fun e => absurd e (by decide), fun h1 => ?_⟩
  rw [tot_let, tot_bind]
  have hev := ht.events
  refine Tot.count t.Events.length (fun k s => s.1 = (k : Int) ∧ ∀ v ∈ t.Events.take k, isLab l v.Label = true) ?_ ⟨rfl, by simp⟩
  rintro k ⟨i, least⟩ hk ⟨hi, hall⟩
  simp only at hi hall
  subst hi
  simp only [tot_cond, tot_some, tot_let, tot_idx, tot_bind, Sum.elim_inl, Sum.elim_inr, decide_eq_true_eq, decide_eq_false_iff_not, Int.toNat_natCast]
  refine ⟨fun hlt => ?_, fun hlt => ?_⟩
  · obtain ⟨v, hv⟩ := get_lt (l := t.Events) (i := k) (by omega)
    have hm := List.mem_of_getElem? hv
    refine ⟨by omega, v, hv, ?_⟩
    refine (bad_total l v least t.Steps _ (ht.event v hm).1 (ht.event v hm).2).mono fun x hx => ⟨fun hne e => ?_, fun heq => ?_⟩
    · simp at hne; exact absurd e hne
    · rw [w64 (by omega) (by omega)]
      refine ⟨by omega, by omega, fun u hu => ?_⟩
      rw [List.take_add_one, hv] at hu
      rcases List.mem_append.1 hu with hu | hu
      · exact hall u hu
      · simp at hu; subst hu; exact hx (by simpa using heq)
  · have hlog := ht.log
    rw [List.take_of_length_le (by omega)] at hall
    refine Tot.count t.Log.length (fun k s => s = (k : Int)) ?_ rfl
    rintro j _ hj rfl
    simp only [tot_cond, tot_some, tot_let, tot_idx, tot_bind, Sum.elim_inl, Sum.elim_inr, decide_eq_true_eq, decide_eq_false_iff_not, Int.toNat_natCast]
    refine ⟨fun hlt' => ?_, fun _ _ => ⟨h0', hall⟩⟩
    obtain ⟨x, hx⟩ := get_lt (l := t.Log) (i := j) (by omega)
    refine ⟨by omega, x, hx, ?_⟩
    rw [label_spec, tot_some]
    have step : (j < t.Log.length ∧ IntKind.wrap .i64 ((j : Int) + 1) = ((j + 1 : Nat) : Int)) := by
      rw [w64 (by omega) (by omega)]; exact ⟨by omega, by omega⟩
    refine ⟨fun _ e => absurd e (by decide), fun _ => ?_⟩
    rw [label_spec, tot_some]
    refine ⟨fun _ e => absurd e (by decide), fun _ => ⟨fun _ e => absurd e (by decide), fun _ => ⟨fun _ e => absurd e (by decide), fun _ => ⟨fun _ e => absurd e (by decide), fun _ => ⟨fun _ e => absurd e (by decide), fun _ => ⟨fun _ e => absurd e (by decide), fun _ => ⟨fun _ e => absurd e (by decide), fun _ => ⟨fun _ => ⟨fun _ e => absurd e (by decide), fun _ => step⟩, fun _ => step⟩⟩⟩⟩⟩⟩⟩⟩
theorem vCheck_eq {l : TLattice} {t : TEvTrace} (hl : LatIn l) (ht : TraceIn t) : F_view_Check l t = some (trR l t) := by
  obtain ⟨r, e, _⟩ := view_Check_total hl ht
  unfold trR; rw [e]; rfl
noncomputable def vask (l : TLattice) (o : Int) : List TEvTrace → Int
  | [] => if isLab l o then 0 else 7
  | t :: r => if (trR l t).2 = 0 then vask l o r else (trR l t).2
theorem vasked_spec {l : TLattice} (hl : LatIn l) (o : Int) (ts : List TEvTrace) (ht : ∀ t ∈ ts, TraceIn t) (hn : ts.length ≤ 3) : F_view_asked l o ts = some (vask l o ts) := by
  unfold F_view_asked
  apply Tot.eq
  simp only [tot_bind, List.length_map]
  refine Tot.count ts.length (fun k s => s = (k : Int) ∧ vask l o (ts.drop k) = vask l o ts) ?_ ⟨rfl, rfl⟩
  rintro k _ hk ⟨rfl, hv⟩
  simp only [tot_cond, tot_some, tot_let, tot_idx, tot_bind, Sum.elim_inl, Sum.elim_inr, decide_eq_true_eq, decide_eq_false_iff_not, Int.toNat_natCast]
  refine ⟨fun hlt => ?_, fun hlt => ?_⟩
  · obtain ⟨t, hx⟩ := get_lt (l := ts) (i := k) (by omega)
    refine ⟨by omega, t, hx, ?_⟩
    rw [vCheck_eq hl (ht t (List.mem_of_getElem? hx)), tot_some]
    have hd : ts.drop k = t :: ts.drop (k + 1) := by
      have hlt' : k < ts.length := by omega
      rw [List.drop_eq_getElem_cons hlt']
      congr 1
      rw [List.getElem?_eq_getElem hlt'] at hx; exact Option.some.inj hx
    rw [hd] at hv
    unfold vask at hv
    rw [w64 (by omega) (by omega)]
    by_cases h0 : (trR l t).2 = 0
    · rw [if_pos h0] at hv
      refine ⟨fun h => by simp [h0] at h, fun _ => ⟨by omega, by omega, ?_⟩⟩
      rw [hv]
      cases ts with
      | nil => simp at hx
      | cons a r => rfl
    · rw [if_neg h0] at hv
      refine ⟨fun _ => ?_, fun h => by simp [h0] at h⟩
      rw [hv]
      cases ts with
      | nil => simp at hx
      | cons a r => rfl
  · rw [label_spec, tot_some]
    rw [List.drop_of_length_le (by omega)] at hv
    have hv' : (if isLab l o then (0 : Int) else 7) = vask l o ts := hv
    cases e : isLab l o with
    | true =>
      rw [e] at hv'
      exact ⟨fun h => by simp at h, fun _ => by simpa using hv'⟩
    | false =>
      rw [e] at hv'
      exact ⟨fun _ => by simpa using hv', fun h => by simp at h⟩
end Go.Sx.O
namespace Go.Sx.O
open Go
theorem EqualFunc_spec (a b : List TEvEvent) (h : a.length ≤ 60) (hv : ∀ v ∈ a, v.Value.Cells.length ≤ 450) : Tot (F_slices_EqualFunc___api_EvEvent___api_EvEvent_api_EvEvent_api_EvEvent_ a b) fun r => (r = true ↔ a = b) := by
  unfold F_slices_EqualFunc___api_EvEvent___api_EvEvent_api_EvEvent_api_EvEvent_
  simp only [List.length_map, tot_cond, tot_some, tot_bind, Bool.not_eq_true', Bool.not_eq_false', decide_eq_true_eq, decide_eq_false_iff_not]
  refine ⟨fun hne => ?_, fun heq => ?_⟩
  · have : a ≠ b := fun e => hne (by rw [e])
    simp [this]
  · have hl : a.length = b.length := by omega
    open Classical in
    refine zip_loop (l := a) (m := b) a.length (fun x y => decide (x = y)) (bad := fun _ => false) (e := ()) (Nat.le_refl _) (by omega) (fun k x y hx hy hk => ?_) (by simp) (fun hall => ?_) (fun k x y hx hy hk e _ => ?_)
    · obtain ⟨r, e, hr⟩ := same_spec x y (hv x (List.mem_of_getElem? hx))
      simp only [Int.ofNat_lt, hk, decide_true, cond_true, idxO, Int.toNat_natCast, hx, hy, Option.bind_some, letO, Int.natCast_nonneg, if_true, e]
      rw [w64 (by omega) (by omega)]
      by_cases hxy : x = y
      · have : r = true := hr.2 hxy
        simp [hxy, this]
      · have : r = false := by cases r <;> simp_all
        simp [hxy, this]
    · have : a = b := eq_of_get hl fun k x y hx hy hk => by simpa using hall k x y hx hy hk
      simp [this, tot_some]
    · have : a ≠ b := by
        rintro rfl
        rw [hx] at hy; cases hy
        simp at e
      simp [this, tot_some]
def agreeP (a b : List TReEntry) : Prop := ∀ (k : Nat) x y, a[k]? = some x → b[k]? = some y → x.Value = y.Value
theorem agreeP.symm {a b : List TReEntry} (h : agreeP a b) : agreeP b a := fun k x y hx hy => (h k y x hy hx).symm
theorem differ_re_spec (a b : List TReEntry) (h : a.length ≤ 60) : Tot (F_view_differ_api_ReEntry_ a b) fun r => (r = min (a.length : Int) (b.length : Int) ↔ agreeP a b) := by
  unfold F_view_differ_api_ReEntry_
  simp only [List.length_map, tot_bind]
  have hmin : min (a.length : Int) (b.length : Int) = ((min a.length b.length : Nat) : Int) := by omega
  rw [hmin]
  refine zip_loop (l := a) (m := b) (min a.length b.length) (fun x y => decide (x.Value = y.Value)) (bad := fun k => k) (e := ()) (by omega) (by omega) (fun k x y hx hy hk => ?_) (by simp) (fun hall => ?_) (fun k x y hx hy hk e _ => ?_)
  · have e : F_view_Agree_1 x y = some (decide (x.Value = y.Value)) := by
      unfold F_view_Agree_1
      congr 1
      obtain ⟨⟩ := x
      obtain ⟨⟩ := y
      rw [Bool.eq_iff_iff]
      simp [Prod.ext_iff]
    simp only [Int.ofNat_lt, hk, decide_true, cond_true, idxO, Int.toNat_natCast, hx, hy, Option.bind_some, letO, Int.natCast_nonneg, if_true, e]
    rw [w64 (by omega) (by omega)]
    cases decide (x.Value = y.Value) <;> rfl
  · simp only [Sum.elim_inl, tot_some, true_iff]
    intro k x y hx hy
    have h1 : k < a.length := by
      rcases Nat.lt_or_ge k a.length with g | g
      · exact g
      · rw [List.getElem?_eq_none g] at hx; cases hx
    have h2 : k < b.length := by
      rcases Nat.lt_or_ge k b.length with g | g
      · exact g
      · rw [List.getElem?_eq_none g] at hy; cases hy
    simpa using hall k x y hx hy (by omega)
  · simp only [Sum.elim_inr, tot_some]
    constructor
    · intro hh; omega
    · intro hh
      have := hh k x y hx hy
      simp [this] at e
noncomputable def seenE (l : TLattice) (t : TEvTrace) (o : Int) : List TEvEvent := t.Events.filter fun v => sees l v.Label o
noncomputable def seenL (l : TLattice) (t : TEvTrace) (o : Int) : List TReEntry := t.Log.filter fun v => sees l v.Goal o
theorem seenE_len {l : TLattice} {t : TEvTrace} {o : Int} (ht : TraceIn t) : (seenE l t o).length ≤ 60 := Nat.le_trans (List.length_filter_le _ _) ht.events
theorem seenL_len {l : TLattice} {t : TEvTrace} {o : Int} (ht : TraceIn t) : (seenL l t o).length ≤ 60 := Nat.le_trans (List.length_filter_le _ _) ht.log
theorem seenE_val {l : TLattice} {t : TEvTrace} {o : Int} (ht : TraceIn t) : ∀ v ∈ seenE l t o, v.Value.Cells.length ≤ 450 := fun v hv => (ht.event v (List.mem_filter.1 hv).1).2
theorem vask_nil {l : TLattice} {o : Int} {ts : List TEvTrace} : vask l o ts = 0 ↔ isLab l o = true ∧ ∀ t ∈ ts, (trR l t).2 = 0 := by
  induction ts with
  | nil => unfold vask; cases isLab l o <;> simp
  | cons t r ih =>
    unfold vask
    by_cases h : (trR l t).2 = 0
    · simp [h, ih]
    · simp [h]
end Go.Sx.O
