/-
  THE PLAIN STRUCT TYPES, and their symbolic values. Printed by a program. An own text.
  WHAT THE LIBRARY's BODILESS FUNCTIONS RETURN. An own text.
  DATA AS THEY COME: numbers in their kinds' ranges. Printed by a program. An own text.
  PLAIN FUNCTIONS: what the program computes. Printed by a program. An own text.
  PLAIN LAWS of the library's functions and of words, lattice. An own text.
  PLAIN LAWS: slices.Index, strings.Trim, words.Name. An own text.
  PLAIN LAWS: strings.Trim over ASCII, words.Name. An own text.
  PLAIN LAWS: bits; lattice.named, .of, .bound. An own text.
  PLAIN LAWS: lattice.of, .bound, .Check, .Leq. An own text.
  PLAIN LAWS: lattice.Leq; what an observer sees. An own text.
  PLAIN LAWS: shapes, arrays; arrays and events that are the same. An own text.
  PLAIN LAWS: expr.Name returns. An own text.
-/
import Derived.Test.YthmhdbpfanamnaaGreatDoorA7
import Derived.Lib.Bytealg
namespace Go.Sx.O
structure TR where
 s_ : List UInt8
 at_ : Int
def zQ (x : TR) : SV := .agg [SV.str x.s_, (SV.int .i64) x.at_]
theorem zq9 {p : Nat -> Prop} (x : TR) : (zQ x).nmd p := ⟨trivial, trivial, trivial⟩
structure TF where
 low_ : Int
 high_ : Int
def zrl (x : TF) : SV := .agg [(SV.int .i64) x.low_, (SV.int .i64) x.high_]
theorem zsm {p : Nat -> Prop} (x : TF) : (zrl x).nmd p := ⟨trivial, trivial, trivial⟩
structure TL where
 Names : List (List UInt8)
 Up : List (Int)
def qg (x : TL) : SV := .agg [(zj 1 SV.str) x.Names, (zj 1 (SV.int .u8)) x.Up]
theorem zmi {p : Nat -> Prop} (x : TL) : (qg x).nmd p := ⟨(wl fun _ => trivial), (wl fun _ => trivial), trivial⟩
structure TU where
 From : Int
 Goal : Int
 K : Int
def wq (x : TU) : SV := .agg [(SV.int .i64) x.From, (SV.int .i64) x.Goal, (SV.int .i64) x.K]
theorem zrr {p : Nat -> Prop} (x : TU) : (wq x).nmd p := ⟨trivial, trivial, trivial, trivial⟩
structure TG where
 Lattice : TL
 bottom_ : Int
def zqw (x : TG) : SV := .agg [qg x.Lattice, (SV.int .i64) x.bottom_]
theorem zsl {p : Nat -> Prop} (x : TG) : (zqw x).nmd p := ⟨(zmi _), trivial, trivial⟩
structure TK where
 Kind : Int
 From : Int
 To : Int
 N : Int
 S : List UInt8
def zH (x : TK) : SV := .agg [(SV.int .i64) x.Kind, (SV.int .i64) x.From, (SV.int .i64) x.To, (SV.int .i64) x.N, SV.str x.S]
theorem zsk {p : Nat -> Prop} (x : TK) : (zH x).nmd p := ⟨trivial, trivial, trivial, trivial, trivial, trivial⟩
structure Tlattice_order where
 n_ : Int
 up_ : List (Int)
 down_ : List (Int)
def zU (x : Tlattice_order) : SV := .agg [(SV.int .i64) x.n_, (encA 8 1 (SV.int .u8)) x.up_, (encA 8 1 (SV.int .u8)) x.down_]
theorem zl5 {p : Nat -> Prop} (x : Tlattice_order) : (zU x).nmd p := ⟨trivial, (wl fun _ => trivial), (wl fun _ => trivial), trivial⟩
structure TY where
 Kind : Int
 Rank : Int
 Axes : (Int) × (Int)
 Data : Int
def yk (x : TY) : SV := .agg [(SV.int .i64) x.Kind, (SV.int .i64) x.Rank, (wz 1 (SV.int .i64)) x.Axes, (SV.int .i64) x.Data]
theorem zgd {p : Nat -> Prop} (x : TY) : (yk x).nmd p := ⟨trivial, trivial, ⟨trivial, trivial, trivial⟩, trivial, trivial⟩
structure TA where
 Kind : Int
 Rank : Int
 Lens : (Int) × (Int)
 Cells : List (Int)
def zgb (x : TA) : SV := .agg [(SV.int .i64) x.Kind, (SV.int .i64) x.Rank, (wz 1 (SV.int .i64)) x.Lens, (zj 1 (SV.int .i64)) x.Cells]
theorem zk8 {p : Nat -> Prop} (x : TA) : (zgb x).nmd p := ⟨trivial, trivial, ⟨trivial, trivial, trivial⟩, (wl fun _ => trivial), trivial⟩
structure TV where
 Name : List UInt8
 Type_ : TY
def wF (x : TV) : SV := .agg [SV.str x.Name, yk x.Type_]
theorem zq8 {p : Nat -> Prop} (x : TV) : (wF x).nmd p := ⟨trivial, (zgd _), trivial⟩
structure TW where
 Name : List UInt8
 Value : TA
def zl4 (x : TW) : SV := .agg [SV.str x.Name, zgb x.Value]
theorem zqu {p : Nat -> Prop} (x : TW) : (zl4 x).nmd p := ⟨trivial, (zk8 _), trivial⟩
structure TE where
 Site : Int
 Fold : Int
 From : Int
 Goal : Int
 Cells : Int
 Value : (Int) × (Int)
def zg (x : TE) : SV := .agg [(SV.int .i64) x.Site, (SV.int .i64) x.Fold, (SV.int .i64) x.From, (SV.int .i64) x.Goal, (SV.int .i64) x.Cells, (wz 1 (SV.int .i64)) x.Value]
theorem zrk {p : Nat -> Prop} (x : TE) : (zg x).nmd p := ⟨trivial, trivial, trivial, trivial, trivial, ⟨trivial, trivial, trivial⟩, trivial⟩
structure TEvEvent where
 Kind : Int
 Site : Int
 Steps : Int
 Label : Int
 Channel : List UInt8
 Value : TA
 E : Int
def zan (x : TEvEvent) : SV := .agg [(SV.int .i64) x.Kind, (SV.int .i64) x.Site, (SV.int .i64) x.Steps, (SV.int .i64) x.Label, SV.str x.Channel, zgb x.Value, (SV.int .i64) x.E]
theorem zf2 {p : Nat -> Prop} (x : TEvEvent) : (zan x).nmd p := ⟨trivial, trivial, trivial, trivial, trivial, (zk8 _), trivial, trivial⟩
structure TP where
 Lattice : TL
 Channels : List (TR)
 Vars : List (TV)
 Rules : List (TU)
def qd (x : TP) : SV := .agg [qg x.Lattice, (zj 2 zQ) x.Channels, (zj 6 wF) x.Vars, (zj 3 wq) x.Rules]
theorem zsi {p : Nat -> Prop} (x : TP) : (qd x).nmd p := ⟨(zmi _), (wl fun _ => (zq9 _)), (wl fun _ => (zq8 _)), (wl fun _ => (zrr _)), trivial⟩
structure Tinvigilatorlaw28_Types where
 V : TY
 Y : TY
 From : Int
 Goal : Int
 PC : Int
 EC : Int
 Lower : Int
 Top : Int
def jE (x : Tinvigilatorlaw28_Types) : SV := .agg [yk x.V, yk x.Y, (SV.int .i64) x.From, (SV.int .i64) x.Goal, (SV.int .i64) x.PC, (SV.int .i64) x.EC, (SV.int .i64) x.Lower, (SV.int .i64) x.Top]
theorem ze4 {p : Nat -> Prop} (x : Tinvigilatorlaw28_Types) : (jE x).nmd p := ⟨(zgd _), (zgd _), trivial, trivial, trivial, trivial, trivial, trivial, trivial⟩
structure TC where
 Events : List (TEvEvent)
 Log : List (TE)
 Vars : List (TW)
 Steps : Int
def zri (x : TC) : SV := .agg [(zj 11 zan) x.Events, (zj 7 zg) x.Log, (zj 6 zl4) x.Vars, (SV.int .i64) x.Steps]
theorem zsj {p : Nat -> Prop} (x : TC) : (zri x).nmd p := ⟨(wl fun _ => (zf2 _)), (wl fun _ => (zrk _)), (wl fun _ => (zqu _)), trivial, trivial⟩
end Go.Sx.O
namespace Go.Sx.O
noncomputable def zS (a0 : List UInt8) (a1 : Int) : Option Int := some (Go.Lib.indexByte a0 a1.toNat.toUInt8)
end Go.Sx.O
namespace Go.Sx.O
open Go
def inK (k : IntKind) (n : Int) : Prop := k.min <= n /\ n <= k.max
def allW {α : Type} (W : α -> Prop) (l : List α) : Prop := ∀ x ∈ l, W x
def w2 {α : Type} (W : α -> Prop) (p : α × α) : Prop := W p.1 /\ W p.2
def w3 {α : Type} (W : α -> Prop) (p : α × α × α) : Prop := W p.1 /\ W p.2.1 /\ W p.2.2
def wN {α : Type} (n : Nat) (W : α -> Prop) (l : List α) : Prop := l.length = n /\ ∀ x ∈ l, W x
structure W_TR (x : TR) : Prop where
 s_ : (fun _ => True) x.s_
 at_ : (inK .i64) x.at_
structure W_TF (x : TF) : Prop where
 low_ : (inK .i64) x.low_
 high_ : (inK .i64) x.high_
structure W_TL (x : TL) : Prop where
 Names : (allW (fun _ => True)) x.Names
 Up : (allW (inK .u8)) x.Up
structure W_TU (x : TU) : Prop where
 From : (inK .i64) x.From
 Goal : (inK .i64) x.Goal
 K : (inK .i64) x.K
structure W_TG (x : TG) : Prop where
 Lattice : W_TL x.Lattice
 bottom_ : (inK .i64) x.bottom_
structure W_TK (x : TK) : Prop where
 Kind : (inK .i64) x.Kind
 From : (inK .i64) x.From
 To : (inK .i64) x.To
 N : (inK .i64) x.N
 S : (fun _ => True) x.S
structure W_Tlattice_order (x : Tlattice_order) : Prop where
 n_ : (inK .i64) x.n_
 up_ : (wN 8 (inK .u8)) x.up_
 down_ : (wN 8 (inK .u8)) x.down_
structure W_TY (x : TY) : Prop where
 Kind : (inK .i64) x.Kind
 Rank : (inK .i64) x.Rank
 Axes : (w2 (inK .i64)) x.Axes
 Data : (inK .i64) x.Data
structure W_TA (x : TA) : Prop where
 Kind : (inK .i64) x.Kind
 Rank : (inK .i64) x.Rank
 Lens : (w2 (inK .i64)) x.Lens
 Cells : (allW (inK .i64)) x.Cells
structure W_TV (x : TV) : Prop where
 Name : (fun _ => True) x.Name
 Type_ : W_TY x.Type_
structure W_TW (x : TW) : Prop where
 Name : (fun _ => True) x.Name
 Value : W_TA x.Value
structure W_TE (x : TE) : Prop where
 Site : (inK .i64) x.Site
 Fold : (inK .i64) x.Fold
 From : (inK .i64) x.From
 Goal : (inK .i64) x.Goal
 Cells : (inK .i64) x.Cells
 Value : (w2 (inK .i64)) x.Value
structure W_TEvEvent (x : TEvEvent) : Prop where
 Kind : (inK .i64) x.Kind
 Site : (inK .i64) x.Site
 Steps : (inK .i64) x.Steps
 Label : (inK .i64) x.Label
 Channel : (fun _ => True) x.Channel
 Value : W_TA x.Value
 E : (inK .i64) x.E
structure W_TP (x : TP) : Prop where
 Lattice : W_TL x.Lattice
 Channels : (allW W_TR) x.Channels
 Vars : (allW W_TV) x.Vars
 Rules : (allW W_TU) x.Rules
structure W_Tinvigilatorlaw28_Types (x : Tinvigilatorlaw28_Types) : Prop where
 V : W_TY x.V
 Y : W_TY x.Y
 From : (inK .i64) x.From
 Goal : (inK .i64) x.Goal
 PC : (inK .i64) x.PC
 EC : (inK .i64) x.EC
 Lower : (inK .i64) x.Lower
 Top : (inK .i64) x.Top
structure W_TC (x : TC) : Prop where
 Events : (allW W_TEvEvent) x.Events
 Log : (allW W_TE) x.Log
 Vars : (allW W_TW) x.Vars
 Steps : (inK .i64) x.Steps
end Go.Sx.O
namespace Go.Sx.O
noncomputable def Fz0 (a0 : List (List UInt8)) : Option (Bool) :=
 Option.bind (
 lpO (fun (s25 : Int) =>
 cond (decide (s25 < (↑(List.length (List.map SV.str a0)) : Int)))
 (cond (decide (s25 < 20))
 (idxO a0 s25 fun x31 =>
 cond (decide (100 < (↑(List.length x31) : Int)))
 (some (.inr (.inr (true))))
 (letO (IntKind.wrap .i64 (s25 + 1)) fun x33 =>
 some (.inl x33)))
 (some (.inr (.inl ()))))
 (some (.inr (.inl ())))) (0))
 (Sum.elim (fun (s23 : Unit) =>
 some (decide (12 < (↑(List.length (List.map SV.str a0)) : Int)))) some)
noncomputable def Fz1 (a0 : TL) : Option (Bool) :=
 (Fz0 (a0.Names)).bind fun x34 =>
 cond x34
 (some (true))
 (some (decide (12 < (↑(List.length (List.map (SV.int .u8) a0.Up)) : Int))))
noncomputable def Fz2 (a0 : TP) : Option (Bool) :=
 Option.bind (
 lpO (fun (s3 : Int) =>
 cond (decide (s3 < (↑(List.length (List.map zQ a0.Channels)) : Int)))
 (cond (decide (s3 < 25))
 (idxO (a0.Channels) s3 fun x9 =>
 cond (decide (100 < (↑(List.length x9.s_) : Int)))
 (some (.inr (.inr (true))))
 (letO (IntKind.wrap .i64 (s3 + 1)) fun x11 =>
 some (.inl x11)))
 (some (.inr (.inl ()))))
 (some (.inr (.inl ())))) (0))
 (Sum.elim (fun (s1 : Unit) =>
 Option.bind (
 lpO (fun (s14 : Int) =>
 cond (decide (s14 < (↑(List.length (List.map wF a0.Vars)) : Int)))
 (cond (decide (s14 < 45))
 (idxO (a0.Vars) s14 fun x20 =>
 cond (decide (100 < (↑(List.length x20.Name) : Int)))
 (some (.inr (.inr (true))))
 (letO (IntKind.wrap .i64 (s14 + 1)) fun x22 =>
 some (.inl x22)))
 (some (.inr (.inl ()))))
 (some (.inr (.inl ())))) (0))
 (Sum.elim (fun (s12 : Unit) =>
 (Fz1 (a0.Lattice)).bind fun x36 =>
 cond x36
 (some (true))
 (cond (decide (20 < (↑(List.length (List.map zQ a0.Channels)) : Int)))
 (some (true))
 (cond (decide (40 < (↑(List.length (List.map wF a0.Vars)) : Int)))
 (some (true))
 (some (decide (70 < (↑(List.length (List.map wq a0.Rules)) : Int))))))) some)) some)
noncomputable def Fz3 (a0 : List UInt8) (a1 : Int) : Option (List UInt8) :=
 Option.bind (
 lpO (fun (s66 : List UInt8) =>
 cond (decide (0 < (↑(List.length s66) : Int)))
 (letO (IntKind.wrap .i64 ((↑(List.length s66) : Int) - 1)) fun x73 =>
 idxO s66 x73 fun x74 =>
 cond (decide ((↑(UInt8.toNat x74) : Int) = a1))
 (letO (IntKind.wrap .i64 ((↑(List.length s66) : Int) - 1)) fun x76 =>
 zm (0 <= x76 /\ x76 <= (↑(List.length s66) : Int)) (
 some (.inl (List.drop (Int.toNat 0) (List.take (Int.toNat x76) s66)))))
 (some (.inr (.inl s66))))
 (some (.inr (.inl s66)))) a0)
 (Sum.elim (fun (s64 : List UInt8) =>
 some s64) some)
noncomputable def Fz4 (a0 : List UInt8) (a1 : Int) : Option (List UInt8) :=
 Option.bind (
 lpO (fun (s81 : List UInt8) =>
 cond (decide (0 < (↑(List.length s81) : Int)))
 (idxO s81 (0) fun x86 =>
 cond (decide ((↑(UInt8.toNat x86) : Int) = a1))
 (zm ((0 : Int) <= (1 : Int) /\ (1 : Int) <= (↑(List.length s81) : Int)) (
 some (.inl (List.drop (Int.toNat 1) (List.take (Int.toNat (↑(List.length s81) : Int)) s81)))))
 (some (.inr (.inl s81))))
 (some (.inr (.inl s81)))) a0)
 (Sum.elim (fun (s79 : List UInt8) =>
 some s79) some)
noncomputable def Fz5 (a0 : List UInt8) : Option (List Bool × Bool) :=
 Option.bind (
 lpO (fun (s91 : Int × List Bool) =>
 cond (decide (s91.fst < (↑(List.length a0) : Int)))
 (idxO a0 (s91.fst) fun x97 =>
 cond (decide (128 <= (↑(UInt8.toNat x97) : Int)))
 (some (.inr (.inr ((s91.snd, false)))))
 (zm ((0 : Int) <= (↑(UInt8.toNat x97) : Int) /\ (↑(UInt8.toNat x97) : Int) < (↑(256 : Nat) : Int)) (
 idxO (s91.snd) ((↑(Int.toNat (↑(UInt8.toNat x97) : Int)) : Int)) fun x99 =>
 letO (IntKind.wrap .i64 (s91.fst + 1)) fun x100 =>
 some (.inl ((x100, List.set s91.snd (Int.toNat (↑(UInt8.toNat x97) : Int)) true))))))
 (some (.inr (.inl (s91.snd))))) ((0, List.replicate 256 false)))
 (Sum.elim (fun (s89 : List Bool) =>
 some ((s89, true))) some)
noncomputable def Fz6 (a0 : List Bool) (a1 : Int) : Option (Bool) :=
 zm (0 <= a1 /\ a1 < (↑(256 : Nat) : Int)) (
 idxO a0 ((↑(Int.toNat a1) : Int)) fun x108 =>
 some x108)
noncomputable def Fz7 (a0 : List UInt8) (a1 : List Bool) : Option (List UInt8) :=
 Option.bind (
 lpO (fun (s105 : List UInt8) =>
 cond (decide (0 < (↑(List.length s105) : Int)))
 (letO (IntKind.wrap .i64 ((↑(List.length s105) : Int) - 1)) fun x113 =>
 idxO s105 x113 fun x114 =>
 (Fz6 a1 ((↑(UInt8.toNat x114) : Int))).bind fun x115 =>
 cond (!x115)
 (some (.inr (.inl s105)))
 (letO (IntKind.wrap .i64 ((↑(List.length s105) : Int) - 1)) fun x117 =>
 zm (0 <= x117 /\ x117 <= (↑(List.length s105) : Int)) (
 some (.inl (List.drop (Int.toNat 0) (List.take (Int.toNat x117) s105))))))
 (some (.inr (.inl s105)))) a0)
 (Sum.elim (fun (s103 : List UInt8) =>
 some s103) some)
noncomputable def Fz8 (a0 : List UInt8) (a1 : List Bool) : Option (List UInt8) :=
 Option.bind (
 lpO (fun (s121 : List UInt8) =>
 cond (decide (0 < (↑(List.length s121) : Int)))
 (idxO s121 (0) fun x127 =>
 (Fz6 a1 ((↑(UInt8.toNat x127) : Int))).bind fun x128 =>
 cond (!x128)
 (some (.inr (.inl s121)))
 (zm ((0 : Int) <= (1 : Int) /\ (1 : Int) <= (↑(List.length s121) : Int)) (
 some (.inl (List.drop (Int.toNat 1) (List.take (Int.toNat (↑(List.length s121) : Int)) s121))))))
 (some (.inr (.inl s121)))) a0)
 (Sum.elim (fun (s119 : List UInt8) =>
 some s119) some)
noncomputable def Fz9 (a0 : Int) : Option (Bool) :=
 some (!decide (bits BinOp.and IntKind.u8 a0 192 = 128))
noncomputable def Fz10 (a0 : List UInt8) : Option (Int × Int) :=
 cond (decide ((↑(List.length a0) : Int) < 1))
 (some ((65533, 0)))
 (idxO a0 (0) fun x165 =>
 none)
noncomputable def Fz11 (a0 : List UInt8) : Option (Int × Int) :=
 cond (!decide (a0 = (ByteArray.mk #[]).data.toList))
 (idxO a0 (0) fun x160 =>
 cond (decide ((↑(UInt8.toNat x160) : Int) < 128))
 (idxO a0 (0) fun x162 =>
 letO (IntKind.wrap .i32 (↑(UInt8.toNat x162) : Int)) fun x163 =>
 some ((x163, 1)))
 ((Fz10 a0).bind fun x166 =>
 some x166))
 ((Fz10 a0).bind fun x167 =>
 some x167)
noncomputable def Fz12 (a0 : List UInt8) : Option (Int × Int) :=
 cond (decide ((↑(List.length a0) : Int) = 0))
 (some ((65533, 0)))
 (letO (IntKind.wrap .i64 ((↑(List.length a0) : Int) - 1)) fun x139 =>
 idxO a0 x139 fun x140 =>
 letO (IntKind.wrap .i32 (↑(UInt8.toNat x140) : Int)) fun x141 =>
 cond (decide (x141 < 128))
 (some ((x141, 1)))
 (letO (IntKind.wrap .i64 ((↑(List.length a0) : Int) - 4)) fun x143 =>
 letO (IntKind.wrap .i64 (x139 - 1)) fun x144 =>
 Option.bind (
 lpO (fun (s147 : Int) =>
 cond (decide (max x143 0 <= s147))
 (idxO a0 s147 fun x154 =>
 (Fz9 ((↑(UInt8.toNat x154) : Int))).bind fun x155 =>
 cond x155
 (some (.inr (.inl s147)))
 (letO (IntKind.wrap .i64 (s147 - 1)) fun x157 =>
 some (.inl x157)))
 (some (.inr (.inl s147)))) x144)
 (Sum.elim (fun (s145 : Int) =>
 cond (decide (s145 < 0))
 (zm ((0 : Int) <= (0 : Int) /\ (0 : Int) <= (↑(List.length a0) : Int) /\ (↑(List.length a0) : Int) <= (↑(List.length a0) : Int)) (
 (Fz11 (List.drop (Int.toNat 0) (List.take (Int.toNat (↑(List.length a0) : Int)) a0))).bind fun x168 =>
 letO (IntKind.wrap .i64 (0 + x168.snd)) fun x169 =>
 cond (!decide (x169 = (↑(List.length a0) : Int)))
 (some ((65533, 1)))
 (some x168)))
 (zm (0 <= s145 /\ s145 <= (↑(List.length a0) : Int) /\ (↑(List.length a0) : Int) <= (↑(List.length a0) : Int)) (
 (Fz11 (List.drop (Int.toNat s145) (List.take (Int.toNat (↑(List.length a0) : Int)) a0))).bind fun x171 =>
 letO (IntKind.wrap .i64 (s145 + x171.snd)) fun x172 =>
 cond (!decide (x172 = (↑(List.length a0) : Int)))
 (some ((65533, 1)))
 (some x171)))) some)))
noncomputable def Fz13 (a0 : List UInt8) (a1 : Int) : Option (Int) :=
 (zS a0 a1).bind fun x178 =>
 some x178
noncomputable def Fz14 (a0 : Int) : Option (Bool) :=
 cond (decide (0 <= a0))
 (cond (decide (a0 < 55296))
 (some (true))
 (cond (decide (57343 < a0))
 (cond (decide (a0 <= 1114111))
 (some (true))
 (some (false)))
 (some (false))))
 (cond (decide (57343 < a0))
 (cond (decide (a0 <= 1114111))
 (some (true))
 (some (false)))
 (some (false)))
noncomputable def Fz15 (a0 : List UInt8) (a1 : Int) : Option (Int) :=
 cond (decide (0 <= a1))
 (cond (decide (a1 < 128))
 (letO (IntKind.wrap .u8 a1) fun x177 =>
 (Fz13 a0 x177).bind fun x179 =>
 some x179)
 (cond (decide (a1 = 65533))
 (none)
 ((Fz14 a1).bind fun x187 =>
 cond (!x187)
 (some ((-1 : Int)))
 (letO (IntKind.wrap .i64 ((↑(List.length (Utf8.encode a1).data.toList) : Int) - 1)) fun x189 =>
 Option.bind (
 lpO (fun (s192 : Unit) =>
 cond (decide (x189 < (↑(List.length a0) : Int)))
 (idxO a0 x189 fun x194 =>
 idxO ((Utf8.encode a1).data.toList) x189 fun x195 =>
 cond (!decide ((↑(UInt8.toNat x194) : Int) = (↑(UInt8.toNat x195) : Int)))
 (letO (IntKind.wrap .i64 (x189 + 1)) fun x197 =>
 zm (0 <= x197 /\ x197 <= (↑(List.length a0) : Int)) (
 idxO ((Utf8.encode a1).data.toList) x189 fun x198 =>
 (Fz13 (List.drop (Int.toNat x197) (List.take (Int.toNat (↑(List.length a0) : Int)) a0)) ((↑(UInt8.toNat x198) : Int))).bind fun x199 =>
 cond (decide (x199 < 0))
 (some (.inr (.inr ((-1 : Int)))))
 (letO (IntKind.wrap .i64 (x199 + 1)) fun x201 =>
 letO (IntKind.wrap .i64 (x189 + x201)) fun x202 =>
 Option.bind (
 lpO (fun (s205 : Int) =>
 cond (decide (s205 < (↑(List.length (Utf8.encode a1).data.toList) : Int)))
 (letO (IntKind.wrap .i64 (x202 - s205)) fun x213 =>
 idxO a0 x213 fun x214 =>
 letO (IntKind.wrap .i64 (x189 - s205)) fun x215 =>
 idxO ((Utf8.encode a1).data.toList) x215 fun x216 =>
 cond (!decide ((↑(UInt8.toNat x214) : Int) = (↑(UInt8.toNat x216) : Int)))
 (none)
 (letO (IntKind.wrap .i64 (s205 + 1)) fun x218 =>
 some (.inl x218)))
 (some (.inr (.inl ())))) (1))
 (Sum.elim (fun (s203 : Unit) =>
 letO (IntKind.wrap .i64 (x202 - x189)) fun x219 =>
 some (.inr (.inr x219))) some))))
 (Option.bind (
 lpO (fun (s222 : Int) =>
 cond (decide (s222 < (↑(List.length (Utf8.encode a1).data.toList) : Int)))
 (letO (IntKind.wrap .i64 (x189 - s222)) fun x230 =>
 idxO a0 x230 fun x231 =>
 letO (IntKind.wrap .i64 (x189 - s222)) fun x232 =>
 idxO ((Utf8.encode a1).data.toList) x232 fun x233 =>
 cond (!decide ((↑(UInt8.toNat x231) : Int) = (↑(UInt8.toNat x233) : Int)))
 (none)
 (letO (IntKind.wrap .i64 (s222 + 1)) fun x235 =>
 some (.inl x235)))
 (some (.inr (.inl ())))) (1))
 (Sum.elim (fun (s220 : Unit) =>
 letO (IntKind.wrap .i64 (x189 - x189)) fun x236 =>
 some (.inr (.inr x236))) some)))
 (some (.inr (.inl ())))) (()))
 (Sum.elim (fun (s190 : Unit) =>
 some ((-1 : Int))) some)))))
 (cond (decide (a1 = 65533))
 (none)
 ((Fz14 a1).bind fun x238 =>
 cond (!x238)
 (some ((-1 : Int)))
 (letO (IntKind.wrap .i64 ((↑(List.length (Utf8.encode a1).data.toList) : Int) - 1)) fun x240 =>
 Option.bind (
 lpO (fun (s243 : Unit) =>
 cond (decide (x240 < (↑(List.length a0) : Int)))
 (idxO a0 x240 fun x245 =>
 idxO ((Utf8.encode a1).data.toList) x240 fun x246 =>
 cond (!decide ((↑(UInt8.toNat x245) : Int) = (↑(UInt8.toNat x246) : Int)))
 (letO (IntKind.wrap .i64 (x240 + 1)) fun x248 =>
 zm (0 <= x248 /\ x248 <= (↑(List.length a0) : Int)) (
 idxO ((Utf8.encode a1).data.toList) x240 fun x249 =>
 (Fz13 (List.drop (Int.toNat x248) (List.take (Int.toNat (↑(List.length a0) : Int)) a0)) ((↑(UInt8.toNat x249) : Int))).bind fun x250 =>
 cond (decide (x250 < 0))
 (some (.inr (.inr ((-1 : Int)))))
 (letO (IntKind.wrap .i64 (x250 + 1)) fun x252 =>
 letO (IntKind.wrap .i64 (x240 + x252)) fun x253 =>
 Option.bind (
 lpO (fun (s256 : Int) =>
 cond (decide (s256 < (↑(List.length (Utf8.encode a1).data.toList) : Int)))
 (letO (IntKind.wrap .i64 (x253 - s256)) fun x264 =>
 idxO a0 x264 fun x265 =>
 letO (IntKind.wrap .i64 (x240 - s256)) fun x266 =>
 idxO ((Utf8.encode a1).data.toList) x266 fun x267 =>
 cond (!decide ((↑(UInt8.toNat x265) : Int) = (↑(UInt8.toNat x267) : Int)))
 (none)
 (letO (IntKind.wrap .i64 (s256 + 1)) fun x269 =>
 some (.inl x269)))
 (some (.inr (.inl ())))) (1))
 (Sum.elim (fun (s254 : Unit) =>
 letO (IntKind.wrap .i64 (x253 - x240)) fun x270 =>
 some (.inr (.inr x270))) some))))
 (Option.bind (
 lpO (fun (s273 : Int) =>
 cond (decide (s273 < (↑(List.length (Utf8.encode a1).data.toList) : Int)))
 (letO (IntKind.wrap .i64 (x240 - s273)) fun x281 =>
 idxO a0 x281 fun x282 =>
 letO (IntKind.wrap .i64 (x240 - s273)) fun x283 =>
 idxO ((Utf8.encode a1).data.toList) x283 fun x284 =>
 cond (!decide ((↑(UInt8.toNat x282) : Int) = (↑(UInt8.toNat x284) : Int)))
 (none)
 (letO (IntKind.wrap .i64 (s273 + 1)) fun x286 =>
 some (.inl x286)))
 (some (.inr (.inl ())))) (1))
 (Sum.elim (fun (s271 : Unit) =>
 letO (IntKind.wrap .i64 (x240 - x240)) fun x287 =>
 some (.inr (.inr x287))) some)))
 (some (.inr (.inl ())))) (()))
 (Sum.elim (fun (s241 : Unit) =>
 some ((-1 : Int))) some))))
noncomputable def Fz16 (a0 : List UInt8) (a1 : Int) : Option (Bool) :=
 (Fz15 a0 a1).bind fun x288 =>
 some (decide (0 <= x288))
noncomputable def Fz17 (a0 : List UInt8) (a1 : List UInt8) : Option (List UInt8) :=
 Option.bind (
 lpO (fun (s133 : List UInt8) =>
 cond (decide (0 < (↑(List.length s133) : Int)))
 (letO (IntKind.wrap .i64 ((↑(List.length s133) : Int) - 1)) fun x147 =>
 idxO s133 x147 fun x148 =>
 letO (IntKind.wrap .i32 (↑(UInt8.toNat x148) : Int)) fun x149 =>
 cond (decide (128 <= x149))
 ((Fz12 s133).bind fun x151 =>
 (Fz16 a1 (x151.fst)).bind fun x152 =>
 cond (!x152)
 (some (.inr (.inl s133)))
 (letO (IntKind.wrap .i64 ((↑(List.length s133) : Int) - x151.snd)) fun x154 =>
 zm (0 <= x154 /\ x154 <= (↑(List.length s133) : Int)) (
 some (.inl (List.drop (Int.toNat 0) (List.take (Int.toNat x154) s133))))))
 ((Fz16 a1 x149).bind fun x155 =>
 cond (!x155)
 (some (.inr (.inl s133)))
 (letO (IntKind.wrap .i64 ((↑(List.length s133) : Int) - 1)) fun x157 =>
 zm (0 <= x157 /\ x157 <= (↑(List.length s133) : Int)) (
 some (.inl (List.drop (Int.toNat 0) (List.take (Int.toNat x157) s133)))))))
 (some (.inr (.inl s133)))) a0)
 (Sum.elim (fun (s131 : List UInt8) =>
 some s131) some)
noncomputable def Fz18 (a0 : List UInt8) (a1 : List UInt8) : Option (List UInt8) :=
 Option.bind (
 lpO (fun (s161 : List UInt8) =>
 cond (decide (0 < (↑(List.length s161) : Int)))
 ((Fz11 s161).bind fun x167 =>
 (Fz16 a1 (x167.fst)).bind fun x168 =>
 cond (!x168)
 (some (.inr (.inl s161)))
 (zm (0 <= x167.snd /\ x167.snd <= (↑(List.length s161) : Int)) (
 some (.inl (List.drop (Int.toNat x167.snd) (List.take (Int.toNat (↑(List.length s161) : Int)) s161))))))
 (some (.inr (.inl s161)))) a0)
 (Sum.elim (fun (s159 : List UInt8) =>
 some s159) some)
noncomputable def Fz19 (a0 : List UInt8) (a1 : List UInt8) : Option (List UInt8) :=
 cond (decide (a0 = (ByteArray.mk #[]).data.toList))
 (some a0)
 (cond (decide (a1 = (ByteArray.mk #[]).data.toList))
 (some a0)
 (cond (decide ((↑(List.length a1) : Int) = 1))
 (idxO a1 (0) fun x61 =>
 cond (decide ((↑(UInt8.toNat x61) : Int) < 128))
 (idxO a1 (0) fun x63 =>
 (Fz3 a0 ((↑(UInt8.toNat x63) : Int))).bind fun x77 =>
 idxO a1 (0) fun x78 =>
 (Fz4 x77 ((↑(UInt8.toNat x78) : Int))).bind fun x88 =>
 some x88)
 ((Fz5 a1).bind fun x101 =>
 cond (x101.snd)
 ((Fz7 a0 (x101.fst)).bind fun x118 =>
 (Fz8 x118 (x101.fst)).bind fun x130 =>
 some x130)
 ((Fz17 a0 a1).bind fun x158 =>
 (Fz18 x158 a1).bind fun x170 =>
 some x170)))
 ((Fz5 a1).bind fun x171 =>
 cond (x171.snd)
 ((Fz7 a0 (x171.fst)).bind fun x173 =>
 (Fz8 x173 (x171.fst)).bind fun x174 =>
 some x174)
 ((Fz17 a0 a1).bind fun x175 =>
 (Fz18 x175 a1).bind fun x176 =>
 some x176))))
noncomputable def Fz20 (a0 : List UInt8) : Option (Bool) :=
 cond (decide (a0 = (ByteArray.mk #[]).data.toList))
 (some (false))
 (cond (decide (16 < (↑(List.length a0) : Int)))
 (some (false))
 (idxO a0 (0) fun x54 =>
 cond (decide ((↑(UInt8.toNat x54) : Int) < 97))
 (some (false))
 (idxO a0 (0) fun x56 =>
 cond (decide (122 < (↑(UInt8.toNat x56) : Int)))
 (some (false))
 ((Fz19 a0 ((ByteArray.mk #[97, 98, 99, 100, 101, 102, 103, 104, 105, 106, 107, 108, 109, 110, 111, 112, 113, 114, 115, 116, 117, 118, 119, 120, 121, 122, 48, 49, 50, 51, 52, 53, 54, 55, 56, 57, 45]).data.toList)).bind fun x177 =>
 some (decide (x177 = (ByteArray.mk #[]).data.toList))))))
noncomputable def Fz21 (a0 : List (List UInt8)) (a1 : List UInt8) : Option (Int) :=
 Option.bind (
 lpO (fun (s182 : Int) =>
 cond (decide (s182 < (↑(List.length (List.map SV.str a0)) : Int)))
 (idxO a0 s182 fun x187 =>
 cond (decide (a1 = x187))
 (some (.inr (.inr s182)))
 (letO (IntKind.wrap .i64 (s182 + 1)) fun x189 =>
 some (.inl x189)))
 (some (.inr (.inl ())))) (0))
 (Sum.elim (fun (s180 : Unit) =>
 some ((-1 : Int))) some)
noncomputable def Fz22 (a0 : List (List UInt8)) (a1 : List UInt8) : Option (Bool) :=
 (Fz21 a0 a1).bind fun x190 =>
 some (decide (0 <= x190))
noncomputable def Fz23 (a0 : List (List UInt8)) : Option (Int × Int) :=
 cond (decide ((↑(List.length (List.map SV.str a0)) : Int) < 1))
 (some (((-1 : Int), 3)))
 (cond (decide (8 < (↑(List.length (List.map SV.str a0)) : Int)))
 (some (((-1 : Int), 3)))
 (Option.bind (
 lpO (fun (s50 : Int) =>
 cond (decide (s50 < (↑(List.length (List.map SV.str a0)) : Int)))
 (idxO a0 s50 fun x58 =>
 (Fz20 x58).bind fun x59 =>
 cond (!x59)
 (some (.inr (.inr ((s50, 6)))))
 (zm (0 <= s50 /\ s50 <= (↑(List.length (List.map SV.str a0)) : Int)) (
 (Fz22 (List.drop (Int.toNat 0) (List.take (Int.toNat s50) a0)) x58).bind fun x61 =>
 cond x61
 (some (.inr (.inr ((s50, 8)))))
 (letO (IntKind.wrap .i64 (s50 + 1)) fun x63 =>
 some (.inl x63)))))
 (some (.inr (.inl ())))) (0))
 (Sum.elim (fun (s48 : Unit) =>
 some ((0, 0))) some)))
noncomputable def Fz24 (a0 : Int) : Option (Int) :=
 idxO ((ByteArray.mk (List.toArray (List.append (List.append [(0 : UInt8), 1, 2, 2, 3, 3, 3, 3, 4, 4, 4, 4, 4, 4, 4, 4, 5, 5, 5, 5, 5, 5, 5, 5, 5, 5, 5, 5, 5, 5, 5, 5, 6, 6, 6, 6, 6, 6, 6, 6, 6, 6, 6, 6, 6, 6, 6, 6, 6, 6, 6, 6, 6, 6, 6, 6, 6, 6, 6, 6, 6, 6, 6, 6] [(7 : UInt8), 7, 7, 7, 7, 7, 7, 7, 7, 7, 7, 7, 7, 7, 7, 7, 7, 7, 7, 7, 7, 7, 7, 7, 7, 7, 7, 7, 7, 7, 7, 7, 7, 7, 7, 7, 7, 7, 7, 7, 7, 7, 7, 7, 7, 7, 7, 7, 7, 7, 7, 7, 7, 7, 7, 7, 7, 7, 7, 7, 7, 7, 7, 7]) (List.append [(8 : UInt8), 8, 8, 8, 8, 8, 8, 8, 8, 8, 8, 8, 8, 8, 8, 8, 8, 8, 8, 8, 8, 8, 8, 8, 8, 8, 8, 8, 8, 8, 8, 8, 8, 8, 8, 8, 8, 8, 8, 8, 8, 8, 8, 8, 8, 8, 8, 8, 8, 8, 8, 8, 8, 8, 8, 8, 8, 8, 8, 8, 8, 8, 8, 8] [(8 : UInt8), 8, 8, 8, 8, 8, 8, 8, 8, 8, 8, 8, 8, 8, 8, 8, 8, 8, 8, 8, 8, 8, 8, 8, 8, 8, 8, 8, 8, 8, 8, 8, 8, 8, 8, 8, 8, 8, 8, 8, 8, 8, 8, 8, 8, 8, 8, 8, 8, 8, 8, 8, 8, 8, 8, 8, 8, 8, 8, 8, 8, 8, 8, 8])))).data.toList) a0 fun x73 =>
 letO (IntKind.wrap .i64 (↑(UInt8.toNat x73) : Int)) fun x74 =>
 some x74
noncomputable def Fz25 (a0 : TL) : Option (Tlattice_order) :=
 Option.bind (
 lpO (fun (s146 : Int × List Int × List Int) =>
 cond (decide (s146.fst < (↑(List.length (List.map (SV.int .u8) a0.Up)) : Int)))
 (idxO (a0.Up) (s146.fst) fun x160 =>
 zm (0 <= s146.fst /\ s146.fst < (↑(8 : Nat) : Int)) (
 idxO (s146.snd.fst) ((↑(Int.toNat s146.fst) : Int)) fun x161 =>
 Option.bind (
 lpO (fun (s164 : Int × List Int) =>
 cond (decide (s164.fst < (↑(List.length (List.map SV.str a0.Names)) : Int)))
 (zm (0 <= s164.fst /\ s164.fst < (↑(8 : Nat) : Int)) (
 idxO (s164.snd) ((↑(Int.toNat s164.fst) : Int)) fun x170 =>
 zm (0 <= s164.fst) (
 zm (0 <= s146.fst) (
 letO (IntKind.wrap .u8 (bits BinOp.and IntKind.u8 (Int.fdiv x160 (2 ^ min (Int.toNat s164.fst) (IntKind.bits IntKind.u8))) 1 * 2 ^ min (Int.toNat s146.fst) (IntKind.bits IntKind.u8))) fun x171 =>
 zm (0 <= s164.fst /\ s164.fst < (↑(8 : Nat) : Int)) (
 idxO (s164.snd) ((↑(Int.toNat s164.fst) : Int)) fun x172 =>
 letO (IntKind.wrap .i64 (s164.fst + 1)) fun x173 =>
 some (.inl ((x173, List.set s164.snd (Int.toNat s164.fst) (bits BinOp.or IntKind.u8 x170 x171)))))))))
 (some (.inr (.inl (s164.snd))))) ((0, s146.snd.snd)))
 (Sum.elim (fun (s162 : List Int) =>
 letO (IntKind.wrap .i64 (s146.fst + 1)) fun x174 =>
 some (.inl ((x174, List.set s146.snd.fst (Int.toNat s146.fst) x160, s162)))) some)))
 (some (.inr (.inl (s146.snd))))) ((0, [0, 0, 0, 0, 0, 0, 0, 0], [0, 0, 0, 0, 0, 0, 0, 0])))
 (Sum.elim (fun (s144 : List Int × List Int) =>
 some (Tlattice_order.mk (↑(List.length (List.map SV.str a0.Names)) : Int) s144.fst s144.snd)) some)
noncomputable def Fz26 (a0 : List Int) (a1 : Int) (a2 : Int) (a3 : Int) : Option (Int) :=
 zm (0 <= a2 /\ a2 < (↑(8 : Nat) : Int)) (
 idxO a0 ((↑(Int.toNat a2) : Int)) fun x181 =>
 zm (0 <= a3 /\ a3 < (↑(8 : Nat) : Int)) (
 idxO a0 ((↑(Int.toNat a3) : Int)) fun x182 =>
 Option.bind (
 lpO (fun (s185 : Int) =>
 cond (decide (s185 < a1))
 (zm (0 <= s185) (
 cond (decide (bits BinOp.and IntKind.u8 (Int.fdiv (bits BinOp.and IntKind.u8 x181 x182) (2 ^ min (Int.toNat s185) (IntKind.bits IntKind.u8))) 1 = 1))
 (zm (0 <= s185 /\ s185 < (↑(8 : Nat) : Int)) (
 idxO a0 ((↑(Int.toNat s185) : Int)) fun x192 =>
 cond (decide (x192 = bits BinOp.and IntKind.u8 x181 x182))
 (some (.inr (.inr s185)))
 (letO (IntKind.wrap .i64 (s185 + 1)) fun x194 =>
 some (.inl x194))))
 (letO (IntKind.wrap .i64 (s185 + 1)) fun x195 =>
 some (.inl x195))))
 (some (.inr (.inl ())))) (0))
 (Sum.elim (fun (s183 : Unit) =>
 some ((-1 : Int))) some)))
noncomputable def Fz27 (a0 : List Int) (a1 : Int) (a2 : Int) (a3 : Int) : Option (Int) :=
 zm (0 <= a2 /\ a2 < (↑(8 : Nat) : Int)) (
 idxO a0 ((↑(Int.toNat a2) : Int)) fun x198 =>
 zm (0 <= a3 /\ a3 < (↑(8 : Nat) : Int)) (
 idxO a0 ((↑(Int.toNat a3) : Int)) fun x199 =>
 Option.bind (
 lpO (fun (s202 : Int) =>
 cond (decide (s202 < a1))
 (zm (0 <= s202) (
 cond (decide (bits BinOp.and IntKind.u8 (Int.fdiv (bits BinOp.and IntKind.u8 x198 x199) (2 ^ min (Int.toNat s202) (IntKind.bits IntKind.u8))) 1 = 1))
 (zm (0 <= s202 /\ s202 < (↑(8 : Nat) : Int)) (
 idxO a0 ((↑(Int.toNat s202) : Int)) fun x209 =>
 cond (decide (x209 = bits BinOp.and IntKind.u8 x198 x199))
 (some (.inr (.inr s202)))
 (letO (IntKind.wrap .i64 (s202 + 1)) fun x211 =>
 some (.inl x211))))
 (letO (IntKind.wrap .i64 (s202 + 1)) fun x212 =>
 some (.inl x212))))
 (some (.inr (.inl ())))) (0))
 (Sum.elim (fun (s200 : Unit) =>
 some ((-1 : Int))) some)))
noncomputable def Fz28 (a0 : TL) : Option (Int × Int) :=
 (Fz23 (a0.Names)).bind fun x64 =>
 cond (!decide (x64.snd = 0))
 (some x64)
 (cond (!decide ((↑(List.length (List.map (SV.int .u8) a0.Up)) : Int) = (↑(List.length (List.map SV.str a0.Names)) : Int)))
 (some (((-1 : Int), 6)))
 (zm ((0 : Int) <= (↑(List.length (List.map SV.str a0.Names)) : Int)) (
 letO (IntKind.wrap .u8 (1 * 2 ^ min (Int.toNat (↑(List.length (List.map SV.str a0.Names)) : Int)) (IntKind.bits IntKind.u8))) fun x67 =>
 letO (IntKind.wrap .u8 (x67 - 1)) fun x68 =>
 Option.bind (
 lpO (fun (s71 : Int) =>
 cond (decide (s71 < (↑(List.length (List.map (SV.int .u8) a0.Up)) : Int)))
 (idxO (a0.Up) s71 fun x101 =>
 (Fz24 x101).bind fun x102 =>
 cond (decide ((↑(List.length (List.map SV.str a0.Names)) : Int) < x102))
 (some (.inr (.inr ((s71, 6)))))
 (zm (0 <= s71) (
 cond (decide (bits BinOp.and IntKind.u8 (Int.fdiv x101 (2 ^ min (Int.toNat s71) (IntKind.bits IntKind.u8))) 1 = 0))
 (some (.inr (.inr ((s71, 6)))))
 (Option.bind (
 lpO (fun (s107 : Int) =>
 cond (decide (s107 < (↑(List.length (List.map (SV.int .u8) a0.Up)) : Int)))
 (idxO (a0.Up) s107 fun x125 =>
 zm (0 <= s107) (
 cond (decide (bits BinOp.and IntKind.u8 (Int.fdiv x101 (2 ^ min (Int.toNat s107) (IntKind.bits IntKind.u8))) 1 = 0))
 (letO (IntKind.wrap .i64 ((↑(List.length (List.map SV.str a0.Names)) : Int) - 1)) fun x127 =>
 cond (decide (s107 = x127))
 (letO (IntKind.wrap .i64 (s71 + 1)) fun x129 =>
 some (.inr (.inr (.inl x129))))
 (letO (IntKind.wrap .i64 (s107 + 1)) fun x130 =>
 some (.inl x130)))
 (cond (!decide (s107 = s71))
 (zm (0 <= s71) (
 cond (decide (bits BinOp.and IntKind.u8 (Int.fdiv x125 (2 ^ min (Int.toNat s71) (IntKind.bits IntKind.u8))) 1 = 1))
 (some (.inr (.inr (.inr (.inr ((s71, 6)))))))
 (cond (!decide (bits BinOp.andNot IntKind.u8 (bits BinOp.and IntKind.u8 x125 x68) x101 = 0))
 (some (.inr (.inr (.inr (.inr ((s71, 6)))))))
 (letO (IntKind.wrap .i64 ((↑(List.length (List.map SV.str a0.Names)) : Int) - 1)) fun x134 =>
 cond (decide (s107 = x134))
 (letO (IntKind.wrap .i64 (s71 + 1)) fun x136 =>
 some (.inr (.inr (.inl x136))))
 (letO (IntKind.wrap .i64 (s107 + 1)) fun x137 =>
 some (.inl x137))))))
 (cond (!decide (bits BinOp.andNot IntKind.u8 (bits BinOp.and IntKind.u8 x125 x68) x101 = 0))
 (some (.inr (.inr (.inr (.inr ((s71, 6)))))))
 (letO (IntKind.wrap .i64 ((↑(List.length (List.map SV.str a0.Names)) : Int) - 1)) fun x139 =>
 cond (decide (s107 = x139))
 (letO (IntKind.wrap .i64 (s71 + 1)) fun x141 =>
 some (.inr (.inr (.inl x141))))
 (letO (IntKind.wrap .i64 (s107 + 1)) fun x142 =>
 some (.inl x142)))))))
 (some (.inr (.inl ())))) (0))
 (Sum.elim (fun (s105 : Unit) =>
 letO (IntKind.wrap .i64 (s71 + 1)) fun x143 =>
 some (.inl x143)) some)))))
 (some (.inr (.inl ())))) (0))
 (Sum.elim (fun (s69 : Unit) =>
 (Fz25 a0).bind fun x175 =>
 Option.bind (
 lpO (fun (s178 : Int) =>
 cond (decide (s178 < (↑(List.length (List.map SV.str a0.Names)) : Int)))
 (Option.bind (
 lpO (fun (s196 : Int) =>
 cond (decide (s196 < (↑(List.length (List.map SV.str a0.Names)) : Int)))
 ((Fz26 (x175.up_) ((↑(List.length (List.map SV.str a0.Names)) : Int)) s178 s196).bind fun x203 =>
 cond (decide (x203 < 0))
 (some (.inr (.inr (.inr (.inr ((s178, 4)))))))
 ((Fz27 (x175.down_) ((↑(List.length (List.map SV.str a0.Names)) : Int)) s178 s196).bind fun x205 =>
 cond (decide (x205 < 0))
 (some (.inr (.inr (.inr (.inr ((s178, 4)))))))
 (letO (IntKind.wrap .i64 (s196 + 1)) fun x207 =>
 some (.inl x207))))
 (some (.inr (.inl ())))) (0))
 (Sum.elim (fun (s194 : Unit) =>
 letO (IntKind.wrap .i64 (s178 + 1)) fun x208 =>
 some (.inl x208)) some))
 (some (.inr (.inl ())))) (0))
 (Sum.elim (fun (s176 : Unit) =>
 some ((0, 0))) some)) some))))
noncomputable def Fz29 (a0 : TP) : Option (Int × Int) :=
 (Fz28 (a0.Lattice)).bind fun x209 =>
 some x209
noncomputable def Fz30 (a0 : List UInt8) : Option (Int × Int) :=
 Option.bind (
 cond (decide ([(110 : UInt8), (101 : UInt8), (103 : UInt8)] = a0))
 (some (.inr ((1, 0))))
 (cond (decide ([(97 : UInt8), (98 : UInt8), (115 : UInt8)] = a0))
 (some (.inr ((2, 0))))
 (cond (decide ([(110 : UInt8), (111 : UInt8), (116 : UInt8)] = a0))
 (some (.inr ((3, 0))))
 (cond (decide ([(115 : UInt8), (104 : UInt8), (97 : UInt8), (112 : UInt8), (101 : UInt8)] = a0))
 (some (.inr ((4, 0))))
 (cond (decide ([(114 : UInt8), (97 : UInt8), (118 : UInt8), (101 : UInt8), (108 : UInt8)] = a0))
 (some (.inr ((5, 0))))
 (cond (decide ([(114 : UInt8), (101 : UInt8), (118 : UInt8), (101 : UInt8), (114 : UInt8), (115 : UInt8), (101 : UInt8)] = a0))
 (some (.inr ((6, 0))))
 (cond (decide ([(102 : UInt8), (108 : UInt8), (105 : UInt8), (112 : UInt8)] = a0))
 (some (.inr ((7, 0))))
 (cond (decide ([(105 : UInt8), (111 : UInt8), (116 : UInt8), (97 : UInt8)] = a0))
 (some (.inr ((8, 0))))
 (cond (decide ([(115 : UInt8), (117 : UInt8), (109 : UInt8)] = a0))
 (some (.inr ((9, 0))))
 (cond (decide ([(108 : UInt8), (101 : UInt8), (97 : UInt8), (115 : UInt8), (116 : UInt8)] = a0))
 (some (.inr ((10, 0))))
 (cond (decide ([(109 : UInt8), (111 : UInt8), (115 : UInt8), (116 : UInt8)] = a0))
 (some (.inr ((11, 0))))
 (cond (decide ([(99 : UInt8), (111 : UInt8), (117 : UInt8), (110 : UInt8), (116 : UInt8)] = a0))
 (some (.inr ((12, 0))))
 (cond (decide ([(115 : UInt8), (99 : UInt8), (97 : UInt8), (110 : UInt8)] = a0))
 (some (.inr ((13, 0))))
 (cond (decide ([(103 : UInt8), (114 : UInt8), (97 : UInt8), (100 : UInt8), (101 : UInt8)] = a0))
 (some (.inr ((14, 0))))
 (cond (decide ([(97 : UInt8), (100 : UInt8), (100 : UInt8)] = a0))
 (some (.inr ((15, 0))))
 (cond (decide ([(115 : UInt8), (117 : UInt8), (98 : UInt8)] = a0))
 (some (.inr ((16, 0))))
 (cond (decide ([(109 : UInt8), (117 : UInt8), (108 : UInt8)] = a0))
 (some (.inr ((17, 0))))
 (cond (decide ([(100 : UInt8), (105 : UInt8), (118 : UInt8)] = a0))
 (some (.inr ((18, 0))))
 (cond (decide ([(109 : UInt8), (111 : UInt8), (100 : UInt8)] = a0))
 (some (.inr ((19, 0))))
 (cond (decide ([(112 : UInt8), (108 : UInt8), (117 : UInt8), (115 : UInt8)] = a0))
 (some (.inr ((20, 0))))
 (cond (decide ([(109 : UInt8), (105 : UInt8), (110 : UInt8), (117 : UInt8), (115 : UInt8)] = a0))
 (some (.inr ((21, 0))))
 (cond (decide ([(116 : UInt8), (105 : UInt8), (109 : UInt8), (101 : UInt8), (115 : UInt8)] = a0))
 (some (.inr ((22, 0))))
 (cond (decide ([(101 : UInt8), (113 : UInt8)] = a0))
 (some (.inr ((23, 0))))
 (cond (decide ([(110 : UInt8), (101 : UInt8)] = a0))
 (some (.inr ((24, 0))))
 (cond (decide ([(108 : UInt8), (116 : UInt8)] = a0))
 (some (.inr ((25, 0))))
 (cond (decide ([(108 : UInt8), (101 : UInt8)] = a0))
 (some (.inr ((26, 0))))
 (cond (decide ([(103 : UInt8), (116 : UInt8)] = a0))
 (some (.inr ((27, 0))))
 (cond (decide ([(103 : UInt8), (101 : UInt8)] = a0))
 (some (.inr ((28, 0))))
 (cond (decide ([(97 : UInt8), (110 : UInt8), (100 : UInt8)] = a0))
 (some (.inr ((29, 0))))
 (cond (decide ([(111 : UInt8), (114 : UInt8)] = a0))
 (some (.inr ((30, 0))))
 (cond (decide ([(109 : UInt8), (105 : UInt8), (110 : UInt8)] = a0))
 (some (.inr ((31, 0))))
 (cond (decide ([(109 : UInt8), (97 : UInt8), (120 : UInt8)] = a0))
 (some (.inr ((32, 0))))
 (cond (decide ([(116 : UInt8), (97 : UInt8), (107 : UInt8), (101 : UInt8)] = a0))
 (some (.inr ((33, 0))))
 (cond (decide ([(100 : UInt8), (114 : UInt8), (111 : UInt8), (112 : UInt8)] = a0))
 (some (.inr ((34, 0))))
 (cond (decide ([(102 : UInt8), (105 : UInt8), (108 : UInt8), (108 : UInt8)] = a0))
 (some (.inr ((35, 0))))
 (cond (decide ([(103 : UInt8), (114 : UInt8), (105 : UInt8), (100 : UInt8)] = a0))
 (some (.inr ((36, 0))))
 (cond (decide ([(99 : UInt8), (97 : UInt8), (116 : UInt8)] = a0))
 (some (.inr ((37, 0))))
 (cond (decide ([(97 : UInt8), (116 : UInt8)] = a0))
 (some (.inr ((38, 0))))
 (cond (decide ([(105 : UInt8), (110 : UInt8)] = a0))
 (some (.inr ((39, 0))))
 (cond (decide ([(112 : UInt8), (105 : UInt8), (99 : UInt8), (107 : UInt8)] = a0))
 (some (.inr ((40, 0))))
 (some (.inl ()))))))))))))))))))))))))))))))))))))))))))
 (Sum.elim (fun (s228 : Unit) =>
 some ((0, 4))) some)
noncomputable def Fz31 (a0 : Int) : Option (Bool) :=
 letO (IntKind.wrap .i32 a0) fun x287 =>
 letO (IntKind.wrap .i64 x287) fun x288 =>
 cond (decide (a0 = x288))
 (letO (IntKind.wrap .i32 a0) fun x290 =>
 (Fz14 x290).bind fun x291 =>
 some x291)
 (some (false))
noncomputable def Fz32 : Option (List (List UInt8)) :=
 some ([[], (ByteArray.mk #[32]).data.toList, (ByteArray.mk #[10]).data.toList, (ByteArray.mk #[40, 91]).data.toList, (ByteArray.mk #[41, 93]).data.toList, (ByteArray.mk #[34]).data.toList, [], (ByteArray.mk #[45]).data.toList, [], (ByteArray.mk #[60, 61]).data.toList])
noncomputable def Fz33 (a0 : Int) : Option (Int × Int) :=
 (Fz31 a0).bind fun x292 =>
 cond (!x292)
 (some ((0, 7)))
 (cond (decide (48 <= a0))
 (cond (decide (a0 <= 57))
 (some ((6, 0)))
 (cond (decide (97 <= a0))
 (cond (decide (a0 <= 122))
 (some ((8, 0)))
 ((Fz32).bind fun x298 =>
 Option.bind (
 lpO (fun (s301 : Int) =>
 cond (decide (s301 < 10))
 (idxO x298 s301 fun x307 =>
 letO (IntKind.wrap .i32 a0) fun x308 =>
 (Fz16 x307 x308).bind fun x309 =>
 cond x309
 (some (.inr (.inr ((s301, 0)))))
 (letO (IntKind.wrap .i64 (s301 + 1)) fun x311 =>
 some (.inl x311)))
 (some (.inr (.inl ())))) (0))
 (Sum.elim (fun (s299 : Unit) =>
 some ((10, 0))) some)))
 ((Fz32).bind fun x312 =>
 Option.bind (
 lpO (fun (s315 : Int) =>
 cond (decide (s315 < 10))
 (idxO x312 s315 fun x321 =>
 letO (IntKind.wrap .i32 a0) fun x322 =>
 (Fz16 x321 x322).bind fun x323 =>
 cond x323
 (some (.inr (.inr ((s315, 0)))))
 (letO (IntKind.wrap .i64 (s315 + 1)) fun x325 =>
 some (.inl x325)))
 (some (.inr (.inl ())))) (0))
 (Sum.elim (fun (s313 : Unit) =>
 some ((10, 0))) some))))
 (cond (decide (97 <= a0))
 (cond (decide (a0 <= 122))
 (some ((8, 0)))
 ((Fz32).bind fun x328 =>
 Option.bind (
 lpO (fun (s331 : Int) =>
 cond (decide (s331 < 10))
 (idxO x328 s331 fun x337 =>
 letO (IntKind.wrap .i32 a0) fun x338 =>
 (Fz16 x337 x338).bind fun x339 =>
 cond x339
 (some (.inr (.inr ((s331, 0)))))
 (letO (IntKind.wrap .i64 (s331 + 1)) fun x341 =>
 some (.inl x341)))
 (some (.inr (.inl ())))) (0))
 (Sum.elim (fun (s329 : Unit) =>
 some ((10, 0))) some)))
 ((Fz32).bind fun x342 =>
 Option.bind (
 lpO (fun (s345 : Int) =>
 cond (decide (s345 < 10))
 (idxO x342 s345 fun x351 =>
 letO (IntKind.wrap .i32 a0) fun x352 =>
 (Fz16 x351 x352).bind fun x353 =>
 cond x353
 (some (.inr (.inr ((s345, 0)))))
 (letO (IntKind.wrap .i64 (s345 + 1)) fun x355 =>
 some (.inl x355)))
 (some (.inr (.inl ())))) (0))
 (Sum.elim (fun (s343 : Unit) =>
 some ((10, 0))) some))))
noncomputable def Fz34 (a0 : List UInt8) : Option (Int) :=
 idxO a0 (0) fun x400 =>
 letO (IntKind.wrap .u64 (↑(UInt8.toNat x400) : Int)) fun x401 =>
 idxO a0 (1) fun x402 =>
 letO (IntKind.wrap .u64 (↑(UInt8.toNat x402) : Int)) fun x403 =>
 letO (IntKind.wrap .u64 (x403 * 2 ^ min (Int.toNat 8) (IntKind.bits IntKind.u64))) fun x404 =>
 idxO a0 (2) fun x405 =>
 letO (IntKind.wrap .u64 (↑(UInt8.toNat x405) : Int)) fun x406 =>
 letO (IntKind.wrap .u64 (x406 * 2 ^ min (Int.toNat 16) (IntKind.bits IntKind.u64))) fun x407 =>
 idxO a0 (3) fun x408 =>
 letO (IntKind.wrap .u64 (↑(UInt8.toNat x408) : Int)) fun x409 =>
 letO (IntKind.wrap .u64 (x409 * 2 ^ min (Int.toNat 24) (IntKind.bits IntKind.u64))) fun x410 =>
 idxO a0 (4) fun x411 =>
 letO (IntKind.wrap .u64 (↑(UInt8.toNat x411) : Int)) fun x412 =>
 letO (IntKind.wrap .u64 (x412 * 2 ^ min (Int.toNat 32) (IntKind.bits IntKind.u64))) fun x413 =>
 idxO a0 (5) fun x414 =>
 letO (IntKind.wrap .u64 (↑(UInt8.toNat x414) : Int)) fun x415 =>
 letO (IntKind.wrap .u64 (x415 * 2 ^ min (Int.toNat 40) (IntKind.bits IntKind.u64))) fun x416 =>
 idxO a0 (6) fun x417 =>
 letO (IntKind.wrap .u64 (↑(UInt8.toNat x417) : Int)) fun x418 =>
 letO (IntKind.wrap .u64 (x418 * 2 ^ min (Int.toNat 48) (IntKind.bits IntKind.u64))) fun x419 =>
 idxO a0 (7) fun x420 =>
 letO (IntKind.wrap .u64 (↑(UInt8.toNat x420) : Int)) fun x421 =>
 letO (IntKind.wrap .u64 (x421 * 2 ^ min (Int.toNat 56) (IntKind.bits IntKind.u64))) fun x422 =>
 some (bits BinOp.or IntKind.u64 (bits BinOp.or IntKind.u64 (bits BinOp.or IntKind.u64 (bits BinOp.or IntKind.u64 (bits BinOp.or IntKind.u64 (bits BinOp.or IntKind.u64 (bits BinOp.or IntKind.u64 x401 x404) x407) x410) x413) x416) x419) x422)
noncomputable def Fz35 (a0 : List UInt8) : Option (Bool) :=
 Option.bind (
 lpO (fun (s396 : List UInt8) =>
 cond (decide (0 < (↑(List.length s396) : Int)))
 (idxO s396 (0) fun x423 =>
 cond (decide ((↑(UInt8.toNat x423) : Int) < 128))
 (zm ((0 : Int) <= (1 : Int) /\ (1 : Int) <= (↑(List.length s396) : Int)) (
 cond (decide (8 < (↑(List.length (List.drop (Int.toNat 1) (List.take (Int.toNat (↑(List.length s396) : Int)) s396))) : Int)))
 ((Fz34 (List.drop (Int.toNat 1) (List.take (Int.toNat (↑(List.length s396) : Int)) s396))).bind fun x426 =>
 cond (decide (bits BinOp.and IntKind.u64 x426 9259542123273814144 = 0))
 (zm ((0 : Int) <= (8 : Int) /\ (8 : Int) <= (↑(List.length (List.drop (Int.toNat (1 : Int)) (List.take (Int.toNat (↑(List.length s396) : Int)) s396))) : Int)) (
 cond (decide (16 < (↑(List.length (List.drop (Int.toNat 8) (List.take (Int.toNat (↑(List.length (List.drop (Int.toNat 1) (List.take (Int.toNat (↑(List.length s396) : Int)) s396))) : Int)) (List.drop (Int.toNat 1) (List.take (Int.toNat (↑(List.length s396) : Int)) s396))))) : Int)))
 ((Fz34 (List.drop (Int.toNat 8) (List.take (Int.toNat (↑(List.length (List.drop (Int.toNat 1) (List.take (Int.toNat (↑(List.length s396) : Int)) s396))) : Int)) (List.drop (Int.toNat 1) (List.take (Int.toNat (↑(List.length s396) : Int)) s396))))).bind fun x429 =>
 zm ((0 : Int) <= (8 : Int) /\ (8 : Int) <= (↑(List.length (List.drop (Int.toNat (8 : Int)) (List.take (Int.toNat (↑(List.length (List.drop (Int.toNat (1 : Int)) (List.take (Int.toNat (↑(List.length s396) : Int)) s396))) : Int)) (List.drop (Int.toNat (1 : Int)) (List.take (Int.toNat (↑(List.length s396) : Int)) s396))))) : Int)) (
 (Fz34 (List.drop (Int.toNat 8) (List.take (Int.toNat (↑(List.length (List.drop (Int.toNat 8) (List.take (Int.toNat (↑(List.length (List.drop (Int.toNat 1) (List.take (Int.toNat (↑(List.length s396) : Int)) s396))) : Int)) (List.drop (Int.toNat 1) (List.take (Int.toNat (↑(List.length s396) : Int)) s396))))) : Int)) (List.drop (Int.toNat 8) (List.take (Int.toNat (↑(List.length (List.drop (Int.toNat 1) (List.take (Int.toNat (↑(List.length s396) : Int)) s396))) : Int)) (List.drop (Int.toNat 1) (List.take (Int.toNat (↑(List.length s396) : Int)) s396))))))).bind fun x430 =>
 cond (decide (bits BinOp.and IntKind.u64 (bits BinOp.or IntKind.u64 x429 x430) 9259542123273814144 = 0))
 (zm ((0 : Int) <= (16 : Int) /\ (16 : Int) <= (↑(List.length (List.drop (Int.toNat (8 : Int)) (List.take (Int.toNat (↑(List.length (List.drop (Int.toNat (1 : Int)) (List.take (Int.toNat (↑(List.length s396) : Int)) s396))) : Int)) (List.drop (Int.toNat (1 : Int)) (List.take (Int.toNat (↑(List.length s396) : Int)) s396))))) : Int)) (
 Option.bind (
 lpO (fun (s434 : List UInt8) =>
 cond (decide (32 < (↑(List.length s434) : Int)))
 ((Fz34 s434).bind fun x442 =>
 zm ((0 : Int) <= (8 : Int) /\ (8 : Int) <= (↑(List.length s434) : Int)) (
 (Fz34 (List.drop (Int.toNat 8) (List.take (Int.toNat (↑(List.length s434) : Int)) s434))).bind fun x443 =>
 zm ((0 : Int) <= (16 : Int) /\ (16 : Int) <= (↑(List.length s434) : Int)) (
 (Fz34 (List.drop (Int.toNat 16) (List.take (Int.toNat (↑(List.length s434) : Int)) s434))).bind fun x444 =>
 zm ((0 : Int) <= (24 : Int) /\ (24 : Int) <= (↑(List.length s434) : Int)) (
 (Fz34 (List.drop (Int.toNat 24) (List.take (Int.toNat (↑(List.length s434) : Int)) s434))).bind fun x445 =>
 cond (decide (bits BinOp.and IntKind.u64 (bits BinOp.or IntKind.u64 (bits BinOp.or IntKind.u64 x442 x443) (bits BinOp.or IntKind.u64 x444 x445)) 9259542123273814144 = 0))
 (zm ((0 : Int) <= (32 : Int) /\ (32 : Int) <= (↑(List.length s434) : Int)) (
 some (.inl (List.drop (Int.toNat 32) (List.take (Int.toNat (↑(List.length s434) : Int)) s434)))))
 (some (.inr (.inl s434)))))))
 (some (.inr (.inl s434)))) (List.drop (Int.toNat 16) (List.take (Int.toNat (↑(List.length (List.drop (Int.toNat 8) (List.take (Int.toNat (↑(List.length (List.drop (Int.toNat 1) (List.take (Int.toNat (↑(List.length s396) : Int)) s396))) : Int)) (List.drop (Int.toNat 1) (List.take (Int.toNat (↑(List.length s396) : Int)) s396))))) : Int)) (List.drop (Int.toNat 8) (List.take (Int.toNat (↑(List.length (List.drop (Int.toNat 1) (List.take (Int.toNat (↑(List.length s396) : Int)) s396))) : Int)) (List.drop (Int.toNat 1) (List.take (Int.toNat (↑(List.length s396) : Int)) s396)))))))
 (Sum.elim (fun (s432 : List UInt8) =>
 some (.inl s432)) some)))
 (some (.inl (List.drop (Int.toNat 8) (List.take (Int.toNat (↑(List.length (List.drop (Int.toNat 1) (List.take (Int.toNat (↑(List.length s396) : Int)) s396))) : Int)) (List.drop (Int.toNat 1) (List.take (Int.toNat (↑(List.length s396) : Int)) s396))))))))
 (some (.inl (List.drop (Int.toNat 8) (List.take (Int.toNat (↑(List.length (List.drop (Int.toNat 1) (List.take (Int.toNat (↑(List.length s396) : Int)) s396))) : Int)) (List.drop (Int.toNat 1) (List.take (Int.toNat (↑(List.length s396) : Int)) s396))))))))
 (some (.inl (List.drop (Int.toNat 1) (List.take (Int.toNat (↑(List.length s396) : Int)) s396)))))
 (some (.inl (List.drop (Int.toNat 1) (List.take (Int.toNat (↑(List.length s396) : Int)) s396))))))
 (none))
 (some (.inr (.inl ())))) a0)
 (Sum.elim (fun (s394 : Unit) =>
 some (true)) some)
noncomputable def Fz36 (a0 : TK) : Option (Int) :=
 Option.bind (
 cond (decide (a0.Kind = 1))
 (some (.inl ((0, a0.S))))
 (cond (decide (a0.Kind = 3))
 (some (.inl ((0, a0.S))))
 (cond (decide (a0.Kind = 2))
 (some (.inl ((a0.N, []))))
 (some (.inl ((0, [])))))))
 (Sum.elim (fun (s273 : Int × List UInt8) =>
 cond (decide (a0.Kind < 1))
 (some (2))
 (cond (decide (9 < a0.Kind))
 (some (2))
 (cond (!(decide (a0.Kind = a0.Kind) && (decide (a0.From = a0.From) && (decide (a0.To = a0.To) && (decide (a0.N = s273.fst) && (decide (a0.S = s273.snd) && true))))))
 (some (2))
 (Option.bind (
 cond (decide (a0.Kind = 1))
 (cond (decide ((↑(List.length a0.S) : Int) <= 0))
 (some (.inr (6)))
 (idxO (a0.S) (0) fun x286 =>
 letO (IntKind.wrap .i64 (↑(UInt8.toNat x286) : Int)) fun x287 =>
 (Fz33 x287).bind fun x288 =>
 cond (!decide (x288.fst = 8))
 (some (.inr (6)))
 (idxO (a0.S) (0) fun x292 =>
 letO (IntKind.wrap .i64 (↑(UInt8.toNat x292) : Int)) fun x293 =>
 (Fz33 x293).bind fun x294 =>
 Option.bind (
 lpO (fun (s297 : Int × Int) =>
 cond (decide (s297.fst = 8))
 (letO (IntKind.wrap .i64 (s297.snd + 1)) fun x311 =>
 cond (decide ((↑(List.length a0.S) : Int) <= x311))
 (some (.inl ((10, x311))))
 (idxO (a0.S) x311 fun x314 =>
 letO (IntKind.wrap .i64 (↑(UInt8.toNat x314) : Int)) fun x315 =>
 (Fz33 x315).bind fun x316 =>
 some (.inl ((x316.fst, x311)))))
 (cond (decide (s297.fst = 6))
 (letO (IntKind.wrap .i64 (s297.snd + 1)) fun x318 =>
 cond (decide ((↑(List.length a0.S) : Int) <= x318))
 (some (.inl ((10, x318))))
 (idxO (a0.S) x318 fun x321 =>
 letO (IntKind.wrap .i64 (↑(UInt8.toNat x321) : Int)) fun x322 =>
 (Fz33 x322).bind fun x323 =>
 some (.inl ((x323.fst, x318)))))
 (some (.inr (.inl ((decide (s297.fst = 6), s297))))))) ((x294.fst, 0)))
 (Sum.elim (fun (s295 : Bool × Int × Int) =>
 zm ((0 : Int) <= (0 : Int) /\ 0 <= s295.snd.snd /\ s295.snd.snd <= (↑(List.length a0.S) : Int)) (
 cond (!decide (List.drop (Int.toNat 0) (List.take (Int.toNat s295.snd.snd) a0.S) = a0.S))
 (some (.inr (6)))
 (some (.inl (16))))) some))))
 (cond (decide (a0.Kind = 3))
 ((Fz35 (a0.S)).bind fun x326 =>
 cond (!x326)
 (some (.inr (6)))
 (some (.inl (2000))))
 (some (.inl (0)))))
 (Sum.elim (fun (s281 : Int) =>
 cond (decide (s281 < (↑(List.length a0.S) : Int)))
 (some (3))
 (some (0))) some))))) some)
noncomputable def Fz37 (a0 : List UInt8) : Option (Bool) :=
 cond (decide (a0 = (ByteArray.mk #[118, 97, 114]).data.toList))
 (some (false))
 (cond (decide (a0 = (ByteArray.mk #[100, 101, 102]).data.toList))
 (some (false))
 (cond (decide (a0 = (ByteArray.mk #[111, 117, 116]).data.toList))
 (some (false))
 (cond (decide (a0 = (ByteArray.mk #[105, 102]).data.toList))
 (some (false))
 (cond (decide (a0 = (ByteArray.mk #[101, 108, 115, 101]).data.toList))
 (some (false))
 (cond (decide (a0 = (ByteArray.mk #[119, 104, 105, 108, 101]).data.toList))
 (some (false))
 (cond (decide (a0 = (ByteArray.mk #[101, 110, 100]).data.toList))
 (some (false))
 (cond (decide (a0 = (ByteArray.mk #[114, 101, 108, 101, 97, 115, 101]).data.toList))
 (some (false))
 (cond (decide (a0 = (ByteArray.mk #[105, 110, 116]).data.toList))
 (some (false))
 (cond (decide (a0 = (ByteArray.mk #[99, 104, 97, 114]).data.toList))
 (some (false))
 ((Fz30 a0).bind fun x271 =>
 cond (decide (x271.snd = 0))
 (some (false))
 ((Fz36 (TK.mk 1 0 0 0 a0)).bind fun x329 =>
 some (decide (x329 = 0)))))))))))))
noncomputable def Fz38 (a0 : TL) (a1 : Int) : Option (Bool) :=
 cond (decide (0 <= a1))
 (some (decide (a1 < (↑(List.length (List.map SV.str a0.Names)) : Int))))
 (some (false))
noncomputable def Fz39 (a0 : TP) : Option (Int × Int) :=
 cond (decide (16 < (↑(List.length (List.map zQ a0.Channels)) : Int)))
 (some (((-1 : Int), 3)))
 (Option.bind (
 lpO (fun (s215 : Int × List (List UInt8)) =>
 cond (decide (s215.fst < (↑(List.length (List.map zQ a0.Channels)) : Int)))
 (idxO (a0.Channels) (s215.fst) fun x224 =>
 (Fz37 (x224.s_)).bind fun x226 =>
 cond (!x226)
 (some (.inr (.inr ((s215.fst, 24)))))
 (cond (inL (x224.s_) (s215.snd))
 (some (.inr (.inr ((s215.fst, 8)))))
 (cond (inL (x224.s_) (s215.snd))
 ((Fz38 (a0.Lattice) (x224.at_)).bind fun x234 =>
 cond (!x234)
 (some (.inr (.inr ((s215.fst, 7)))))
 (letO (IntKind.wrap .i64 (s215.fst + 1)) fun x236 =>
 some (.inl ((x236, s215.snd)))))
 ((Fz38 (a0.Lattice) (x224.at_)).bind fun x237 =>
 cond (!x237)
 (some (.inr (.inr ((s215.fst, 7)))))
 (letO (IntKind.wrap .i64 (s215.fst + 1)) fun x239 =>
 some (.inl ((x239, s215.snd ++ [x224.s_]))))))))
 (some (.inr (.inl ())))) ((0, [])))
 (Sum.elim (fun (s213 : Unit) =>
 some ((0, 0))) some))
noncomputable def Fz40 (a0 : TL) (a1 : List Int) : Option (Int) :=
 (Fz28 a0).bind fun x250 =>
 cond (!decide (x250.snd = 0))
 (some (x250.snd))
 (Option.bind (
 lpO (fun (s254 : Int) =>
 cond (decide (s254 < (↑(List.length (List.map (SV.int .i64) a1)) : Int)))
 (idxO a1 s254 fun x260 =>
 cond (decide (x260 < 0))
 (some (.inr (.inr (7))))
 (cond (decide ((↑(List.length (List.map SV.str a0.Names)) : Int) <= x260))
 (some (.inr (.inr (7))))
 (letO (IntKind.wrap .i64 (s254 + 1)) fun x263 =>
 some (.inl x263))))
 (some (.inr (.inl ())))) (0))
 (Sum.elim (fun (s252 : Unit) =>
 some (0)) some))
noncomputable def Fz41 (a0 : Int) : Option (Int) :=
 idxO ((ByteArray.mk (List.toArray (List.append (List.append [(0 : UInt8), 1, 1, 2, 1, 2, 2, 3, 1, 2, 2, 3, 2, 3, 3, 4, 1, 2, 2, 3, 2, 3, 3, 4, 2, 3, 3, 4, 3, 4, 4, 5, 1, 2, 2, 3, 2, 3, 3, 4, 2, 3, 3, 4, 3, 4, 4, 5, 2, 3, 3, 4, 3, 4, 4, 5, 3, 4, 4, 5, 4, 5, 5, 6] [(1 : UInt8), 2, 2, 3, 2, 3, 3, 4, 2, 3, 3, 4, 3, 4, 4, 5, 2, 3, 3, 4, 3, 4, 4, 5, 3, 4, 4, 5, 4, 5, 5, 6, 2, 3, 3, 4, 3, 4, 4, 5, 3, 4, 4, 5, 4, 5, 5, 6, 3, 4, 4, 5, 4, 5, 5, 6, 4, 5, 5, 6, 5, 6, 6, 7]) (List.append [(1 : UInt8), 2, 2, 3, 2, 3, 3, 4, 2, 3, 3, 4, 3, 4, 4, 5, 2, 3, 3, 4, 3, 4, 4, 5, 3, 4, 4, 5, 4, 5, 5, 6, 2, 3, 3, 4, 3, 4, 4, 5, 3, 4, 4, 5, 4, 5, 5, 6, 3, 4, 4, 5, 4, 5, 5, 6, 4, 5, 5, 6, 5, 6, 6, 7] [(2 : UInt8), 3, 3, 4, 3, 4, 4, 5, 3, 4, 4, 5, 4, 5, 5, 6, 3, 4, 4, 5, 4, 5, 5, 6, 4, 5, 5, 6, 5, 6, 6, 7, 3, 4, 4, 5, 4, 5, 5, 6, 4, 5, 5, 6, 5, 6, 6, 7, 4, 5, 5, 6, 5, 6, 6, 7, 5, 6, 6, 7, 6, 7, 7, 8])))).data.toList) a0 fun x272 =>
 letO (IntKind.wrap .i64 (↑(UInt8.toNat x272) : Int)) fun x273 =>
 some x273
noncomputable def Fz42 (a0 : List Int) (a1 : Int) : Option (Int) :=
 Option.bind (
 lpO (fun (s269 : Int) =>
 letO (IntKind.wrap .i64 (a1 - 1)) fun x275 =>
 cond (decide (s269 < x275))
 (zm (0 <= s269 /\ s269 < (↑(8 : Nat) : Int)) (
 idxO a0 ((↑(Int.toNat s269) : Int)) fun x277 =>
 (Fz41 x277).bind fun x278 =>
 cond (decide (x278 < a1))
 (letO (IntKind.wrap .i64 (s269 + 1)) fun x280 =>
 some (.inl x280))
 (some (.inr (.inl s269)))))
 (some (.inr (.inl s269)))) (0))
 (Sum.elim (fun (s267 : Int) =>
 some s267) some)
noncomputable def Fz43 (a0 : TL) : Option (Int × Int) :=
 (Fz40 a0 ([])).bind fun x264 =>
 cond (!decide (x264 = 0))
 (some ((0, x264)))
 ((Fz25 a0).bind fun x266 =>
 (Fz42 (x266.up_) (x266.n_)).bind fun x281 =>
 some ((x281, 0)))
noncomputable def Fz44 (a0 : TL) (a1 : List Int) : Option (Int × Int) :=
 (Fz28 a0).bind fun x304 =>
 cond (!decide (x304.snd = 0))
 (some (((-1 : Int), x304.snd)))
 (cond (decide (64 < (↑(List.length (List.map (SV.int .i64) a1)) : Int)))
 (some (((-1 : Int), 3)))
 (Option.bind (
 lpO (fun (s309 : Int) =>
 cond (decide (s309 < (↑(List.length (List.map (SV.int .i64) a1)) : Int)))
 (idxO a1 s309 fun x315 =>
 cond (decide (x315 < 0))
 (some (.inr (.inr ((s309, 7)))))
 (cond (decide ((↑(List.length (List.map SV.str a0.Names)) : Int) <= x315))
 (some (.inr (.inr ((s309, 7)))))
 (letO (IntKind.wrap .i64 (s309 + 1)) fun x318 =>
 some (.inl x318))))
 (some (.inr (.inl ())))) (0))
 (Sum.elim (fun (s307 : Unit) =>
 some ((0, 0))) some)))
noncomputable def Fz45 (a0 : TL) (a1 : Int) (a2 : Int) : Option (Bool) :=
 idxO (a0.Up) a1 fun x327 =>
 zm (0 <= a2) (
 some (decide (bits BinOp.and IntKind.u8 (Int.fdiv x327 (2 ^ min (Int.toNat a2) (IntKind.bits IntKind.u8))) 1 = 1)))
noncomputable def Fz46 (a0 : Int) (a1 : TL) (a2 : Int) : Option (Bool) :=
 (Fz45 a1 a0 a2).bind fun x328 =>
 some (!x328)
noncomputable def Fz47 (a0 : List Int) (a1 : TL × Int) : Option (Int) :=
 Option.bind (
 lpO (fun (s325 : Int) =>
 cond (decide (s325 < (↑(List.length (List.map (SV.int .i64) a0)) : Int)))
 (idxO a0 s325 fun x331 =>
 (Fz46 x331 (a1.fst) (a1.snd)).bind fun x332 =>
 cond x332
 (some (.inr (.inr s325)))
 (letO (IntKind.wrap .i64 (s325 + 1)) fun x334 =>
 some (.inl x334)))
 (some (.inr (.inl ())))) (0))
 (Sum.elim (fun (s323 : Unit) =>
 some ((-1 : Int))) some)
noncomputable def Fz48 (a0 : TL) (a1 : List Int) (a2 : Int) : Option (Int × Int) :=
 (Fz44 a0 a1).bind fun x319 =>
 cond (!decide (x319.snd = 0))
 (some x319)
 (cond (decide (a2 < 0))
 (some (((-1 : Int), 7)))
 (cond (decide ((↑(List.length (List.map SV.str a0.Names)) : Int) <= a2))
 (some (((-1 : Int), 7)))
 ((Fz47 a1 ((a0, a2))).bind fun x335 =>
 cond (decide (0 <= x335))
 (some ((x335, 25)))
 (some ((0, 0))))))
noncomputable def Fz49 (a0 : TL) (a1 : TY) : Option (Int) :=
 (Fz43 a0).bind fun x282 =>
 cond (!decide (x282.snd = 0))
 (some (x282.snd))
 (cond (!decide (a1.Kind = 1))
 (cond (!decide (a1.Kind = 2))
 (some (7))
 (cond (decide (a1.Rank < 0))
 (some (7))
 (cond (decide (2 < a1.Rank))
 (some (7))
 ((Fz38 a0 (a1.Axes.fst)).bind fun x288 =>
 cond (!x288)
 (some (7))
 ((Fz38 a0 (a1.Axes.snd)).bind fun x290 =>
 cond (!x290)
 (some (7))
 ((Fz38 a0 (a1.Data)).bind fun x292 =>
 cond (!x292)
 (some (7))
 (zm (0 <= a1.Rank /\ a1.Rank <= (↑(2 : Nat) : Int)) (
 Option.bind (
 lpO (fun (s296 : Int) =>
 cond (decide (s296 < (↑(List.length (List.drop (Int.toNat a1.Rank) (List.take (Int.toNat (↑(2 : Nat) : Int)) [SV.int .i64 a1.Axes.fst, SV.int .i64 a1.Axes.snd]))) : Int)))
 (idxO (List.drop (Int.toNat a1.Rank) (List.take (Int.toNat (↑(2 : Nat) : Int)) [a1.Axes.fst, a1.Axes.snd])) s296 fun x301 =>
 cond (!decide (x301 = x282.fst))
 (some (.inr (.inr (6))))
 (letO (IntKind.wrap .i64 (s296 + 1)) fun x303 =>
 some (.inl x303)))
 (some (.inr (.inl ())))) (0))
 (Sum.elim (fun (s294 : Unit) =>
 zm (0 <= a1.Rank /\ a1.Rank <= (↑(2 : Nat) : Int)) (
 (Fz48 a0 (List.drop (Int.toNat 0) (List.take (Int.toNat a1.Rank) [a1.Axes.fst, a1.Axes.snd])) (a1.Data)).bind fun x337 =>
 cond (!decide (x337.snd = 0))
 (some (x337.snd))
 (some (0)))) some)))))))))
 (cond (decide (a1.Rank < 0))
 (some (7))
 (cond (decide (2 < a1.Rank))
 (some (7))
 ((Fz38 a0 (a1.Axes.fst)).bind fun x341 =>
 cond (!x341)
 (some (7))
 ((Fz38 a0 (a1.Axes.snd)).bind fun x343 =>
 cond (!x343)
 (some (7))
 ((Fz38 a0 (a1.Data)).bind fun x345 =>
 cond (!x345)
 (some (7))
 (zm (0 <= a1.Rank /\ a1.Rank <= (↑(2 : Nat) : Int)) (
 Option.bind (
 lpO (fun (s349 : Int) =>
 cond (decide (s349 < (↑(List.length (List.drop (Int.toNat a1.Rank) (List.take (Int.toNat (↑(2 : Nat) : Int)) [SV.int .i64 a1.Axes.fst, SV.int .i64 a1.Axes.snd]))) : Int)))
 (idxO (List.drop (Int.toNat a1.Rank) (List.take (Int.toNat (↑(2 : Nat) : Int)) [a1.Axes.fst, a1.Axes.snd])) s349 fun x354 =>
 cond (!decide (x354 = x282.fst))
 (some (.inr (.inr (6))))
 (letO (IntKind.wrap .i64 (s349 + 1)) fun x356 =>
 some (.inl x356)))
 (some (.inr (.inl ())))) (0))
 (Sum.elim (fun (s347 : Unit) =>
 zm (0 <= a1.Rank /\ a1.Rank <= (↑(2 : Nat) : Int)) (
 (Fz48 a0 (List.drop (Int.toNat 0) (List.take (Int.toNat a1.Rank) [a1.Axes.fst, a1.Axes.snd])) (a1.Data)).bind fun x357 =>
 cond (!decide (x357.snd = 0))
 (some (x357.snd))
 (some (0)))) some)))))))))
noncomputable def Fz50 (a0 : TP) : Option (Int × Int) :=
 cond (decide (32 < (↑(List.length (List.map wF a0.Vars)) : Int)))
 (some (((-1 : Int), 3)))
 (Option.bind (
 lpO (fun (s245 : Int × List (List UInt8)) =>
 cond (decide (s245.fst < (↑(List.length (List.map wF a0.Vars)) : Int)))
 (idxO (a0.Vars) (s245.fst) fun x254 =>
 (Fz37 (x254.Name)).bind fun x256 =>
 cond (!x256)
 (some (.inr (.inr ((s245.fst, 24)))))
 (cond (inL (x254.Name) (s245.snd))
 (some (.inr (.inr ((s245.fst, 8)))))
 (cond (inL (x254.Name) (s245.snd))
 ((Fz49 (a0.Lattice) (x254.Type_)).bind fun x264 =>
 cond (!decide (x264 = 0))
 (some (.inr (.inr ((s245.fst, x264)))))
 (letO (IntKind.wrap .i64 (s245.fst + 1)) fun x266 =>
 some (.inl ((x266, s245.snd)))))
 ((Fz49 (a0.Lattice) (x254.Type_)).bind fun x267 =>
 cond (!decide (x267 = 0))
 (some (.inr (.inr ((s245.fst, x267)))))
 (letO (IntKind.wrap .i64 (s245.fst + 1)) fun x269 =>
 some (.inl ((x269, s245.snd ++ [x254.Name]))))))))
 (some (.inr (.inl ())))) ((0, [])))
 (Sum.elim (fun (s243 : Unit) =>
 some ((0, 0))) some))
noncomputable def Fz51 (a0 : TP) : Option (Int × Int) :=
 cond (decide (64 < (↑(List.length (List.map wq a0.Rules)) : Int)))
 (some (((-1 : Int), 3)))
 (Option.bind (
 lpO (fun (s275 : Int × List (Int × Int)) =>
 cond (decide (s275.fst < (↑(List.length (List.map wq a0.Rules)) : Int)))
 (idxO (a0.Rules) (s275.fst) fun x288 =>
 (Fz38 (a0.Lattice) (x288.From)).bind fun x289 =>
 cond (!x289)
 (some (.inr (.inr ((s275.fst, 7)))))
 ((Fz38 (a0.Lattice) (x288.Goal)).bind fun x291 =>
 cond (!x291)
 (some (.inr (.inr ((s275.fst, 7)))))
 (cond (decide (x288.From = x288.Goal))
 (some (.inr (.inr ((s275.fst, 25)))))
 (idxO (a0.Lattice.Up) (x288.Goal) fun x294 =>
 zm (0 <= x288.From) (
 cond (decide (bits BinOp.and IntKind.u8 (Int.fdiv x294 (2 ^ min (Int.toNat x288.From) (IntKind.bits IntKind.u8))) 1 = 0))
 (some (.inr (.inr ((s275.fst, 25)))))
 (cond (inL ((x288.From, x288.Goal)) (s275.snd))
 (some (.inr (.inr ((s275.fst, 8)))))
 (cond (decide (x288.K < 2))
 (some (.inr (.inr ((s275.fst, 3)))))
 (cond (decide (400 < x288.K))
 (some (.inr (.inr ((s275.fst, 3)))))
 (cond (inL ((x288.From, x288.Goal)) (s275.snd))
 (letO (IntKind.wrap .i64 (s275.fst + 1)) fun x304 =>
 some (.inl ((x304, s275.snd))))
 (letO (IntKind.wrap .i64 (s275.fst + 1)) fun x305 =>
 some (.inl ((x305, s275.snd ++ [(x288.From, x288.Goal)])))))))))))))
 (some (.inr (.inl ())))) ((0, [])))
 (Sum.elim (fun (s273 : Unit) =>
 some ((0, 0))) some))
noncomputable def Fz52 (a0 : TP) : Option (Int × Int × Int) :=
 Option.bind (
 (Fz29 a0).bind fun x47 =>
 cond (!decide (x47.snd = 0))
 (some (.inl ((1, x47.snd, x47.fst))))
 ((Fz39 a0).bind fun x49 =>
 cond (!decide (x49.snd = 0))
 (some (.inl ((2, x49.snd, x49.fst))))
 ((Fz50 a0).bind fun x51 =>
 cond (!decide (x51.snd = 0))
 (some (.inl ((3, x51.snd, x51.fst))))
 ((Fz51 a0).bind fun x53 =>
 cond (!decide (x53.snd = 0))
 (some (.inl ((4, x53.snd, x53.fst))))
 (some (.inl ((0, x53.snd, x53.fst))))))))
 (Sum.elim (fun (s44 : Int × Int × Int) =>
 some ((s44.fst, s44.snd.snd, s44.snd.fst))) some)
noncomputable def Fz53 (a0 : Int) : Option (List UInt8 × Int) :=
 cond (decide (a0 < 1))
 (some (((ByteArray.mk #[]).data.toList, 2)))
 (cond (decide (4 < a0))
 (some (((ByteArray.mk #[]).data.toList, 2)))
 (zkt a0 [
 some (([], 0)),
 some (([(115 : UInt8), (117 : UInt8), (109 : UInt8)], 0)),
 some (([(99 : UInt8), (111 : UInt8), (117 : UInt8), (110 : UInt8), (116 : UInt8)], 0)),
 some (([(108 : UInt8), (101 : UInt8), (97 : UInt8), (115 : UInt8), (116 : UInt8)], 0)),
 some (([(109 : UInt8), (111 : UInt8), (115 : UInt8), (116 : UInt8)], 0))]))
noncomputable def Fz54 (a0 : TP) (a1 : Int) (a2 : Int) : Option (Int × Int) :=
 (Fz52 a0).bind fun x68 =>
 cond (!decide (x68.snd.snd = 0))
 (some ((0, x68.snd.snd)))
 ((Fz38 (a0.Lattice) a1).bind fun x70 =>
 cond (!x70)
 (some ((0, 7)))
 ((Fz38 (a0.Lattice) a2).bind fun x72 =>
 cond (!x72)
 (some ((0, 7)))
 (Option.bind (
 lpO (fun (s76 : Int) =>
 cond (decide (s76 < (↑(List.length (List.map wq a0.Rules)) : Int)))
 (idxO (a0.Rules) s76 fun x82 =>
 cond (decide (x82.From = a1))
 (cond (decide (x82.Goal = a2))
 (some (.inr (.inr ((x82.K, 0)))))
 (letO (IntKind.wrap .i64 (s76 + 1)) fun x85 =>
 some (.inl x85)))
 (letO (IntKind.wrap .i64 (s76 + 1)) fun x86 =>
 some (.inl x86)))
 (some (.inr (.inl ())))) (0))
 (Sum.elim (fun (s74 : Unit) =>
 some ((0, 4))) some))))
noncomputable def Fz55 (a0 : TE) (a1 : Int) : Option (Bool) :=
 cond (decide (a0.Cells < a1))
 (some (decide (a0.Value.fst = 0) && (decide (a0.Value.snd = 0) && true)))
 (cond (!decide (a0.Value.fst = 1))
 (some (false))
 (cond (!decide (a0.Fold = 2))
 (some (true))
 (cond (decide (0 <= a0.Value.snd))
 (some (decide (a0.Value.snd <= a0.Cells)))
 (some (false)))))
noncomputable def Fz56 (a0 : TP) (a1 : TE) : Option (Int) :=
 (Fz52 a0).bind fun x62 =>
 cond (!decide (x62.snd.snd = 0))
 (some (x62.snd.snd))
 ((Fz53 (a1.Fold)).bind fun x66 =>
 cond (!decide (x66.snd = 0))
 (some (x66.snd))
 ((Fz54 a0 (a1.From) (a1.Goal)).bind fun x87 =>
 cond (decide (a1.Site < 0))
 (some (7))
 (cond (decide (1000000000 < a1.Site))
 (some (7))
 (cond (decide (a1.Cells < 0))
 (some (7))
 (cond (decide (400 < a1.Cells))
 (some (7))
 (cond (!decide (x87.snd = 0))
 (some (x87.snd))
 ((Fz55 a1 (x87.fst)).bind fun x97 =>
 cond (!x97)
 (some (6))
 (some (0)))))))))
noncomputable def Fz57 (a0 : TP) (a1 : List TE) : Option (Int × Int) :=
 (Fz52 a0).bind fun x55 =>
 cond (!decide (x55.snd.snd = 0))
 (some (((-1 : Int), x55.snd.snd)))
 (cond (decide (2000 < (↑(List.length (List.map zg a1)) : Int)))
 (some (((-1 : Int), 3)))
 (Option.bind (
 lpO (fun (s60 : Int) =>
 cond (decide (s60 < (↑(List.length (List.map zg a1)) : Int)))
 (idxO a1 s60 fun x67 =>
 (Fz56 a0 x67).bind fun x68 =>
 cond (!decide (x68 = 0))
 (some (.inr (.inr ((s60, x68)))))
 (cond (decide (x67.Site = 0))
 (some (.inr (.inr ((s60, 6)))))
 (letO (IntKind.wrap .i64 (s60 + 1)) fun x71 =>
 some (.inl x71))))
 (some (.inr (.inl ())))) (0))
 (Sum.elim (fun (s58 : Unit) =>
 some ((0, 0))) some)))
noncomputable def Fz58 (a0 : TP) (a1 : Int) (a2 : List (List TE)) : Option (Int) :=
 Option.bind (
 lpO (fun (s80 : Int) =>
 cond (decide (s80 < (↑(List.length (List.map (zj 7 zg) a2)) : Int)))
 (idxO a2 s80 fun x86 =>
 (Fz57 a0 x86).bind fun x87 =>
 cond (!decide (x87.snd = 0))
 (some (.inr (.inr (x87.snd))))
 (letO (IntKind.wrap .i64 (s80 + 1)) fun x89 =>
 some (.inl x89)))
 (some (.inr (.inl ())))) (0))
 (Sum.elim (fun (s78 : Unit) =>
 cond (decide (a1 < 0))
 (some (7))
 (cond (decide ((↑(List.length (List.map SV.str a0.Lattice.Names)) : Int) <= a1))
 (some (7))
 (some (0)))) some)
noncomputable def Fz59 (a0 : TP) (a1 : List TE) (a2 : Int) : Option (List TE) :=
 Option.bind (
 lpO (fun (s96 : Int × List TE) =>
 cond (decide (s96.fst < (↑(List.length (List.map zg a1)) : Int)))
 (idxO a1 (s96.fst) fun x102 =>
 idxO (a0.Lattice.Up) (x102.Goal) fun x103 =>
 zm (0 <= a2) (
 cond (decide (bits BinOp.and IntKind.u8 (Int.fdiv x103 (2 ^ min (Int.toNat a2) (IntKind.bits IntKind.u8))) 1 = 1))
 (zm ((List.length (List.map zg s96.snd) + (1 : Nat)) * (56 : Nat) <= (70368744177664 : Nat)) (
 letO (IntKind.wrap .i64 (s96.fst + 1)) fun x105 =>
 some (.inl ((x105, s96.snd ++ [x102])))))
 (letO (IntKind.wrap .i64 (s96.fst + 1)) fun x106 =>
 some (.inl ((x106, s96.snd))))))
 (some (.inr (.inl (s96.snd))))) ((0, [])))
 (Sum.elim (fun (s94 : List TE) =>
 some s94) some)
noncomputable def Fz60 (a0 : TP) (a1 : List TE) (a2 : List TE) (a3 : Int) : Option (Bool × Int × Int) :=
 (Fz58 a0 a3 ([a1, a2])).bind fun x92 =>
 cond (!decide (x92 = 0))
 (some ((false, 0, x92)))
 ((Fz59 a0 a1 a3).bind fun x107 =>
 (Fz59 a0 a2 a3).bind fun x108 =>
 Option.bind (
 lpO (fun (s111 : Int) =>
 cond (decide (s111 < min (↑(List.length (List.map zg x107)) : Int) (↑(List.length (List.map zg x108)) : Int)))
 (idxO x107 s111 fun x117 =>
 idxO x108 s111 fun x118 =>
 cond (decide (x117.Value.fst = x118.Value.fst) && (decide (x117.Value.snd = x118.Value.snd) && true))
 (letO (IntKind.wrap .i64 (s111 + 1)) fun x120 =>
 some (.inl x120))
 (some (.inr (.inl s111))))
 (some (.inr (.inl s111)))) (0))
 (Sum.elim (fun (s109 : Int) =>
 some ((decide (s109 = min (↑(List.length (List.map zg x107)) : Int) (↑(List.length (List.map zg x108)) : Int)), s109, 0))) some))
noncomputable def Fz61 (a0 : TP) (a1 : List TE) (a2 : Int) : Option (List TE × Int) :=
 (Fz58 a0 a2 ([a1])).bind fun x126 =>
 cond (!decide (x126 = 0))
 (some (([], x126)))
 ((Fz59 a0 a1 a2).bind fun x128 =>
 some ((x128, 0)))
noncomputable def Fz62 (a0 : TP) (a1 : List TE × List TE) (a2 : Int × Int) : Option (Bool) :=
 (Fz2 a0).bind fun x40 =>
 cond x40
 (some (true))
 (cond (decide (40 < (↑(List.length (List.map zg a1.fst)) : Int)))
 (some (true))
 (cond (decide (40 < (↑(List.length (List.map zg a1.snd)) : Int)))
 (some (true))
 ((Fz57 a0 (a1.fst)).bind fun x72 =>
 (Fz57 a0 (a1.snd)).bind fun x73 =>
 cond (!decide (x72.snd = 0))
 (some (true))
 (cond (!decide (x73.snd = 0))
 (some (true))
 (cond (decide ((↑(List.length (List.map SV.str a0.Lattice.Names)) : Int) = 0))
 (some (false))
 (letO (IntKind.wrap .i64 a2.fst) fun x77 =>
 zm ((↑(List.length (List.map SV.str a0.Lattice.Names)) : Int) ≠ (0 : Int)) (
 (Fz60 a0 (a1.fst) (a1.snd) (Int.tmod x77 (↑(List.length (List.map SV.str a0.Lattice.Names)) : Int))).bind fun x121 =>
 (Fz60 a0 (a1.snd) (a1.fst) (Int.tmod x77 (↑(List.length (List.map SV.str a0.Lattice.Names)) : Int))).bind fun x122 =>
 letO (IntKind.wrap .i64 a2.snd) fun x123 =>
 letO (IntKind.wrap .i64 ((↑(List.length (List.map zg a1.fst)) : Int) + 1)) fun x124 =>
 zm (x124 ≠ (0 : Int)) (
 zm ((0 : Int) <= Int.tmod x123 x124 /\ Int.tmod x123 x124 <= (↑(List.length (List.map zg a1.fst)) : Int)) (
 (Fz60 a0 (a1.fst) (List.drop (Int.toNat 0) (List.take (Int.toNat (Int.tmod x123 x124)) a1.fst)) (Int.tmod x77 (↑(List.length (List.map SV.str a0.Lattice.Names)) : Int))).bind fun x125 =>
 (Fz61 a0 (a1.fst) (Int.tmod x77 (↑(List.length (List.map SV.str a0.Lattice.Names)) : Int))).bind fun x129 =>
 (Fz61 a0 (List.drop (Int.toNat 0) (List.take (Int.toNat (Int.tmod x123 x124)) a1.fst)) (Int.tmod x77 (↑(List.length (List.map SV.str a0.Lattice.Names)) : Int))).bind fun x130 =>
 cond (!decide (x121.snd.snd = 0))
 (some (false))
 (cond (!decide (x122.snd.snd = 0))
 (some (false))
 (cond (!decide (x125.snd.snd = 0))
 (some (false))
 (cond (!decide (x129.snd = 0))
 (some (false))
 (cond (!decide (x130.snd = 0))
 (some (false))
 (cond (!x121.fst == x122.fst)
 (some (false))
 (cond (!decide (x121.snd.fst = x122.snd.fst))
 (some (false))
 (cond (!x125.fst)
 (some (false))
 (cond (!decide (x125.snd.fst = (↑(List.length (List.map zg x130.fst)) : Int)))
 (some (false))
 (zm (((0 : Nat) + List.length (List.map zg x129.fst)) * (56 : Nat) <= (70368744177664 : Nat)) (
 Option.bind (
 lpO (fun (s142 : Int × List TE) =>
 cond (decide (s142.fst < (↑(List.length (List.map zg s142.snd)) : Int)))
 (zm (0 <= s142.fst /\ s142.fst < (↑(List.length (List.map zg s142.snd)) : Int)) (
 idxO (s142.snd) ((↑(Int.toNat s142.fst) : Int)) fun x150 =>
 letO (IntKind.wrap .i64 a2.snd) fun x151 =>
 letO (IntKind.wrap .i64 (x150.Site + x151)) fun x152 =>
 letO (IntKind.wrap .i64 (1 + Int.tmod x152 1000)) fun x153 =>
 zm (0 <= s142.fst /\ s142.fst < (↑(List.length (List.map zg s142.snd)) : Int)) (
 idxO (s142.snd) ((↑(Int.toNat s142.fst) : Int)) fun x154 =>
 letO (IntKind.wrap .i64 (s142.fst + 1)) fun x155 =>
 some (.inl ((x155, List.set s142.snd (Int.toNat s142.fst) (TE.mk x153 x154.Fold x154.From x154.Goal x154.Cells x154.Value)))))))
 (some (.inr (.inl (s142.snd))))) ((0, [] ++ x129.fst)))
 (Sum.elim (fun (s140 : List TE) =>
 (Fz60 a0 s140 (a1.snd) (Int.tmod x77 (↑(List.length (List.map SV.str a0.Lattice.Names)) : Int))).bind fun x156 =>
 cond (!decide (x156.snd.snd = 0))
 (some (false))
 (cond (!x156.fst == x121.fst)
 (some (false))
 (cond (!decide (x156.snd.fst = x121.snd.fst))
 (some (false))
 ((Fz61 a0 (a1.snd) (Int.tmod x77 (↑(List.length (List.map SV.str a0.Lattice.Names)) : Int))).bind fun x160 =>
 cond (!decide (x160.snd = 0))
 (some (false))
 (cond (decide ((↑(List.length (List.map zg x129.fst)) : Int) < x121.snd.fst))
 (some (false))
 (cond (decide ((↑(List.length (List.map zg x160.fst)) : Int) < x121.snd.fst))
 (some (false))
 (cond (decide (x121.snd.fst = (↑(List.length (List.map zg x129.fst)) : Int)))
 (cond (!x121.fst)
 (some (false))
 (Option.bind (
 lpO (fun (s168 : Int) =>
 cond (decide (s168 < x121.snd.fst))
 (idxO (x129.fst) s168 fun x174 =>
 idxO (x160.fst) s168 fun x175 =>
 cond (!(decide (x174.Value.fst = x175.Value.fst) && (decide (x174.Value.snd = x175.Value.snd) && true)))
 (some (.inr (.inr (false))))
 (letO (IntKind.wrap .i64 (s168 + 1)) fun x177 =>
 some (.inl x177)))
 (some (.inr (.inl ())))) (0))
 (Sum.elim (fun (s166 : Unit) =>
 cond (x121.fst)
 (some (true))
 (idxO (x129.fst) (x121.snd.fst) fun x179 =>
 idxO (x160.fst) (x121.snd.fst) fun x180 =>
 cond (!(decide (x179.Value.fst = x180.Value.fst) && (decide (x179.Value.snd = x180.Value.snd) && true)))
 (some (true))
 (some (false)))) some)))
 (cond (!x121.fst == decide (x121.snd.fst = (↑(List.length (List.map zg x160.fst)) : Int)))
 (some (false))
 (Option.bind (
 lpO (fun (s185 : Int) =>
 cond (decide (s185 < x121.snd.fst))
 (idxO (x129.fst) s185 fun x191 =>
 idxO (x160.fst) s185 fun x192 =>
 cond (!(decide (x191.Value.fst = x192.Value.fst) && (decide (x191.Value.snd = x192.Value.snd) && true)))
 (some (.inr (.inr (false))))
 (letO (IntKind.wrap .i64 (s185 + 1)) fun x194 =>
 some (.inl x194)))
 (some (.inr (.inl ())))) (0))
 (Sum.elim (fun (s183 : Unit) =>
 cond (x121.fst)
 (some (true))
 (idxO (x129.fst) (x121.snd.fst) fun x196 =>
 idxO (x160.fst) (x121.snd.fst) fun x197 =>
 cond (!(decide (x196.Value.fst = x197.Value.fst) && (decide (x196.Value.snd = x197.Value.snd) && true)))
 (some (true))
 (some (false)))) some)))))))))) some))))))))))))))))))))
end Go.Sx.O
namespace Go.Sx.O
open Go
theorem zmc {α τ : Type} {l : List α} (p : α -> Bool) {step : Int -> Option (Int ⊕ τ)} {d : τ} {g : Int -> τ}
 (h1 : ∀ (k : Nat) x, l[k]? = some x -> step (k : Int) = if p x then some (.inr (g k)) else some (.inl ((k : Int) + 1)))
 (h2 : step (l.length : Int) = some (.inr d)) :
 lpO step 0 = (match l.findIdx? p with | some i => some (g i) | none => some d) := by
 have key : ∀ j k, j + k = l.length -> lpO step (k : Int) = (match (l.drop k).findIdx? p with | some i => some (g ((k + i : Nat) : Int)) | none => some d) := by
  intro j
  induction j with
  | zero =>
    intro k hk
    rw [yp]
    have : k = l.length := by omega
    subst this
    rw [h2]
    simp
  | succ j ih =>
    intro k hk
    have hlt : k < l.length := by omega
    rw [yp, h1 k _ (List.getElem?_eq_getElem hlt), List.drop_eq_getElem_cons hlt, List.findIdx?_cons]
    split
    · simp
    · have := ih (k + 1) (by omega)
      simp only [Option.bind_some, Sum.elim_inl]
      push_cast at this
      rw [this]
      cases (l.drop (k + 1)).findIdx? p with
      | none => rfl
      | some i => simp; congr 1; omega
 have := key l.length 0 (by omega)
 simpa using this
end Go.Sx.O
namespace Go.Sx.O
open Go
theorem dropWhile_nil {α : Type} {p : α -> Bool} : ∀ {l : List α}, l.dropWhile p = [] ↔ ∀ x ∈ l, p x = true
 | [] => by simp
 | a :: l => by
   rw [List.dropWhile_cons]
   cases h : p a with
   | true => simp [h, dropWhile_nil (l := l)]
   | false => simp [h]
theorem zaq (l : List (List UInt8)) (s : List UInt8) (hl : l.length <= 1000000000) :
 Fz21 l s = some (match l.findIdx? (fun x => decide (s = x)) with | some i => (i : Int) | none => -1) := by
 unfold Fz21
 rw [zmc (l := l) (fun x => decide (s = x)) (d := .inl ()) (g := .inr) ?_ ?_]
 · cases l.findIdx? (fun x => decide (s = x)) <;> rfl
 · intro k x hx
   have hlt : k < l.length := by
    by_cases h : k < l.length
    · exact h
    · rw [List.getElem?_eq_none (by omega)] at hx; cases hx
   simp only [List.length_map, Int.ofNat_lt, hlt, decide_true, cond_true, idxO, Int.toNat_natCast, hx, Option.bind_some, letO, Int.natCast_nonneg, if_true]
   rw [w64 (by omega) (by omega)]
   cases decide (s = x) <;> rfl
 · simp
theorem yJ (l : List (List UInt8)) (s : List UInt8) (hl : l.length <= 1000000000) :
 Fz22 l s = some (decide (s ∈ l)) := by
 unfold Fz22
 rw [zaq l s hl]
 cases h : l.findIdx? (fun x => decide (s = x)) with
 | none =>
   have := List.findIdx?_eq_none_iff.1 h
   simp only [Option.bind_some]
   congr 1
   have hn : s ∉ l := fun hm => by have := this s hm; simp at this
   simp [hn]
 | some i =>
   have := List.findIdx?_eq_some_iff_getElem.1 h
   obtain ⟨hi, h1, _⟩ := this
   have hm : s ∈ l := by
    have e : s = l[i] := by simpa using h1
    rw [e]; exact List.getElem_mem hi
   simp [hm]
def wK (set : List Bool) (c : UInt8) : Bool := set.getD c.toNat false
theorem uT (set : List Bool) (c : UInt8) (h : set.length = 256) : Fz6 set (c.toNat : Int) = some (wK set c) := by
 unfold Fz6
 have hc : c.toNat < 256 := c.toNat_lt
 have h2 : set[c.toNat]? = some (set[c.toNat]'(by omega)) := List.getElem?_eq_getElem _
 have h3 : (c.toNat : Int) < 256 := by omega
 simp [zm, idxO, wK, h2, h3]
def jo (p : UInt8 -> Bool) (s : List UInt8) : List UInt8 := (s.reverse.dropWhile p).reverse
theorem zmf {p : UInt8 -> Bool} {s : List UInt8} : (jo p s).dropWhile p = [] ↔ ∀ c ∈ s, p c = true := by
 unfold jo
 constructor
 · intro h c hc
   have h1 : ∀ c ∈ (s.reverse.dropWhile p).reverse, p c = true := dropWhile_nil.1 h
   have h2 : s.reverse.dropWhile p = [] := by
    cases e : s.reverse.dropWhile p with
    | nil => rfl
    | cons a r =>
      have := List.head?_dropWhile_not p s.reverse
      rw [e] at this
      simp at this
      rw [e] at h1
      rw [h1 a (by simp)] at this
      cases this
   exact dropWhile_nil.1 h2 c (by simpa using hc)
 · intro h
   have : s.reverse.dropWhile p = [] := dropWhile_nil.2 fun c hc => h c (by simpa using hc)
   rw [this]; rfl
theorem uV (s : List UInt8) (set : List Bool) (h : set.length = 256) (hs : s.length <= 1000000000) : Fz7 s set = some (jo (wK set) s) := by
 unfold Fz7
 apply Tot.eq
 simp only [zt]
 refine Tot.loop (fun s => s.length) (fun r => r.length <= 1000000000 /\ jo (wK set) r = jo (wK set) s) ?_ ⟨hs, rfl⟩
 rintro r ⟨hr, he⟩
 simp only [zp, zA, zZ, qi, qv, zt, Sum.elim_inl, Sum.elim_inr, decide_eq_true_eq, decide_eq_false_iff_not]
 refine ⟨fun h1 => ?_, fun h1 => ?_⟩
 · have h0 : r ≠ [] := by rintro rfl; simp at h1
   rw [w64 (by omega) (by omega)]
   have e1 : ((r.length : Int) - 1).toNat = r.length - 1 := by omega
   rw [e1]
   refine ⟨by omega, _, List.getElem?_eq_getElem (by omega), ?_⟩
   rw [uT set _ h]
   simp only [zp, Bool.not_eq_true', Bool.not_eq_false']
   have hr2 : r = r.dropLast ++ [r[r.length - 1]'(by omega)] := by
    rw [<- List.getLast_eq_getElem h0]; exact (List.dropLast_concat_getLast h0).symm
   refine ⟨fun h2 => ?_, fun h2 => ⟨⟨by omega, by omega⟩, ⟨by simp; omega, ?_⟩, by simp; omega⟩⟩
   · rw [<- he]
     unfold jo
     rw [hr2]
     simp [h2]
   · rw [<- he]
     simp only [Int.toNat_zero, List.drop_zero]
     rw [<- List.dropLast_eq_take]
     conv => rhs; rw [hr2]
     unfold jo
     simp [h2]
 · have h0 : r = [] := List.length_eq_zero_iff.1 (by omega)
   rw [<- he, h0]; rfl
theorem zao (s : List UInt8) (set : List Bool) (h : set.length = 256) (hs : s.length <= 1000000000) : Fz8 s set = some (s.dropWhile (wK set)) := by
 unfold Fz8
 apply Tot.eq
 simp only [zt]
 refine Tot.loop (fun s => s.length) (fun r => r.length <= 1000000000 /\ r.dropWhile (wK set) = s.dropWhile (wK set)) ?_ ⟨hs, rfl⟩
 rintro r ⟨hr, he⟩
 simp only [zp, zA, zZ, qi, qv, zt, Sum.elim_inl, Sum.elim_inr, decide_eq_true_eq, decide_eq_false_iff_not]
 cases r with
 | nil => simp [<- he]
 | cons a r =>
   refine ⟨fun h1 => ⟨by omega, a, rfl, ?_⟩, fun h1 => absurd h1 (by simp)⟩
   rw [uT set _ h]
   simp only [zp, Bool.not_eq_true', Bool.not_eq_false']
   refine ⟨fun h2 => ?_, fun h2 => ⟨by simp; omega, ⟨?_, ?_⟩, ?_⟩⟩
   · rw [<- he]; simp [h2]
   · simp at hr ⊢; omega
   · rw [<- he]; simp [h2]
   · simp
end Go.Sx.O
namespace Go.Sx.O
open Go
theorem zmw {set : List Bool} {c d : UInt8} (h : set.length = 256) : wK (set.set c.toNat true) d = (decide (d = c) || wK set d) := by
 have hc : c.toNat < 256 := c.toNat_lt
 unfold wK
 rw [List.getD_eq_getElem?_getD, List.getD_eq_getElem?_getD, List.getElem?_set]
 by_cases e : c.toNat = d.toNat
 · have : d = c := (UInt8.toNat_inj.1 e).symm
   subst this
   simp [h, hc]
 · have : d ≠ c := fun e' => e (by rw [e'])
   simp [e, this]
theorem zbd (cs : List UInt8) (h : ∀ c ∈ cs, c.toNat < 128) (hs : cs.length <= 1000000000) : Tot (Fz5 cs) fun r => r.2 = true /\ r.1.length = 256 /\ ∀ d, wK r.1 d = decide (d ∈ cs) := by
 unfold Fz5
 simp only [zt]
 refine Tot.count cs.length (fun k s => s.1 = (k : Int) /\ s.2.length = 256 /\ ∀ d, wK s.2 d = decide (d ∈ cs.take k)) ?_ ⟨rfl, List.length_replicate, fun d => ?_⟩
 · rintro k ⟨i, set⟩ hk ⟨h0, h1, h2⟩
   simp only at h0 h1 h2
   subst h0
   simp only [zp, zA, zZ, qi, qv, Sum.elim_inl, Sum.elim_inr, decide_eq_true_eq, decide_eq_false_iff_not, Int.toNat_natCast]
   refine ⟨fun hlt => ⟨by omega, _, List.getElem?_eq_getElem (by omega), fun h3 => ?_, fun h3 => ?_⟩, fun hlt => ?_⟩
   · have := h cs[k] (List.getElem_mem _)
     omega
   · have hc : cs[k].toNat < 256 := (cs[k]'(by omega)).toNat_lt
     refine ⟨⟨by omega, by omega⟩, by omega, _, List.getElem?_eq_getElem (by omega), ?_⟩
     rw [w64 (by omega) (by omega)]
     refine ⟨by omega, by omega, by simpa using h1, fun d => ?_⟩
     have hm : d ∈ cs.take (k + 1) ↔ d ∈ cs.take k \/ d = cs[k] := by
      rw [List.take_add_one, List.getElem?_eq_getElem (by omega), List.mem_append]
      simp
     rw [zmw h1, h2, Bool.eq_iff_iff]
     simp only [Bool.or_eq_true, decide_eq_true_eq, hm]
     exact or_comm
   · refine ⟨trivial, h1, fun d => ?_⟩
     rw [h2, List.take_of_length_le (by omega)]
 · unfold wK
   rw [List.getD_eq_getElem?_getD, List.getElem?_replicate]
   split <;> simp
theorem zlb (s cs : List UInt8) (h : ∀ c ∈ cs, c.toNat < 128) (h1 : 2 <= cs.length) (hs : cs.length <= 1000000000) (hl : s.length <= 1000000000) :
 Fz19 s cs = some ((jo (fun c => decide (c ∈ cs)) s).dropWhile (fun c => decide (c ∈ cs))) := by
 unfold Fz19
 have e0 : (ByteArray.mk #[]).data.toList = [] := rfl
 simp only [e0]
 cases s with
 | nil => simp [jo]
 | cons a r =>
   have e1 : decide (a :: r = []) = false := by simp
   have e2 : decide (cs = []) = false := by cases cs <;> simp at h1 ⊢
   have e3 : decide ((cs.length : Int) = 1) = false := by simp; omega
   simp only [e1, e2, e3, cond_false]
   obtain ⟨x, hx, hx1, hx2, hx3⟩ := zbd cs h hs
   have e4 : wK x.1 = fun c => decide (c ∈ cs) := funext hx3
   rw [hx]
   simp only [Option.bind_some, hx1, cond_true]
   rw [uV _ _ hx2 hl]
   simp only [Option.bind_some]
   rw [zao _ _ hx2 (by
    refine Nat.le_trans ?_ hl
    unfold jo
    rw [List.length_reverse]
    refine Nat.le_trans (List.dropWhile_sublist _).length_le (by simp))]
   rw [e4]
   rfl
def zpf : List UInt8 := [97, 98, 99, 100, 101, 102, 103, 104, 105, 106, 107, 108, 109, 110, 111, 112, 113, 114, 115, 116, 117, 118, 119, 120, 121, 122, 48, 49, 50, 51, 52, 53, 54, 55, 56, 57, 45]
def zfn (s : List UInt8) : Bool := decide (s.length <= 16) && (match s with | [] => false | c :: _ => decide (97 <= c.toNat) && decide (c.toNat <= 122)) && s.all fun c => decide (c ∈ zpf)
theorem ze3 (s : List UInt8) (hl : s.length <= 1000000000) : Fz20 s = some (zfn s) := by
 unfold Fz20
 have e0 : (ByteArray.mk #[]).data.toList = [] := rfl
 simp only [e0]
 rw [zlb s _ (by decide) (by decide) (by decide) hl]
 cases s with
 | nil => rfl
 | cons a r =>
   have e1 : decide (a :: r = []) = false := by simp
   simp only [e1, cond_false, Option.bind_some]
   have e5 : idxO (a :: r) 0 = fun f => (f a : Option Bool) := rfl
   simp only [e5]
   unfold zfn
   by_cases h1 : (16 : Int) < ((a :: r).length : Int)
   · have : ¬ (a :: r).length <= 16 := by omega
     simp only [h1, decide_true, cond_true, this, decide_false, Bool.false_and]
   · have h1' : (a :: r).length <= 16 := by omega
     simp only [h1, decide_false, cond_false, h1', decide_true, Bool.true_and]
     by_cases h2 : (a.toNat : Int) < 97
     · have : ¬ 97 <= a.toNat := by omega
       simp only [h2, decide_true, cond_true, this, decide_false, Bool.false_and]
     · have h2' : 97 <= a.toNat := by omega
       simp only [h2, decide_false, cond_false, h2', decide_true, Bool.true_and]
       by_cases h3 : (122 : Int) < (a.toNat : Int)
       · have : ¬ a.toNat <= 122 := by omega
         simp only [h3, decide_true, cond_true, this, decide_false, Bool.false_and]
       · have h3' : a.toNat <= 122 := by omega
         simp only [h3, decide_false, cond_false, h3', decide_true, Bool.true_and]
         congr 1
         rw [Bool.eq_iff_iff, decide_eq_true_eq, zmf, List.all_eq_true]
         rfl
end Go.Sx.O
namespace Go.Sx.O
open Go
theorem zrf : ∀ u : Fin 256, ∀ b : Fin 9, bits .and .u8 (Int.fdiv (u.val : Int) (2 ^ min b.val (IntKind.bits .u8))) 1 = if Nat.testBit u b then 1 else 0 := by decide +kernel
theorem uh {u : Int} {b : Nat} (h0 : 0 <= u) (h1 : u < 256) (hb : b <= 8) : bits .and .u8 (Int.fdiv u (2 ^ min b (IntKind.bits .u8))) 1 = if u.toNat.testBit b then 1 else 0 := by
 have := zrf ⟨u.toNat, by omega⟩ ⟨b, by omega⟩
 simp only at this
 rw [Int.toNat_of_nonneg h0] at this
 exact this
theorem ji {u : Int} (h0 : 0 <= u) : BitVec.ofInt 8 u = BitVec.ofNat 8 u.toNat := by
 conv => lhs; rw [<- Int.toNat_of_nonneg h0]
 exact BitVec.ofInt_natCast 8 u.toNat
theorem zec {n : Nat} (h : n < 256) : IntKind.wrap .u8 (n : Int) = n := by
 simp only [IntKind.wrap, IntKind.signed, IntKind.bits, Bool.false_and]
 have h3 : (2 : Int) ^ 8 = 256 := by decide
 simp only [h3]
 have : (n : Int) % 256 = n := by omega
 simp [this]
theorem ul {a b : Int} (ha : 0 <= a) (ha' : a < 256) (hb : 0 <= b) (hb' : b < 256) : bits .and .u8 a b = ((a.toNat &&& b.toNat : Nat) : Int) := by
 have e : bits .and .u8 a b = IntKind.wrap .u8 ((BitVec.ofInt 8 a &&& BitVec.ofInt 8 b).toNat : Int) := rfl
 rw [e, ji ha, ji hb]
 rw [zec (BitVec.isLt _)]
 rw [BitVec.toNat_and, BitVec.toNat_ofNat, BitVec.toNat_ofNat, Nat.mod_eq_of_lt (by omega), Nat.mod_eq_of_lt (by omega)]
theorem zjg {a b : Int} (ha : 0 <= a) (ha' : a < 256) (hb : 0 <= b) (hb' : b < 256) : bits .or .u8 a b = ((a.toNat ||| b.toNat : Nat) : Int) := by
 have e : bits .or .u8 a b = IntKind.wrap .u8 ((BitVec.ofInt 8 a ||| BitVec.ofInt 8 b).toNat : Int) := rfl
 rw [e, ji ha, ji hb]
 rw [zec (BitVec.isLt _)]
 rw [BitVec.toNat_or, BitVec.toNat_ofNat, BitVec.toNat_ofNat, Nat.mod_eq_of_lt (by omega), Nat.mod_eq_of_lt (by omega)]
theorem xV {a b : Int} (ha : 0 <= a) (ha' : a < 256) (hb : 0 <= b) (hb' : b < 256) : bits .andNot .u8 a b = 0 ↔ ∀ i, a.toNat.testBit i = true -> b.toNat.testBit i = true := by
 have e : bits .andNot .u8 a b = IntKind.wrap .u8 ((BitVec.ofInt 8 a &&& ~~~BitVec.ofInt 8 b).toNat : Int) := rfl
 rw [e, ji ha, ji hb]
 rw [zec (BitVec.isLt _)]
 have hbit : ∀ i, (BitVec.ofNat 8 a.toNat &&& ~~~BitVec.ofNat 8 b.toNat).getLsbD i = (decide (i < 8) && a.toNat.testBit i && !(b.toNat.testBit i)) := by
  intro i
  rw [BitVec.getLsbD_and, BitVec.getLsbD_not, BitVec.getLsbD_ofNat, BitVec.getLsbD_ofNat]
  cases decide (i < 8) <;> simp
 have h8 : ∀ i, a.toNat.testBit i = true -> i < 8 := by
  intro i hi
  rcases Nat.lt_or_ge i 8 with g | g
  · exact g
  · rw [Nat.testBit_lt_two_pow (Nat.lt_of_lt_of_le (show a.toNat < 2 ^ 8 by omega) (Nat.pow_le_pow_right (by omega) g))] at hi
    cases hi
 constructor
 · intro h i hi
   have h0 : (BitVec.ofNat 8 a.toNat &&& ~~~BitVec.ofNat 8 b.toNat).toNat = 0 := Int.ofNat_eq_zero.1 h
   have h1 := hbit i
   rw [<- BitVec.testBit_toNat, h0, Nat.zero_testBit] at h1
   have := h8 i hi
   simp [this, hi] at h1
   exact h1
 · intro h
   have h1 : (BitVec.ofNat 8 a.toNat &&& ~~~BitVec.ofNat 8 b.toNat).toNat = 0 := by
    apply Nat.eq_of_testBit_eq
    intro i
    rw [BitVec.testBit_toNat, hbit i, Nat.zero_testBit]
    cases hi : a.toNat.testBit i with
    | false => simp
    | true => simp [h i hi]
   rw [h1]; rfl
theorem zc0 {a b : Nat} (h : a < 256) : a &&& b < 256 := Nat.lt_of_le_of_lt Nat.and_le_left h
theorem zr8 {a b : Nat} (h : a < 256) (k : b < 256) : a ||| b < 256 := Nat.or_lt_two_pow (n := 8) h k
theorem zh4 (ns : List (List UInt8)) (h : ns.length <= 20) (hn : ∀ s ∈ ns, s.length <= 1000) : Tot (Fz23 ns) fun r => r.2 = 0 -> 1 <= ns.length /\ ns.length <= 8 := by
 unfold Fz23
 simp only [zA, zp, zt, List.length_map, decide_eq_true_eq, decide_eq_false_iff_not]
 refine ⟨fun _ h => absurd h (by decide), fun h1 => ⟨fun _ h => absurd h (by decide), fun h2 => ?_⟩⟩
 refine Tot.count ns.length (fun k s => s = (k : Int)) ?_ rfl
 rintro k _ hk rfl
 simp only [zp, zA, zZ, qi, qv, zt, Sum.elim_inl, Sum.elim_inr, decide_eq_true_eq, decide_eq_false_iff_not, Int.toNat_natCast]
 refine ⟨fun hlt => ⟨by omega, _, List.getElem?_eq_getElem (by omega), ?_⟩, fun hlt => fun _ => by omega⟩
 rw [ze3 _ (by have := hn ns[k] (List.getElem_mem _); omega), zp]
 refine ⟨fun _ h => absurd h (by decide), fun _ => ⟨⟨by omega, by omega⟩, ?_⟩⟩
 rw [yJ _ _ (by simp; omega), zp]
 refine ⟨fun _ h => absurd h (by decide), fun _ => ?_⟩
 rw [w64 (by omega) (by omega)]
 exact ⟨by omega, by omega⟩
end Go.Sx.O
namespace Go.Sx.O
open Go
def U8s (l : List Int) : Prop := ∀ x ∈ l, 0 <= x /\ x < 256
theorem U8s.get {l : List Int} (h : U8s l) {i : Nat} {x : Int} (hx : l[i]? = some x) : 0 <= x /\ x < 256 := h x (List.mem_of_getElem? hx)
theorem U8s.set {l : List Int} (h : U8s l) {i : Nat} {x : Int} (h0 : 0 <= x) (h1 : x < 256) : U8s (l.set i x) := by
 intro y hy
 rcases List.mem_or_eq_of_mem_set hy with g | g
 · exact h y g
 · subst g; exact ⟨h0, h1⟩
theorem zhv {e : Int} : 0 <= IntKind.wrap .u8 e /\ IntKind.wrap .u8 e < 256 := by
 simp only [IntKind.wrap, IntKind.signed, IntKind.bits, Bool.false_and]
 have h3 : (2 : Int) ^ 8 = 256 := by decide
 simp only [h3]
 refine ⟨?_, ?_⟩ <;> simp <;> omega
theorem orU {a b : Int} (ha : 0 <= a) (ha' : a < 256) (hb : 0 <= b) (hb' : b < 256) : 0 <= bits .or .u8 a b /\ bits .or .u8 a b < 256 := by
 rw [zjg ha ha' hb hb']
 have := zr8 (a := a.toNat) (b := b.toNat) (by omega) (by omega)
 omega
theorem zB {α : Type} {l : List α} {i : Nat} (h : i < l.length) : ∃ x, l[i]? = some x := ⟨_, List.getElem?_eq_getElem h⟩
theorem zna (l : TL) (hu : U8s l.Up) (hn : l.Names.length <= 8) (hl : l.Up.length <= 8) :
 Tot (Fz25 l) fun o => o.n_ = l.Names.length /\ o.up_.length = 8 /\ o.down_.length = 8 /\ U8s o.up_ /\ U8s o.down_ := by
 unfold Fz25
 simp only [zt, List.length_map]
 refine Tot.count l.Up.length (fun k s => s.1 = (k : Int) /\ s.2.1.length = 8 /\ s.2.2.length = 8 /\ U8s s.2.1 /\ U8s s.2.2) ?_ ⟨rfl, rfl, rfl, by intro x hx; simp at hx; omega, by intro x hx; simp at hx; omega⟩
 rintro k ⟨i, up, down⟩ hk ⟨h0, h1, h2, h3, h4⟩
 simp only at h0 h1 h2 h3 h4
 subst h0
 simp only [zp, zA, zZ, qi, qv, zt, Sum.elim_inl, Sum.elim_inr, decide_eq_true_eq, decide_eq_false_iff_not, Int.toNat_natCast]
 refine ⟨fun hlt => ?_, fun hlt => ⟨trivial, h1, h2, h3, h4⟩⟩
 obtain ⟨x, hx⟩ := zB (l := l.Up) (i := k) (by omega)
 obtain ⟨y, hy⟩ := zB (l := up) (i := k) (by omega)
 refine ⟨by omega, x, hx, ⟨by omega, by omega⟩, by omega, y, hy, ?_⟩
 have hx' := hu.get hx
 refine Tot.count l.Names.length (fun j s => s.1 = (j : Int) /\ s.2.length = 8 /\ U8s s.2) ?_ ⟨rfl, h2, h4⟩
 rintro j ⟨i', d⟩ hj ⟨g0, g1, g2⟩
 simp only at g0 g1 g2
 subst g0
 simp only [zp, zA, zZ, qi, qv, zt, Sum.elim_inl, Sum.elim_inr, decide_eq_true_eq, decide_eq_false_iff_not, Int.toNat_natCast]
 refine ⟨fun hlt' => ?_, fun _ => ?_⟩
 · obtain ⟨z, hz⟩ := zB (l := d) (i := j) (by omega)
   have hz' := g2.get hz
   rw [w64 (by omega) (by omega)]
   refine ⟨⟨by omega, by omega⟩, by omega, z, hz, by omega, by omega, ⟨by omega, by omega⟩, by omega, z, hz, by omega, by omega, by simpa using g1, ?_⟩
   have hw := zhv (e := bits .and .u8 (Int.fdiv x (2 ^ min j (IntKind.bits .u8))) 1 * 2 ^ min k (IntKind.bits .u8))
   have ho := orU hz'.1 hz'.2 hw.1 hw.2
   exact g2.set ho.1 ho.2
 · rw [w64 (by omega) (by omega)]
   exact ⟨by omega, by omega, by simpa using h1, g1, h3.set hx'.1 hx'.2, g2⟩
theorem xF (m : List Int) (n : Nat) (a b : Nat) (hm : m.length = 8) (hu : U8s m) (hn : n <= 8) (ha : a < n) (hb : b < n) : Tot (Fz26 m n a b) fun _ => True := by
 unfold Fz26
 obtain ⟨x, hx⟩ := zB (l := m) (i := a) (by omega)
 obtain ⟨y, hy⟩ := zB (l := m) (i := b) (by omega)
 simp only [zp, zA, zZ, qi, qv, zt, Int.toNat_natCast]
 refine ⟨⟨by omega, by omega⟩, by omega, x, hx, ⟨by omega, by omega⟩, by omega, y, hy, ?_⟩
 refine Tot.count n (fun k s => s = (k : Int)) ?_ rfl
 rintro k _ hk rfl
 simp only [zp, zA, zZ, qi, qv, zt, Sum.elim_inl, Sum.elim_inr, decide_eq_true_eq, decide_eq_false_iff_not, Int.toNat_natCast]
 refine ⟨fun hlt => ⟨by omega, fun _ => ?_, fun _ => ?_⟩, fun _ => trivial⟩
 · obtain ⟨z, hz⟩ := zB (l := m) (i := k) (by omega)
   rw [w64 (by omega) (by omega)]
   exact ⟨⟨by omega, by omega⟩, by omega, z, hz, fun _ => trivial, fun _ => ⟨by omega, by omega⟩⟩
 · rw [w64 (by omega) (by omega)]
   exact ⟨by omega, by omega⟩
theorem zbb (m : List Int) (n : Nat) (a b : Nat) (hm : m.length = 8) (hu : U8s m) (hn : n <= 8) (ha : a < n) (hb : b < n) : Tot (Fz27 m n a b) fun _ => True := xF m n a b hm hu hn ha hb
theorem zj1 (x : Int) (h0 : 0 <= x) (h1 : x < 256) : Tot (Fz24 x) fun _ => True := by
 unfold Fz24
 rw [qi]
 refine ⟨h0, ?_⟩
 have key : ∀ l : List UInt8, l.length = 256 -> ∃ y, l[x.toNat]? = some y /\ Tot (letO (IntKind.wrap .i64 (y.toNat : Int)) fun z => some z) fun _ => True := by
  intro l hl
  obtain ⟨y, hy⟩ := zB (l := l) (i := x.toNat) (by omega)
  exact ⟨y, hy, .mk trivial⟩
 exact key _ (by decide +kernel)
def up (l : TL) (a b : Nat) : Bool := (l.Up.getD a 0).toNat.testBit b
def jr (l : TL) (a b : Nat) : Prop := up l a b = true -> (b ≠ a -> up l b a = false) /\ ∀ i, i < l.Names.length -> up l b i = true -> up l a i = true
structure LatOK (l : TL) : Prop where
 pos : 1 <= l.Names.length
 le : l.Names.length <= 8
 len : l.Up.length = l.Names.length
 u8 : U8s l.Up
 self : ∀ a, a < l.Names.length -> up l a a = true
 row : ∀ a, a < l.Names.length -> ∀ b, b < l.Names.length -> jr l a b
theorem yQ {l : TL} {a : Nat} {x : Int} (h : l.Up[a]? = some x) (b : Nat) : up l a b = x.toNat.testBit b := by
 unfold up; rw [List.getD_eq_getElem?_getD, h]; rfl
theorem zg5 (n : Nat) (h : n <= 8) (i : Nat) : (IntKind.wrap .u8 (IntKind.wrap .u8 (1 * 2 ^ min n (IntKind.bits .u8)) - 1)).toNat.testBit i = decide (i < n) := by
 have key : ∀ n : Fin 9, (IntKind.wrap .u8 (IntKind.wrap .u8 (1 * 2 ^ min n.val (IntKind.bits .u8)) - 1)).toNat = 2 ^ n.val - 1 := by decide +kernel
 rw [key ⟨n, by omega⟩]
 exact Nat.testBit_two_pow_sub_one n i
theorem zen (l : TL) (hu : U8s l.Up) (hn : l.Names.length <= 20) (hs : ∀ s ∈ l.Names, s.length <= 1000) : Tot (Fz28 l) fun r => r.2 = 0 -> LatOK l := by
 unfold Fz28
 simp only [zt, List.length_map]
 refine (zh4 l.Names hn hs).mono fun x53 h53 => ?_
 simp only [zA, zp, Bool.not_eq_true', Bool.not_eq_false', decide_eq_true_eq, decide_eq_false_iff_not]
 refine ⟨fun h h' => absurd h' h, fun h => ⟨fun _ h' => absurd h' (by decide), fun hlen => ?_⟩⟩
 obtain ⟨p1, p8⟩ := h53 h
 have hlen' : l.Up.length = l.Names.length := by omega
 rw [qv, zZ, zZ, zt]
 refine ⟨by omega, ?_⟩
 rw [Int.toNat_natCast]
 have hmask := zg5 l.Names.length p8
 have hm0 := zhv (e := IntKind.wrap .u8 (1 * 2 ^ min l.Names.length (IntKind.bits .u8)) - 1)
 revert hmask hm0
 generalize IntKind.wrap .u8 (IntKind.wrap .u8 (1 * 2 ^ min l.Names.length (IntKind.bits .u8)) - 1) = mask
 intro hmask hm0
 refine Tot.count l.Names.length (fun k s => s = (k : Int) /\ (∀ a, a < k -> up l a a = true) /\ ∀ a, a < k -> ∀ b, b < l.Names.length -> jr l a b) ?_ ⟨rfl, fun a ha => absurd ha (by omega), fun a ha => absurd ha (by omega)⟩
 rintro k _ hk ⟨rfl, hself, hrow⟩
 simp only [zA, zp, zZ, Sum.elim_inl, Sum.elim_inr, decide_eq_true_eq, decide_eq_false_iff_not]
 refine ⟨fun hlt => ?_, fun hlt => ?_⟩
 · -- a round
   simp only [qi, Int.toNat_natCast]
   obtain ⟨x, hx⟩ := zB (l := l.Up) (i := k) (by omega)
   have hx' := hu.get hx
   refine ⟨by omega, x, hx, ?_⟩
   rw [zt]
   refine (zj1 x hx'.1 hx'.2).mono fun x91 _ => ?_
   simp only [zA, zp, qv, Sum.elim_inl, Sum.elim_inr, decide_eq_true_eq, decide_eq_false_iff_not, Int.toNat_natCast]
   refine ⟨fun _ h' => absurd h' (by decide), fun _ => ⟨by omega, fun _ h' => absurd h' (by decide), fun hs => ?_⟩⟩
   rw [uh hx'.1 hx'.2 (by omega), <- yQ hx] at hs
   have hkk : up l k k = true := by
    cases e : up l k k with
    | true => rfl
    | false => rw [e] at hs; simp at hs
   rw [zt]
   refine Tot.count l.Names.length (fun j s => s = (j : Int) /\ ∀ b, b < j -> jr l k b) ?_ ⟨rfl, fun b hb => absurd hb (by omega)⟩
   rintro j _ hj ⟨rfl, hr⟩
   have fin : (∀ b, b < l.Names.length -> jr l k b) -> k < l.Names.length /\ IntKind.wrap .i64 ((k : Int) + 1) = ((k + 1 : Nat) : Int) /\ (∀ a, a < k + 1 -> up l a a = true) /\ ∀ a, a < k + 1 -> ∀ b, b < l.Names.length -> jr l a b := by
    intro hall
    rw [w64 (by omega) (by omega)]
    refine ⟨by omega, by omega, fun a ha => ?_, fun a ha => ?_⟩
    · rcases Nat.lt_or_ge a k with g | g
      · exact hself a g
      · have : a = k := by omega
        subst this; exact hkk
    · rcases Nat.lt_or_ge a k with g | g
      · exact hrow a g
      · have : a = k := by omega
        subst this; exact hall
   have ext : ∀ {b}, jr l k j -> b < j + 1 -> jr l k b := by
    intro b h hb
    rcases Nat.lt_or_ge b j with g | g
    · exact hr b g
    · have : b = j := by omega
      subst this; exact h
   simp only [zA, zp, zZ, qv, Sum.elim_inl, Sum.elim_inr, decide_eq_true_eq, decide_eq_false_iff_not, Bool.not_eq_true', Bool.not_eq_false', Int.toNat_natCast]
   refine ⟨fun hjl => ?_, fun hjl => ?_⟩
   · simp only [qi, Int.toNat_natCast]
     obtain ⟨y, hy⟩ := zB (l := l.Up) (i := j) (by omega)
     have hy' := hu.get hy
     refine ⟨by omega, y, hy, ?_⟩
     simp only [zA, zp, zZ, qv, Sum.elim_inl, Sum.elim_inr, decide_eq_true_eq, decide_eq_false_iff_not, Bool.not_eq_true', Bool.not_eq_false', Int.toNat_natCast]
     rw [uh hx'.1 hx'.2 (by omega), <- yQ hx]
     rw [w64 (e := (l.Names.length : Int) - 1) (by omega) (by omega)]
     have stay : jr l k j -> ((j : Int) = (l.Names.length : Int) - 1 -> k < l.Names.length /\ IntKind.wrap .i64 ((k : Int) + 1) = ((k + 1 : Nat) : Int) /\ (∀ a, a < k + 1 -> up l a a = true) /\ ∀ a, a < k + 1 -> ∀ b, b < l.Names.length -> jr l a b) /\ (¬ (j : Int) = (l.Names.length : Int) - 1 -> j < l.Names.length /\ IntKind.wrap .i64 ((j : Int) + 1) = ((j + 1 : Nat) : Int) /\ ∀ b, b < j + 1 -> jr l k b) := by
      intro hrow'
      refine ⟨fun e => fin fun b hb => ext hrow' (by omega), fun e => ?_⟩
      rw [w64 (by omega) (by omega)]
      exact ⟨by omega, by omega, fun b hb => ext hrow' hb⟩
     refine ⟨by omega, fun hb => ?_, fun hb => ⟨fun hne => ⟨by omega, fun _ h' => absurd h' (by decide), fun hba => ⟨fun _ h' => absurd h' (by decide), fun han => ?_⟩⟩, fun heq => ⟨fun _ h' => absurd h' (by decide), fun han => ?_⟩⟩⟩
     · refine stay fun hup => ?_
       rw [hup] at hb; simp at hb
     · refine stay fun _ => ⟨fun _ => ?_, fun i hi hyi => ?_⟩
       · rw [uh hy'.1 hy'.2 (by omega), <- yQ hy] at hba
         cases e : up l j k with
         | false => rfl
         | true => rw [e] at hba; simp at hba
       · rw [ul hy'.1 hy'.2 hm0.1 hm0.2] at han
         have hand := zc0 (a := y.toNat) (b := mask.toNat) (by omega)
         have := (xV (by omega) (by omega) hx'.1 hx'.2).1 han i (by
          rw [Int.toNat_natCast, Nat.testBit_and, hmask, <- yQ hy, hyi]; simp [hi])
         rw [yQ hx]; exact this
     · refine stay fun _ => ⟨fun hne => absurd (by omega) hne, fun i hi hyi => ?_⟩
       rw [ul hy'.1 hy'.2 hm0.1 hm0.2] at han
       have hand := zc0 (a := y.toNat) (b := mask.toNat) (by omega)
       have := (xV (by omega) (by omega) hx'.1 hx'.2).1 han i (by
        rw [Int.toNat_natCast, Nat.testBit_and, hmask, <- yQ hy, hyi]; simp [hi])
       rw [yQ hx]; exact this
   · exact fin fun b hb => hr b (by omega)
 · -- the end
   have hk' : k = l.Names.length := by omega
   subst hk'
   have good : LatOK l := ⟨p1, p8, hlen', hu, hself, hrow⟩
   rw [zt]
   refine (zna l hu p8 (by omega)).mono fun o ho => ?_
   obtain ⟨_, o1, o2, o3, o4⟩ := ho
   rw [zt]
   refine Tot.count l.Names.length (fun j s => s = (j : Int)) ?_ rfl
   rintro j _ hj rfl
   simp only [zA, zp, zZ, zt, Sum.elim_inl, Sum.elim_inr, decide_eq_true_eq, decide_eq_false_iff_not]
   refine ⟨fun hlt => ?_, fun _ _ => good⟩
   refine Tot.count l.Names.length (fun i s => s = (i : Int)) ?_ rfl
   rintro i _ hi rfl
   simp only [zA, zp, zZ, zt, Sum.elim_inl, Sum.elim_inr, decide_eq_true_eq, decide_eq_false_iff_not]
   refine ⟨fun hlt' => ?_, fun _ => ?_⟩
   · refine (xF _ _ _ _ o1 o3 p8 (by omega) (by omega)).mono fun b1 _ => ⟨fun _ h' => absurd h' (by decide), fun _ => ?_⟩
     refine (zbb _ _ _ _ o2 o4 p8 (by omega) (by omega)).mono fun b2 _ => ⟨fun _ h' => absurd h' (by decide), fun _ => ?_⟩
     rw [w64 (by omega) (by omega)]
     exact ⟨by omega, by omega⟩
   · rw [w64 (by omega) (by omega)]
     exact ⟨by omega, by omega⟩
end Go.Sx.O
namespace Go.Sx.O
open Go
structure LatIn (l : TL) : Prop where
 u8 : U8s l.Up
 names : l.Names.length <= 20
 name : ∀ s ∈ l.Names, s.length <= 1000
noncomputable def latR (l : TL) : Int × Int := (Fz28 l).getD (0, 0)
theorem ur {l : TL} (h : LatIn l) : Fz28 l = some (latR l) := by
 obtain ⟨r, e, _⟩ := zen l h.u8 h.names h.name
 unfold latR; rw [e]; rfl
theorem xB {l : TL} (h : LatIn l) (k : (latR l).2 = 0) : LatOK l := by
 obtain ⟨r, e, q⟩ := zen l h.u8 h.names h.name
 have := ur h
 rw [e] at this; cases this
 exact q k
def wy (l : TL) (a : Int) : Bool := decide (0 <= a) && decide (a < (l.Names.length : Int))
noncomputable def askE (l : TL) (xs : List Int) : Int := if (latR l).2 = 0 then (if xs.all (wy l) then 0 else 7) else (latR l).2
theorem zie {l : TL} (h : LatIn l) (xs : List Int) (hx : xs.length <= 1000000000) : Fz40 l xs = some (askE l xs) := by
 unfold Fz40 askE
 rw [ur h]
 simp only [Option.bind_some]
 by_cases h0 : (latR l).2 = 0
 · simp only [h0, decide_true, Bool.not_true, cond_false, if_true]
   apply Tot.eq
   simp only [zt, List.length_map]
   refine Tot.count xs.length (fun k s => s = (k : Int) /\ (xs.take k).all (wy l) = true) ?_ ⟨rfl, by simp⟩
   rintro k _ hk ⟨rfl, hall⟩
   simp only [zA, zp, zZ, qi, Sum.elim_inl, Sum.elim_inr, decide_eq_true_eq, decide_eq_false_iff_not, Int.toNat_natCast]
   refine ⟨fun hlt => ?_, fun hlt => ?_⟩
   · obtain ⟨x, hx'⟩ := zB (l := xs) (i := k) (by omega)
     have hm := List.mem_of_getElem? hx'
     have bad : wy l x = false -> (7 : Int) = if xs.all (wy l) = true then 0 else 7 := by
      intro e
      have : xs.all (wy l) = false := by
       rw [List.all_eq_false]; exact ⟨x, hm, by simp [e]⟩
      simp [this]
     refine ⟨by omega, x, hx', fun g => bad (by unfold wy; simp; omega), fun g1 => ⟨fun g => bad (by unfold wy; simp; omega), fun g2 => ?_⟩⟩
     rw [w64 (by omega) (by omega)]
     refine ⟨by omega, by omega, ?_⟩
     rw [List.take_add_one, hx', List.all_append, hall]
     simp [wy]; omega
   · rw [List.take_of_length_le (by omega)] at hall
     simp [hall]
 · simp only [h0, decide_false, Bool.not_false, cond_true, if_false]
noncomputable def sees (l : TL) (a o : Int) : Bool := decide ((latR l).2 = 0) && wy l a && wy l o && up l a.toNat o.toNat
end Go.Sx.O
namespace Go.Sx.O
open Go
theorem xR (x : Int) : Tot (Fz14 x) fun _ => True := by
 unfold Fz14
 simp only [zA, zp, implies_true, and_self]
end Go.Sx.O
namespace Go.Sx.O
open Go
theorem zdu {l : List UInt8} {c : UInt8} (h : c ∉ l) : Lib.indexByte l c = -1 := by
 induction l with
 | nil => rfl
 | cons a l ih =>
   simp only [List.mem_cons, not_or] at h
   have : (a == c) = false := by simp; exact fun e => h.1 e.symm
   simp [Lib.indexByte, this, ih h.2]
theorem zk9 {r : Int} (h0 : 128 <= r) (h1 : r < 256) : ∃ x y, (Utf8.encode r).data.toList = [x, y] /\ 128 <= y.toNat := by
 refine ⟨UInt8.ofNat (0xC0 + r.toNat / 64), UInt8.ofNat (0x80 + r.toNat % 64), ?_, ?_⟩
 · have hv : Utf8.valid r = true := by unfold Utf8.valid; simp; omega
   unfold Utf8.encode
   simp only [hv, if_true]
   rw [if_neg (by omega), if_pos (by omega)]
 · rw [UInt8.toNat_ofNat']; omega
theorem zcl (s : List UInt8) (r : Int) (hs : ∀ c ∈ s, c.toNat < 128) (hl : s.length <= 1000) (h0 : 0 <= r) (h1 : r < 256) : Tot (Fz15 s r) fun _ => True := by
 unfold Fz15
 have e0 : decide (0 <= r) = true := by simp [h0]
 simp only [e0, cond_true]
 rw [zA]
 refine ⟨fun _ => ?_, fun h2 => ?_⟩
 · rw [zZ, zt]
   unfold Fz13 zS
   simp only [Option.bind_some, zp]
 · simp only [decide_eq_false_iff_not] at h2
   obtain ⟨x, y, exy, hy⟩ := zk9 (r := r) (by omega) h1
   have e1 : decide (r = 65533) = false := by simp; omega
   simp only [e1, cond_false, exy]
   rw [zt]
   refine (xR r).mono fun v _ => ?_
   rw [zA]
   refine ⟨fun _ => .mk trivial, fun _ => ?_⟩
   rw [zZ]
   have e2 : IntKind.wrap .i64 (((List.length [x, y] : Nat) : Int) - 1) = 1 := rfl
   rw [e2, zt]
   refine Tot.loop (fun _ => 0) (fun _ => True) (fun _ _ => ?_) trivial
   rw [zA]
   refine ⟨fun h3 => ?_, fun _ => ?_⟩
   · simp only [decide_eq_true_eq] at h3
     obtain ⟨c, hc⟩ := zB (l := s) (i := 1) (by omega)
     have hc' := hs c (List.mem_of_getElem? hc)
     have e3 : (1 : Int).toNat = 1 := rfl
     simp only [qi, e3]
     refine ⟨by omega, c, hc, by omega, y, rfl, ?_⟩
     have e4 : decide ((c.toNat : Int) = (y.toNat : Int)) = false := by simp; omega
     simp only [e4, Bool.not_false, cond_true]
     rw [zZ]
     have e5 : IntKind.wrap .i64 (1 + 1) = 2 := rfl
     rw [e5, qv]
     refine ⟨by omega, ?_⟩
     simp only [qi, e3]
     refine ⟨by omega, y, rfl, ?_⟩
     unfold Fz13 zS
     simp only [Option.bind_some]
     have hn : ((y.toNat : Int).toNat.toUInt8) = y := by simp
     rw [hn, zdu (fun hm => by
      have := hs y (List.mem_of_mem_take (List.mem_of_mem_drop hm))
      omega)]
     have e6 : decide ((-1 : Int) < 0) = true := rfl
     simp only [e6, cond_true, zp, Sum.elim_inr]
   · simp only [zp, Sum.elim_inr, Sum.elim_inl]
theorem zab (s : List UInt8) (r : Int) (hs : ∀ c ∈ s, c.toNat < 128) (hl : s.length <= 1000) (h0 : 0 <= r) (h1 : r < 256) : Tot (Fz16 s r) fun _ => True := by
 unfold Fz16
 rw [zt]
 exact (zcl s r hs hl h0 h1).mono fun _ _ => .mk trivial
theorem zhq {r : Int} (h0 : 0 <= r) (h1 : r < 256) : IntKind.wrap .i32 r = r := by
 simp only [IntKind.wrap, IntKind.signed, IntKind.bits]
 have h3 : (2 : Int) ^ 32 = 4294967296 := by decide
 have h4 : (2 : Int) ^ (32 - 1) = 2147483648 := by decide
 simp only [h3, h4, Bool.true_and, decide_eq_true_eq, ge_iff_le]
 split <;> omega
end Go.Sx.O
