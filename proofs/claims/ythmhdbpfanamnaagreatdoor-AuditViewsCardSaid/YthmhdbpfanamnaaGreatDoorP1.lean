/-
  THE PLAIN STRUCT TYPES, and their symbolic values. Printed by a program. An own text.
  WHAT THE LIBRARY's BODILESS FUNCTIONS RETURN. An own text.
  DATA AS THEY COME: numbers in their kinds' ranges. Printed by a program. An own text.
  PLAIN FUNCTIONS: what the program computes. Printed by a program. An own text.
  PLAIN LAWS of the library's functions and of words, lattice. An own text.
  PLAIN LAWS: slices.Index, strings.Trim, words.Name. An own text.
  PLAIN LAWS: strings.Trim over ASCII, words.Name. An own text.
  PLAIN LAWS: bits; lattice.named, .of, .bound. An own text.
  PLAIN LAWS: lattice.of, .bound, .Check, .Leq. An own text.
  PLAIN LAWS: lattice.Leq; what an observer sees. An own text.
  PLAIN LAWS: shapes, arrays; arrays and events that are the same. An own text.
  PLAIN LAWS: expr.Name returns. An own text.
-/
import Derived.Test.YthmhdbpfanamnaaGreatDoorA7
import Derived.Lib.Bytealg
namespace Go.Sx.O
structure TR where
 s_ : List UInt8
 at_ : Int
def zI (x : TR) : SV := .agg [SV.str x.s_, (SV.int .i64) x.at_]
theorem zrq {p : Nat -> Prop} (x : TR) : (zI x).nmd p := ⟨trivial, trivial, trivial⟩
structure TF where
 low_ : Int
 high_ : Int
def zrx (x : TF) : SV := .agg [(SV.int .i64) x.low_, (SV.int .i64) x.high_]
theorem ztc {p : Nat -> Prop} (x : TF) : (zrx x).nmd p := ⟨trivial, trivial, trivial⟩
structure TL where
 Names : List (List UInt8)
 Up : List (Int)
def zA (x : TL) : SV := .agg [(ze 1 SV.str) x.Names, (ze 1 (SV.int .u8)) x.Up]
theorem zl1 {p : Nat -> Prop} (x : TL) : (zA x).nmd p := ⟨(wu fun _ => trivial), (wu fun _ => trivial), trivial⟩
structure TU where
 From : Int
 Goal : Int
 K : Int
def qh (x : TU) : SV := .agg [(SV.int .i64) x.From, (SV.int .i64) x.Goal, (SV.int .i64) x.K]
theorem zsg {p : Nat -> Prop} (x : TU) : (qh x).nmd p := ⟨trivial, trivial, trivial, trivial⟩
structure TG where
 Lattice : TL
 bottom_ : Int
def zrp (x : TG) : SV := .agg [zA x.Lattice, (SV.int .i64) x.bottom_]
theorem zta {p : Nat -> Prop} (x : TG) : (zrp x).nmd p := ⟨(zl1 _), trivial, trivial⟩
structure TK where
 Kind : Int
 From : Int
 To : Int
 N : Int
 S : List UInt8
def zK (x : TK) : SV := .agg [(SV.int .i64) x.Kind, (SV.int .i64) x.From, (SV.int .i64) x.To, (SV.int .i64) x.N, SV.str x.S]
theorem zte {p : Nat -> Prop} (x : TK) : (zK x).nmd p := ⟨trivial, trivial, trivial, trivial, trivial, trivial⟩
structure Tlattice_order where
 n_ : Int
 up_ : List (Int)
 down_ : List (Int)
def zY (x : Tlattice_order) : SV := .agg [(SV.int .i64) x.n_, (encA 8 1 (SV.int .u8)) x.up_, (encA 8 1 (SV.int .u8)) x.down_]
theorem zmo {p : Nat -> Prop} (x : Tlattice_order) : (zY x).nmd p := ⟨trivial, (wu fun _ => trivial), (wu fun _ => trivial), trivial⟩
structure TY where
 Kind : Int
 Rank : Int
 Axes : (Int) × (Int)
 Data : Int
def wc (x : TY) : SV := .agg [(SV.int .i64) x.Kind, (SV.int .i64) x.Rank, (yF 1 (SV.int .i64)) x.Axes, (SV.int .i64) x.Data]
theorem zhx {p : Nat -> Prop} (x : TY) : (wc x).nmd p := ⟨trivial, trivial, ⟨trivial, trivial, trivial⟩, trivial, trivial⟩
structure TA where
 Kind : Int
 Rank : Int
 Lens : (Int) × (Int)
 Cells : List (Int)
def zgv (x : TA) : SV := .agg [(SV.int .i64) x.Kind, (SV.int .i64) x.Rank, (yF 1 (SV.int .i64)) x.Lens, (ze 1 (SV.int .i64)) x.Cells]
theorem znw {p : Nat -> Prop} (x : TA) : (zgv x).nmd p := ⟨trivial, trivial, ⟨trivial, trivial, trivial⟩, (wu fun _ => trivial), trivial⟩
structure TV where
 Name : List UInt8
 Type_ : TY
def qP (x : TV) : SV := .agg [SV.str x.Name, wc x.Type_]
theorem zrr {p : Nat -> Prop} (x : TV) : (qP x).nmd p := ⟨trivial, (zhx _), trivial⟩
structure TW where
 Name : List UInt8
 Value : TA
def zmp (x : TW) : SV := .agg [SV.str x.Name, zgv x.Value]
theorem zrl {p : Nat -> Prop} (x : TW) : (zmp x).nmd p := ⟨trivial, (znw _), trivial⟩
structure TE where
 Site : Int
 Fold : Int
 From : Int
 Goal : Int
 Cells : Int
 Value : (Int) × (Int)
def zd (x : TE) : SV := .agg [(SV.int .i64) x.Site, (SV.int .i64) x.Fold, (SV.int .i64) x.From, (SV.int .i64) x.Goal, (SV.int .i64) x.Cells, (yF 1 (SV.int .i64)) x.Value]
theorem zsh {p : Nat -> Prop} (x : TE) : (zd x).nmd p := ⟨trivial, trivial, trivial, trivial, trivial, ⟨trivial, trivial, trivial⟩, trivial⟩
structure TEvEvent where
 Kind : Int
 Site : Int
 Steps : Int
 Label : Int
 Channel : List UInt8
 Value : TA
 E : Int
def zal (x : TEvEvent) : SV := .agg [(SV.int .i64) x.Kind, (SV.int .i64) x.Site, (SV.int .i64) x.Steps, (SV.int .i64) x.Label, SV.str x.Channel, zgv x.Value, (SV.int .i64) x.E]
theorem zht {p : Nat -> Prop} (x : TEvEvent) : (zal x).nmd p := ⟨trivial, trivial, trivial, trivial, trivial, (znw _), trivial, trivial⟩
structure TP where
 Lattice : TL
 Channels : List (TR)
 Vars : List (TV)
 Rules : List (TU)
def zE (x : TP) : SV := .agg [zA x.Lattice, (ze 2 zI) x.Channels, (ze 6 qP) x.Vars, (ze 3 qh) x.Rules]
theorem ztd {p : Nat -> Prop} (x : TP) : (zE x).nmd p := ⟨(zl1 _), (wu fun _ => (zrq _)), (wu fun _ => (zrr _)), (wu fun _ => (zsg _)), trivial⟩
structure Tinvigilatorlaw28_Types where
 V : TY
 Y : TY
 From : Int
 Goal : Int
 PC : Int
 EC : Int
 Lower : Int
 Top : Int
def jP (x : Tinvigilatorlaw28_Types) : SV := .agg [wc x.V, wc x.Y, (SV.int .i64) x.From, (SV.int .i64) x.Goal, (SV.int .i64) x.PC, (SV.int .i64) x.EC, (SV.int .i64) x.Lower, (SV.int .i64) x.Top]
theorem ze7 {p : Nat -> Prop} (x : Tinvigilatorlaw28_Types) : (jP x).nmd p := ⟨(zhx _), (zhx _), trivial, trivial, trivial, trivial, trivial, trivial, trivial⟩
structure TC where
 Events : List (TEvEvent)
 Log : List (TE)
 Vars : List (TW)
 Steps : Int
def zsj (x : TC) : SV := .agg [(ze 11 zal) x.Events, (ze 7 zd) x.Log, (ze 6 zmp) x.Vars, (SV.int .i64) x.Steps]
theorem ztb {p : Nat -> Prop} (x : TC) : (zsj x).nmd p := ⟨(wu fun _ => (zht _)), (wu fun _ => (zsh _)), (wu fun _ => (zrl _)), trivial, trivial⟩
end Go.Sx.O
namespace Go.Sx.O
noncomputable def zW (a0 : List UInt8) (a1 : Int) : Option Int := some (Go.Lib.indexByte a0 a1.toNat.toUInt8)
end Go.Sx.O
namespace Go.Sx.O
open Go
def inK (k : IntKind) (n : Int) : Prop := k.min <= n /\ n <= k.max
def allW {α : Type} (W : α -> Prop) (l : List α) : Prop := ∀ x ∈ l, W x
def w2 {α : Type} (W : α -> Prop) (p : α × α) : Prop := W p.1 /\ W p.2
def w3 {α : Type} (W : α -> Prop) (p : α × α × α) : Prop := W p.1 /\ W p.2.1 /\ W p.2.2
def wN {α : Type} (n : Nat) (W : α -> Prop) (l : List α) : Prop := l.length = n /\ ∀ x ∈ l, W x
structure W_TR (x : TR) : Prop where
 s_ : (fun _ => True) x.s_
 at_ : (inK .i64) x.at_
structure W_TF (x : TF) : Prop where
 low_ : (inK .i64) x.low_
 high_ : (inK .i64) x.high_
structure W_TL (x : TL) : Prop where
 Names : (allW (fun _ => True)) x.Names
 Up : (allW (inK .u8)) x.Up
structure W_TU (x : TU) : Prop where
 From : (inK .i64) x.From
 Goal : (inK .i64) x.Goal
 K : (inK .i64) x.K
structure W_TG (x : TG) : Prop where
 Lattice : W_TL x.Lattice
 bottom_ : (inK .i64) x.bottom_
structure W_TK (x : TK) : Prop where
 Kind : (inK .i64) x.Kind
 From : (inK .i64) x.From
 To : (inK .i64) x.To
 N : (inK .i64) x.N
 S : (fun _ => True) x.S
structure W_Tlattice_order (x : Tlattice_order) : Prop where
 n_ : (inK .i64) x.n_
 up_ : (wN 8 (inK .u8)) x.up_
 down_ : (wN 8 (inK .u8)) x.down_
structure W_TY (x : TY) : Prop where
 Kind : (inK .i64) x.Kind
 Rank : (inK .i64) x.Rank
 Axes : (w2 (inK .i64)) x.Axes
 Data : (inK .i64) x.Data
structure W_TA (x : TA) : Prop where
 Kind : (inK .i64) x.Kind
 Rank : (inK .i64) x.Rank
 Lens : (w2 (inK .i64)) x.Lens
 Cells : (allW (inK .i64)) x.Cells
structure W_TV (x : TV) : Prop where
 Name : (fun _ => True) x.Name
 Type_ : W_TY x.Type_
structure W_TW (x : TW) : Prop where
 Name : (fun _ => True) x.Name
 Value : W_TA x.Value
structure W_TE (x : TE) : Prop where
 Site : (inK .i64) x.Site
 Fold : (inK .i64) x.Fold
 From : (inK .i64) x.From
 Goal : (inK .i64) x.Goal
 Cells : (inK .i64) x.Cells
 Value : (w2 (inK .i64)) x.Value
structure W_TEvEvent (x : TEvEvent) : Prop where
 Kind : (inK .i64) x.Kind
 Site : (inK .i64) x.Site
 Steps : (inK .i64) x.Steps
 Label : (inK .i64) x.Label
 Channel : (fun _ => True) x.Channel
 Value : W_TA x.Value
 E : (inK .i64) x.E
structure W_TP (x : TP) : Prop where
 Lattice : W_TL x.Lattice
 Channels : (allW W_TR) x.Channels
 Vars : (allW W_TV) x.Vars
 Rules : (allW W_TU) x.Rules
structure W_Tinvigilatorlaw28_Types (x : Tinvigilatorlaw28_Types) : Prop where
 V : W_TY x.V
 Y : W_TY x.Y
 From : (inK .i64) x.From
 Goal : (inK .i64) x.Goal
 PC : (inK .i64) x.PC
 EC : (inK .i64) x.EC
 Lower : (inK .i64) x.Lower
 Top : (inK .i64) x.Top
structure W_TC (x : TC) : Prop where
 Events : (allW W_TEvEvent) x.Events
 Log : (allW W_TE) x.Log
 Vars : (allW W_TW) x.Vars
 Steps : (inK .i64) x.Steps
end Go.Sx.O
namespace Go.Sx.O
noncomputable def Fz0 (a0 : List (List UInt8)) : Option (Bool) :=
 Option.bind (
 lpO (fun (s25 : Int) =>
 cond (decide (s25 < (↑(List.length (List.map SV.str a0)) : Int)))
 (cond (decide (s25 < 20))
 (idxO a0 s25 fun x31 =>
 cond (decide (100 < (↑(List.length x31) : Int)))
 (some (.inr (.inr (true))))
 (letO (IntKind.wrap .i64 (s25 + 1)) fun x33 =>
 some (.inl x33)))
 (some (.inr (.inl ()))))
 (some (.inr (.inl ())))) (0))
 (Sum.elim (fun (s23 : Unit) =>
 some (decide (12 < (↑(List.length (List.map SV.str a0)) : Int)))) some)
noncomputable def Fz1 (a0 : TL) : Option (Bool) :=
 (Fz0 (a0.Names)).bind fun x34 =>
 cond x34
 (some (true))
 (some (decide (12 < (↑(List.length (List.map (SV.int .u8) a0.Up)) : Int))))
noncomputable def Fz2 (a0 : TP) : Option (Bool) :=
 Option.bind (
 lpO (fun (s3 : Int) =>
 cond (decide (s3 < (↑(List.length (List.map zI a0.Channels)) : Int)))
 (cond (decide (s3 < 25))
 (idxO (a0.Channels) s3 fun x9 =>
 cond (decide (100 < (↑(List.length x9.s_) : Int)))
 (some (.inr (.inr (true))))
 (letO (IntKind.wrap .i64 (s3 + 1)) fun x11 =>
 some (.inl x11)))
 (some (.inr (.inl ()))))
 (some (.inr (.inl ())))) (0))
 (Sum.elim (fun (s1 : Unit) =>
 Option.bind (
 lpO (fun (s14 : Int) =>
 cond (decide (s14 < (↑(List.length (List.map qP a0.Vars)) : Int)))
 (cond (decide (s14 < 45))
 (idxO (a0.Vars) s14 fun x20 =>
 cond (decide (100 < (↑(List.length x20.Name) : Int)))
 (some (.inr (.inr (true))))
 (letO (IntKind.wrap .i64 (s14 + 1)) fun x22 =>
 some (.inl x22)))
 (some (.inr (.inl ()))))
 (some (.inr (.inl ())))) (0))
 (Sum.elim (fun (s12 : Unit) =>
 (Fz1 (a0.Lattice)).bind fun x36 =>
 cond x36
 (some (true))
 (cond (decide (20 < (↑(List.length (List.map zI a0.Channels)) : Int)))
 (some (true))
 (cond (decide (40 < (↑(List.length (List.map qP a0.Vars)) : Int)))
 (some (true))
 (some (decide (70 < (↑(List.length (List.map qh a0.Rules)) : Int))))))) some)) some)
noncomputable def Fz3 (a0 : List TE) : Option (Bool) :=
 cond (decide (40 < (↑(List.length (List.map zd a0)) : Int)))
 (cond (decide ((↑(List.length (List.map zd a0)) : Int) <= 2000))
 (some (true))
 (some (decide (2005 < (↑(List.length (List.map zd a0)) : Int)))))
 (some (decide (2005 < (↑(List.length (List.map zd a0)) : Int))))
noncomputable def Fz4 (a0 : List UInt8) (a1 : Int) : Option (List UInt8) :=
 Option.bind (
 lpO (fun (s70 : List UInt8) =>
 cond (decide (0 < (↑(List.length s70) : Int)))
 (letO (IntKind.wrap .i64 ((↑(List.length s70) : Int) - 1)) fun x77 =>
 idxO s70 x77 fun x78 =>
 cond (decide ((↑(UInt8.toNat x78) : Int) = a1))
 (letO (IntKind.wrap .i64 ((↑(List.length s70) : Int) - 1)) fun x80 =>
 zk (0 <= x80 /\ x80 <= (↑(List.length s70) : Int)) (
 some (.inl (List.drop (Int.toNat 0) (List.take (Int.toNat x80) s70)))))
 (some (.inr (.inl s70))))
 (some (.inr (.inl s70)))) a0)
 (Sum.elim (fun (s68 : List UInt8) =>
 some s68) some)
noncomputable def Fz5 (a0 : List UInt8) (a1 : Int) : Option (List UInt8) :=
 Option.bind (
 lpO (fun (s85 : List UInt8) =>
 cond (decide (0 < (↑(List.length s85) : Int)))
 (idxO s85 (0) fun x90 =>
 cond (decide ((↑(UInt8.toNat x90) : Int) = a1))
 (zk ((0 : Int) <= (1 : Int) /\ (1 : Int) <= (↑(List.length s85) : Int)) (
 some (.inl (List.drop (Int.toNat 1) (List.take (Int.toNat (↑(List.length s85) : Int)) s85)))))
 (some (.inr (.inl s85))))
 (some (.inr (.inl s85)))) a0)
 (Sum.elim (fun (s83 : List UInt8) =>
 some s83) some)
noncomputable def Fz6 (a0 : List UInt8) : Option (List Bool × Bool) :=
 Option.bind (
 lpO (fun (s95 : Int × List Bool) =>
 cond (decide (s95.fst < (↑(List.length a0) : Int)))
 (idxO a0 (s95.fst) fun x101 =>
 cond (decide (128 <= (↑(UInt8.toNat x101) : Int)))
 (some (.inr (.inr ((s95.snd, false)))))
 (zk ((0 : Int) <= (↑(UInt8.toNat x101) : Int) /\ (↑(UInt8.toNat x101) : Int) < (↑(256 : Nat) : Int)) (
 idxO (s95.snd) ((↑(Int.toNat (↑(UInt8.toNat x101) : Int)) : Int)) fun x103 =>
 letO (IntKind.wrap .i64 (s95.fst + 1)) fun x104 =>
 some (.inl ((x104, List.set s95.snd (Int.toNat (↑(UInt8.toNat x101) : Int)) true))))))
 (some (.inr (.inl (s95.snd))))) ((0, List.replicate 256 false)))
 (Sum.elim (fun (s93 : List Bool) =>
 some ((s93, true))) some)
noncomputable def Fz7 (a0 : List Bool) (a1 : Int) : Option (Bool) :=
 zk (0 <= a1 /\ a1 < (↑(256 : Nat) : Int)) (
 idxO a0 ((↑(Int.toNat a1) : Int)) fun x112 =>
 some x112)
noncomputable def Fz8 (a0 : List UInt8) (a1 : List Bool) : Option (List UInt8) :=
 Option.bind (
 lpO (fun (s109 : List UInt8) =>
 cond (decide (0 < (↑(List.length s109) : Int)))
 (letO (IntKind.wrap .i64 ((↑(List.length s109) : Int) - 1)) fun x117 =>
 idxO s109 x117 fun x118 =>
 (Fz7 a1 ((↑(UInt8.toNat x118) : Int))).bind fun x119 =>
 cond (!x119)
 (some (.inr (.inl s109)))
 (letO (IntKind.wrap .i64 ((↑(List.length s109) : Int) - 1)) fun x121 =>
 zk (0 <= x121 /\ x121 <= (↑(List.length s109) : Int)) (
 some (.inl (List.drop (Int.toNat 0) (List.take (Int.toNat x121) s109))))))
 (some (.inr (.inl s109)))) a0)
 (Sum.elim (fun (s107 : List UInt8) =>
 some s107) some)
noncomputable def Fz9 (a0 : List UInt8) (a1 : List Bool) : Option (List UInt8) :=
 Option.bind (
 lpO (fun (s125 : List UInt8) =>
 cond (decide (0 < (↑(List.length s125) : Int)))
 (idxO s125 (0) fun x131 =>
 (Fz7 a1 ((↑(UInt8.toNat x131) : Int))).bind fun x132 =>
 cond (!x132)
 (some (.inr (.inl s125)))
 (zk ((0 : Int) <= (1 : Int) /\ (1 : Int) <= (↑(List.length s125) : Int)) (
 some (.inl (List.drop (Int.toNat 1) (List.take (Int.toNat (↑(List.length s125) : Int)) s125))))))
 (some (.inr (.inl s125)))) a0)
 (Sum.elim (fun (s123 : List UInt8) =>
 some s123) some)
noncomputable def Fz10 (a0 : Int) : Option (Bool) :=
 some (!decide (bits BinOp.and IntKind.u8 a0 192 = 128))
noncomputable def Fz11 (a0 : List UInt8) : Option (Int × Int) :=
 cond (decide ((↑(List.length a0) : Int) < 1))
 (some ((65533, 0)))
 (idxO a0 (0) fun x169 =>
 none)
noncomputable def Fz12 (a0 : List UInt8) : Option (Int × Int) :=
 cond (!decide (a0 = (ByteArray.mk #[]).data.toList))
 (idxO a0 (0) fun x164 =>
 cond (decide ((↑(UInt8.toNat x164) : Int) < 128))
 (idxO a0 (0) fun x166 =>
 letO (IntKind.wrap .i32 (↑(UInt8.toNat x166) : Int)) fun x167 =>
 some ((x167, 1)))
 ((Fz11 a0).bind fun x170 =>
 some x170))
 ((Fz11 a0).bind fun x171 =>
 some x171)
noncomputable def Fz13 (a0 : List UInt8) : Option (Int × Int) :=
 cond (decide ((↑(List.length a0) : Int) = 0))
 (some ((65533, 0)))
 (letO (IntKind.wrap .i64 ((↑(List.length a0) : Int) - 1)) fun x143 =>
 idxO a0 x143 fun x144 =>
 letO (IntKind.wrap .i32 (↑(UInt8.toNat x144) : Int)) fun x145 =>
 cond (decide (x145 < 128))
 (some ((x145, 1)))
 (letO (IntKind.wrap .i64 ((↑(List.length a0) : Int) - 4)) fun x147 =>
 letO (IntKind.wrap .i64 (x143 - 1)) fun x148 =>
 Option.bind (
 lpO (fun (s151 : Int) =>
 cond (decide (max x147 0 <= s151))
 (idxO a0 s151 fun x158 =>
 (Fz10 ((↑(UInt8.toNat x158) : Int))).bind fun x159 =>
 cond x159
 (some (.inr (.inl s151)))
 (letO (IntKind.wrap .i64 (s151 - 1)) fun x161 =>
 some (.inl x161)))
 (some (.inr (.inl s151)))) x148)
 (Sum.elim (fun (s149 : Int) =>
 cond (decide (s149 < 0))
 (zk ((0 : Int) <= (0 : Int) /\ (0 : Int) <= (↑(List.length a0) : Int) /\ (↑(List.length a0) : Int) <= (↑(List.length a0) : Int)) (
 (Fz12 (List.drop (Int.toNat 0) (List.take (Int.toNat (↑(List.length a0) : Int)) a0))).bind fun x172 =>
 letO (IntKind.wrap .i64 (0 + x172.snd)) fun x173 =>
 cond (!decide (x173 = (↑(List.length a0) : Int)))
 (some ((65533, 1)))
 (some x172)))
 (zk (0 <= s149 /\ s149 <= (↑(List.length a0) : Int) /\ (↑(List.length a0) : Int) <= (↑(List.length a0) : Int)) (
 (Fz12 (List.drop (Int.toNat s149) (List.take (Int.toNat (↑(List.length a0) : Int)) a0))).bind fun x175 =>
 letO (IntKind.wrap .i64 (s149 + x175.snd)) fun x176 =>
 cond (!decide (x176 = (↑(List.length a0) : Int)))
 (some ((65533, 1)))
 (some x175)))) some)))
noncomputable def Fz14 (a0 : List UInt8) (a1 : Int) : Option (Int) :=
 (zW a0 a1).bind fun x182 =>
 some x182
noncomputable def Fz15 (a0 : Int) : Option (Bool) :=
 cond (decide (0 <= a0))
 (cond (decide (a0 < 55296))
 (some (true))
 (cond (decide (57343 < a0))
 (cond (decide (a0 <= 1114111))
 (some (true))
 (some (false)))
 (some (false))))
 (cond (decide (57343 < a0))
 (cond (decide (a0 <= 1114111))
 (some (true))
 (some (false)))
 (some (false)))
noncomputable def Fz16 (a0 : List UInt8) (a1 : Int) : Option (Int) :=
 cond (decide (0 <= a1))
 (cond (decide (a1 < 128))
 (letO (IntKind.wrap .u8 a1) fun x181 =>
 (Fz14 a0 x181).bind fun x183 =>
 some x183)
 (cond (decide (a1 = 65533))
 (none)
 ((Fz15 a1).bind fun x191 =>
 cond (!x191)
 (some ((-1 : Int)))
 (letO (IntKind.wrap .i64 ((↑(List.length (Utf8.encode a1).data.toList) : Int) - 1)) fun x193 =>
 Option.bind (
 lpO (fun (s196 : Unit) =>
 cond (decide (x193 < (↑(List.length a0) : Int)))
 (idxO a0 x193 fun x198 =>
 idxO ((Utf8.encode a1).data.toList) x193 fun x199 =>
 cond (!decide ((↑(UInt8.toNat x198) : Int) = (↑(UInt8.toNat x199) : Int)))
 (letO (IntKind.wrap .i64 (x193 + 1)) fun x201 =>
 zk (0 <= x201 /\ x201 <= (↑(List.length a0) : Int)) (
 idxO ((Utf8.encode a1).data.toList) x193 fun x202 =>
 (Fz14 (List.drop (Int.toNat x201) (List.take (Int.toNat (↑(List.length a0) : Int)) a0)) ((↑(UInt8.toNat x202) : Int))).bind fun x203 =>
 cond (decide (x203 < 0))
 (some (.inr (.inr ((-1 : Int)))))
 (letO (IntKind.wrap .i64 (x203 + 1)) fun x205 =>
 letO (IntKind.wrap .i64 (x193 + x205)) fun x206 =>
 Option.bind (
 lpO (fun (s209 : Int) =>
 cond (decide (s209 < (↑(List.length (Utf8.encode a1).data.toList) : Int)))
 (letO (IntKind.wrap .i64 (x206 - s209)) fun x217 =>
 idxO a0 x217 fun x218 =>
 letO (IntKind.wrap .i64 (x193 - s209)) fun x219 =>
 idxO ((Utf8.encode a1).data.toList) x219 fun x220 =>
 cond (!decide ((↑(UInt8.toNat x218) : Int) = (↑(UInt8.toNat x220) : Int)))
 (none)
 (letO (IntKind.wrap .i64 (s209 + 1)) fun x222 =>
 some (.inl x222)))
 (some (.inr (.inl ())))) (1))
 (Sum.elim (fun (s207 : Unit) =>
 letO (IntKind.wrap .i64 (x206 - x193)) fun x223 =>
 some (.inr (.inr x223))) some))))
 (Option.bind (
 lpO (fun (s226 : Int) =>
 cond (decide (s226 < (↑(List.length (Utf8.encode a1).data.toList) : Int)))
 (letO (IntKind.wrap .i64 (x193 - s226)) fun x234 =>
 idxO a0 x234 fun x235 =>
 letO (IntKind.wrap .i64 (x193 - s226)) fun x236 =>
 idxO ((Utf8.encode a1).data.toList) x236 fun x237 =>
 cond (!decide ((↑(UInt8.toNat x235) : Int) = (↑(UInt8.toNat x237) : Int)))
 (none)
 (letO (IntKind.wrap .i64 (s226 + 1)) fun x239 =>
 some (.inl x239)))
 (some (.inr (.inl ())))) (1))
 (Sum.elim (fun (s224 : Unit) =>
 letO (IntKind.wrap .i64 (x193 - x193)) fun x240 =>
 some (.inr (.inr x240))) some)))
 (some (.inr (.inl ())))) (()))
 (Sum.elim (fun (s194 : Unit) =>
 some ((-1 : Int))) some)))))
 (cond (decide (a1 = 65533))
 (none)
 ((Fz15 a1).bind fun x242 =>
 cond (!x242)
 (some ((-1 : Int)))
 (letO (IntKind.wrap .i64 ((↑(List.length (Utf8.encode a1).data.toList) : Int) - 1)) fun x244 =>
 Option.bind (
 lpO (fun (s247 : Unit) =>
 cond (decide (x244 < (↑(List.length a0) : Int)))
 (idxO a0 x244 fun x249 =>
 idxO ((Utf8.encode a1).data.toList) x244 fun x250 =>
 cond (!decide ((↑(UInt8.toNat x249) : Int) = (↑(UInt8.toNat x250) : Int)))
 (letO (IntKind.wrap .i64 (x244 + 1)) fun x252 =>
 zk (0 <= x252 /\ x252 <= (↑(List.length a0) : Int)) (
 idxO ((Utf8.encode a1).data.toList) x244 fun x253 =>
 (Fz14 (List.drop (Int.toNat x252) (List.take (Int.toNat (↑(List.length a0) : Int)) a0)) ((↑(UInt8.toNat x253) : Int))).bind fun x254 =>
 cond (decide (x254 < 0))
 (some (.inr (.inr ((-1 : Int)))))
 (letO (IntKind.wrap .i64 (x254 + 1)) fun x256 =>
 letO (IntKind.wrap .i64 (x244 + x256)) fun x257 =>
 Option.bind (
 lpO (fun (s260 : Int) =>
 cond (decide (s260 < (↑(List.length (Utf8.encode a1).data.toList) : Int)))
 (letO (IntKind.wrap .i64 (x257 - s260)) fun x268 =>
 idxO a0 x268 fun x269 =>
 letO (IntKind.wrap .i64 (x244 - s260)) fun x270 =>
 idxO ((Utf8.encode a1).data.toList) x270 fun x271 =>
 cond (!decide ((↑(UInt8.toNat x269) : Int) = (↑(UInt8.toNat x271) : Int)))
 (none)
 (letO (IntKind.wrap .i64 (s260 + 1)) fun x273 =>
 some (.inl x273)))
 (some (.inr (.inl ())))) (1))
 (Sum.elim (fun (s258 : Unit) =>
 letO (IntKind.wrap .i64 (x257 - x244)) fun x274 =>
 some (.inr (.inr x274))) some))))
 (Option.bind (
 lpO (fun (s277 : Int) =>
 cond (decide (s277 < (↑(List.length (Utf8.encode a1).data.toList) : Int)))
 (letO (IntKind.wrap .i64 (x244 - s277)) fun x285 =>
 idxO a0 x285 fun x286 =>
 letO (IntKind.wrap .i64 (x244 - s277)) fun x287 =>
 idxO ((Utf8.encode a1).data.toList) x287 fun x288 =>
 cond (!decide ((↑(UInt8.toNat x286) : Int) = (↑(UInt8.toNat x288) : Int)))
 (none)
 (letO (IntKind.wrap .i64 (s277 + 1)) fun x290 =>
 some (.inl x290)))
 (some (.inr (.inl ())))) (1))
 (Sum.elim (fun (s275 : Unit) =>
 letO (IntKind.wrap .i64 (x244 - x244)) fun x291 =>
 some (.inr (.inr x291))) some)))
 (some (.inr (.inl ())))) (()))
 (Sum.elim (fun (s245 : Unit) =>
 some ((-1 : Int))) some))))
noncomputable def Fz17 (a0 : List UInt8) (a1 : Int) : Option (Bool) :=
 (Fz16 a0 a1).bind fun x292 =>
 some (decide (0 <= x292))
noncomputable def Fz18 (a0 : List UInt8) (a1 : List UInt8) : Option (List UInt8) :=
 Option.bind (
 lpO (fun (s137 : List UInt8) =>
 cond (decide (0 < (↑(List.length s137) : Int)))
 (letO (IntKind.wrap .i64 ((↑(List.length s137) : Int) - 1)) fun x151 =>
 idxO s137 x151 fun x152 =>
 letO (IntKind.wrap .i32 (↑(UInt8.toNat x152) : Int)) fun x153 =>
 cond (decide (128 <= x153))
 ((Fz13 s137).bind fun x155 =>
 (Fz17 a1 (x155.fst)).bind fun x156 =>
 cond (!x156)
 (some (.inr (.inl s137)))
 (letO (IntKind.wrap .i64 ((↑(List.length s137) : Int) - x155.snd)) fun x158 =>
 zk (0 <= x158 /\ x158 <= (↑(List.length s137) : Int)) (
 some (.inl (List.drop (Int.toNat 0) (List.take (Int.toNat x158) s137))))))
 ((Fz17 a1 x153).bind fun x159 =>
 cond (!x159)
 (some (.inr (.inl s137)))
 (letO (IntKind.wrap .i64 ((↑(List.length s137) : Int) - 1)) fun x161 =>
 zk (0 <= x161 /\ x161 <= (↑(List.length s137) : Int)) (
 some (.inl (List.drop (Int.toNat 0) (List.take (Int.toNat x161) s137)))))))
 (some (.inr (.inl s137)))) a0)
 (Sum.elim (fun (s135 : List UInt8) =>
 some s135) some)
noncomputable def Fz19 (a0 : List UInt8) (a1 : List UInt8) : Option (List UInt8) :=
 Option.bind (
 lpO (fun (s165 : List UInt8) =>
 cond (decide (0 < (↑(List.length s165) : Int)))
 ((Fz12 s165).bind fun x171 =>
 (Fz17 a1 (x171.fst)).bind fun x172 =>
 cond (!x172)
 (some (.inr (.inl s165)))
 (zk (0 <= x171.snd /\ x171.snd <= (↑(List.length s165) : Int)) (
 some (.inl (List.drop (Int.toNat x171.snd) (List.take (Int.toNat (↑(List.length s165) : Int)) s165))))))
 (some (.inr (.inl s165)))) a0)
 (Sum.elim (fun (s163 : List UInt8) =>
 some s163) some)
noncomputable def Fz20 (a0 : List UInt8) (a1 : List UInt8) : Option (List UInt8) :=
 cond (decide (a0 = (ByteArray.mk #[]).data.toList))
 (some a0)
 (cond (decide (a1 = (ByteArray.mk #[]).data.toList))
 (some a0)
 (cond (decide ((↑(List.length a1) : Int) = 1))
 (idxO a1 (0) fun x65 =>
 cond (decide ((↑(UInt8.toNat x65) : Int) < 128))
 (idxO a1 (0) fun x67 =>
 (Fz4 a0 ((↑(UInt8.toNat x67) : Int))).bind fun x81 =>
 idxO a1 (0) fun x82 =>
 (Fz5 x81 ((↑(UInt8.toNat x82) : Int))).bind fun x92 =>
 some x92)
 ((Fz6 a1).bind fun x105 =>
 cond (x105.snd)
 ((Fz8 a0 (x105.fst)).bind fun x122 =>
 (Fz9 x122 (x105.fst)).bind fun x134 =>
 some x134)
 ((Fz18 a0 a1).bind fun x162 =>
 (Fz19 x162 a1).bind fun x174 =>
 some x174)))
 ((Fz6 a1).bind fun x175 =>
 cond (x175.snd)
 ((Fz8 a0 (x175.fst)).bind fun x177 =>
 (Fz9 x177 (x175.fst)).bind fun x178 =>
 some x178)
 ((Fz18 a0 a1).bind fun x179 =>
 (Fz19 x179 a1).bind fun x180 =>
 some x180))))
noncomputable def Fz21 (a0 : List UInt8) : Option (Bool) :=
 cond (decide (a0 = (ByteArray.mk #[]).data.toList))
 (some (false))
 (cond (decide (16 < (↑(List.length a0) : Int)))
 (some (false))
 (idxO a0 (0) fun x58 =>
 cond (decide ((↑(UInt8.toNat x58) : Int) < 97))
 (some (false))
 (idxO a0 (0) fun x60 =>
 cond (decide (122 < (↑(UInt8.toNat x60) : Int)))
 (some (false))
 ((Fz20 a0 ((ByteArray.mk #[97, 98, 99, 100, 101, 102, 103, 104, 105, 106, 107, 108, 109, 110, 111, 112, 113, 114, 115, 116, 117, 118, 119, 120, 121, 122, 48, 49, 50, 51, 52, 53, 54, 55, 56, 57, 45]).data.toList)).bind fun x181 =>
 some (decide (x181 = (ByteArray.mk #[]).data.toList))))))
noncomputable def Fz22 (a0 : List (List UInt8)) (a1 : List UInt8) : Option (Int) :=
 Option.bind (
 lpO (fun (s186 : Int) =>
 cond (decide (s186 < (↑(List.length (List.map SV.str a0)) : Int)))
 (idxO a0 s186 fun x191 =>
 cond (decide (a1 = x191))
 (some (.inr (.inr s186)))
 (letO (IntKind.wrap .i64 (s186 + 1)) fun x193 =>
 some (.inl x193)))
 (some (.inr (.inl ())))) (0))
 (Sum.elim (fun (s184 : Unit) =>
 some ((-1 : Int))) some)
noncomputable def Fz23 (a0 : List (List UInt8)) (a1 : List UInt8) : Option (Bool) :=
 (Fz22 a0 a1).bind fun x194 =>
 some (decide (0 <= x194))
noncomputable def Fz24 (a0 : List (List UInt8)) : Option (Int × Int) :=
 cond (decide ((↑(List.length (List.map SV.str a0)) : Int) < 1))
 (some (((-1 : Int), 3)))
 (cond (decide (8 < (↑(List.length (List.map SV.str a0)) : Int)))
 (some (((-1 : Int), 3)))
 (Option.bind (
 lpO (fun (s54 : Int) =>
 cond (decide (s54 < (↑(List.length (List.map SV.str a0)) : Int)))
 (idxO a0 s54 fun x62 =>
 (Fz21 x62).bind fun x63 =>
 cond (!x63)
 (some (.inr (.inr ((s54, 6)))))
 (zk (0 <= s54 /\ s54 <= (↑(List.length (List.map SV.str a0)) : Int)) (
 (Fz23 (List.drop (Int.toNat 0) (List.take (Int.toNat s54) a0)) x62).bind fun x65 =>
 cond x65
 (some (.inr (.inr ((s54, 8)))))
 (letO (IntKind.wrap .i64 (s54 + 1)) fun x67 =>
 some (.inl x67)))))
 (some (.inr (.inl ())))) (0))
 (Sum.elim (fun (s52 : Unit) =>
 some ((0, 0))) some)))
noncomputable def Fz25 (a0 : Int) : Option (Int) :=
 idxO ((ByteArray.mk (List.toArray (List.append (List.append [(0 : UInt8), 1, 2, 2, 3, 3, 3, 3, 4, 4, 4, 4, 4, 4, 4, 4, 5, 5, 5, 5, 5, 5, 5, 5, 5, 5, 5, 5, 5, 5, 5, 5, 6, 6, 6, 6, 6, 6, 6, 6, 6, 6, 6, 6, 6, 6, 6, 6, 6, 6, 6, 6, 6, 6, 6, 6, 6, 6, 6, 6, 6, 6, 6, 6] [(7 : UInt8), 7, 7, 7, 7, 7, 7, 7, 7, 7, 7, 7, 7, 7, 7, 7, 7, 7, 7, 7, 7, 7, 7, 7, 7, 7, 7, 7, 7, 7, 7, 7, 7, 7, 7, 7, 7, 7, 7, 7, 7, 7, 7, 7, 7, 7, 7, 7, 7, 7, 7, 7, 7, 7, 7, 7, 7, 7, 7, 7, 7, 7, 7, 7]) (List.append [(8 : UInt8), 8, 8, 8, 8, 8, 8, 8, 8, 8, 8, 8, 8, 8, 8, 8, 8, 8, 8, 8, 8, 8, 8, 8, 8, 8, 8, 8, 8, 8, 8, 8, 8, 8, 8, 8, 8, 8, 8, 8, 8, 8, 8, 8, 8, 8, 8, 8, 8, 8, 8, 8, 8, 8, 8, 8, 8, 8, 8, 8, 8, 8, 8, 8] [(8 : UInt8), 8, 8, 8, 8, 8, 8, 8, 8, 8, 8, 8, 8, 8, 8, 8, 8, 8, 8, 8, 8, 8, 8, 8, 8, 8, 8, 8, 8, 8, 8, 8, 8, 8, 8, 8, 8, 8, 8, 8, 8, 8, 8, 8, 8, 8, 8, 8, 8, 8, 8, 8, 8, 8, 8, 8, 8, 8, 8, 8, 8, 8, 8, 8])))).data.toList) a0 fun x77 =>
 letO (IntKind.wrap .i64 (↑(UInt8.toNat x77) : Int)) fun x78 =>
 some x78
noncomputable def Fz26 (a0 : TL) : Option (Tlattice_order) :=
 Option.bind (
 lpO (fun (s150 : Int × List Int × List Int) =>
 cond (decide (s150.fst < (↑(List.length (List.map (SV.int .u8) a0.Up)) : Int)))
 (idxO (a0.Up) (s150.fst) fun x164 =>
 zk (0 <= s150.fst /\ s150.fst < (↑(8 : Nat) : Int)) (
 idxO (s150.snd.fst) ((↑(Int.toNat s150.fst) : Int)) fun x165 =>
 Option.bind (
 lpO (fun (s168 : Int × List Int) =>
 cond (decide (s168.fst < (↑(List.length (List.map SV.str a0.Names)) : Int)))
 (zk (0 <= s168.fst /\ s168.fst < (↑(8 : Nat) : Int)) (
 idxO (s168.snd) ((↑(Int.toNat s168.fst) : Int)) fun x174 =>
 zk (0 <= s168.fst) (
 zk (0 <= s150.fst) (
 letO (IntKind.wrap .u8 (bits BinOp.and IntKind.u8 (Int.fdiv x164 (2 ^ min (Int.toNat s168.fst) (IntKind.bits IntKind.u8))) 1 * 2 ^ min (Int.toNat s150.fst) (IntKind.bits IntKind.u8))) fun x175 =>
 zk (0 <= s168.fst /\ s168.fst < (↑(8 : Nat) : Int)) (
 idxO (s168.snd) ((↑(Int.toNat s168.fst) : Int)) fun x176 =>
 letO (IntKind.wrap .i64 (s168.fst + 1)) fun x177 =>
 some (.inl ((x177, List.set s168.snd (Int.toNat s168.fst) (bits BinOp.or IntKind.u8 x174 x175)))))))))
 (some (.inr (.inl (s168.snd))))) ((0, s150.snd.snd)))
 (Sum.elim (fun (s166 : List Int) =>
 letO (IntKind.wrap .i64 (s150.fst + 1)) fun x178 =>
 some (.inl ((x178, List.set s150.snd.fst (Int.toNat s150.fst) x164, s166)))) some)))
 (some (.inr (.inl (s150.snd))))) ((0, [0, 0, 0, 0, 0, 0, 0, 0], [0, 0, 0, 0, 0, 0, 0, 0])))
 (Sum.elim (fun (s148 : List Int × List Int) =>
 some (Tlattice_order.mk (↑(List.length (List.map SV.str a0.Names)) : Int) s148.fst s148.snd)) some)
noncomputable def Fz27 (a0 : List Int) (a1 : Int) (a2 : Int) (a3 : Int) : Option (Int) :=
 zk (0 <= a2 /\ a2 < (↑(8 : Nat) : Int)) (
 idxO a0 ((↑(Int.toNat a2) : Int)) fun x185 =>
 zk (0 <= a3 /\ a3 < (↑(8 : Nat) : Int)) (
 idxO a0 ((↑(Int.toNat a3) : Int)) fun x186 =>
 Option.bind (
 lpO (fun (s189 : Int) =>
 cond (decide (s189 < a1))
 (zk (0 <= s189) (
 cond (decide (bits BinOp.and IntKind.u8 (Int.fdiv (bits BinOp.and IntKind.u8 x185 x186) (2 ^ min (Int.toNat s189) (IntKind.bits IntKind.u8))) 1 = 1))
 (zk (0 <= s189 /\ s189 < (↑(8 : Nat) : Int)) (
 idxO a0 ((↑(Int.toNat s189) : Int)) fun x196 =>
 cond (decide (x196 = bits BinOp.and IntKind.u8 x185 x186))
 (some (.inr (.inr s189)))
 (letO (IntKind.wrap .i64 (s189 + 1)) fun x198 =>
 some (.inl x198))))
 (letO (IntKind.wrap .i64 (s189 + 1)) fun x199 =>
 some (.inl x199))))
 (some (.inr (.inl ())))) (0))
 (Sum.elim (fun (s187 : Unit) =>
 some ((-1 : Int))) some)))
noncomputable def Fz28 (a0 : List Int) (a1 : Int) (a2 : Int) (a3 : Int) : Option (Int) :=
 zk (0 <= a2 /\ a2 < (↑(8 : Nat) : Int)) (
 idxO a0 ((↑(Int.toNat a2) : Int)) fun x202 =>
 zk (0 <= a3 /\ a3 < (↑(8 : Nat) : Int)) (
 idxO a0 ((↑(Int.toNat a3) : Int)) fun x203 =>
 Option.bind (
 lpO (fun (s206 : Int) =>
 cond (decide (s206 < a1))
 (zk (0 <= s206) (
 cond (decide (bits BinOp.and IntKind.u8 (Int.fdiv (bits BinOp.and IntKind.u8 x202 x203) (2 ^ min (Int.toNat s206) (IntKind.bits IntKind.u8))) 1 = 1))
 (zk (0 <= s206 /\ s206 < (↑(8 : Nat) : Int)) (
 idxO a0 ((↑(Int.toNat s206) : Int)) fun x213 =>
 cond (decide (x213 = bits BinOp.and IntKind.u8 x202 x203))
 (some (.inr (.inr s206)))
 (letO (IntKind.wrap .i64 (s206 + 1)) fun x215 =>
 some (.inl x215))))
 (letO (IntKind.wrap .i64 (s206 + 1)) fun x216 =>
 some (.inl x216))))
 (some (.inr (.inl ())))) (0))
 (Sum.elim (fun (s204 : Unit) =>
 some ((-1 : Int))) some)))
noncomputable def Fz29 (a0 : TL) : Option (Int × Int) :=
 (Fz24 (a0.Names)).bind fun x68 =>
 cond (!decide (x68.snd = 0))
 (some x68)
 (cond (!decide ((↑(List.length (List.map (SV.int .u8) a0.Up)) : Int) = (↑(List.length (List.map SV.str a0.Names)) : Int)))
 (some (((-1 : Int), 6)))
 (zk ((0 : Int) <= (↑(List.length (List.map SV.str a0.Names)) : Int)) (
 letO (IntKind.wrap .u8 (1 * 2 ^ min (Int.toNat (↑(List.length (List.map SV.str a0.Names)) : Int)) (IntKind.bits IntKind.u8))) fun x71 =>
 letO (IntKind.wrap .u8 (x71 - 1)) fun x72 =>
 Option.bind (
 lpO (fun (s75 : Int) =>
 cond (decide (s75 < (↑(List.length (List.map (SV.int .u8) a0.Up)) : Int)))
 (idxO (a0.Up) s75 fun x105 =>
 (Fz25 x105).bind fun x106 =>
 cond (decide ((↑(List.length (List.map SV.str a0.Names)) : Int) < x106))
 (some (.inr (.inr ((s75, 6)))))
 (zk (0 <= s75) (
 cond (decide (bits BinOp.and IntKind.u8 (Int.fdiv x105 (2 ^ min (Int.toNat s75) (IntKind.bits IntKind.u8))) 1 = 0))
 (some (.inr (.inr ((s75, 6)))))
 (Option.bind (
 lpO (fun (s111 : Int) =>
 cond (decide (s111 < (↑(List.length (List.map (SV.int .u8) a0.Up)) : Int)))
 (idxO (a0.Up) s111 fun x129 =>
 zk (0 <= s111) (
 cond (decide (bits BinOp.and IntKind.u8 (Int.fdiv x105 (2 ^ min (Int.toNat s111) (IntKind.bits IntKind.u8))) 1 = 0))
 (letO (IntKind.wrap .i64 ((↑(List.length (List.map SV.str a0.Names)) : Int) - 1)) fun x131 =>
 cond (decide (s111 = x131))
 (letO (IntKind.wrap .i64 (s75 + 1)) fun x133 =>
 some (.inr (.inr (.inl x133))))
 (letO (IntKind.wrap .i64 (s111 + 1)) fun x134 =>
 some (.inl x134)))
 (cond (!decide (s111 = s75))
 (zk (0 <= s75) (
 cond (decide (bits BinOp.and IntKind.u8 (Int.fdiv x129 (2 ^ min (Int.toNat s75) (IntKind.bits IntKind.u8))) 1 = 1))
 (some (.inr (.inr (.inr (.inr ((s75, 6)))))))
 (cond (!decide (bits BinOp.andNot IntKind.u8 (bits BinOp.and IntKind.u8 x129 x72) x105 = 0))
 (some (.inr (.inr (.inr (.inr ((s75, 6)))))))
 (letO (IntKind.wrap .i64 ((↑(List.length (List.map SV.str a0.Names)) : Int) - 1)) fun x138 =>
 cond (decide (s111 = x138))
 (letO (IntKind.wrap .i64 (s75 + 1)) fun x140 =>
 some (.inr (.inr (.inl x140))))
 (letO (IntKind.wrap .i64 (s111 + 1)) fun x141 =>
 some (.inl x141))))))
 (cond (!decide (bits BinOp.andNot IntKind.u8 (bits BinOp.and IntKind.u8 x129 x72) x105 = 0))
 (some (.inr (.inr (.inr (.inr ((s75, 6)))))))
 (letO (IntKind.wrap .i64 ((↑(List.length (List.map SV.str a0.Names)) : Int) - 1)) fun x143 =>
 cond (decide (s111 = x143))
 (letO (IntKind.wrap .i64 (s75 + 1)) fun x145 =>
 some (.inr (.inr (.inl x145))))
 (letO (IntKind.wrap .i64 (s111 + 1)) fun x146 =>
 some (.inl x146)))))))
 (some (.inr (.inl ())))) (0))
 (Sum.elim (fun (s109 : Unit) =>
 letO (IntKind.wrap .i64 (s75 + 1)) fun x147 =>
 some (.inl x147)) some)))))
 (some (.inr (.inl ())))) (0))
 (Sum.elim (fun (s73 : Unit) =>
 (Fz26 a0).bind fun x179 =>
 Option.bind (
 lpO (fun (s182 : Int) =>
 cond (decide (s182 < (↑(List.length (List.map SV.str a0.Names)) : Int)))
 (Option.bind (
 lpO (fun (s200 : Int) =>
 cond (decide (s200 < (↑(List.length (List.map SV.str a0.Names)) : Int)))
 ((Fz27 (x179.up_) ((↑(List.length (List.map SV.str a0.Names)) : Int)) s182 s200).bind fun x207 =>
 cond (decide (x207 < 0))
 (some (.inr (.inr (.inr (.inr ((s182, 4)))))))
 ((Fz28 (x179.down_) ((↑(List.length (List.map SV.str a0.Names)) : Int)) s182 s200).bind fun x209 =>
 cond (decide (x209 < 0))
 (some (.inr (.inr (.inr (.inr ((s182, 4)))))))
 (letO (IntKind.wrap .i64 (s200 + 1)) fun x211 =>
 some (.inl x211))))
 (some (.inr (.inl ())))) (0))
 (Sum.elim (fun (s198 : Unit) =>
 letO (IntKind.wrap .i64 (s182 + 1)) fun x212 =>
 some (.inl x212)) some))
 (some (.inr (.inl ())))) (0))
 (Sum.elim (fun (s180 : Unit) =>
 some ((0, 0))) some)) some))))
noncomputable def Fz30 (a0 : TP) : Option (Int × Int) :=
 (Fz29 (a0.Lattice)).bind fun x213 =>
 some x213
noncomputable def Fz31 (a0 : List UInt8) : Option (Int × Int) :=
 Option.bind (
 cond (decide ([(110 : UInt8), (101 : UInt8), (103 : UInt8)] = a0))
 (some (.inr ((1, 0))))
 (cond (decide ([(97 : UInt8), (98 : UInt8), (115 : UInt8)] = a0))
 (some (.inr ((2, 0))))
 (cond (decide ([(110 : UInt8), (111 : UInt8), (116 : UInt8)] = a0))
 (some (.inr ((3, 0))))
 (cond (decide ([(115 : UInt8), (104 : UInt8), (97 : UInt8), (112 : UInt8), (101 : UInt8)] = a0))
 (some (.inr ((4, 0))))
 (cond (decide ([(114 : UInt8), (97 : UInt8), (118 : UInt8), (101 : UInt8), (108 : UInt8)] = a0))
 (some (.inr ((5, 0))))
 (cond (decide ([(114 : UInt8), (101 : UInt8), (118 : UInt8), (101 : UInt8), (114 : UInt8), (115 : UInt8), (101 : UInt8)] = a0))
 (some (.inr ((6, 0))))
 (cond (decide ([(102 : UInt8), (108 : UInt8), (105 : UInt8), (112 : UInt8)] = a0))
 (some (.inr ((7, 0))))
 (cond (decide ([(105 : UInt8), (111 : UInt8), (116 : UInt8), (97 : UInt8)] = a0))
 (some (.inr ((8, 0))))
 (cond (decide ([(115 : UInt8), (117 : UInt8), (109 : UInt8)] = a0))
 (some (.inr ((9, 0))))
 (cond (decide ([(108 : UInt8), (101 : UInt8), (97 : UInt8), (115 : UInt8), (116 : UInt8)] = a0))
 (some (.inr ((10, 0))))
 (cond (decide ([(109 : UInt8), (111 : UInt8), (115 : UInt8), (116 : UInt8)] = a0))
 (some (.inr ((11, 0))))
 (cond (decide ([(99 : UInt8), (111 : UInt8), (117 : UInt8), (110 : UInt8), (116 : UInt8)] = a0))
 (some (.inr ((12, 0))))
 (cond (decide ([(115 : UInt8), (99 : UInt8), (97 : UInt8), (110 : UInt8)] = a0))
 (some (.inr ((13, 0))))
 (cond (decide ([(103 : UInt8), (114 : UInt8), (97 : UInt8), (100 : UInt8), (101 : UInt8)] = a0))
 (some (.inr ((14, 0))))
 (cond (decide ([(97 : UInt8), (100 : UInt8), (100 : UInt8)] = a0))
 (some (.inr ((15, 0))))
 (cond (decide ([(115 : UInt8), (117 : UInt8), (98 : UInt8)] = a0))
 (some (.inr ((16, 0))))
 (cond (decide ([(109 : UInt8), (117 : UInt8), (108 : UInt8)] = a0))
 (some (.inr ((17, 0))))
 (cond (decide ([(100 : UInt8), (105 : UInt8), (118 : UInt8)] = a0))
 (some (.inr ((18, 0))))
 (cond (decide ([(109 : UInt8), (111 : UInt8), (100 : UInt8)] = a0))
 (some (.inr ((19, 0))))
 (cond (decide ([(112 : UInt8), (108 : UInt8), (117 : UInt8), (115 : UInt8)] = a0))
 (some (.inr ((20, 0))))
 (cond (decide ([(109 : UInt8), (105 : UInt8), (110 : UInt8), (117 : UInt8), (115 : UInt8)] = a0))
 (some (.inr ((21, 0))))
 (cond (decide ([(116 : UInt8), (105 : UInt8), (109 : UInt8), (101 : UInt8), (115 : UInt8)] = a0))
 (some (.inr ((22, 0))))
 (cond (decide ([(101 : UInt8), (113 : UInt8)] = a0))
 (some (.inr ((23, 0))))
 (cond (decide ([(110 : UInt8), (101 : UInt8)] = a0))
 (some (.inr ((24, 0))))
 (cond (decide ([(108 : UInt8), (116 : UInt8)] = a0))
 (some (.inr ((25, 0))))
 (cond (decide ([(108 : UInt8), (101 : UInt8)] = a0))
 (some (.inr ((26, 0))))
 (cond (decide ([(103 : UInt8), (116 : UInt8)] = a0))
 (some (.inr ((27, 0))))
 (cond (decide ([(103 : UInt8), (101 : UInt8)] = a0))
 (some (.inr ((28, 0))))
 (cond (decide ([(97 : UInt8), (110 : UInt8), (100 : UInt8)] = a0))
 (some (.inr ((29, 0))))
 (cond (decide ([(111 : UInt8), (114 : UInt8)] = a0))
 (some (.inr ((30, 0))))
 (cond (decide ([(109 : UInt8), (105 : UInt8), (110 : UInt8)] = a0))
 (some (.inr ((31, 0))))
 (cond (decide ([(109 : UInt8), (97 : UInt8), (120 : UInt8)] = a0))
 (some (.inr ((32, 0))))
 (cond (decide ([(116 : UInt8), (97 : UInt8), (107 : UInt8), (101 : UInt8)] = a0))
 (some (.inr ((33, 0))))
 (cond (decide ([(100 : UInt8), (114 : UInt8), (111 : UInt8), (112 : UInt8)] = a0))
 (some (.inr ((34, 0))))
 (cond (decide ([(102 : UInt8), (105 : UInt8), (108 : UInt8), (108 : UInt8)] = a0))
 (some (.inr ((35, 0))))
 (cond (decide ([(103 : UInt8), (114 : UInt8), (105 : UInt8), (100 : UInt8)] = a0))
 (some (.inr ((36, 0))))
 (cond (decide ([(99 : UInt8), (97 : UInt8), (116 : UInt8)] = a0))
 (some (.inr ((37, 0))))
 (cond (decide ([(97 : UInt8), (116 : UInt8)] = a0))
 (some (.inr ((38, 0))))
 (cond (decide ([(105 : UInt8), (110 : UInt8)] = a0))
 (some (.inr ((39, 0))))
 (cond (decide ([(112 : UInt8), (105 : UInt8), (99 : UInt8), (107 : UInt8)] = a0))
 (some (.inr ((40, 0))))
 (some (.inl ()))))))))))))))))))))))))))))))))))))))))))
 (Sum.elim (fun (s232 : Unit) =>
 some ((0, 4))) some)
noncomputable def Fz32 (a0 : Int) : Option (Bool) :=
 letO (IntKind.wrap .i32 a0) fun x291 =>
 letO (IntKind.wrap .i64 x291) fun x292 =>
 cond (decide (a0 = x292))
 (letO (IntKind.wrap .i32 a0) fun x294 =>
 (Fz15 x294).bind fun x295 =>
 some x295)
 (some (false))
noncomputable def Fz33 : Option (List (List UInt8)) :=
 some ([[], (ByteArray.mk #[32]).data.toList, (ByteArray.mk #[10]).data.toList, (ByteArray.mk #[40, 91]).data.toList, (ByteArray.mk #[41, 93]).data.toList, (ByteArray.mk #[34]).data.toList, [], (ByteArray.mk #[45]).data.toList, [], (ByteArray.mk #[60, 61]).data.toList])
noncomputable def Fz34 (a0 : Int) : Option (Int × Int) :=
 (Fz32 a0).bind fun x296 =>
 cond (!x296)
 (some ((0, 7)))
 (cond (decide (48 <= a0))
 (cond (decide (a0 <= 57))
 (some ((6, 0)))
 (cond (decide (97 <= a0))
 (cond (decide (a0 <= 122))
 (some ((8, 0)))
 ((Fz33).bind fun x302 =>
 Option.bind (
 lpO (fun (s305 : Int) =>
 cond (decide (s305 < 10))
 (idxO x302 s305 fun x311 =>
 letO (IntKind.wrap .i32 a0) fun x312 =>
 (Fz17 x311 x312).bind fun x313 =>
 cond x313
 (some (.inr (.inr ((s305, 0)))))
 (letO (IntKind.wrap .i64 (s305 + 1)) fun x315 =>
 some (.inl x315)))
 (some (.inr (.inl ())))) (0))
 (Sum.elim (fun (s303 : Unit) =>
 some ((10, 0))) some)))
 ((Fz33).bind fun x316 =>
 Option.bind (
 lpO (fun (s319 : Int) =>
 cond (decide (s319 < 10))
 (idxO x316 s319 fun x325 =>
 letO (IntKind.wrap .i32 a0) fun x326 =>
 (Fz17 x325 x326).bind fun x327 =>
 cond x327
 (some (.inr (.inr ((s319, 0)))))
 (letO (IntKind.wrap .i64 (s319 + 1)) fun x329 =>
 some (.inl x329)))
 (some (.inr (.inl ())))) (0))
 (Sum.elim (fun (s317 : Unit) =>
 some ((10, 0))) some))))
 (cond (decide (97 <= a0))
 (cond (decide (a0 <= 122))
 (some ((8, 0)))
 ((Fz33).bind fun x332 =>
 Option.bind (
 lpO (fun (s335 : Int) =>
 cond (decide (s335 < 10))
 (idxO x332 s335 fun x341 =>
 letO (IntKind.wrap .i32 a0) fun x342 =>
 (Fz17 x341 x342).bind fun x343 =>
 cond x343
 (some (.inr (.inr ((s335, 0)))))
 (letO (IntKind.wrap .i64 (s335 + 1)) fun x345 =>
 some (.inl x345)))
 (some (.inr (.inl ())))) (0))
 (Sum.elim (fun (s333 : Unit) =>
 some ((10, 0))) some)))
 ((Fz33).bind fun x346 =>
 Option.bind (
 lpO (fun (s349 : Int) =>
 cond (decide (s349 < 10))
 (idxO x346 s349 fun x355 =>
 letO (IntKind.wrap .i32 a0) fun x356 =>
 (Fz17 x355 x356).bind fun x357 =>
 cond x357
 (some (.inr (.inr ((s349, 0)))))
 (letO (IntKind.wrap .i64 (s349 + 1)) fun x359 =>
 some (.inl x359)))
 (some (.inr (.inl ())))) (0))
 (Sum.elim (fun (s347 : Unit) =>
 some ((10, 0))) some))))
noncomputable def Fz35 (a0 : List UInt8) : Option (Int) :=
 idxO a0 (0) fun x404 =>
 letO (IntKind.wrap .u64 (↑(UInt8.toNat x404) : Int)) fun x405 =>
 idxO a0 (1) fun x406 =>
 letO (IntKind.wrap .u64 (↑(UInt8.toNat x406) : Int)) fun x407 =>
 letO (IntKind.wrap .u64 (x407 * 2 ^ min (Int.toNat 8) (IntKind.bits IntKind.u64))) fun x408 =>
 idxO a0 (2) fun x409 =>
 letO (IntKind.wrap .u64 (↑(UInt8.toNat x409) : Int)) fun x410 =>
 letO (IntKind.wrap .u64 (x410 * 2 ^ min (Int.toNat 16) (IntKind.bits IntKind.u64))) fun x411 =>
 idxO a0 (3) fun x412 =>
 letO (IntKind.wrap .u64 (↑(UInt8.toNat x412) : Int)) fun x413 =>
 letO (IntKind.wrap .u64 (x413 * 2 ^ min (Int.toNat 24) (IntKind.bits IntKind.u64))) fun x414 =>
 idxO a0 (4) fun x415 =>
 letO (IntKind.wrap .u64 (↑(UInt8.toNat x415) : Int)) fun x416 =>
 letO (IntKind.wrap .u64 (x416 * 2 ^ min (Int.toNat 32) (IntKind.bits IntKind.u64))) fun x417 =>
 idxO a0 (5) fun x418 =>
 letO (IntKind.wrap .u64 (↑(UInt8.toNat x418) : Int)) fun x419 =>
 letO (IntKind.wrap .u64 (x419 * 2 ^ min (Int.toNat 40) (IntKind.bits IntKind.u64))) fun x420 =>
 idxO a0 (6) fun x421 =>
 letO (IntKind.wrap .u64 (↑(UInt8.toNat x421) : Int)) fun x422 =>
 letO (IntKind.wrap .u64 (x422 * 2 ^ min (Int.toNat 48) (IntKind.bits IntKind.u64))) fun x423 =>
 idxO a0 (7) fun x424 =>
 letO (IntKind.wrap .u64 (↑(UInt8.toNat x424) : Int)) fun x425 =>
 letO (IntKind.wrap .u64 (x425 * 2 ^ min (Int.toNat 56) (IntKind.bits IntKind.u64))) fun x426 =>
 some (bits BinOp.or IntKind.u64 (bits BinOp.or IntKind.u64 (bits BinOp.or IntKind.u64 (bits BinOp.or IntKind.u64 (bits BinOp.or IntKind.u64 (bits BinOp.or IntKind.u64 (bits BinOp.or IntKind.u64 x405 x408) x411) x414) x417) x420) x423) x426)
noncomputable def Fz36 (a0 : List UInt8) : Option (Bool) :=
 Option.bind (
 lpO (fun (s400 : List UInt8) =>
 cond (decide (0 < (↑(List.length s400) : Int)))
 (idxO s400 (0) fun x427 =>
 cond (decide ((↑(UInt8.toNat x427) : Int) < 128))
 (zk ((0 : Int) <= (1 : Int) /\ (1 : Int) <= (↑(List.length s400) : Int)) (
 cond (decide (8 < (↑(List.length (List.drop (Int.toNat 1) (List.take (Int.toNat (↑(List.length s400) : Int)) s400))) : Int)))
 ((Fz35 (List.drop (Int.toNat 1) (List.take (Int.toNat (↑(List.length s400) : Int)) s400))).bind fun x430 =>
 cond (decide (bits BinOp.and IntKind.u64 x430 9259542123273814144 = 0))
 (zk ((0 : Int) <= (8 : Int) /\ (8 : Int) <= (↑(List.length (List.drop (Int.toNat (1 : Int)) (List.take (Int.toNat (↑(List.length s400) : Int)) s400))) : Int)) (
 cond (decide (16 < (↑(List.length (List.drop (Int.toNat 8) (List.take (Int.toNat (↑(List.length (List.drop (Int.toNat 1) (List.take (Int.toNat (↑(List.length s400) : Int)) s400))) : Int)) (List.drop (Int.toNat 1) (List.take (Int.toNat (↑(List.length s400) : Int)) s400))))) : Int)))
 ((Fz35 (List.drop (Int.toNat 8) (List.take (Int.toNat (↑(List.length (List.drop (Int.toNat 1) (List.take (Int.toNat (↑(List.length s400) : Int)) s400))) : Int)) (List.drop (Int.toNat 1) (List.take (Int.toNat (↑(List.length s400) : Int)) s400))))).bind fun x433 =>
 zk ((0 : Int) <= (8 : Int) /\ (8 : Int) <= (↑(List.length (List.drop (Int.toNat (8 : Int)) (List.take (Int.toNat (↑(List.length (List.drop (Int.toNat (1 : Int)) (List.take (Int.toNat (↑(List.length s400) : Int)) s400))) : Int)) (List.drop (Int.toNat (1 : Int)) (List.take (Int.toNat (↑(List.length s400) : Int)) s400))))) : Int)) (
 (Fz35 (List.drop (Int.toNat 8) (List.take (Int.toNat (↑(List.length (List.drop (Int.toNat 8) (List.take (Int.toNat (↑(List.length (List.drop (Int.toNat 1) (List.take (Int.toNat (↑(List.length s400) : Int)) s400))) : Int)) (List.drop (Int.toNat 1) (List.take (Int.toNat (↑(List.length s400) : Int)) s400))))) : Int)) (List.drop (Int.toNat 8) (List.take (Int.toNat (↑(List.length (List.drop (Int.toNat 1) (List.take (Int.toNat (↑(List.length s400) : Int)) s400))) : Int)) (List.drop (Int.toNat 1) (List.take (Int.toNat (↑(List.length s400) : Int)) s400))))))).bind fun x434 =>
 cond (decide (bits BinOp.and IntKind.u64 (bits BinOp.or IntKind.u64 x433 x434) 9259542123273814144 = 0))
 (zk ((0 : Int) <= (16 : Int) /\ (16 : Int) <= (↑(List.length (List.drop (Int.toNat (8 : Int)) (List.take (Int.toNat (↑(List.length (List.drop (Int.toNat (1 : Int)) (List.take (Int.toNat (↑(List.length s400) : Int)) s400))) : Int)) (List.drop (Int.toNat (1 : Int)) (List.take (Int.toNat (↑(List.length s400) : Int)) s400))))) : Int)) (
 Option.bind (
 lpO (fun (s438 : List UInt8) =>
 cond (decide (32 < (↑(List.length s438) : Int)))
 ((Fz35 s438).bind fun x446 =>
 zk ((0 : Int) <= (8 : Int) /\ (8 : Int) <= (↑(List.length s438) : Int)) (
 (Fz35 (List.drop (Int.toNat 8) (List.take (Int.toNat (↑(List.length s438) : Int)) s438))).bind fun x447 =>
 zk ((0 : Int) <= (16 : Int) /\ (16 : Int) <= (↑(List.length s438) : Int)) (
 (Fz35 (List.drop (Int.toNat 16) (List.take (Int.toNat (↑(List.length s438) : Int)) s438))).bind fun x448 =>
 zk ((0 : Int) <= (24 : Int) /\ (24 : Int) <= (↑(List.length s438) : Int)) (
 (Fz35 (List.drop (Int.toNat 24) (List.take (Int.toNat (↑(List.length s438) : Int)) s438))).bind fun x449 =>
 cond (decide (bits BinOp.and IntKind.u64 (bits BinOp.or IntKind.u64 (bits BinOp.or IntKind.u64 x446 x447) (bits BinOp.or IntKind.u64 x448 x449)) 9259542123273814144 = 0))
 (zk ((0 : Int) <= (32 : Int) /\ (32 : Int) <= (↑(List.length s438) : Int)) (
 some (.inl (List.drop (Int.toNat 32) (List.take (Int.toNat (↑(List.length s438) : Int)) s438)))))
 (some (.inr (.inl s438)))))))
 (some (.inr (.inl s438)))) (List.drop (Int.toNat 16) (List.take (Int.toNat (↑(List.length (List.drop (Int.toNat 8) (List.take (Int.toNat (↑(List.length (List.drop (Int.toNat 1) (List.take (Int.toNat (↑(List.length s400) : Int)) s400))) : Int)) (List.drop (Int.toNat 1) (List.take (Int.toNat (↑(List.length s400) : Int)) s400))))) : Int)) (List.drop (Int.toNat 8) (List.take (Int.toNat (↑(List.length (List.drop (Int.toNat 1) (List.take (Int.toNat (↑(List.length s400) : Int)) s400))) : Int)) (List.drop (Int.toNat 1) (List.take (Int.toNat (↑(List.length s400) : Int)) s400)))))))
 (Sum.elim (fun (s436 : List UInt8) =>
 some (.inl s436)) some)))
 (some (.inl (List.drop (Int.toNat 8) (List.take (Int.toNat (↑(List.length (List.drop (Int.toNat 1) (List.take (Int.toNat (↑(List.length s400) : Int)) s400))) : Int)) (List.drop (Int.toNat 1) (List.take (Int.toNat (↑(List.length s400) : Int)) s400))))))))
 (some (.inl (List.drop (Int.toNat 8) (List.take (Int.toNat (↑(List.length (List.drop (Int.toNat 1) (List.take (Int.toNat (↑(List.length s400) : Int)) s400))) : Int)) (List.drop (Int.toNat 1) (List.take (Int.toNat (↑(List.length s400) : Int)) s400))))))))
 (some (.inl (List.drop (Int.toNat 1) (List.take (Int.toNat (↑(List.length s400) : Int)) s400)))))
 (some (.inl (List.drop (Int.toNat 1) (List.take (Int.toNat (↑(List.length s400) : Int)) s400))))))
 (none))
 (some (.inr (.inl ())))) a0)
 (Sum.elim (fun (s398 : Unit) =>
 some (true)) some)
noncomputable def Fz37 (a0 : TK) : Option (Int) :=
 Option.bind (
 cond (decide (a0.Kind = 1))
 (some (.inl ((0, a0.S))))
 (cond (decide (a0.Kind = 3))
 (some (.inl ((0, a0.S))))
 (cond (decide (a0.Kind = 2))
 (some (.inl ((a0.N, []))))
 (some (.inl ((0, [])))))))
 (Sum.elim (fun (s277 : Int × List UInt8) =>
 cond (decide (a0.Kind < 1))
 (some (2))
 (cond (decide (9 < a0.Kind))
 (some (2))
 (cond (!(decide (a0.Kind = a0.Kind) && (decide (a0.From = a0.From) && (decide (a0.To = a0.To) && (decide (a0.N = s277.fst) && (decide (a0.S = s277.snd) && true))))))
 (some (2))
 (Option.bind (
 cond (decide (a0.Kind = 1))
 (cond (decide ((↑(List.length a0.S) : Int) <= 0))
 (some (.inr (6)))
 (idxO (a0.S) (0) fun x290 =>
 letO (IntKind.wrap .i64 (↑(UInt8.toNat x290) : Int)) fun x291 =>
 (Fz34 x291).bind fun x292 =>
 cond (!decide (x292.fst = 8))
 (some (.inr (6)))
 (idxO (a0.S) (0) fun x296 =>
 letO (IntKind.wrap .i64 (↑(UInt8.toNat x296) : Int)) fun x297 =>
 (Fz34 x297).bind fun x298 =>
 Option.bind (
 lpO (fun (s301 : Int × Int) =>
 cond (decide (s301.fst = 8))
 (letO (IntKind.wrap .i64 (s301.snd + 1)) fun x315 =>
 cond (decide ((↑(List.length a0.S) : Int) <= x315))
 (some (.inl ((10, x315))))
 (idxO (a0.S) x315 fun x318 =>
 letO (IntKind.wrap .i64 (↑(UInt8.toNat x318) : Int)) fun x319 =>
 (Fz34 x319).bind fun x320 =>
 some (.inl ((x320.fst, x315)))))
 (cond (decide (s301.fst = 6))
 (letO (IntKind.wrap .i64 (s301.snd + 1)) fun x322 =>
 cond (decide ((↑(List.length a0.S) : Int) <= x322))
 (some (.inl ((10, x322))))
 (idxO (a0.S) x322 fun x325 =>
 letO (IntKind.wrap .i64 (↑(UInt8.toNat x325) : Int)) fun x326 =>
 (Fz34 x326).bind fun x327 =>
 some (.inl ((x327.fst, x322)))))
 (some (.inr (.inl ((decide (s301.fst = 6), s301))))))) ((x298.fst, 0)))
 (Sum.elim (fun (s299 : Bool × Int × Int) =>
 zk ((0 : Int) <= (0 : Int) /\ 0 <= s299.snd.snd /\ s299.snd.snd <= (↑(List.length a0.S) : Int)) (
 cond (!decide (List.drop (Int.toNat 0) (List.take (Int.toNat s299.snd.snd) a0.S) = a0.S))
 (some (.inr (6)))
 (some (.inl (16))))) some))))
 (cond (decide (a0.Kind = 3))
 ((Fz36 (a0.S)).bind fun x330 =>
 cond (!x330)
 (some (.inr (6)))
 (some (.inl (2000))))
 (some (.inl (0)))))
 (Sum.elim (fun (s285 : Int) =>
 cond (decide (s285 < (↑(List.length a0.S) : Int)))
 (some (3))
 (some (0))) some))))) some)
noncomputable def Fz38 (a0 : List UInt8) : Option (Bool) :=
 cond (decide (a0 = (ByteArray.mk #[118, 97, 114]).data.toList))
 (some (false))
 (cond (decide (a0 = (ByteArray.mk #[100, 101, 102]).data.toList))
 (some (false))
 (cond (decide (a0 = (ByteArray.mk #[111, 117, 116]).data.toList))
 (some (false))
 (cond (decide (a0 = (ByteArray.mk #[105, 102]).data.toList))
 (some (false))
 (cond (decide (a0 = (ByteArray.mk #[101, 108, 115, 101]).data.toList))
 (some (false))
 (cond (decide (a0 = (ByteArray.mk #[119, 104, 105, 108, 101]).data.toList))
 (some (false))
 (cond (decide (a0 = (ByteArray.mk #[101, 110, 100]).data.toList))
 (some (false))
 (cond (decide (a0 = (ByteArray.mk #[114, 101, 108, 101, 97, 115, 101]).data.toList))
 (some (false))
 (cond (decide (a0 = (ByteArray.mk #[105, 110, 116]).data.toList))
 (some (false))
 (cond (decide (a0 = (ByteArray.mk #[99, 104, 97, 114]).data.toList))
 (some (false))
 ((Fz31 a0).bind fun x275 =>
 cond (decide (x275.snd = 0))
 (some (false))
 ((Fz37 (TK.mk 1 0 0 0 a0)).bind fun x333 =>
 some (decide (x333 = 0)))))))))))))
noncomputable def Fz39 (a0 : TL) (a1 : Int) : Option (Bool) :=
 cond (decide (0 <= a1))
 (some (decide (a1 < (↑(List.length (List.map SV.str a0.Names)) : Int))))
 (some (false))
noncomputable def Fz40 (a0 : TP) : Option (Int × Int) :=
 cond (decide (16 < (↑(List.length (List.map zI a0.Channels)) : Int)))
 (some (((-1 : Int), 3)))
 (Option.bind (
 lpO (fun (s219 : Int × List (List UInt8)) =>
 cond (decide (s219.fst < (↑(List.length (List.map zI a0.Channels)) : Int)))
 (idxO (a0.Channels) (s219.fst) fun x228 =>
 (Fz38 (x228.s_)).bind fun x230 =>
 cond (!x230)
 (some (.inr (.inr ((s219.fst, 24)))))
 (cond (inL (x228.s_) (s219.snd))
 (some (.inr (.inr ((s219.fst, 8)))))
 (cond (inL (x228.s_) (s219.snd))
 ((Fz39 (a0.Lattice) (x228.at_)).bind fun x238 =>
 cond (!x238)
 (some (.inr (.inr ((s219.fst, 7)))))
 (letO (IntKind.wrap .i64 (s219.fst + 1)) fun x240 =>
 some (.inl ((x240, s219.snd)))))
 ((Fz39 (a0.Lattice) (x228.at_)).bind fun x241 =>
 cond (!x241)
 (some (.inr (.inr ((s219.fst, 7)))))
 (letO (IntKind.wrap .i64 (s219.fst + 1)) fun x243 =>
 some (.inl ((x243, s219.snd ++ [x228.s_]))))))))
 (some (.inr (.inl ())))) ((0, [])))
 (Sum.elim (fun (s217 : Unit) =>
 some ((0, 0))) some))
noncomputable def Fz41 (a0 : TL) (a1 : List Int) : Option (Int) :=
 (Fz29 a0).bind fun x254 =>
 cond (!decide (x254.snd = 0))
 (some (x254.snd))
 (Option.bind (
 lpO (fun (s258 : Int) =>
 cond (decide (s258 < (↑(List.length (List.map (SV.int .i64) a1)) : Int)))
 (idxO a1 s258 fun x264 =>
 cond (decide (x264 < 0))
 (some (.inr (.inr (7))))
 (cond (decide ((↑(List.length (List.map SV.str a0.Names)) : Int) <= x264))
 (some (.inr (.inr (7))))
 (letO (IntKind.wrap .i64 (s258 + 1)) fun x267 =>
 some (.inl x267))))
 (some (.inr (.inl ())))) (0))
 (Sum.elim (fun (s256 : Unit) =>
 some (0)) some))
noncomputable def Fz42 (a0 : Int) : Option (Int) :=
 idxO ((ByteArray.mk (List.toArray (List.append (List.append [(0 : UInt8), 1, 1, 2, 1, 2, 2, 3, 1, 2, 2, 3, 2, 3, 3, 4, 1, 2, 2, 3, 2, 3, 3, 4, 2, 3, 3, 4, 3, 4, 4, 5, 1, 2, 2, 3, 2, 3, 3, 4, 2, 3, 3, 4, 3, 4, 4, 5, 2, 3, 3, 4, 3, 4, 4, 5, 3, 4, 4, 5, 4, 5, 5, 6] [(1 : UInt8), 2, 2, 3, 2, 3, 3, 4, 2, 3, 3, 4, 3, 4, 4, 5, 2, 3, 3, 4, 3, 4, 4, 5, 3, 4, 4, 5, 4, 5, 5, 6, 2, 3, 3, 4, 3, 4, 4, 5, 3, 4, 4, 5, 4, 5, 5, 6, 3, 4, 4, 5, 4, 5, 5, 6, 4, 5, 5, 6, 5, 6, 6, 7]) (List.append [(1 : UInt8), 2, 2, 3, 2, 3, 3, 4, 2, 3, 3, 4, 3, 4, 4, 5, 2, 3, 3, 4, 3, 4, 4, 5, 3, 4, 4, 5, 4, 5, 5, 6, 2, 3, 3, 4, 3, 4, 4, 5, 3, 4, 4, 5, 4, 5, 5, 6, 3, 4, 4, 5, 4, 5, 5, 6, 4, 5, 5, 6, 5, 6, 6, 7] [(2 : UInt8), 3, 3, 4, 3, 4, 4, 5, 3, 4, 4, 5, 4, 5, 5, 6, 3, 4, 4, 5, 4, 5, 5, 6, 4, 5, 5, 6, 5, 6, 6, 7, 3, 4, 4, 5, 4, 5, 5, 6, 4, 5, 5, 6, 5, 6, 6, 7, 4, 5, 5, 6, 5, 6, 6, 7, 5, 6, 6, 7, 6, 7, 7, 8])))).data.toList) a0 fun x276 =>
 letO (IntKind.wrap .i64 (↑(UInt8.toNat x276) : Int)) fun x277 =>
 some x277
noncomputable def Fz43 (a0 : List Int) (a1 : Int) : Option (Int) :=
 Option.bind (
 lpO (fun (s273 : Int) =>
 letO (IntKind.wrap .i64 (a1 - 1)) fun x279 =>
 cond (decide (s273 < x279))
 (zk (0 <= s273 /\ s273 < (↑(8 : Nat) : Int)) (
 idxO a0 ((↑(Int.toNat s273) : Int)) fun x281 =>
 (Fz42 x281).bind fun x282 =>
 cond (decide (x282 < a1))
 (letO (IntKind.wrap .i64 (s273 + 1)) fun x284 =>
 some (.inl x284))
 (some (.inr (.inl s273)))))
 (some (.inr (.inl s273)))) (0))
 (Sum.elim (fun (s271 : Int) =>
 some s271) some)
noncomputable def Fz44 (a0 : TL) : Option (Int × Int) :=
 (Fz41 a0 ([])).bind fun x268 =>
 cond (!decide (x268 = 0))
 (some ((0, x268)))
 ((Fz26 a0).bind fun x270 =>
 (Fz43 (x270.up_) (x270.n_)).bind fun x285 =>
 some ((x285, 0)))
noncomputable def Fz45 (a0 : TL) (a1 : List Int) : Option (Int × Int) :=
 (Fz29 a0).bind fun x308 =>
 cond (!decide (x308.snd = 0))
 (some (((-1 : Int), x308.snd)))
 (cond (decide (64 < (↑(List.length (List.map (SV.int .i64) a1)) : Int)))
 (some (((-1 : Int), 3)))
 (Option.bind (
 lpO (fun (s313 : Int) =>
 cond (decide (s313 < (↑(List.length (List.map (SV.int .i64) a1)) : Int)))
 (idxO a1 s313 fun x319 =>
 cond (decide (x319 < 0))
 (some (.inr (.inr ((s313, 7)))))
 (cond (decide ((↑(List.length (List.map SV.str a0.Names)) : Int) <= x319))
 (some (.inr (.inr ((s313, 7)))))
 (letO (IntKind.wrap .i64 (s313 + 1)) fun x322 =>
 some (.inl x322))))
 (some (.inr (.inl ())))) (0))
 (Sum.elim (fun (s311 : Unit) =>
 some ((0, 0))) some)))
noncomputable def Fz46 (a0 : TL) (a1 : Int) (a2 : Int) : Option (Bool) :=
 idxO (a0.Up) a1 fun x331 =>
 zk (0 <= a2) (
 some (decide (bits BinOp.and IntKind.u8 (Int.fdiv x331 (2 ^ min (Int.toNat a2) (IntKind.bits IntKind.u8))) 1 = 1)))
noncomputable def Fz47 (a0 : Int) (a1 : TL) (a2 : Int) : Option (Bool) :=
 (Fz46 a1 a0 a2).bind fun x332 =>
 some (!x332)
noncomputable def Fz48 (a0 : List Int) (a1 : TL × Int) : Option (Int) :=
 Option.bind (
 lpO (fun (s329 : Int) =>
 cond (decide (s329 < (↑(List.length (List.map (SV.int .i64) a0)) : Int)))
 (idxO a0 s329 fun x335 =>
 (Fz47 x335 (a1.fst) (a1.snd)).bind fun x336 =>
 cond x336
 (some (.inr (.inr s329)))
 (letO (IntKind.wrap .i64 (s329 + 1)) fun x338 =>
 some (.inl x338)))
 (some (.inr (.inl ())))) (0))
 (Sum.elim (fun (s327 : Unit) =>
 some ((-1 : Int))) some)
noncomputable def Fz49 (a0 : TL) (a1 : List Int) (a2 : Int) : Option (Int × Int) :=
 (Fz45 a0 a1).bind fun x323 =>
 cond (!decide (x323.snd = 0))
 (some x323)
 (cond (decide (a2 < 0))
 (some (((-1 : Int), 7)))
 (cond (decide ((↑(List.length (List.map SV.str a0.Names)) : Int) <= a2))
 (some (((-1 : Int), 7)))
 ((Fz48 a1 ((a0, a2))).bind fun x339 =>
 cond (decide (0 <= x339))
 (some ((x339, 25)))
 (some ((0, 0))))))
noncomputable def Fz50 (a0 : TL) (a1 : TY) : Option (Int) :=
 (Fz44 a0).bind fun x286 =>
 cond (!decide (x286.snd = 0))
 (some (x286.snd))
 (cond (!decide (a1.Kind = 1))
 (cond (!decide (a1.Kind = 2))
 (some (7))
 (cond (decide (a1.Rank < 0))
 (some (7))
 (cond (decide (2 < a1.Rank))
 (some (7))
 ((Fz39 a0 (a1.Axes.fst)).bind fun x292 =>
 cond (!x292)
 (some (7))
 ((Fz39 a0 (a1.Axes.snd)).bind fun x294 =>
 cond (!x294)
 (some (7))
 ((Fz39 a0 (a1.Data)).bind fun x296 =>
 cond (!x296)
 (some (7))
 (zk (0 <= a1.Rank /\ a1.Rank <= (↑(2 : Nat) : Int)) (
 Option.bind (
 lpO (fun (s300 : Int) =>
 cond (decide (s300 < (↑(List.length (List.drop (Int.toNat a1.Rank) (List.take (Int.toNat (↑(2 : Nat) : Int)) [SV.int .i64 a1.Axes.fst, SV.int .i64 a1.Axes.snd]))) : Int)))
 (idxO (List.drop (Int.toNat a1.Rank) (List.take (Int.toNat (↑(2 : Nat) : Int)) [a1.Axes.fst, a1.Axes.snd])) s300 fun x305 =>
 cond (!decide (x305 = x286.fst))
 (some (.inr (.inr (6))))
 (letO (IntKind.wrap .i64 (s300 + 1)) fun x307 =>
 some (.inl x307)))
 (some (.inr (.inl ())))) (0))
 (Sum.elim (fun (s298 : Unit) =>
 zk (0 <= a1.Rank /\ a1.Rank <= (↑(2 : Nat) : Int)) (
 (Fz49 a0 (List.drop (Int.toNat 0) (List.take (Int.toNat a1.Rank) [a1.Axes.fst, a1.Axes.snd])) (a1.Data)).bind fun x341 =>
 cond (!decide (x341.snd = 0))
 (some (x341.snd))
 (some (0)))) some)))))))))
 (cond (decide (a1.Rank < 0))
 (some (7))
 (cond (decide (2 < a1.Rank))
 (some (7))
 ((Fz39 a0 (a1.Axes.fst)).bind fun x345 =>
 cond (!x345)
 (some (7))
 ((Fz39 a0 (a1.Axes.snd)).bind fun x347 =>
 cond (!x347)
 (some (7))
 ((Fz39 a0 (a1.Data)).bind fun x349 =>
 cond (!x349)
 (some (7))
 (zk (0 <= a1.Rank /\ a1.Rank <= (↑(2 : Nat) : Int)) (
 Option.bind (
 lpO (fun (s353 : Int) =>
 cond (decide (s353 < (↑(List.length (List.drop (Int.toNat a1.Rank) (List.take (Int.toNat (↑(2 : Nat) : Int)) [SV.int .i64 a1.Axes.fst, SV.int .i64 a1.Axes.snd]))) : Int)))
 (idxO (List.drop (Int.toNat a1.Rank) (List.take (Int.toNat (↑(2 : Nat) : Int)) [a1.Axes.fst, a1.Axes.snd])) s353 fun x358 =>
 cond (!decide (x358 = x286.fst))
 (some (.inr (.inr (6))))
 (letO (IntKind.wrap .i64 (s353 + 1)) fun x360 =>
 some (.inl x360)))
 (some (.inr (.inl ())))) (0))
 (Sum.elim (fun (s351 : Unit) =>
 zk (0 <= a1.Rank /\ a1.Rank <= (↑(2 : Nat) : Int)) (
 (Fz49 a0 (List.drop (Int.toNat 0) (List.take (Int.toNat a1.Rank) [a1.Axes.fst, a1.Axes.snd])) (a1.Data)).bind fun x361 =>
 cond (!decide (x361.snd = 0))
 (some (x361.snd))
 (some (0)))) some)))))))))
noncomputable def Fz51 (a0 : TP) : Option (Int × Int) :=
 cond (decide (32 < (↑(List.length (List.map qP a0.Vars)) : Int)))
 (some (((-1 : Int), 3)))
 (Option.bind (
 lpO (fun (s249 : Int × List (List UInt8)) =>
 cond (decide (s249.fst < (↑(List.length (List.map qP a0.Vars)) : Int)))
 (idxO (a0.Vars) (s249.fst) fun x258 =>
 (Fz38 (x258.Name)).bind fun x260 =>
 cond (!x260)
 (some (.inr (.inr ((s249.fst, 24)))))
 (cond (inL (x258.Name) (s249.snd))
 (some (.inr (.inr ((s249.fst, 8)))))
 (cond (inL (x258.Name) (s249.snd))
 ((Fz50 (a0.Lattice) (x258.Type_)).bind fun x268 =>
 cond (!decide (x268 = 0))
 (some (.inr (.inr ((s249.fst, x268)))))
 (letO (IntKind.wrap .i64 (s249.fst + 1)) fun x270 =>
 some (.inl ((x270, s249.snd)))))
 ((Fz50 (a0.Lattice) (x258.Type_)).bind fun x271 =>
 cond (!decide (x271 = 0))
 (some (.inr (.inr ((s249.fst, x271)))))
 (letO (IntKind.wrap .i64 (s249.fst + 1)) fun x273 =>
 some (.inl ((x273, s249.snd ++ [x258.Name]))))))))
 (some (.inr (.inl ())))) ((0, [])))
 (Sum.elim (fun (s247 : Unit) =>
 some ((0, 0))) some))
noncomputable def Fz52 (a0 : TP) : Option (Int × Int) :=
 cond (decide (64 < (↑(List.length (List.map qh a0.Rules)) : Int)))
 (some (((-1 : Int), 3)))
 (Option.bind (
 lpO (fun (s279 : Int × List (Int × Int)) =>
 cond (decide (s279.fst < (↑(List.length (List.map qh a0.Rules)) : Int)))
 (idxO (a0.Rules) (s279.fst) fun x292 =>
 (Fz39 (a0.Lattice) (x292.From)).bind fun x293 =>
 cond (!x293)
 (some (.inr (.inr ((s279.fst, 7)))))
 ((Fz39 (a0.Lattice) (x292.Goal)).bind fun x295 =>
 cond (!x295)
 (some (.inr (.inr ((s279.fst, 7)))))
 (cond (decide (x292.From = x292.Goal))
 (some (.inr (.inr ((s279.fst, 25)))))
 (idxO (a0.Lattice.Up) (x292.Goal) fun x298 =>
 zk (0 <= x292.From) (
 cond (decide (bits BinOp.and IntKind.u8 (Int.fdiv x298 (2 ^ min (Int.toNat x292.From) (IntKind.bits IntKind.u8))) 1 = 0))
 (some (.inr (.inr ((s279.fst, 25)))))
 (cond (inL ((x292.From, x292.Goal)) (s279.snd))
 (some (.inr (.inr ((s279.fst, 8)))))
 (cond (decide (x292.K < 2))
 (some (.inr (.inr ((s279.fst, 3)))))
 (cond (decide (400 < x292.K))
 (some (.inr (.inr ((s279.fst, 3)))))
 (cond (inL ((x292.From, x292.Goal)) (s279.snd))
 (letO (IntKind.wrap .i64 (s279.fst + 1)) fun x308 =>
 some (.inl ((x308, s279.snd))))
 (letO (IntKind.wrap .i64 (s279.fst + 1)) fun x309 =>
 some (.inl ((x309, s279.snd ++ [(x292.From, x292.Goal)])))))))))))))
 (some (.inr (.inl ())))) ((0, [])))
 (Sum.elim (fun (s277 : Unit) =>
 some ((0, 0))) some))
noncomputable def Fz53 (a0 : TP) : Option (Int × Int × Int) :=
 Option.bind (
 (Fz30 a0).bind fun x51 =>
 cond (!decide (x51.snd = 0))
 (some (.inl ((1, x51.snd, x51.fst))))
 ((Fz40 a0).bind fun x53 =>
 cond (!decide (x53.snd = 0))
 (some (.inl ((2, x53.snd, x53.fst))))
 ((Fz51 a0).bind fun x55 =>
 cond (!decide (x55.snd = 0))
 (some (.inl ((3, x55.snd, x55.fst))))
 ((Fz52 a0).bind fun x57 =>
 cond (!decide (x57.snd = 0))
 (some (.inl ((4, x57.snd, x57.fst))))
 (some (.inl ((0, x57.snd, x57.fst))))))))
 (Sum.elim (fun (s48 : Int × Int × Int) =>
 some ((s48.fst, s48.snd.snd, s48.snd.fst))) some)
noncomputable def Fz54 (a0 : Int) : Option (List UInt8 × Int) :=
 cond (decide (a0 < 1))
 (some (((ByteArray.mk #[]).data.toList, 2)))
 (cond (decide (4 < a0))
 (some (((ByteArray.mk #[]).data.toList, 2)))
 (zla a0 [
 some (([], 0)),
 some (([(115 : UInt8), (117 : UInt8), (109 : UInt8)], 0)),
 some (([(99 : UInt8), (111 : UInt8), (117 : UInt8), (110 : UInt8), (116 : UInt8)], 0)),
 some (([(108 : UInt8), (101 : UInt8), (97 : UInt8), (115 : UInt8), (116 : UInt8)], 0)),
 some (([(109 : UInt8), (111 : UInt8), (115 : UInt8), (116 : UInt8)], 0))]))
noncomputable def Fz55 (a0 : TP) (a1 : Int) (a2 : Int) : Option (Int × Int) :=
 (Fz53 a0).bind fun x72 =>
 cond (!decide (x72.snd.snd = 0))
 (some ((0, x72.snd.snd)))
 ((Fz39 (a0.Lattice) a1).bind fun x74 =>
 cond (!x74)
 (some ((0, 7)))
 ((Fz39 (a0.Lattice) a2).bind fun x76 =>
 cond (!x76)
 (some ((0, 7)))
 (Option.bind (
 lpO (fun (s80 : Int) =>
 cond (decide (s80 < (↑(List.length (List.map qh a0.Rules)) : Int)))
 (idxO (a0.Rules) s80 fun x86 =>
 cond (decide (x86.From = a1))
 (cond (decide (x86.Goal = a2))
 (some (.inr (.inr ((x86.K, 0)))))
 (letO (IntKind.wrap .i64 (s80 + 1)) fun x89 =>
 some (.inl x89)))
 (letO (IntKind.wrap .i64 (s80 + 1)) fun x90 =>
 some (.inl x90)))
 (some (.inr (.inl ())))) (0))
 (Sum.elim (fun (s78 : Unit) =>
 some ((0, 4))) some))))
noncomputable def Fz56 (a0 : TE) (a1 : Int) : Option (Bool) :=
 cond (decide (a0.Cells < a1))
 (some (decide (a0.Value.fst = 0) && (decide (a0.Value.snd = 0) && true)))
 (cond (!decide (a0.Value.fst = 1))
 (some (false))
 (cond (!decide (a0.Fold = 2))
 (some (true))
 (cond (decide (0 <= a0.Value.snd))
 (some (decide (a0.Value.snd <= a0.Cells)))
 (some (false)))))
noncomputable def Fz57 (a0 : TP) (a1 : TE) : Option (Int) :=
 (Fz53 a0).bind fun x66 =>
 cond (!decide (x66.snd.snd = 0))
 (some (x66.snd.snd))
 ((Fz54 (a1.Fold)).bind fun x70 =>
 cond (!decide (x70.snd = 0))
 (some (x70.snd))
 ((Fz55 a0 (a1.From) (a1.Goal)).bind fun x91 =>
 cond (decide (a1.Site < 0))
 (some (7))
 (cond (decide (1000000000 < a1.Site))
 (some (7))
 (cond (decide (a1.Cells < 0))
 (some (7))
 (cond (decide (400 < a1.Cells))
 (some (7))
 (cond (!decide (x91.snd = 0))
 (some (x91.snd))
 ((Fz56 a1 (x91.fst)).bind fun x101 =>
 cond (!x101)
 (some (6))
 (some (0)))))))))
noncomputable def Fz58 (a0 : TP) (a1 : List TE) : Option (Int × Int) :=
 (Fz53 a0).bind fun x59 =>
 cond (!decide (x59.snd.snd = 0))
 (some (((-1 : Int), x59.snd.snd)))
 (cond (decide (2000 < (↑(List.length (List.map zd a1)) : Int)))
 (some (((-1 : Int), 3)))
 (Option.bind (
 lpO (fun (s64 : Int) =>
 cond (decide (s64 < (↑(List.length (List.map zd a1)) : Int)))
 (idxO a1 s64 fun x71 =>
 (Fz57 a0 x71).bind fun x72 =>
 cond (!decide (x72 = 0))
 (some (.inr (.inr ((s64, x72)))))
 (cond (decide (x71.Site = 0))
 (some (.inr (.inr ((s64, 6)))))
 (letO (IntKind.wrap .i64 (s64 + 1)) fun x75 =>
 some (.inl x75))))
 (some (.inr (.inl ())))) (0))
 (Sum.elim (fun (s62 : Unit) =>
 some ((0, 0))) some)))
noncomputable def Fz59 (a0 : Int) : Option (Bool) :=
 cond (decide (97 <= a0))
 (some (decide (a0 <= 122)))
 (some (false))
noncomputable def Fz60 (a0 : Int) : Option (Bool) :=
 cond (decide (48 <= a0))
 (some (decide (a0 <= 57)))
 (some (false))
noncomputable def Fz61 (a0 : List UInt8) : Option (Bool) :=
 cond (decide ((↑(List.length a0) : Int) < 1))
 (some (false))
 (cond (decide (16 < (↑(List.length a0) : Int)))
 (some (false))
 (idxO a0 (0) fun x85 =>
 (Fz59 ((↑(UInt8.toNat x85) : Int))).bind fun x87 =>
 cond (!x87)
 (some (false))
 (Option.bind (
 lpO (fun (s91 : Int) =>
 cond (decide (s91 < (↑(List.length a0) : Int)))
 (idxO a0 s91 fun x102 =>
 (Fz59 ((↑(UInt8.toNat x102) : Int))).bind fun x103 =>
 cond (!x103)
 (idxO a0 s91 fun x105 =>
 (Fz60 ((↑(UInt8.toNat x105) : Int))).bind fun x106 =>
 cond (!x106)
 (idxO a0 s91 fun x108 =>
 cond (!decide ((↑(UInt8.toNat x108) : Int) = 45))
 (some (.inr (.inr (false))))
 (letO (IntKind.wrap .i64 (s91 + 1)) fun x110 =>
 some (.inl x110)))
 (letO (IntKind.wrap .i64 (s91 + 1)) fun x111 =>
 some (.inl x111)))
 (letO (IntKind.wrap .i64 (s91 + 1)) fun x112 =>
 some (.inl x112)))
 (some (.inr (.inl ())))) (0))
 (Sum.elim (fun (s89 : Unit) =>
 some (true)) some))))
noncomputable def Fz62 (a0 : List (List UInt8)) : Option (Int × Int) :=
 cond (decide ((↑(List.length (List.map SV.str a0)) : Int) < 1))
 (some (((-1 : Int), 3)))
 (cond (decide (8 < (↑(List.length (List.map SV.str a0)) : Int)))
 (some (((-1 : Int), 3)))
 (Option.bind (
 lpO (fun (s81 : Int) =>
 cond (decide (s81 < (↑(List.length (List.map SV.str a0)) : Int)))
 (idxO a0 s81 fun x90 =>
 (Fz61 x90).bind fun x91 =>
 cond (!x91)
 (some (.inr (.inr ((s81, 6)))))
 (Option.bind (
 lpO (fun (s95 : Int) =>
 cond (decide (s95 < s81))
 (idxO a0 s95 fun x101 =>
 idxO a0 s81 fun x102 =>
 cond (decide (x101 = x102))
 (some (.inr (.inr (.inr (.inr ((s81, 8)))))))
 (letO (IntKind.wrap .i64 (s95 + 1)) fun x104 =>
 some (.inl x104)))
 (some (.inr (.inl ())))) (0))
 (Sum.elim (fun (s93 : Unit) =>
 letO (IntKind.wrap .i64 (s81 + 1)) fun x105 =>
 some (.inl x105)) some)))
 (some (.inr (.inl ())))) (0))
 (Sum.elim (fun (s79 : Unit) =>
 some ((0, 0))) some)))
noncomputable def Fz63 (a0 : TL) (a1 : Int) (a2 : Int) : Option (Bool) :=
 cond (decide (0 <= a1))
 (cond (decide (a1 < (↑(List.length (List.map (SV.int .u8) a0.Up)) : Int)))
 (cond (decide (0 <= a2))
 (idxO (a0.Up) a1 fun x118 =>
 zk (0 <= a2) (
 some (decide (Int.tmod (Int.fdiv x118 (2 ^ min (Int.toNat a2) (IntKind.bits IntKind.u8))) 2 = 1))))
 (some (false)))
 (some (false)))
 (some (false))
noncomputable def Fz64 (a0 : TL) (a1 : Int) : Option (Bool) :=
 idxO (a0.Up) a1 fun x112 =>
 letO (IntKind.wrap .i64 x112) fun x113 =>
 zk ((0 : Int) <= (↑(List.length (List.map SV.str a0.Names)) : Int)) (
 cond (decide (0 < Int.fdiv x113 (2 ^ min (Int.toNat (↑(List.length (List.map SV.str a0.Names)) : Int)) (IntKind.bits IntKind.i64))))
 (some (false))
 ((Fz63 a0 a1 a1).bind fun x119 =>
 cond (!x119)
 (some (false))
 (Option.bind (
 lpO (fun (s123 : Int) =>
 cond (decide (s123 < (↑(List.length (List.map SV.str a0.Names)) : Int)))
 ((Fz63 a0 a1 s123).bind fun x137 =>
 cond (!x137)
 (letO (IntKind.wrap .i64 (s123 + 1)) fun x139 =>
 some (.inl x139))
 (idxO (a0.Up) s123 fun x140 =>
 letO (IntKind.wrap .i64 x140) fun x141 =>
 zk ((0 : Int) <= (↑(List.length (List.map SV.str a0.Names)) : Int)) (
 letO (IntKind.wrap .i64 (1 * 2 ^ min (Int.toNat (↑(List.length (List.map SV.str a0.Names)) : Int)) (IntKind.bits IntKind.i64))) fun x142 =>
 letO (IntKind.wrap .i64 (x142 - 1)) fun x143 =>
 cond (!decide (s123 = a1))
 ((Fz63 a0 s123 a1).bind fun x145 =>
 cond x145
 (some (.inr (.inr (false))))
 (cond (!decide (bits BinOp.and IntKind.i64 (bits BinOp.and IntKind.i64 x141 x143) x113 = bits BinOp.and IntKind.i64 x141 x143))
 (some (.inr (.inr (false))))
 (letO (IntKind.wrap .i64 (s123 + 1)) fun x148 =>
 some (.inl x148))))
 (cond (!decide (bits BinOp.and IntKind.i64 (bits BinOp.and IntKind.i64 x141 x143) x113 = bits BinOp.and IntKind.i64 x141 x143))
 (some (.inr (.inr (false))))
 (letO (IntKind.wrap .i64 (s123 + 1)) fun x150 =>
 some (.inl x150))))))
 (some (.inr (.inl ())))) (0))
 (Sum.elim (fun (s121 : Unit) =>
 some (true)) some))))
noncomputable def Fz65 (a0 : TL) : Option (List Int) :=
 zk ((0 : Int) <= (↑(List.length (List.map SV.str a0.Names)) : Int) /\ (↑(List.length (List.map SV.str a0.Names)) : Int) = (↑(List.length (List.map SV.str a0.Names)) : Int) /\ (↑(List.length (List.map SV.str a0.Names)) : Int) <= (70368744177664 : Int) /\ (↑(List.length (List.map SV.str a0.Names)) : Int) * (↑(1 : Nat) : Int) <= (70368744177664 : Int)) (
 Option.bind (
 lpO (fun (s121 : Int × List Int) =>
 cond (decide (s121.fst < (↑(List.length (List.map SV.str a0.Names)) : Int)))
 (Option.bind (
 lpO (fun (s140 : Int × List Int) =>
 cond (decide (s140.fst < (↑(List.length (List.map SV.str a0.Names)) : Int)))
 ((Fz63 a0 (s121.fst) (s140.fst)).bind fun x148 =>
 cond x148
 (zk (0 <= s140.fst /\ s140.fst < (↑(List.length (List.map (SV.int .u8) s140.snd)) : Int)) (
 idxO (s140.snd) ((↑(Int.toNat s140.fst) : Int)) fun x150 =>
 zk (0 <= s121.fst) (
 letO (IntKind.wrap .u8 (1 * 2 ^ min (Int.toNat s121.fst) (IntKind.bits IntKind.u8))) fun x151 =>
 zk (0 <= s140.fst /\ s140.fst < (↑(List.length (List.map (SV.int .u8) s140.snd)) : Int)) (
 idxO (s140.snd) ((↑(Int.toNat s140.fst) : Int)) fun x152 =>
 letO (IntKind.wrap .i64 (s140.fst + 1)) fun x153 =>
 some (.inl ((x153, List.set s140.snd (Int.toNat s140.fst) (bits BinOp.or IntKind.u8 x150 x151))))))))
 (letO (IntKind.wrap .i64 (s140.fst + 1)) fun x154 =>
 some (.inl ((x154, s140.snd)))))
 (some (.inr (.inl (s140.snd))))) ((0, s121.snd)))
 (Sum.elim (fun (s138 : List Int) =>
 letO (IntKind.wrap .i64 (s121.fst + 1)) fun x155 =>
 some (.inl ((x155, s138)))) some))
 (some (.inr (.inl (s121.snd))))) ((0, List.replicate (Int.toNat (↑(List.length (List.map SV.str a0.Names)) : Int)) 0)))
 (Sum.elim (fun (s119 : List Int) =>
 some s119) some))
noncomputable def Fz66 (a0 : List Int) (a1 : Int) (a2 : Int) : Option (Int) :=
 idxO a0 a1 fun x162 =>
 idxO a0 a2 fun x163 =>
 Option.bind (
 lpO (fun (s166 : Int) =>
 cond (decide (s166 < (↑(List.length (List.map (SV.int .u8) a0)) : Int)))
 (idxO a0 s166 fun x171 =>
 cond (decide (x171 = bits BinOp.and IntKind.u8 x162 x163))
 (some (.inr (.inr s166)))
 (letO (IntKind.wrap .i64 (s166 + 1)) fun x173 =>
 some (.inl x173)))
 (some (.inr (.inl ())))) (0))
 (Sum.elim (fun (s164 : Unit) =>
 some ((-1 : Int))) some)
noncomputable def Fz67 (a0 : TL) : Option (Int × Int) :=
 (Fz62 (a0.Names)).bind fun x106 =>
 cond (!decide (x106.snd = 0))
 (some x106)
 (cond (!decide ((↑(List.length (List.map (SV.int .u8) a0.Up)) : Int) = (↑(List.length (List.map SV.str a0.Names)) : Int)))
 (some (((-1 : Int), 6)))
 (Option.bind (
 lpO (fun (s111 : Int) =>
 cond (decide (s111 < (↑(List.length (List.map SV.str a0.Names)) : Int)))
 ((Fz64 a0 s111).bind fun x116 =>
 cond (!x116)
 (some (.inr (.inr ((s111, 6)))))
 (letO (IntKind.wrap .i64 (s111 + 1)) fun x118 =>
 some (.inl x118)))
 (some (.inr (.inl ())))) (0))
 (Sum.elim (fun (s109 : Unit) =>
 (Fz65 a0).bind fun x156 =>
 Option.bind (
 lpO (fun (s159 : Int) =>
 cond (decide (s159 < (↑(List.length (List.map SV.str a0.Names)) : Int)))
 (Option.bind (
 lpO (fun (s177 : Int) =>
 cond (decide (s177 < (↑(List.length (List.map SV.str a0.Names)) : Int)))
 ((Fz66 (a0.Up) s159 s177).bind fun x184 =>
 cond (decide (x184 < 0))
 (some (.inr (.inr (.inr (.inr ((s159, 4)))))))
 ((Fz66 x156 s159 s177).bind fun x186 =>
 cond (decide (x186 < 0))
 (some (.inr (.inr (.inr (.inr ((s159, 4)))))))
 (letO (IntKind.wrap .i64 (s177 + 1)) fun x188 =>
 some (.inl x188))))
 (some (.inr (.inl ())))) (0))
 (Sum.elim (fun (s175 : Unit) =>
 letO (IntKind.wrap .i64 (s159 + 1)) fun x189 =>
 some (.inl x189)) some))
 (some (.inr (.inl ())))) (0))
 (Sum.elim (fun (s157 : Unit) =>
 some ((0, 0))) some)) some)))
noncomputable def Fz68 : Option (List (List UInt8)) :=
 some ([(ByteArray.mk #[110, 101, 103]).data.toList, (ByteArray.mk #[97, 98, 115]).data.toList, (ByteArray.mk #[110, 111, 116]).data.toList, (ByteArray.mk #[115, 104, 97, 112, 101]).data.toList, (ByteArray.mk #[114, 97, 118, 101, 108]).data.toList, (ByteArray.mk #[114, 101, 118, 101, 114, 115, 101]).data.toList, (ByteArray.mk #[102, 108, 105, 112]).data.toList, (ByteArray.mk #[105, 111, 116, 97]).data.toList, (ByteArray.mk #[115, 117, 109]).data.toList, (ByteArray.mk #[108, 101, 97, 115, 116]).data.toList, (ByteArray.mk #[109, 111, 115, 116]).data.toList, (ByteArray.mk #[99, 111, 117, 110, 116]).data.toList, (ByteArray.mk #[115, 99, 97, 110]).data.toList, (ByteArray.mk #[103, 114, 97, 100, 101]).data.toList, (ByteArray.mk #[97, 100, 100]).data.toList, (ByteArray.mk #[115, 117, 98]).data.toList, (ByteArray.mk #[109, 117, 108]).data.toList, (ByteArray.mk #[100, 105, 118]).data.toList, (ByteArray.mk #[109, 111, 100]).data.toList, (ByteArray.mk #[112, 108, 117, 115]).data.toList, (ByteArray.mk #[109, 105, 110, 117, 115]).data.toList, (ByteArray.mk #[116, 105, 109, 101, 115]).data.toList, (ByteArray.mk #[101, 113]).data.toList, (ByteArray.mk #[110, 101]).data.toList, (ByteArray.mk #[108, 116]).data.toList, (ByteArray.mk #[108, 101]).data.toList, (ByteArray.mk #[103, 116]).data.toList, (ByteArray.mk #[103, 101]).data.toList, (ByteArray.mk #[97, 110, 100]).data.toList, (ByteArray.mk #[111, 114]).data.toList, (ByteArray.mk #[109, 105, 110]).data.toList, (ByteArray.mk #[109, 97, 120]).data.toList, (ByteArray.mk #[116, 97, 107, 101]).data.toList, (ByteArray.mk #[100, 114, 111, 112]).data.toList, (ByteArray.mk #[102, 105, 108, 108]).data.toList, (ByteArray.mk #[103, 114, 105, 100]).data.toList, (ByteArray.mk #[99, 97, 116]).data.toList, (ByteArray.mk #[97, 116]).data.toList, (ByteArray.mk #[105, 110]).data.toList, (ByteArray.mk #[112, 105, 99, 107]).data.toList])
noncomputable def Fz69 (a0 : List UInt8) : Option (Int × Int) :=
 (Fz68).bind fun x197 =>
 Option.bind (
 lpO (fun (s200 : Int) =>
 cond (decide (s200 < (↑(List.length (List.map SV.str x197)) : Int)))
 (idxO x197 s200 fun x205 =>
 cond (decide (x205 = a0))
 (letO (IntKind.wrap .i64 (s200 + 1)) fun x207 =>
 some (.inr (.inr ((x207, 0)))))
 (letO (IntKind.wrap .i64 (s200 + 1)) fun x208 =>
 some (.inl x208)))
 (some (.inr (.inl ())))) (0))
 (Sum.elim (fun (s198 : Unit) =>
 some ((0, 4))) some)
noncomputable def Fz70 (a0 : Int) : Option (Bool) :=
 cond (decide (97 <= a0))
 (some (decide (a0 <= 122)))
 (some (false))
noncomputable def Fz71 (a0 : Int) : Option (Bool) :=
 cond (decide (48 <= a0))
 (some (decide (a0 <= 57)))
 (some (false))
noncomputable def Fz72 (a0 : List UInt8) : Option (Bool) :=
 cond (decide (a0 = (ByteArray.mk #[]).data.toList))
 (some (false))
 (idxO a0 (0) fun x219 =>
 (Fz70 ((↑(UInt8.toNat x219) : Int))).bind fun x221 =>
 cond (!x221)
 (some (false))
 (Option.bind (
 lpO (fun (s225 : Int) =>
 cond (decide (s225 < (↑(List.length a0) : Int)))
 (idxO a0 s225 fun x234 =>
 (Fz70 ((↑(UInt8.toNat x234) : Int))).bind fun x235 =>
 cond (!x235)
 (idxO a0 s225 fun x237 =>
 (Fz71 ((↑(UInt8.toNat x237) : Int))).bind fun x238 =>
 cond (!x238)
 (some (.inr (.inr (false))))
 (letO (IntKind.wrap .i64 (s225 + 1)) fun x240 =>
 some (.inl x240)))
 (letO (IntKind.wrap .i64 (s225 + 1)) fun x241 =>
 some (.inl x241)))
 (some (.inr (.inl ())))) (0))
 (Sum.elim (fun (s223 : Unit) =>
 some (true)) some)))
noncomputable def Fz73 (a0 : List UInt8) : Option (List Int × Bool) :=
 Option.bind (
 lpO (fun (s248 : Unit) =>
 cond (decide (0 < (↑(List.length a0) : Int)))
 (none)
 (some (.inr (.inl ())))) (()))
 (Sum.elim (fun (s246 : Unit) =>
 some (([], true))) some)
noncomputable def Fz74 (a0 : TK) : Option (Int) :=
 cond (decide (a0.Kind < 1))
 (some (2))
 (cond (decide (9 < a0.Kind))
 (some (2))
 (cond (!decide (a0.Kind = 2))
 (cond (!decide (a0.N = 0))
 (some (2))
 (cond (!decide (a0.Kind = 1))
 (cond (!decide (a0.Kind = 3))
 (cond (!decide (a0.S = (ByteArray.mk #[]).data.toList))
 (some (2))
 (cond (decide (a0.Kind = 1))
 ((Fz72 (a0.S)).bind fun x242 =>
 cond (!x242)
 (some (6))
 (cond (decide (16 < (↑(List.length a0.S) : Int)))
 (some (3))
 (some (0))))
 (cond (decide (a0.Kind = 3))
 ((Fz73 (a0.S)).bind fun x250 =>
 cond (!x250.snd)
 (some (6))
 (cond (decide (2000 < (↑(List.length a0.S) : Int)))
 (some (3))
 (some (0))))
 (some (0)))))
 (cond (decide (a0.Kind = 1))
 ((Fz72 (a0.S)).bind fun x254 =>
 cond (!x254)
 (some (6))
 (cond (decide (16 < (↑(List.length a0.S) : Int)))
 (some (3))
 (some (0))))
 (cond (decide (a0.Kind = 3))
 ((Fz73 (a0.S)).bind fun x258 =>
 cond (!x258.snd)
 (some (6))
 (cond (decide (2000 < (↑(List.length a0.S) : Int)))
 (some (3))
 (some (0))))
 (some (0)))))
 (cond (decide (a0.Kind = 1))
 ((Fz72 (a0.S)).bind fun x262 =>
 cond (!x262)
 (some (6))
 (cond (decide (16 < (↑(List.length a0.S) : Int)))
 (some (3))
 (some (0))))
 (cond (decide (a0.Kind = 3))
 ((Fz73 (a0.S)).bind fun x266 =>
 cond (!x266.snd)
 (some (6))
 (cond (decide (2000 < (↑(List.length a0.S) : Int)))
 (some (3))
 (some (0))))
 (some (0))))))
 (cond (!decide (a0.Kind = 1))
 (cond (!decide (a0.Kind = 3))
 (cond (!decide (a0.S = (ByteArray.mk #[]).data.toList))
 (some (2))
 (cond (decide (a0.Kind = 1))
 ((Fz72 (a0.S)).bind fun x273 =>
 cond (!x273)
 (some (6))
 (cond (decide (16 < (↑(List.length a0.S) : Int)))
 (some (3))
 (some (0))))
 (cond (decide (a0.Kind = 3))
 ((Fz73 (a0.S)).bind fun x277 =>
 cond (!x277.snd)
 (some (6))
 (cond (decide (2000 < (↑(List.length a0.S) : Int)))
 (some (3))
 (some (0))))
 (some (0)))))
 (cond (decide (a0.Kind = 1))
 ((Fz72 (a0.S)).bind fun x281 =>
 cond (!x281)
 (some (6))
 (cond (decide (16 < (↑(List.length a0.S) : Int)))
 (some (3))
 (some (0))))
 (cond (decide (a0.Kind = 3))
 ((Fz73 (a0.S)).bind fun x285 =>
 cond (!x285.snd)
 (some (6))
 (cond (decide (2000 < (↑(List.length a0.S) : Int)))
 (some (3))
 (some (0))))
 (some (0)))))
 (cond (decide (a0.Kind = 1))
 ((Fz72 (a0.S)).bind fun x289 =>
 cond (!x289)
 (some (6))
 (cond (decide (16 < (↑(List.length a0.S) : Int)))
 (some (3))
 (some (0))))
 (cond (decide (a0.Kind = 3))
 ((Fz73 (a0.S)).bind fun x293 =>
 cond (!x293.snd)
 (some (6))
 (cond (decide (2000 < (↑(List.length a0.S) : Int)))
 (some (3))
 (some (0))))
 (some (0)))))))
noncomputable def Fz75 (a0 : List UInt8) : Option (Bool) :=
 Option.bind (
 lpO (fun (s301 : Int) =>
 cond (decide (s301 < (↑(10 : Nat) : Int)))
 (zk (0 <= s301 /\ s301 < (↑(10 : Nat) : Int)) (
 idxO ([(ByteArray.mk #[118, 97, 114]).data.toList, (ByteArray.mk #[100, 101, 102]).data.toList, (ByteArray.mk #[111, 117, 116]).data.toList, (ByteArray.mk #[105, 102]).data.toList, (ByteArray.mk #[101, 108, 115, 101]).data.toList, (ByteArray.mk #[119, 104, 105, 108, 101]).data.toList, (ByteArray.mk #[101, 110, 100]).data.toList, (ByteArray.mk #[114, 101, 108, 101, 97, 115, 101]).data.toList, (ByteArray.mk #[105, 110, 116]).data.toList, (ByteArray.mk #[99, 104, 97, 114]).data.toList]) ((↑(Int.toNat s301) : Int)) fun x304 =>
 cond (decide (x304 = a0))
 (some (.inr (.inr (true))))
 (letO (IntKind.wrap .i64 (s301 + 1)) fun x306 =>
 some (.inl x306))))
 (some (.inr (.inl ())))) (0))
 (Sum.elim (fun (s299 : Unit) =>
 some (false)) some)
noncomputable def Fz76 (a0 : List UInt8) : Option (Bool) :=
 (Fz69 a0).bind fun x209 =>
 (Fz74 (TK.mk 1 0 0 0 a0)).bind fun x296 =>
 cond (decide (x296 = 0))
 (cond (!decide (x209.snd = 0))
 ((Fz75 a0).bind fun x307 =>
 some (!x307))
 (some (false)))
 (some (false))
noncomputable def Fz77 (a0 : List UInt8) (a1 : List (List UInt8)) : Option (Int) :=
 (Fz76 a0).bind fun x308 =>
 cond (!x308)
 (some (24))
 (Option.bind (
 lpO (fun (s312 : Int) =>
 cond (decide (s312 < (↑(List.length (List.map SV.str a1)) : Int)))
 (idxO a1 s312 fun x317 =>
 cond (decide (x317 = a0))
 (some (.inr (.inr (8))))
 (letO (IntKind.wrap .i64 (s312 + 1)) fun x319 =>
 some (.inl x319)))
 (some (.inr (.inl ())))) (0))
 (Sum.elim (fun (s310 : Unit) =>
 some (0)) some))
noncomputable def Fz78 (a0 : TL) (a1 : Int) : Option (Bool) :=
 cond (decide (0 <= a1))
 (some (decide (a1 < (↑(List.length (List.map SV.str a0.Names)) : Int))))
 (some (false))
noncomputable def Fz79 (a0 : TP) : Option (Int × Int) :=
 cond (decide (16 < (↑(List.length (List.map zI a0.Channels)) : Int)))
 (some (((-1 : Int), 3)))
 (Option.bind (
 lpO (fun (s195 : Int × List (List UInt8)) =>
 cond (decide (s195.fst < (↑(List.length (List.map zI a0.Channels)) : Int)))
 (idxO (a0.Channels) (s195.fst) fun x208 =>
 (Fz77 (x208.s_) (s195.snd)).bind fun x209 =>
 cond (decide (x209 = 0))
 (idxO (a0.Channels) (s195.fst) fun x211 =>
 (Fz78 (a0.Lattice) (x211.at_)).bind fun x212 =>
 cond (!x212)
 (some (.inr (.inr ((s195.fst, 7)))))
 (cond (!decide (x209 = 0))
 (some (.inr (.inr ((s195.fst, x209)))))
 (idxO (a0.Channels) (s195.fst) fun x215 =>
 zk ((List.length (List.map SV.str s195.snd) + (1 : Nat)) * (16 : Nat) <= (70368744177664 : Nat)) (
 letO (IntKind.wrap .i64 (s195.fst + 1)) fun x216 =>
 some (.inl ((x216, s195.snd ++ [x215.s_])))))))
 (cond (!decide (x209 = 0))
 (some (.inr (.inr ((s195.fst, x209)))))
 (idxO (a0.Channels) (s195.fst) fun x218 =>
 zk ((List.length (List.map SV.str s195.snd) + (1 : Nat)) * (16 : Nat) <= (70368744177664 : Nat)) (
 letO (IntKind.wrap .i64 (s195.fst + 1)) fun x219 =>
 some (.inl ((x219, s195.snd ++ [x218.s_])))))))
 (some (.inr (.inl ())))) ((0, [])))
 (Sum.elim (fun (s193 : Unit) =>
 some ((0, 0))) some))
noncomputable def Fz80 (a0 : TL) (a1 : Int) (a2 : Int) : Option (Int) :=
 (Fz67 a0).bind fun x242 =>
 cond (decide (x242.snd = 0))
 (cond (decide (a1 < 0))
 (some (7))
 (cond (decide ((↑(List.length (List.map SV.str a0.Names)) : Int) <= a1))
 (some (7))
 (cond (decide (a2 < 0))
 (some (7))
 (cond (decide ((↑(List.length (List.map SV.str a0.Names)) : Int) <= a2))
 (some (7))
 (some (x242.snd))))))
 (some (x242.snd))
noncomputable def Fz81 (a0 : TL) : Option (Int × Int) :=
 (Fz80 a0 (0) (0)).bind fun x248 =>
 cond (!decide (x248 = 0))
 (some ((0, x248)))
 ((Fz65 a0).bind fun x250 =>
 Option.bind (
 lpO (fun (s253 : Int × Int) =>
 cond (decide (s253.fst < (↑(List.length (List.map SV.str a0.Names)) : Int)))
 ((Fz66 x250 (s253.fst) (s253.snd)).bind fun x257 =>
 letO (IntKind.wrap .i64 (s253.fst + 1)) fun x258 =>
 some (.inl ((x258, x257))))
 (some (.inr (.inl (s253.snd))))) ((0, 0)))
 (Sum.elim (fun (s251 : Int) =>
 some ((s251, 0))) some))
noncomputable def Fz82 (a0 : TL) (a1 : TY) : Option (Int) :=
 (Fz67 a0).bind fun x230 =>
 cond (!decide (x230.snd = 0))
 (some (x230.snd))
 (cond (!decide (a1.Kind = 1))
 (cond (!decide (a1.Kind = 2))
 (some (7))
 (cond (decide (a1.Rank < 0))
 (some (7))
 (cond (decide (2 < a1.Rank))
 (some (7))
 ((Fz78 a0 (a1.Axes.fst)).bind fun x236 =>
 cond (!x236)
 (some (7))
 ((Fz78 a0 (a1.Axes.snd)).bind fun x238 =>
 cond (!x238)
 (some (7))
 ((Fz78 a0 (a1.Data)).bind fun x240 =>
 cond (!x240)
 (some (7))
 ((Fz81 a0).bind fun x259 =>
 Option.bind (
 lpO (fun (s262 : Int) =>
 cond (decide (s262 < 2))
 (zk (0 <= s262 /\ s262 < (↑(2 : Nat) : Int)) (
 idxO ([a1.Axes.fst, a1.Axes.snd]) ((↑(Int.toNat s262) : Int)) fun x268 =>
 cond (!decide (x268 = x259.fst))
 (some (.inr (.inr (6))))
 (letO (IntKind.wrap .i64 (s262 + 1)) fun x270 =>
 some (.inl x270))))
 (some (.inr (.inl ())))) (a1.Rank))
 (Sum.elim (fun (s260 : Unit) =>
 Option.bind (
 lpO (fun (s273 : Int) =>
 cond (decide (s273 < a1.Rank))
 (zk (0 <= s273 /\ s273 < (↑(2 : Nat) : Int)) (
 idxO ([a1.Axes.fst, a1.Axes.snd]) ((↑(Int.toNat s273) : Int)) fun x278 =>
 (Fz63 a0 x278 (a1.Data)).bind fun x279 =>
 cond (!x279)
 (some (.inr (.inr (25))))
 (letO (IntKind.wrap .i64 (s273 + 1)) fun x281 =>
 some (.inl x281))))
 (some (.inr (.inl ())))) (0))
 (Sum.elim (fun (s271 : Unit) =>
 some (0)) some)) some))))))))
 (cond (decide (a1.Rank < 0))
 (some (7))
 (cond (decide (2 < a1.Rank))
 (some (7))
 ((Fz78 a0 (a1.Axes.fst)).bind fun x284 =>
 cond (!x284)
 (some (7))
 ((Fz78 a0 (a1.Axes.snd)).bind fun x286 =>
 cond (!x286)
 (some (7))
 ((Fz78 a0 (a1.Data)).bind fun x288 =>
 cond (!x288)
 (some (7))
 ((Fz81 a0).bind fun x290 =>
 Option.bind (
 lpO (fun (s293 : Int) =>
 cond (decide (s293 < 2))
 (zk (0 <= s293 /\ s293 < (↑(2 : Nat) : Int)) (
 idxO ([a1.Axes.fst, a1.Axes.snd]) ((↑(Int.toNat s293) : Int)) fun x299 =>
 cond (!decide (x299 = x290.fst))
 (some (.inr (.inr (6))))
 (letO (IntKind.wrap .i64 (s293 + 1)) fun x301 =>
 some (.inl x301))))
 (some (.inr (.inl ())))) (a1.Rank))
 (Sum.elim (fun (s291 : Unit) =>
 Option.bind (
 lpO (fun (s304 : Int) =>
 cond (decide (s304 < a1.Rank))
 (zk (0 <= s304 /\ s304 < (↑(2 : Nat) : Int)) (
 idxO ([a1.Axes.fst, a1.Axes.snd]) ((↑(Int.toNat s304) : Int)) fun x309 =>
 (Fz63 a0 x309 (a1.Data)).bind fun x310 =>
 cond (!x310)
 (some (.inr (.inr (25))))
 (letO (IntKind.wrap .i64 (s304 + 1)) fun x312 =>
 some (.inl x312))))
 (some (.inr (.inl ())))) (0))
 (Sum.elim (fun (s302 : Unit) =>
 some (0)) some)) some))))))))
noncomputable def Fz83 (a0 : TP) : Option (Int × Int) :=
 cond (decide (32 < (↑(List.length (List.map qP a0.Vars)) : Int)))
 (some (((-1 : Int), 3)))
 (Option.bind (
 lpO (fun (s225 : Int × List (List UInt8)) =>
 cond (decide (s225.fst < (↑(List.length (List.map qP a0.Vars)) : Int)))
 (idxO (a0.Vars) (s225.fst) fun x237 =>
 (Fz77 (x237.Name) (s225.snd)).bind fun x238 =>
 cond (decide (x238 = 0))
 (idxO (a0.Vars) (s225.fst) fun x240 =>
 (Fz82 (a0.Lattice) (x240.Type_)).bind fun x241 =>
 cond (!decide (x241 = 0))
 (some (.inr (.inr ((s225.fst, x241)))))
 (idxO (a0.Vars) (s225.fst) fun x243 =>
 zk ((List.length (List.map SV.str s225.snd) + (1 : Nat)) * (16 : Nat) <= (70368744177664 : Nat)) (
 letO (IntKind.wrap .i64 (s225.fst + 1)) fun x244 =>
 some (.inl ((x244, s225.snd ++ [x243.Name]))))))
 (cond (!decide (x238 = 0))
 (some (.inr (.inr ((s225.fst, x238)))))
 (idxO (a0.Vars) (s225.fst) fun x246 =>
 zk ((List.length (List.map SV.str s225.snd) + (1 : Nat)) * (16 : Nat) <= (70368744177664 : Nat)) (
 letO (IntKind.wrap .i64 (s225.fst + 1)) fun x247 =>
 some (.inl ((x247, s225.snd ++ [x246.Name])))))))
 (some (.inr (.inl ())))) ((0, [])))
 (Sum.elim (fun (s223 : Unit) =>
 some ((0, 0))) some))
noncomputable def Fz84 (a0 : TP) : Option (Int × Int) :=
 cond (decide (64 < (↑(List.length (List.map qh a0.Rules)) : Int)))
 (some (((-1 : Int), 3)))
 (Option.bind (
 lpO (fun (s253 : Int) =>
 cond (decide (s253 < (↑(List.length (List.map qh a0.Rules)) : Int)))
 (idxO (a0.Rules) s253 fun x269 =>
 (Fz78 (a0.Lattice) (x269.From)).bind fun x270 =>
 cond (!x270)
 (some (.inr (.inr ((s253, 7)))))
 ((Fz78 (a0.Lattice) (x269.Goal)).bind fun x272 =>
 cond (!x272)
 (some (.inr (.inr ((s253, 7)))))
 (cond (decide (x269.From = x269.Goal))
 (some (.inr (.inr ((s253, 25)))))
 ((Fz63 (a0.Lattice) (x269.Goal) (x269.From)).bind fun x275 =>
 cond (!x275)
 (some (.inr (.inr ((s253, 25)))))
 (Option.bind (
 lpO (fun (s279 : Int) =>
 cond (decide (s279 < s253))
 (idxO (a0.Rules) s279 fun x286 =>
 cond (decide (x286.From = x269.From))
 (idxO (a0.Rules) s279 fun x288 =>
 cond (decide (x288.Goal = x269.Goal))
 (some (.inr (.inr (.inr (.inr ((s253, 8)))))))
 (letO (IntKind.wrap .i64 (s279 + 1)) fun x290 =>
 some (.inl x290)))
 (letO (IntKind.wrap .i64 (s279 + 1)) fun x291 =>
 some (.inl x291)))
 (some (.inr (.inl ())))) (0))
 (Sum.elim (fun (s277 : Unit) =>
 cond (decide (x269.K < 2))
 (some (.inr (.inr ((s253, 3)))))
 (cond (decide (400 < x269.K))
 (some (.inr (.inr ((s253, 3)))))
 (letO (IntKind.wrap .i64 (s253 + 1)) fun x294 =>
 some (.inl x294)))) some))))))
 (some (.inr (.inl ())))) (0))
 (Sum.elim (fun (s251 : Unit) =>
 some ((0, 0))) some))
noncomputable def Fz85 (a0 : TP) : Option (Int × Int × Int) :=
 (Fz67 (a0.Lattice)).bind fun x190 =>
 cond (!decide (x190.snd = 0))
 (some ((1, x190)))
 ((Fz79 a0).bind fun x220 =>
 cond (!decide (x220.snd = 0))
 (some ((2, x220)))
 ((Fz83 a0).bind fun x248 =>
 cond (!decide (x248.snd = 0))
 (some ((3, x248)))
 ((Fz84 a0).bind fun x295 =>
 cond (!decide (x295.snd = 0))
 (some ((4, x295)))
 (some ((0, 0, 0))))))
noncomputable def Fz86 : Option (List (List UInt8)) :=
 some ([(ByteArray.mk #[]).data.toList, (ByteArray.mk #[115, 117, 109]).data.toList, (ByteArray.mk #[99, 111, 117, 110, 116]).data.toList, (ByteArray.mk #[108, 101, 97, 115, 116]).data.toList, (ByteArray.mk #[109, 111, 115, 116]).data.toList])
noncomputable def Fz87 (a0 : Int) : Option (List UInt8 × Int) :=
 cond (decide (a0 < 1))
 (some (((ByteArray.mk #[]).data.toList, 2)))
 (cond (decide (4 < a0))
 (some (((ByteArray.mk #[]).data.toList, 2)))
 ((Fz86).bind fun x309 =>
 idxO x309 a0 fun x310 =>
 some ((x310, 0))))
noncomputable def Fz88 (a0 : TP) (a1 : Int) (a2 : Int) : Option (Int × Int) :=
 (Fz85 a0).bind fun x316 =>
 cond (decide (x316.snd.snd = 0))
 ((Fz78 (a0.Lattice) a1).bind fun x318 =>
 cond (!x318)
 (some ((0, 7)))
 ((Fz78 (a0.Lattice) a2).bind fun x320 =>
 cond (!x320)
 (some ((0, 7)))
 (cond (!decide (x316.snd.snd = 0))
 (some ((0, x316.snd.snd)))
 (Option.bind (
 lpO (fun (s325 : Int) =>
 cond (decide (s325 < (↑(List.length (List.map qh a0.Rules)) : Int)))
 (idxO (a0.Rules) s325 fun x333 =>
 cond (decide (x333.From = a1))
 (idxO (a0.Rules) s325 fun x335 =>
 cond (decide (x335.Goal = a2))
 (idxO (a0.Rules) s325 fun x337 =>
 some (.inr (.inr ((x337.K, 0)))))
 (letO (IntKind.wrap .i64 (s325 + 1)) fun x338 =>
 some (.inl x338)))
 (letO (IntKind.wrap .i64 (s325 + 1)) fun x339 =>
 some (.inl x339)))
 (some (.inr (.inl ())))) (0))
 (Sum.elim (fun (s323 : Unit) =>
 some ((0, 4))) some)))))
 (cond (!decide (x316.snd.snd = 0))
 (some ((0, x316.snd.snd)))
 (Option.bind (
 lpO (fun (s343 : Int) =>
 cond (decide (s343 < (↑(List.length (List.map qh a0.Rules)) : Int)))
 (idxO (a0.Rules) s343 fun x351 =>
 cond (decide (x351.From = a1))
 (idxO (a0.Rules) s343 fun x353 =>
 cond (decide (x353.Goal = a2))
 (idxO (a0.Rules) s343 fun x355 =>
 some (.inr (.inr ((x355.K, 0)))))
 (letO (IntKind.wrap .i64 (s343 + 1)) fun x356 =>
 some (.inl x356)))
 (letO (IntKind.wrap .i64 (s343 + 1)) fun x357 =>
 some (.inl x357)))
 (some (.inr (.inl ())))) (0))
 (Sum.elim (fun (s341 : Unit) =>
 some ((0, 4))) some)))
noncomputable def Fz89 (a0 : TP) (a1 : TE) : Option (Int) :=
 (Fz85 a0).bind fun x305 =>
 cond (decide (x305.snd.snd = 0))
 ((Fz87 (a1.Fold)).bind fun x311 =>
 cond (decide (x311.snd = 0))
 (cond (decide (a1.Site < 0))
 (some (7))
 (cond (decide (1000000000 < a1.Site))
 (some (7))
 (cond (!decide (x311.snd = 0))
 (some (x311.snd))
 ((Fz88 a0 (a1.From) (a1.Goal)).bind fun x358 =>
 cond (decide (x358.snd = 7))
 (some (7))
 (cond (decide (a1.Cells < 0))
 (some (7))
 (cond (decide (400 < a1.Cells))
 (some (7))
 (cond (!decide (x358.snd = 0))
 (some (x358.snd))
 (cond (decide (a1.Cells < x358.fst))
 (cond (!(decide (a1.Value.fst = 0) && (decide (a1.Value.snd = 0) && true)))
 (some (6))
 (some (0)))
 (cond (!decide (a1.Value.fst = 1))
 (some (6))
 (cond (decide (a1.Fold = 2))
 (cond (decide (a1.Value.snd < 0))
 (some (6))
 (cond (decide (a1.Cells < a1.Value.snd))
 (some (6))
 (some (0))))
 (some (0))))))))))))
 (cond (!decide (x311.snd = 0))
 (some (x311.snd))
 ((Fz88 a0 (a1.From) (a1.Goal)).bind fun x370 =>
 cond (decide (x370.snd = 7))
 (some (7))
 (cond (decide (a1.Cells < 0))
 (some (7))
 (cond (decide (400 < a1.Cells))
 (some (7))
 (cond (!decide (x370.snd = 0))
 (some (x370.snd))
 (cond (decide (a1.Cells < x370.fst))
 (cond (!(decide (a1.Value.fst = 0) && (decide (a1.Value.snd = 0) && true)))
 (some (6))
 (some (0)))
 (cond (!decide (a1.Value.fst = 1))
 (some (6))
 (cond (decide (a1.Fold = 2))
 (cond (decide (a1.Value.snd < 0))
 (some (6))
 (cond (decide (a1.Cells < a1.Value.snd))
 (some (6))
 (some (0))))
 (some (0)))))))))))
 (cond (!decide (x305.snd.snd = 0))
 (some (x305.snd.snd))
 ((Fz88 a0 (a1.From) (a1.Goal)).bind fun x382 =>
 cond (decide (x382.snd = 7))
 (some (7))
 (cond (decide (a1.Cells < 0))
 (some (7))
 (cond (decide (400 < a1.Cells))
 (some (7))
 (cond (!decide (x382.snd = 0))
 (some (x382.snd))
 (cond (decide (a1.Cells < x382.fst))
 (cond (!(decide (a1.Value.fst = 0) && (decide (a1.Value.snd = 0) && true)))
 (some (6))
 (some (0)))
 (cond (!decide (a1.Value.fst = 1))
 (some (6))
 (cond (decide (a1.Fold = 2))
 (cond (decide (a1.Value.snd < 0))
 (some (6))
 (cond (decide (a1.Cells < a1.Value.snd))
 (some (6))
 (some (0))))
 (some (0))))))))))
noncomputable def Fz90 (a0 : TP) (a1 : List TE) : Option (Int × Int) :=
 (Fz85 a0).bind fun x297 =>
 cond (decide (x297.snd.snd = 0))
 (cond (decide (2000 < (↑(List.length (List.map zd a1)) : Int)))
 (some (((-1 : Int), 3)))
 (cond (!decide (x297.snd.snd = 0))
 (some (((-1 : Int), x297.snd.snd)))
 (Option.bind (
 lpO (fun (s303 : Int) =>
 cond (decide (s303 < (↑(List.length (List.map zd a1)) : Int)))
 (idxO a1 s303 fun x313 =>
 (Fz89 a0 x313).bind fun x314 =>
 cond (decide (x314 = 0))
 (idxO a1 s303 fun x316 =>
 cond (decide (x316.Site = 0))
 (some (.inr (.inr ((s303, 6)))))
 (cond (!decide (x314 = 0))
 (some (.inr (.inr ((s303, x314)))))
 (letO (IntKind.wrap .i64 (s303 + 1)) fun x319 =>
 some (.inl x319))))
 (cond (!decide (x314 = 0))
 (some (.inr (.inr ((s303, x314)))))
 (letO (IntKind.wrap .i64 (s303 + 1)) fun x321 =>
 some (.inl x321))))
 (some (.inr (.inl ())))) (0))
 (Sum.elim (fun (s301 : Unit) =>
 some ((0, 0))) some))))
 (cond (!decide (x297.snd.snd = 0))
 (some (((-1 : Int), x297.snd.snd)))
 (Option.bind (
 lpO (fun (s325 : Int) =>
 cond (decide (s325 < (↑(List.length (List.map zd a1)) : Int)))
 (idxO a1 s325 fun x335 =>
 (Fz89 a0 x335).bind fun x336 =>
 cond (decide (x336 = 0))
 (idxO a1 s325 fun x338 =>
 cond (decide (x338.Site = 0))
 (some (.inr (.inr ((s325, 6)))))
 (cond (!decide (x336 = 0))
 (some (.inr (.inr ((s325, x336)))))
 (letO (IntKind.wrap .i64 (s325 + 1)) fun x341 =>
 some (.inl x341))))
 (cond (!decide (x336 = 0))
 (some (.inr (.inr ((s325, x336)))))
 (letO (IntKind.wrap .i64 (s325 + 1)) fun x343 =>
 some (.inl x343))))
 (some (.inr (.inl ())))) (0))
 (Sum.elim (fun (s323 : Unit) =>
 some ((0, 0))) some)))
noncomputable def Fz91 (a0 : TP) (a1 : Int) (a2 : List (List TE)) : Option (Int) :=
 Option.bind (
 lpO (fun (s352 : Int) =>
 cond (decide (s352 < (↑(List.length (List.map (ze 7 zd) a2)) : Int)))
 (idxO a2 s352 fun x358 =>
 (Fz58 a0 x358).bind fun x359 =>
 cond (!decide (x359.snd = 0))
 (some (.inr (.inr (x359.snd))))
 (letO (IntKind.wrap .i64 (s352 + 1)) fun x361 =>
 some (.inl x361)))
 (some (.inr (.inl ())))) (0))
 (Sum.elim (fun (s350 : Unit) =>
 cond (decide (a1 < 0))
 (some (7))
 (cond (decide ((↑(List.length (List.map SV.str a0.Lattice.Names)) : Int) <= a1))
 (some (7))
 (some (0)))) some)
noncomputable def Fz92 (a0 : TP) (a1 : List TE) (a2 : Int) : Option (List TE) :=
 Option.bind (
 lpO (fun (s368 : Int × List TE) =>
 cond (decide (s368.fst < (↑(List.length (List.map zd a1)) : Int)))
 (idxO a1 (s368.fst) fun x374 =>
 idxO (a0.Lattice.Up) (x374.Goal) fun x375 =>
 zk (0 <= a2) (
 cond (decide (bits BinOp.and IntKind.u8 (Int.fdiv x375 (2 ^ min (Int.toNat a2) (IntKind.bits IntKind.u8))) 1 = 1))
 (zk ((List.length (List.map zd s368.snd) + (1 : Nat)) * (56 : Nat) <= (70368744177664 : Nat)) (
 letO (IntKind.wrap .i64 (s368.fst + 1)) fun x377 =>
 some (.inl ((x377, s368.snd ++ [x374])))))
 (letO (IntKind.wrap .i64 (s368.fst + 1)) fun x378 =>
 some (.inl ((x378, s368.snd))))))
 (some (.inr (.inl (s368.snd))))) ((0, [])))
 (Sum.elim (fun (s366 : List TE) =>
 some s366) some)
noncomputable def Fz93 (a0 : TP) (a1 : List TE) (a2 : Int) : Option (List TE × Int) :=
 (Fz91 a0 a2 ([a1])).bind fun x364 =>
 cond (!decide (x364 = 0))
 (some (([], x364)))
 ((Fz92 a0 a1 a2).bind fun x379 =>
 some ((x379, 0)))
noncomputable def Fz94 (a0 : TP) (a1 : List TE) (a2 : Int) : Option (List TE) :=
 Option.bind (
 lpO (fun (s388 : Int × List TE) =>
 cond (decide (s388.fst < (↑(List.length (List.map zd a1)) : Int)))
 (idxO a1 (s388.fst) fun x395 =>
 (Fz63 (a0.Lattice) (x395.Goal) a2).bind fun x396 =>
 cond x396
 (idxO a1 (s388.fst) fun x398 =>
 zk ((List.length (List.map zd s388.snd) + (1 : Nat)) * (56 : Nat) <= (70368744177664 : Nat)) (
 letO (IntKind.wrap .i64 (s388.fst + 1)) fun x399 =>
 some (.inl ((x399, s388.snd ++ [x398])))))
 (letO (IntKind.wrap .i64 (s388.fst + 1)) fun x400 =>
 some (.inl ((x400, s388.snd)))))
 (some (.inr (.inl (s388.snd))))) ((0, [])))
 (Sum.elim (fun (s386 : List TE) =>
 some s386) some)
noncomputable def Fz95 (a0 : TP) (a1 : List TE) (a2 : Int) : Option (List TE × Int) :=
 (Fz90 a0 a1).bind fun x381 =>
 cond (decide (x381.snd = 0))
 (cond (decide (a2 < 0))
 (some (([], 7)))
 (cond (decide ((↑(List.length (List.map SV.str a0.Lattice.Names)) : Int) <= a2))
 (some (([], 7)))
 (cond (!decide (x381.snd = 0))
 (some (([], x381.snd)))
 ((Fz94 a0 a1 a2).bind fun x401 =>
 some ((x401, 0))))))
 (cond (!decide (x381.snd = 0))
 (some (([], x381.snd)))
 ((Fz94 a0 a1 a2).bind fun x403 =>
 some ((x403, 0))))
noncomputable def Fz96 (a0 : TP) (a1 : List TE) (a2 : List TE) (a3 : Int) : Option (Bool × Int × Int) :=
 (Fz91 a0 a3 ([a1, a2])).bind fun x405 =>
 cond (!decide (x405 = 0))
 (some ((false, 0, x405)))
 ((Fz92 a0 a1 a3).bind fun x407 =>
 (Fz92 a0 a2 a3).bind fun x408 =>
 Option.bind (
 lpO (fun (s411 : Int) =>
 cond (decide (s411 < min (↑(List.length (List.map zd x407)) : Int) (↑(List.length (List.map zd x408)) : Int)))
 (idxO x407 s411 fun x417 =>
 idxO x408 s411 fun x418 =>
 cond (decide (x417.Value.fst = x418.Value.fst) && (decide (x417.Value.snd = x418.Value.snd) && true))
 (letO (IntKind.wrap .i64 (s411 + 1)) fun x420 =>
 some (.inl x420))
 (some (.inr (.inl s411))))
 (some (.inr (.inl s411)))) (0))
 (Sum.elim (fun (s409 : Int) =>
 some ((decide (s409 = min (↑(List.length (List.map zd x407)) : Int) (↑(List.length (List.map zd x408)) : Int)), s409, 0))) some))
noncomputable def Fz97 (a0 : TP) (a1 : List TE) (a2 : List TE) (a3 : Int) : Option (Bool × Int × Int) :=
 (Fz90 a0 a1).bind fun x422 =>
 cond (decide (x422.snd = 0))
 ((Fz90 a0 a2).bind fun x424 =>
 cond (decide (x424.snd = 0))
 (cond (decide (a3 < 0))
 (some ((false, 0, 7)))
 (cond (decide ((↑(List.length (List.map SV.str a0.Lattice.Names)) : Int) <= a3))
 (some ((false, 0, 7)))
 (cond (!decide (x424.snd = 0))
 (some ((false, 0, x424.snd)))
 ((Fz94 a0 a1 a3).bind fun x429 =>
 (Fz94 a0 a2 a3).bind fun x430 =>
 Option.bind (
 lpO (fun (s433 : Int) =>
 cond (decide (s433 < (↑(List.length (List.map zd x429)) : Int)))
 (cond (decide (s433 < (↑(List.length (List.map zd x430)) : Int)))
 (idxO x429 s433 fun x441 =>
 idxO x430 s433 fun x442 =>
 cond (decide (x441.Value.fst = x442.Value.fst) && (decide (x441.Value.snd = x442.Value.snd) && true))
 (letO (IntKind.wrap .i64 (s433 + 1)) fun x444 =>
 some (.inl x444))
 (some (.inr (.inl s433))))
 (some (.inr (.inl s433))))
 (some (.inr (.inl s433)))) (0))
 (Sum.elim (fun (s431 : Int) =>
 cond (decide (s431 = (↑(List.length (List.map zd x429)) : Int)))
 (some ((true, s431, 0)))
 (some ((decide (s431 = (↑(List.length (List.map zd x430)) : Int)), s431, 0)))) some)))))
 (cond (!decide (x424.snd = 0))
 (some ((false, 0, x424.snd)))
 ((Fz94 a0 a1 a3).bind fun x447 =>
 (Fz94 a0 a2 a3).bind fun x448 =>
 Option.bind (
 lpO (fun (s451 : Int) =>
 cond (decide (s451 < (↑(List.length (List.map zd x447)) : Int)))
 (cond (decide (s451 < (↑(List.length (List.map zd x448)) : Int)))
 (idxO x447 s451 fun x459 =>
 idxO x448 s451 fun x460 =>
 cond (decide (x459.Value.fst = x460.Value.fst) && (decide (x459.Value.snd = x460.Value.snd) && true))
 (letO (IntKind.wrap .i64 (s451 + 1)) fun x462 =>
 some (.inl x462))
 (some (.inr (.inl s451))))
 (some (.inr (.inl s451))))
 (some (.inr (.inl s451)))) (0))
 (Sum.elim (fun (s449 : Int) =>
 cond (decide (s449 = (↑(List.length (List.map zd x447)) : Int)))
 (some ((true, s449, 0)))
 (some ((decide (s449 = (↑(List.length (List.map zd x448)) : Int)), s449, 0)))) some))))
 (cond (!decide (x422.snd = 0))
 (some ((false, 0, x422.snd)))
 ((Fz94 a0 a1 a3).bind fun x465 =>
 (Fz94 a0 a2 a3).bind fun x466 =>
 Option.bind (
 lpO (fun (s469 : Int) =>
 cond (decide (s469 < (↑(List.length (List.map zd x465)) : Int)))
 (cond (decide (s469 < (↑(List.length (List.map zd x466)) : Int)))
 (idxO x465 s469 fun x477 =>
 idxO x466 s469 fun x478 =>
 cond (decide (x477.Value.fst = x478.Value.fst) && (decide (x477.Value.snd = x478.Value.snd) && true))
 (letO (IntKind.wrap .i64 (s469 + 1)) fun x480 =>
 some (.inl x480))
 (some (.inr (.inl s469))))
 (some (.inr (.inl s469))))
 (some (.inr (.inl s469)))) (0))
 (Sum.elim (fun (s467 : Int) =>
 cond (decide (s467 = (↑(List.length (List.map zd x465)) : Int)))
 (some ((true, s467, 0)))
 (some ((decide (s467 = (↑(List.length (List.map zd x466)) : Int)), s467, 0)))) some)))
noncomputable def Fz98 (a0 : List TE) (a1 : List TE) : Option (Bool) :=
 cond (!decide ((↑(List.length (List.map zd a0)) : Int) = (↑(List.length (List.map zd a1)) : Int)))
 (some (false))
 (Option.bind (
 lpO (fun (s486 : Int) =>
 cond (decide (s486 < (↑(List.length (List.map zd a0)) : Int)))
 (idxO a0 s486 fun x492 =>
 idxO a1 s486 fun x493 =>
 cond (!(decide (x492.Site = x493.Site) && (decide (x492.Fold = x493.Fold) && (decide (x492.From = x493.From) && (decide (x492.Goal = x493.Goal) && (decide (x492.Cells = x493.Cells) && (decide (x492.Value.fst = x493.Value.fst) && (decide (x492.Value.snd = x493.Value.snd) && true) && true)))))))
 (some (.inr (.inr (false))))
 (letO (IntKind.wrap .i64 (s486 + 1)) fun x495 =>
 some (.inl x495)))
 (some (.inr (.inl ())))) (0))
 (Sum.elim (fun (s484 : Unit) =>
 some (true)) some))
noncomputable def Fz99 (a0 : TP) (a1 : List TE) (a2 : List TE) : Option (Bool) :=
 (Fz2 a0).bind fun x40 =>
 cond x40
 (some (true))
 ((Fz3 a1).bind fun x44 =>
 cond x44
 (some (true))
 ((Fz3 a2).bind fun x46 =>
 cond x46
 (some (true))
 ((Fz58 a0 a1).bind fun x76 =>
 (Fz90 a0 a1).bind fun x344 =>
 cond (!decide (x76.fst = x344.fst))
 (some (false))
 (cond (!decide (x76.snd = x344.snd))
 (some (false))
 (Option.bind (
 lpO (fun (s349 : Int) =>
 cond (decide (s349 <= (↑(List.length (List.map SV.str a0.Lattice.Names)) : Int)))
 (cond (decide (s349 < 9))
 ((Fz93 a0 a1 s349).bind fun x363 =>
 (Fz95 a0 a1 s349).bind fun x364 =>
 (Fz96 a0 a1 a2 s349).bind fun x365 =>
 (Fz97 a0 a1 a2 s349).bind fun x366 =>
 (Fz98 (x363.fst) (x364.fst)).bind fun x367 =>
 cond (!x367)
 (some (.inr (.inr (false))))
 (cond (!decide (x363.snd = x364.snd))
 (some (.inr (.inr (false))))
 (cond (!x365.fst == x366.fst)
 (some (.inr (.inr (false))))
 (cond (!decide (x365.snd.fst = x366.snd.fst))
 (some (.inr (.inr (false))))
 (cond (!decide (x365.snd.snd = x366.snd.snd))
 (some (.inr (.inr (false))))
 (letO (IntKind.wrap .i64 (s349 + 1)) fun x373 =>
 some (.inl x373)))))))
 (some (.inr (.inl ()))))
 (some (.inr (.inl ())))) ((-1 : Int)))
 (Sum.elim (fun (s347 : Unit) =>
 some (true)) some))))))
end Go.Sx.O
namespace Go.Sx.O
open Go
theorem znf {α τ : Type} {l : List α} (p : α -> Bool) {step : Int -> Option (Int ⊕ τ)} {d : τ} {g : Int -> τ}
 (h1 : ∀ (k : Nat) x, l[k]? = some x -> step (k : Int) = if p x then some (.inr (g k)) else some (.inl ((k : Int) + 1)))
 (h2 : step (l.length : Int) = some (.inr d)) :
 lpO step 0 = (match l.findIdx? p with | some i => some (g i) | none => some d) := by
 have key : ∀ j k, j + k = l.length -> lpO step (k : Int) = (match (l.drop k).findIdx? p with | some i => some (g ((k + i : Nat) : Int)) | none => some d) := by
  intro j
  induction j with
  | zero =>
    intro k hk
    rw [yt]
    have : k = l.length := by omega
    subst this
    rw [h2]
    simp
  | succ j ih =>
    intro k hk
    have hlt : k < l.length := by omega
    rw [yt, h1 k _ (List.getElem?_eq_getElem hlt), List.drop_eq_getElem_cons hlt, List.findIdx?_cons]
    split
    · simp
    · have := ih (k + 1) (by omega)
      simp only [Option.bind_some, Sum.elim_inl]
      push_cast at this
      rw [this]
      cases (l.drop (k + 1)).findIdx? p with
      | none => rfl
      | some i => simp; congr 1; omega
 have := key l.length 0 (by omega)
 simpa using this
end Go.Sx.O
namespace Go.Sx.O
open Go
theorem dropWhile_nil {α : Type} {p : α -> Bool} : ∀ {l : List α}, l.dropWhile p = [] ↔ ∀ x ∈ l, p x = true
 | [] => by simp
 | a :: l => by
   rw [List.dropWhile_cons]
   cases h : p a with
   | true => simp [h, dropWhile_nil (l := l)]
   | false => simp [h]
theorem za5 (l : List (List UInt8)) (s : List UInt8) (hl : l.length <= 1000000000) :
 Fz22 l s = some (match l.findIdx? (fun x => decide (s = x)) with | some i => (i : Int) | none => -1) := by
 unfold Fz22
 rw [znf (l := l) (fun x => decide (s = x)) (d := .inl ()) (g := .inr) ?_ ?_]
 · cases l.findIdx? (fun x => decide (s = x)) <;> rfl
 · intro k x hx
   have hlt : k < l.length := by
    by_cases h : k < l.length
    · exact h
    · rw [List.getElem?_eq_none (by omega)] at hx; cases hx
   simp only [List.length_map, Int.ofNat_lt, hlt, decide_true, cond_true, idxO, Int.toNat_natCast, hx, Option.bind_some, letO, Int.natCast_nonneg, if_true]
   rw [w64 (by omega) (by omega)]
   cases decide (s = x) <;> rfl
 · simp
theorem yR (l : List (List UInt8)) (s : List UInt8) (hl : l.length <= 1000000000) :
 Fz23 l s = some (decide (s ∈ l)) := by
 unfold Fz23
 rw [za5 l s hl]
 cases h : l.findIdx? (fun x => decide (s = x)) with
 | none =>
   have := List.findIdx?_eq_none_iff.1 h
   simp only [Option.bind_some]
   congr 1
   have hn : s ∉ l := fun hm => by have := this s hm; simp at this
   simp [hn]
 | some i =>
   have := List.findIdx?_eq_some_iff_getElem.1 h
   obtain ⟨hi, h1, _⟩ := this
   have hm : s ∈ l := by
    have e : s = l[i] := by simpa using h1
    rw [e]; exact List.getElem_mem hi
   simp [hm]
def wP (set : List Bool) (c : UInt8) : Bool := set.getD c.toNat false
theorem zag (set : List Bool) (c : UInt8) (h : set.length = 256) : Fz7 set (c.toNat : Int) = some (wP set c) := by
 unfold Fz7
 have hc : c.toNat < 256 := c.toNat_lt
 have h2 : set[c.toNat]? = some (set[c.toNat]'(by omega)) := List.getElem?_eq_getElem _
 have h3 : (c.toNat : Int) < 256 := by omega
 simp [zk, idxO, wP, h2, h3]
def jq (p : UInt8 -> Bool) (s : List UInt8) : List UInt8 := (s.reverse.dropWhile p).reverse
theorem zmh {p : UInt8 -> Bool} {s : List UInt8} : (jq p s).dropWhile p = [] ↔ ∀ c ∈ s, p c = true := by
 unfold jq
 constructor
 · intro h c hc
   have h1 : ∀ c ∈ (s.reverse.dropWhile p).reverse, p c = true := dropWhile_nil.1 h
   have h2 : s.reverse.dropWhile p = [] := by
    cases e : s.reverse.dropWhile p with
    | nil => rfl
    | cons a r =>
      have := List.head?_dropWhile_not p s.reverse
      rw [e] at this
      simp at this
      rw [e] at h1
      rw [h1 a (by simp)] at this
      cases this
   exact dropWhile_nil.1 h2 c (by simpa using hc)
 · intro h
   have : s.reverse.dropWhile p = [] := dropWhile_nil.2 fun c hc => h c (by simpa using hc)
   rw [this]; rfl
theorem zai (s : List UInt8) (set : List Bool) (h : set.length = 256) (hs : s.length <= 1000000000) : Fz8 s set = some (jq (wP set) s) := by
 unfold Fz8
 apply Tot.eq
 simp only [zq]
 refine Tot.loop (fun s => s.length) (fun r => r.length <= 1000000000 /\ jq (wP set) r = jq (wP set) s) ?_ ⟨hs, rfl⟩
 rintro r ⟨hr, he⟩
 simp only [zn, zw, zS, qc, ql, zq, Sum.elim_inl, Sum.elim_inr, decide_eq_true_eq, decide_eq_false_iff_not]
 refine ⟨fun h1 => ?_, fun h1 => ?_⟩
 · have h0 : r ≠ [] := by rintro rfl; simp at h1
   rw [w64 (by omega) (by omega)]
   have e1 : ((r.length : Int) - 1).toNat = r.length - 1 := by omega
   rw [e1]
   refine ⟨by omega, _, List.getElem?_eq_getElem (by omega), ?_⟩
   rw [zag set _ h]
   simp only [zn, Bool.not_eq_true', Bool.not_eq_false']
   have hr2 : r = r.dropLast ++ [r[r.length - 1]'(by omega)] := by
    rw [<- List.getLast_eq_getElem h0]; exact (List.dropLast_concat_getLast h0).symm
   refine ⟨fun h2 => ?_, fun h2 => ⟨⟨by omega, by omega⟩, ⟨by simp; omega, ?_⟩, by simp; omega⟩⟩
   · rw [<- he]
     unfold jq
     rw [hr2]
     simp [h2]
   · rw [<- he]
     simp only [Int.toNat_zero, List.drop_zero]
     rw [<- List.dropLast_eq_take]
     conv => rhs; rw [hr2]
     unfold jq
     simp [h2]
 · have h0 : r = [] := List.length_eq_zero_iff.1 (by omega)
   rw [<- he, h0]; rfl
theorem zat (s : List UInt8) (set : List Bool) (h : set.length = 256) (hs : s.length <= 1000000000) : Fz9 s set = some (s.dropWhile (wP set)) := by
 unfold Fz9
 apply Tot.eq
 simp only [zq]
 refine Tot.loop (fun s => s.length) (fun r => r.length <= 1000000000 /\ r.dropWhile (wP set) = s.dropWhile (wP set)) ?_ ⟨hs, rfl⟩
 rintro r ⟨hr, he⟩
 simp only [zn, zw, zS, qc, ql, zq, Sum.elim_inl, Sum.elim_inr, decide_eq_true_eq, decide_eq_false_iff_not]
 cases r with
 | nil => simp [<- he]
 | cons a r =>
   refine ⟨fun h1 => ⟨by omega, a, rfl, ?_⟩, fun h1 => absurd h1 (by simp)⟩
   rw [zag set _ h]
   simp only [zn, Bool.not_eq_true', Bool.not_eq_false']
   refine ⟨fun h2 => ?_, fun h2 => ⟨by simp; omega, ⟨?_, ?_⟩, ?_⟩⟩
   · rw [<- he]; simp [h2]
   · simp at hr ⊢; omega
   · rw [<- he]; simp [h2]
   · simp
end Go.Sx.O
namespace Go.Sx.O
open Go
theorem znm {set : List Bool} {c d : UInt8} (h : set.length = 256) : wP (set.set c.toNat true) d = (decide (d = c) || wP set d) := by
 have hc : c.toNat < 256 := c.toNat_lt
 unfold wP
 rw [List.getD_eq_getElem?_getD, List.getD_eq_getElem?_getD, List.getElem?_set]
 by_cases e : c.toNat = d.toNat
 · have : d = c := (UInt8.toNat_inj.1 e).symm
   subst this
   simp [h, hc]
 · have : d ≠ c := fun e' => e (by rw [e'])
   simp [e, this]
theorem zbt (cs : List UInt8) (h : ∀ c ∈ cs, c.toNat < 128) (hs : cs.length <= 1000000000) : Tot (Fz6 cs) fun r => r.2 = true /\ r.1.length = 256 /\ ∀ d, wP r.1 d = decide (d ∈ cs) := by
 unfold Fz6
 simp only [zq]
 refine Tot.count cs.length (fun k s => s.1 = (k : Int) /\ s.2.length = 256 /\ ∀ d, wP s.2 d = decide (d ∈ cs.take k)) ?_ ⟨rfl, List.length_replicate, fun d => ?_⟩
 · rintro k ⟨i, set⟩ hk ⟨h0, h1, h2⟩
   simp only at h0 h1 h2
   subst h0
   simp only [zn, zw, zS, qc, ql, Sum.elim_inl, Sum.elim_inr, decide_eq_true_eq, decide_eq_false_iff_not, Int.toNat_natCast]
   refine ⟨fun hlt => ⟨by omega, _, List.getElem?_eq_getElem (by omega), fun h3 => ?_, fun h3 => ?_⟩, fun hlt => ?_⟩
   · have := h cs[k] (List.getElem_mem _)
     omega
   · have hc : cs[k].toNat < 256 := (cs[k]'(by omega)).toNat_lt
     refine ⟨⟨by omega, by omega⟩, by omega, _, List.getElem?_eq_getElem (by omega), ?_⟩
     rw [w64 (by omega) (by omega)]
     refine ⟨by omega, by omega, by simpa using h1, fun d => ?_⟩
     have hm : d ∈ cs.take (k + 1) ↔ d ∈ cs.take k \/ d = cs[k] := by
      rw [List.take_add_one, List.getElem?_eq_getElem (by omega), List.mem_append]
      simp
     rw [znm h1, h2, Bool.eq_iff_iff]
     simp only [Bool.or_eq_true, decide_eq_true_eq, hm]
     exact or_comm
   · refine ⟨trivial, h1, fun d => ?_⟩
     rw [h2, List.take_of_length_le (by omega)]
 · unfold wP
   rw [List.getD_eq_getElem?_getD, List.getElem?_replicate]
   split <;> simp
theorem zm9 (s cs : List UInt8) (h : ∀ c ∈ cs, c.toNat < 128) (h1 : 2 <= cs.length) (hs : cs.length <= 1000000000) (hl : s.length <= 1000000000) :
 Fz20 s cs = some ((jq (fun c => decide (c ∈ cs)) s).dropWhile (fun c => decide (c ∈ cs))) := by
 unfold Fz20
 have e0 : (ByteArray.mk #[]).data.toList = [] := rfl
 simp only [e0]
 cases s with
 | nil => simp [jq]
 | cons a r =>
   have e1 : decide (a :: r = []) = false := by simp
   have e2 : decide (cs = []) = false := by cases cs <;> simp at h1 ⊢
   have e3 : decide ((cs.length : Int) = 1) = false := by simp; omega
   simp only [e1, e2, e3, cond_false]
   obtain ⟨x, hx, hx1, hx2, hx3⟩ := zbt cs h hs
   have e4 : wP x.1 = fun c => decide (c ∈ cs) := funext hx3
   rw [hx]
   simp only [Option.bind_some, hx1, cond_true]
   rw [zai _ _ hx2 hl]
   simp only [Option.bind_some]
   rw [zat _ _ hx2 (by
    refine Nat.le_trans ?_ hl
    unfold jq
    rw [List.length_reverse]
    refine Nat.le_trans (List.dropWhile_sublist _).length_le (by simp))]
   rw [e4]
   rfl
def yj : List UInt8 := [97, 98, 99, 100, 101, 102, 103, 104, 105, 106, 107, 108, 109, 110, 111, 112, 113, 114, 115, 116, 117, 118, 119, 120, 121, 122, 48, 49, 50, 51, 52, 53, 54, 55, 56, 57, 45]
def uQ (s : List UInt8) : Bool := decide (s.length <= 16) && (match s with | [] => false | c :: _ => decide (97 <= c.toNat) && decide (c.toNat <= 122)) && s.all fun c => decide (c ∈ yj)
theorem zf2 (s : List UInt8) (hl : s.length <= 1000000000) : Fz21 s = some (uQ s) := by
 unfold Fz21
 have e0 : (ByteArray.mk #[]).data.toList = [] := rfl
 simp only [e0]
 rw [zm9 s _ (by decide) (by decide) (by decide) hl]
 cases s with
 | nil => rfl
 | cons a r =>
   have e1 : decide (a :: r = []) = false := by simp
   simp only [e1, cond_false, Option.bind_some]
   have e5 : idxO (a :: r) 0 = fun f => (f a : Option Bool) := rfl
   simp only [e5]
   unfold uQ
   by_cases h1 : (16 : Int) < ((a :: r).length : Int)
   · have : ¬ (a :: r).length <= 16 := by omega
     simp only [h1, decide_true, cond_true, this, decide_false, Bool.false_and]
   · have h1' : (a :: r).length <= 16 := by omega
     simp only [h1, decide_false, cond_false, h1', decide_true, Bool.true_and]
     by_cases h2 : (a.toNat : Int) < 97
     · have : ¬ 97 <= a.toNat := by omega
       simp only [h2, decide_true, cond_true, this, decide_false, Bool.false_and]
     · have h2' : 97 <= a.toNat := by omega
       simp only [h2, decide_false, cond_false, h2', decide_true, Bool.true_and]
       by_cases h3 : (122 : Int) < (a.toNat : Int)
       · have : ¬ a.toNat <= 122 := by omega
         simp only [h3, decide_true, cond_true, this, decide_false, Bool.false_and]
       · have h3' : a.toNat <= 122 := by omega
         simp only [h3, decide_false, cond_false, h3', decide_true, Bool.true_and]
         congr 1
         rw [Bool.eq_iff_iff, decide_eq_true_eq, zmh, List.all_eq_true]
         rfl
end Go.Sx.O
namespace Go.Sx.O
open Go
theorem zr1 : ∀ u : Fin 256, ∀ b : Fin 9, bits .and .u8 (Int.fdiv (u.val : Int) (2 ^ min b.val (IntKind.bits .u8))) 1 = if Nat.testBit u b then 1 else 0 := by decide +kernel
theorem uH {u : Int} {b : Nat} (h0 : 0 <= u) (h1 : u < 256) (hb : b <= 8) : bits .and .u8 (Int.fdiv u (2 ^ min b (IntKind.bits .u8))) 1 = if u.toNat.testBit b then 1 else 0 := by
 have := zr1 ⟨u.toNat, by omega⟩ ⟨b, by omega⟩
 simp only at this
 rw [Int.toNat_of_nonneg h0] at this
 exact this
theorem jf {u : Int} (h0 : 0 <= u) : BitVec.ofInt 8 u = BitVec.ofNat 8 u.toNat := by
 conv => lhs; rw [<- Int.toNat_of_nonneg h0]
 exact BitVec.ofInt_natCast 8 u.toNat
theorem zev {n : Nat} (h : n < 256) : IntKind.wrap .u8 (n : Int) = n := by
 simp only [IntKind.wrap, IntKind.signed, IntKind.bits, Bool.false_and]
 have h3 : (2 : Int) ^ 8 = 256 := by decide
 simp only [h3]
 have : (n : Int) % 256 = n := by omega
 simp [this]
theorem uW {a b : Int} (ha : 0 <= a) (ha' : a < 256) (hb : 0 <= b) (hb' : b < 256) : bits .and .u8 a b = ((a.toNat &&& b.toNat : Nat) : Int) := by
 have e : bits .and .u8 a b = IntKind.wrap .u8 ((BitVec.ofInt 8 a &&& BitVec.ofInt 8 b).toNat : Int) := rfl
 rw [e, jf ha, jf hb]
 rw [zev (BitVec.isLt _)]
 rw [BitVec.toNat_and, BitVec.toNat_ofNat, BitVec.toNat_ofNat, Nat.mod_eq_of_lt (by omega), Nat.mod_eq_of_lt (by omega)]
theorem zj1 {a b : Int} (ha : 0 <= a) (ha' : a < 256) (hb : 0 <= b) (hb' : b < 256) : bits .or .u8 a b = ((a.toNat ||| b.toNat : Nat) : Int) := by
 have e : bits .or .u8 a b = IntKind.wrap .u8 ((BitVec.ofInt 8 a ||| BitVec.ofInt 8 b).toNat : Int) := rfl
 rw [e, jf ha, jf hb]
 rw [zev (BitVec.isLt _)]
 rw [BitVec.toNat_or, BitVec.toNat_ofNat, BitVec.toNat_ofNat, Nat.mod_eq_of_lt (by omega), Nat.mod_eq_of_lt (by omega)]
theorem ug {a b : Int} (ha : 0 <= a) (ha' : a < 256) (hb : 0 <= b) (hb' : b < 256) : bits .andNot .u8 a b = 0 ↔ ∀ i, a.toNat.testBit i = true -> b.toNat.testBit i = true := by
 have e : bits .andNot .u8 a b = IntKind.wrap .u8 ((BitVec.ofInt 8 a &&& ~~~BitVec.ofInt 8 b).toNat : Int) := rfl
 rw [e, jf ha, jf hb]
 rw [zev (BitVec.isLt _)]
 have hbit : ∀ i, (BitVec.ofNat 8 a.toNat &&& ~~~BitVec.ofNat 8 b.toNat).getLsbD i = (decide (i < 8) && a.toNat.testBit i && !(b.toNat.testBit i)) := by
  intro i
  rw [BitVec.getLsbD_and, BitVec.getLsbD_not, BitVec.getLsbD_ofNat, BitVec.getLsbD_ofNat]
  cases decide (i < 8) <;> simp
 have h8 : ∀ i, a.toNat.testBit i = true -> i < 8 := by
  intro i hi
  rcases Nat.lt_or_ge i 8 with g | g
  · exact g
  · rw [Nat.testBit_lt_two_pow (Nat.lt_of_lt_of_le (show a.toNat < 2 ^ 8 by omega) (Nat.pow_le_pow_right (by omega) g))] at hi
    cases hi
 constructor
 · intro h i hi
   have h0 : (BitVec.ofNat 8 a.toNat &&& ~~~BitVec.ofNat 8 b.toNat).toNat = 0 := Int.ofNat_eq_zero.1 h
   have h1 := hbit i
   rw [<- BitVec.testBit_toNat, h0, Nat.zero_testBit] at h1
   have := h8 i hi
   simp [this, hi] at h1
   exact h1
 · intro h
   have h1 : (BitVec.ofNat 8 a.toNat &&& ~~~BitVec.ofNat 8 b.toNat).toNat = 0 := by
    apply Nat.eq_of_testBit_eq
    intro i
    rw [BitVec.testBit_toNat, hbit i, Nat.zero_testBit]
    cases hi : a.toNat.testBit i with
    | false => simp
    | true => simp [h i hi]
   rw [h1]; rfl
theorem za0 {a b : Nat} (h : a < 256) : a &&& b < 256 := Nat.lt_of_le_of_lt Nat.and_le_left h
theorem zsy {a b : Nat} (h : a < 256) (k : b < 256) : a ||| b < 256 := Nat.or_lt_two_pow (n := 8) h k
theorem zjh (ns : List (List UInt8)) (h : ns.length <= 20) (hn : ∀ s ∈ ns, s.length <= 1000) : Tot (Fz24 ns) fun r => r.2 = 0 -> 1 <= ns.length /\ ns.length <= 8 := by
 unfold Fz24
 simp only [zw, zn, zq, List.length_map, decide_eq_true_eq, decide_eq_false_iff_not]
 refine ⟨fun _ h => absurd h (by decide), fun h1 => ⟨fun _ h => absurd h (by decide), fun h2 => ?_⟩⟩
 refine Tot.count ns.length (fun k s => s = (k : Int)) ?_ rfl
 rintro k _ hk rfl
 simp only [zn, zw, zS, qc, ql, zq, Sum.elim_inl, Sum.elim_inr, decide_eq_true_eq, decide_eq_false_iff_not, Int.toNat_natCast]
 refine ⟨fun hlt => ⟨by omega, _, List.getElem?_eq_getElem (by omega), ?_⟩, fun hlt => fun _ => by omega⟩
 rw [zf2 _ (by have := hn ns[k] (List.getElem_mem _); omega), zn]
 refine ⟨fun _ h => absurd h (by decide), fun _ => ⟨⟨by omega, by omega⟩, ?_⟩⟩
 rw [yR _ _ (by simp; omega), zn]
 refine ⟨fun _ h => absurd h (by decide), fun _ => ?_⟩
 rw [w64 (by omega) (by omega)]
 exact ⟨by omega, by omega⟩
end Go.Sx.O
namespace Go.Sx.O
open Go
def U8s (l : List Int) : Prop := ∀ x ∈ l, 0 <= x /\ x < 256
theorem U8s.get {l : List Int} (h : U8s l) {i : Nat} {x : Int} (hx : l[i]? = some x) : 0 <= x /\ x < 256 := h x (List.mem_of_getElem? hx)
theorem U8s.set {l : List Int} (h : U8s l) {i : Nat} {x : Int} (h0 : 0 <= x) (h1 : x < 256) : U8s (l.set i x) := by
 intro y hy
 rcases List.mem_or_eq_of_mem_set hy with g | g
 · exact h y g
 · subst g; exact ⟨h0, h1⟩
theorem zim {e : Int} : 0 <= IntKind.wrap .u8 e /\ IntKind.wrap .u8 e < 256 := by
 simp only [IntKind.wrap, IntKind.signed, IntKind.bits, Bool.false_and]
 have h3 : (2 : Int) ^ 8 = 256 := by decide
 simp only [h3]
 refine ⟨?_, ?_⟩ <;> simp <;> omega
theorem orU {a b : Int} (ha : 0 <= a) (ha' : a < 256) (hb : 0 <= b) (hb' : b < 256) : 0 <= bits .or .u8 a b /\ bits .or .u8 a b < 256 := by
 rw [zj1 ha ha' hb hb']
 have := zsy (a := a.toNat) (b := b.toNat) (by omega) (by omega)
 omega
theorem zv {α : Type} {l : List α} {i : Nat} (h : i < l.length) : ∃ x, l[i]? = some x := ⟨_, List.getElem?_eq_getElem h⟩
theorem zn9 (l : TL) (hu : U8s l.Up) (hn : l.Names.length <= 8) (hl : l.Up.length <= 8) :
 Tot (Fz26 l) fun o => o.n_ = l.Names.length /\ o.up_.length = 8 /\ o.down_.length = 8 /\ U8s o.up_ /\ U8s o.down_ := by
 unfold Fz26
 simp only [zq, List.length_map]
 refine Tot.count l.Up.length (fun k s => s.1 = (k : Int) /\ s.2.1.length = 8 /\ s.2.2.length = 8 /\ U8s s.2.1 /\ U8s s.2.2) ?_ ⟨rfl, rfl, rfl, by intro x hx; simp at hx; omega, by intro x hx; simp at hx; omega⟩
 rintro k ⟨i, up, down⟩ hk ⟨h0, h1, h2, h3, h4⟩
 simp only at h0 h1 h2 h3 h4
 subst h0
 simp only [zn, zw, zS, qc, ql, zq, Sum.elim_inl, Sum.elim_inr, decide_eq_true_eq, decide_eq_false_iff_not, Int.toNat_natCast]
 refine ⟨fun hlt => ?_, fun hlt => ⟨trivial, h1, h2, h3, h4⟩⟩
 obtain ⟨x, hx⟩ := zv (l := l.Up) (i := k) (by omega)
 obtain ⟨y, hy⟩ := zv (l := up) (i := k) (by omega)
 refine ⟨by omega, x, hx, ⟨by omega, by omega⟩, by omega, y, hy, ?_⟩
 have hx' := hu.get hx
 refine Tot.count l.Names.length (fun j s => s.1 = (j : Int) /\ s.2.length = 8 /\ U8s s.2) ?_ ⟨rfl, h2, h4⟩
 rintro j ⟨i', d⟩ hj ⟨g0, g1, g2⟩
 simp only at g0 g1 g2
 subst g0
 simp only [zn, zw, zS, qc, ql, zq, Sum.elim_inl, Sum.elim_inr, decide_eq_true_eq, decide_eq_false_iff_not, Int.toNat_natCast]
 refine ⟨fun hlt' => ?_, fun _ => ?_⟩
 · obtain ⟨z, hz⟩ := zv (l := d) (i := j) (by omega)
   have hz' := g2.get hz
   rw [w64 (by omega) (by omega)]
   refine ⟨⟨by omega, by omega⟩, by omega, z, hz, by omega, by omega, ⟨by omega, by omega⟩, by omega, z, hz, by omega, by omega, by simpa using g1, ?_⟩
   have hw := zim (e := bits .and .u8 (Int.fdiv x (2 ^ min j (IntKind.bits .u8))) 1 * 2 ^ min k (IntKind.bits .u8))
   have ho := orU hz'.1 hz'.2 hw.1 hw.2
   exact g2.set ho.1 ho.2
 · rw [w64 (by omega) (by omega)]
   exact ⟨by omega, by omega, by simpa using h1, g1, h3.set hx'.1 hx'.2, g2⟩
theorem xQ (m : List Int) (n : Nat) (a b : Nat) (hm : m.length = 8) (hu : U8s m) (hn : n <= 8) (ha : a < n) (hb : b < n) : Tot (Fz27 m n a b) fun _ => True := by
 unfold Fz27
 obtain ⟨x, hx⟩ := zv (l := m) (i := a) (by omega)
 obtain ⟨y, hy⟩ := zv (l := m) (i := b) (by omega)
 simp only [zn, zw, zS, qc, ql, zq, Int.toNat_natCast]
 refine ⟨⟨by omega, by omega⟩, by omega, x, hx, ⟨by omega, by omega⟩, by omega, y, hy, ?_⟩
 refine Tot.count n (fun k s => s = (k : Int)) ?_ rfl
 rintro k _ hk rfl
 simp only [zn, zw, zS, qc, ql, zq, Sum.elim_inl, Sum.elim_inr, decide_eq_true_eq, decide_eq_false_iff_not, Int.toNat_natCast]
 refine ⟨fun hlt => ⟨by omega, fun _ => ?_, fun _ => ?_⟩, fun _ => trivial⟩
 · obtain ⟨z, hz⟩ := zv (l := m) (i := k) (by omega)
   rw [w64 (by omega) (by omega)]
   exact ⟨⟨by omega, by omega⟩, by omega, z, hz, fun _ => trivial, fun _ => ⟨by omega, by omega⟩⟩
 · rw [w64 (by omega) (by omega)]
   exact ⟨by omega, by omega⟩
theorem zby (m : List Int) (n : Nat) (a b : Nat) (hm : m.length = 8) (hu : U8s m) (hn : n <= 8) (ha : a < n) (hb : b < n) : Tot (Fz28 m n a b) fun _ => True := xQ m n a b hm hu hn ha hb
theorem zlr (x : Int) (h0 : 0 <= x) (h1 : x < 256) : Tot (Fz25 x) fun _ => True := by
 unfold Fz25
 rw [qc]
 refine ⟨h0, ?_⟩
 have key : ∀ l : List UInt8, l.length = 256 -> ∃ y, l[x.toNat]? = some y /\ Tot (letO (IntKind.wrap .i64 (y.toNat : Int)) fun z => some z) fun _ => True := by
  intro l hl
  obtain ⟨y, hy⟩ := zv (l := l) (i := x.toNat) (by omega)
  exact ⟨y, hy, .mk trivial⟩
 exact key _ (by decide +kernel)
def up (l : TL) (a b : Nat) : Bool := (l.Up.getD a 0).toNat.testBit b
def jt (l : TL) (a b : Nat) : Prop := up l a b = true -> (b ≠ a -> up l b a = false) /\ ∀ i, i < l.Names.length -> up l b i = true -> up l a i = true
structure LatOK (l : TL) : Prop where
 pos : 1 <= l.Names.length
 le : l.Names.length <= 8
 len : l.Up.length = l.Names.length
 u8 : U8s l.Up
 self : ∀ a, a < l.Names.length -> up l a a = true
 row : ∀ a, a < l.Names.length -> ∀ b, b < l.Names.length -> jt l a b
theorem yI {l : TL} {a : Nat} {x : Int} (h : l.Up[a]? = some x) (b : Nat) : up l a b = x.toNat.testBit b := by
 unfold up; rw [List.getD_eq_getElem?_getD, h]; rfl
theorem ziw (n : Nat) (h : n <= 8) (i : Nat) : (IntKind.wrap .u8 (IntKind.wrap .u8 (1 * 2 ^ min n (IntKind.bits .u8)) - 1)).toNat.testBit i = decide (i < n) := by
 have key : ∀ n : Fin 9, (IntKind.wrap .u8 (IntKind.wrap .u8 (1 * 2 ^ min n.val (IntKind.bits .u8)) - 1)).toNat = 2 ^ n.val - 1 := by decide +kernel
 rw [key ⟨n, by omega⟩]
 exact Nat.testBit_two_pow_sub_one n i
theorem zfh (l : TL) (hu : U8s l.Up) (hn : l.Names.length <= 20) (hs : ∀ s ∈ l.Names, s.length <= 1000) : Tot (Fz29 l) fun r => r.2 = 0 -> LatOK l := by
 unfold Fz29
 simp only [zq, List.length_map]
 refine (zjh l.Names hn hs).mono fun x53 h53 => ?_
 simp only [zw, zn, Bool.not_eq_true', Bool.not_eq_false', decide_eq_true_eq, decide_eq_false_iff_not]
 refine ⟨fun h h' => absurd h' h, fun h => ⟨fun _ h' => absurd h' (by decide), fun hlen => ?_⟩⟩
 obtain ⟨p1, p8⟩ := h53 h
 have hlen' : l.Up.length = l.Names.length := by omega
 rw [ql, zS, zS, zq]
 refine ⟨by omega, ?_⟩
 rw [Int.toNat_natCast]
 have hmask := ziw l.Names.length p8
 have hm0 := zim (e := IntKind.wrap .u8 (1 * 2 ^ min l.Names.length (IntKind.bits .u8)) - 1)
 revert hmask hm0
 generalize IntKind.wrap .u8 (IntKind.wrap .u8 (1 * 2 ^ min l.Names.length (IntKind.bits .u8)) - 1) = mask
 intro hmask hm0
 refine Tot.count l.Names.length (fun k s => s = (k : Int) /\ (∀ a, a < k -> up l a a = true) /\ ∀ a, a < k -> ∀ b, b < l.Names.length -> jt l a b) ?_ ⟨rfl, fun a ha => absurd ha (by omega), fun a ha => absurd ha (by omega)⟩
 rintro k _ hk ⟨rfl, hself, hrow⟩
 simp only [zw, zn, zS, Sum.elim_inl, Sum.elim_inr, decide_eq_true_eq, decide_eq_false_iff_not]
 refine ⟨fun hlt => ?_, fun hlt => ?_⟩
 · -- a round
   simp only [qc, Int.toNat_natCast]
   obtain ⟨x, hx⟩ := zv (l := l.Up) (i := k) (by omega)
   have hx' := hu.get hx
   refine ⟨by omega, x, hx, ?_⟩
   rw [zq]
   refine (zlr x hx'.1 hx'.2).mono fun x91 _ => ?_
   simp only [zw, zn, ql, Sum.elim_inl, Sum.elim_inr, decide_eq_true_eq, decide_eq_false_iff_not, Int.toNat_natCast]
   refine ⟨fun _ h' => absurd h' (by decide), fun _ => ⟨by omega, fun _ h' => absurd h' (by decide), fun hs => ?_⟩⟩
   rw [uH hx'.1 hx'.2 (by omega), <- yI hx] at hs
   have hkk : up l k k = true := by
    cases e : up l k k with
    | true => rfl
    | false => rw [e] at hs; simp at hs
   rw [zq]
   refine Tot.count l.Names.length (fun j s => s = (j : Int) /\ ∀ b, b < j -> jt l k b) ?_ ⟨rfl, fun b hb => absurd hb (by omega)⟩
   rintro j _ hj ⟨rfl, hr⟩
   have fin : (∀ b, b < l.Names.length -> jt l k b) -> k < l.Names.length /\ IntKind.wrap .i64 ((k : Int) + 1) = ((k + 1 : Nat) : Int) /\ (∀ a, a < k + 1 -> up l a a = true) /\ ∀ a, a < k + 1 -> ∀ b, b < l.Names.length -> jt l a b := by
    intro hall
    rw [w64 (by omega) (by omega)]
    refine ⟨by omega, by omega, fun a ha => ?_, fun a ha => ?_⟩
    · rcases Nat.lt_or_ge a k with g | g
      · exact hself a g
      · have : a = k := by omega
        subst this; exact hkk
    · rcases Nat.lt_or_ge a k with g | g
      · exact hrow a g
      · have : a = k := by omega
        subst this; exact hall
   have ext : ∀ {b}, jt l k j -> b < j + 1 -> jt l k b := by
    intro b h hb
    rcases Nat.lt_or_ge b j with g | g
    · exact hr b g
    · have : b = j := by omega
      subst this; exact h
   simp only [zw, zn, zS, ql, Sum.elim_inl, Sum.elim_inr, decide_eq_true_eq, decide_eq_false_iff_not, Bool.not_eq_true', Bool.not_eq_false', Int.toNat_natCast]
   refine ⟨fun hjl => ?_, fun hjl => ?_⟩
   · simp only [qc, Int.toNat_natCast]
     obtain ⟨y, hy⟩ := zv (l := l.Up) (i := j) (by omega)
     have hy' := hu.get hy
     refine ⟨by omega, y, hy, ?_⟩
     simp only [zw, zn, zS, ql, Sum.elim_inl, Sum.elim_inr, decide_eq_true_eq, decide_eq_false_iff_not, Bool.not_eq_true', Bool.not_eq_false', Int.toNat_natCast]
     rw [uH hx'.1 hx'.2 (by omega), <- yI hx]
     rw [w64 (e := (l.Names.length : Int) - 1) (by omega) (by omega)]
     have stay : jt l k j -> ((j : Int) = (l.Names.length : Int) - 1 -> k < l.Names.length /\ IntKind.wrap .i64 ((k : Int) + 1) = ((k + 1 : Nat) : Int) /\ (∀ a, a < k + 1 -> up l a a = true) /\ ∀ a, a < k + 1 -> ∀ b, b < l.Names.length -> jt l a b) /\ (¬ (j : Int) = (l.Names.length : Int) - 1 -> j < l.Names.length /\ IntKind.wrap .i64 ((j : Int) + 1) = ((j + 1 : Nat) : Int) /\ ∀ b, b < j + 1 -> jt l k b) := by
      intro hrow'
      refine ⟨fun e => fin fun b hb => ext hrow' (by omega), fun e => ?_⟩
      rw [w64 (by omega) (by omega)]
      exact ⟨by omega, by omega, fun b hb => ext hrow' hb⟩
     refine ⟨by omega, fun hb => ?_, fun hb => ⟨fun hne => ⟨by omega, fun _ h' => absurd h' (by decide), fun hba => ⟨fun _ h' => absurd h' (by decide), fun han => ?_⟩⟩, fun heq => ⟨fun _ h' => absurd h' (by decide), fun han => ?_⟩⟩⟩
     · refine stay fun hup => ?_
       rw [hup] at hb; simp at hb
     · refine stay fun _ => ⟨fun _ => ?_, fun i hi hyi => ?_⟩
       · rw [uH hy'.1 hy'.2 (by omega), <- yI hy] at hba
         cases e : up l j k with
         | false => rfl
         | true => rw [e] at hba; simp at hba
       · rw [uW hy'.1 hy'.2 hm0.1 hm0.2] at han
         have hand := za0 (a := y.toNat) (b := mask.toNat) (by omega)
         have := (ug (by omega) (by omega) hx'.1 hx'.2).1 han i (by
          rw [Int.toNat_natCast, Nat.testBit_and, hmask, <- yI hy, hyi]; simp [hi])
         rw [yI hx]; exact this
     · refine stay fun _ => ⟨fun hne => absurd (by omega) hne, fun i hi hyi => ?_⟩
       rw [uW hy'.1 hy'.2 hm0.1 hm0.2] at han
       have hand := za0 (a := y.toNat) (b := mask.toNat) (by omega)
       have := (ug (by omega) (by omega) hx'.1 hx'.2).1 han i (by
        rw [Int.toNat_natCast, Nat.testBit_and, hmask, <- yI hy, hyi]; simp [hi])
       rw [yI hx]; exact this
   · exact fin fun b hb => hr b (by omega)
 · -- the end
   have hk' : k = l.Names.length := by omega
   subst hk'
   have good : LatOK l := ⟨p1, p8, hlen', hu, hself, hrow⟩
   rw [zq]
   refine (zn9 l hu p8 (by omega)).mono fun o ho => ?_
   obtain ⟨_, o1, o2, o3, o4⟩ := ho
   rw [zq]
   refine Tot.count l.Names.length (fun j s => s = (j : Int)) ?_ rfl
   rintro j _ hj rfl
   simp only [zw, zn, zS, zq, Sum.elim_inl, Sum.elim_inr, decide_eq_true_eq, decide_eq_false_iff_not]
   refine ⟨fun hlt => ?_, fun _ _ => good⟩
   refine Tot.count l.Names.length (fun i s => s = (i : Int)) ?_ rfl
   rintro i _ hi rfl
   simp only [zw, zn, zS, zq, Sum.elim_inl, Sum.elim_inr, decide_eq_true_eq, decide_eq_false_iff_not]
   refine ⟨fun hlt' => ?_, fun _ => ?_⟩
   · refine (xQ _ _ _ _ o1 o3 p8 (by omega) (by omega)).mono fun b1 _ => ⟨fun _ h' => absurd h' (by decide), fun _ => ?_⟩
     refine (zby _ _ _ _ o2 o4 p8 (by omega) (by omega)).mono fun b2 _ => ⟨fun _ h' => absurd h' (by decide), fun _ => ?_⟩
     rw [w64 (by omega) (by omega)]
     exact ⟨by omega, by omega⟩
   · rw [w64 (by omega) (by omega)]
     exact ⟨by omega, by omega⟩
end Go.Sx.O
namespace Go.Sx.O
open Go
structure LatIn (l : TL) : Prop where
 u8 : U8s l.Up
 names : l.Names.length <= 20
 name : ∀ s ∈ l.Names, s.length <= 1000
noncomputable def latR (l : TL) : Int × Int := (Fz29 l).getD (0, 0)
theorem uA {l : TL} (h : LatIn l) : Fz29 l = some (latR l) := by
 obtain ⟨r, e, _⟩ := zfh l h.u8 h.names h.name
 unfold latR; rw [e]; rfl
theorem yr {l : TL} (h : LatIn l) (k : (latR l).2 = 0) : LatOK l := by
 obtain ⟨r, e, q⟩ := zfh l h.u8 h.names h.name
 have := uA h
 rw [e] at this; cases this
 exact q k
def qM (l : TL) (a : Int) : Bool := decide (0 <= a) && decide (a < (l.Names.length : Int))
noncomputable def askE (l : TL) (xs : List Int) : Int := if (latR l).2 = 0 then (if xs.all (qM l) then 0 else 7) else (latR l).2
theorem zjn {l : TL} (h : LatIn l) (xs : List Int) (hx : xs.length <= 1000000000) : Fz41 l xs = some (askE l xs) := by
 unfold Fz41 askE
 rw [uA h]
 simp only [Option.bind_some]
 by_cases h0 : (latR l).2 = 0
 · simp only [h0, decide_true, Bool.not_true, cond_false, if_true]
   apply Tot.eq
   simp only [zq, List.length_map]
   refine Tot.count xs.length (fun k s => s = (k : Int) /\ (xs.take k).all (qM l) = true) ?_ ⟨rfl, by simp⟩
   rintro k _ hk ⟨rfl, hall⟩
   simp only [zw, zn, zS, qc, Sum.elim_inl, Sum.elim_inr, decide_eq_true_eq, decide_eq_false_iff_not, Int.toNat_natCast]
   refine ⟨fun hlt => ?_, fun hlt => ?_⟩
   · obtain ⟨x, hx'⟩ := zv (l := xs) (i := k) (by omega)
     have hm := List.mem_of_getElem? hx'
     have bad : qM l x = false -> (7 : Int) = if xs.all (qM l) = true then 0 else 7 := by
      intro e
      have : xs.all (qM l) = false := by
       rw [List.all_eq_false]; exact ⟨x, hm, by simp [e]⟩
      simp [this]
     refine ⟨by omega, x, hx', fun g => bad (by unfold qM; simp; omega), fun g1 => ⟨fun g => bad (by unfold qM; simp; omega), fun g2 => ?_⟩⟩
     rw [w64 (by omega) (by omega)]
     refine ⟨by omega, by omega, ?_⟩
     rw [List.take_add_one, hx', List.all_append, hall]
     simp [qM]; omega
   · rw [List.take_of_length_le (by omega)] at hall
     simp [hall]
 · simp only [h0, decide_false, Bool.not_false, cond_true, if_false]
noncomputable def sees (l : TL) (a o : Int) : Bool := decide ((latR l).2 = 0) && qM l a && qM l o && up l a.toNat o.toNat
end Go.Sx.O
namespace Go.Sx.O
open Go
theorem xS (x : Int) : Tot (Fz15 x) fun _ => True := by
 unfold Fz15
 simp only [zw, zn, implies_true, and_self]
end Go.Sx.O
namespace Go.Sx.O
open Go
theorem ze1 {l : List UInt8} {c : UInt8} (h : c ∉ l) : Lib.indexByte l c = -1 := by
 induction l with
 | nil => rfl
 | cons a l ih =>
   simp only [List.mem_cons, not_or] at h
   have : (a == c) = false := by simp; exact fun e => h.1 e.symm
   simp [Lib.indexByte, this, ih h.2]
theorem zl2 {r : Int} (h0 : 128 <= r) (h1 : r < 256) : ∃ x y, (Utf8.encode r).data.toList = [x, y] /\ 128 <= y.toNat := by
 refine ⟨UInt8.ofNat (0xC0 + r.toNat / 64), UInt8.ofNat (0x80 + r.toNat % 64), ?_, ?_⟩
 · have hv : Utf8.valid r = true := by unfold Utf8.valid; simp; omega
   unfold Utf8.encode
   simp only [hv, if_true]
   rw [if_neg (by omega), if_pos (by omega)]
 · rw [UInt8.toNat_ofNat']; omega
theorem zdx (s : List UInt8) (r : Int) (hs : ∀ c ∈ s, c.toNat < 128) (hl : s.length <= 1000) (h0 : 0 <= r) (h1 : r < 256) : Tot (Fz16 s r) fun _ => True := by
 unfold Fz16
 have e0 : decide (0 <= r) = true := by simp [h0]
 simp only [e0, cond_true]
 rw [zw]
 refine ⟨fun _ => ?_, fun h2 => ?_⟩
 · rw [zS, zq]
   unfold Fz14 zW
   simp only [Option.bind_some, zn]
 · simp only [decide_eq_false_iff_not] at h2
   obtain ⟨x, y, exy, hy⟩ := zl2 (r := r) (by omega) h1
   have e1 : decide (r = 65533) = false := by simp; omega
   simp only [e1, cond_false, exy]
   rw [zq]
   refine (xS r).mono fun v _ => ?_
   rw [zw]
   refine ⟨fun _ => .mk trivial, fun _ => ?_⟩
   rw [zS]
   have e2 : IntKind.wrap .i64 (((List.length [x, y] : Nat) : Int) - 1) = 1 := rfl
   rw [e2, zq]
   refine Tot.loop (fun _ => 0) (fun _ => True) (fun _ _ => ?_) trivial
   rw [zw]
   refine ⟨fun h3 => ?_, fun _ => ?_⟩
   · simp only [decide_eq_true_eq] at h3
     obtain ⟨c, hc⟩ := zv (l := s) (i := 1) (by omega)
     have hc' := hs c (List.mem_of_getElem? hc)
     have e3 : (1 : Int).toNat = 1 := rfl
     simp only [qc, e3]
     refine ⟨by omega, c, hc, by omega, y, rfl, ?_⟩
     have e4 : decide ((c.toNat : Int) = (y.toNat : Int)) = false := by simp; omega
     simp only [e4, Bool.not_false, cond_true]
     rw [zS]
     have e5 : IntKind.wrap .i64 (1 + 1) = 2 := rfl
     rw [e5, ql]
     refine ⟨by omega, ?_⟩
     simp only [qc, e3]
     refine ⟨by omega, y, rfl, ?_⟩
     unfold Fz14 zW
     simp only [Option.bind_some]
     have hn : ((y.toNat : Int).toNat.toUInt8) = y := by simp
     rw [hn, ze1 (fun hm => by
      have := hs y (List.mem_of_mem_take (List.mem_of_mem_drop hm))
      omega)]
     have e6 : decide ((-1 : Int) < 0) = true := rfl
     simp only [e6, cond_true, zn, Sum.elim_inr]
   · simp only [zn, Sum.elim_inr, Sum.elim_inl]
theorem zay (s : List UInt8) (r : Int) (hs : ∀ c ∈ s, c.toNat < 128) (hl : s.length <= 1000) (h0 : 0 <= r) (h1 : r < 256) : Tot (Fz17 s r) fun _ => True := by
 unfold Fz17
 rw [zq]
 exact (zdx s r hs hl h0 h1).mono fun _ _ => .mk trivial
theorem zhm {r : Int} (h0 : 0 <= r) (h1 : r < 256) : IntKind.wrap .i32 r = r := by
 simp only [IntKind.wrap, IntKind.signed, IntKind.bits]
 have h3 : (2 : Int) ^ 32 = 4294967296 := by decide
 have h4 : (2 : Int) ^ (32 - 1) = 2147483648 := by decide
 simp only [h3, h4, Bool.true_and, decide_eq_true_eq, ge_iff_le]
 split <;> omega
end Go.Sx.O
