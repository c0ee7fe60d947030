/-
  THE PLAIN STRUCT TYPES, and their symbolic values. Printed by a program. An own text.
  WHAT THE LIBRARY's BODILESS FUNCTIONS RETURN. An own text.
  DATA AS THEY COME: numbers in their kinds' ranges. Printed by a program. An own text.
  PLAIN FUNCTIONS: what the program computes. Printed by a program. An own text.
  PLAIN LAWS of the library's functions and of words, lattice. An own text.
  PLAIN LAWS: slices.Index, strings.Trim, words.Name. An own text.
  PLAIN LAWS: strings.Trim over ASCII, words.Name. An own text.
  PLAIN LAWS: bits; lattice.named, .of, .bound. An own text.
  PLAIN LAWS: lattice.of, .bound, .Check, .Leq. An own text.
  PLAIN LAWS: lattice.Leq; what an observer sees. An own text.
  PLAIN LAWS: shapes, arrays; arrays and events that are the same. An own text.
  PLAIN LAWS: expr.Name returns. An own text.
-/
import Derived.Test.YtpblckfedfcdkaaGreatDoorA6
import Derived.Lib.Bytealg
namespace Go.Sx.O
structure TR where
 s_ : List UInt8
 at_ : Int
def zO (x : TR) : SV := .agg [SV.str x.s_, (SV.int .i64) x.at_]
theorem zpy {p : Nat -> Prop} (x : TR) : (zO x).nmd p := ⟨trivial, trivial, trivial⟩
structure TF where
 low_ : Int
 high_ : Int
def zqu (x : TF) : SV := .agg [(SV.int .i64) x.low_, (SV.int .i64) x.high_]
theorem zrw {p : Nat -> Prop} (x : TF) : (zqu x).nmd p := ⟨trivial, trivial, trivial⟩
structure TL where
 Names : List (List UInt8)
 Up : List (Int)
def qd (x : TL) : SV := .agg [(zj 1 SV.str) x.Names, (zj 1 (SV.int .u8)) x.Up]
theorem zlk {p : Nat -> Prop} (x : TL) : (qd x).nmd p := ⟨(wj fun _ => trivial), (wj fun _ => trivial), trivial⟩
structure TU where
 From : Int
 Goal : Int
 K : Int
def yb (x : TU) : SV := .agg [(SV.int .i64) x.From, (SV.int .i64) x.Goal, (SV.int .i64) x.K]
theorem zp6 {p : Nat -> Prop} (x : TU) : (yb x).nmd p := ⟨trivial, trivial, trivial, trivial⟩
structure TG where
 Lattice : TL
 bottom_ : Int
def zqx (x : TG) : SV := .agg [qd x.Lattice, (SV.int .i64) x.bottom_]
theorem zru {p : Nat -> Prop} (x : TG) : (zqx x).nmd p := ⟨(zlk _), trivial, trivial⟩
structure TK where
 Kind : Int
 From : Int
 To : Int
 N : Int
 S : List UInt8
def zI (x : TK) : SV := .agg [(SV.int .i64) x.Kind, (SV.int .i64) x.From, (SV.int .i64) x.To, (SV.int .i64) x.N, SV.str x.S]
theorem zrt {p : Nat -> Prop} (x : TK) : (zI x).nmd p := ⟨trivial, trivial, trivial, trivial, trivial, trivial⟩
structure Tlattice_order where
 n_ : Int
 up_ : List (Int)
 down_ : List (Int)
def zS (x : Tlattice_order) : SV := .agg [(SV.int .i64) x.n_, (encA 8 1 (SV.int .u8)) x.up_, (encA 8 1 (SV.int .u8)) x.down_]
theorem zmg {p : Nat -> Prop} (x : Tlattice_order) : (zS x).nmd p := ⟨trivial, (wj fun _ => trivial), (wj fun _ => trivial), trivial⟩
structure TY where
 Kind : Int
 Rank : Int
 Axes : (Int) × (Int)
 Data : Int
def wC (x : TY) : SV := .agg [(SV.int .i64) x.Kind, (SV.int .i64) x.Rank, (wW 1 (SV.int .i64)) x.Axes, (SV.int .i64) x.Data]
theorem zhg {p : Nat -> Prop} (x : TY) : (wC x).nmd p := ⟨trivial, trivial, ⟨trivial, trivial, trivial⟩, trivial, trivial⟩
structure TA where
 Kind : Int
 Rank : Int
 Lens : (Int) × (Int)
 Cells : List (Int)
def yn (x : TA) : SV := .agg [(SV.int .i64) x.Kind, (SV.int .i64) x.Rank, (wW 1 (SV.int .i64)) x.Lens, (zj 1 (SV.int .i64)) x.Cells]
theorem zly {p : Nat -> Prop} (x : TA) : (yn x).nmd p := ⟨trivial, trivial, ⟨trivial, trivial, trivial⟩, (wj fun _ => trivial), trivial⟩
structure TV where
 Name : List UInt8
 Type_ : TY
def qg (x : TV) : SV := .agg [SV.str x.Name, wC x.Type_]
theorem zp9 {p : Nat -> Prop} (x : TV) : (qg x).nmd p := ⟨trivial, (zhg _), trivial⟩
structure TW where
 Name : List UInt8
 Value : TA
def zE (x : TW) : SV := .agg [SV.str x.Name, yn x.Value]
theorem zqp {p : Nat -> Prop} (x : TW) : (zE x).nmd p := ⟨trivial, (zly _), trivial⟩
structure TE where
 Site : Int
 Fold : Int
 From : Int
 Goal : Int
 Cells : Int
 Value : (Int) × (Int)
def zk4 (x : TE) : SV := .agg [(SV.int .i64) x.Site, (SV.int .i64) x.Fold, (SV.int .i64) x.From, (SV.int .i64) x.Goal, (SV.int .i64) x.Cells, (wW 1 (SV.int .i64)) x.Value]
theorem zpx {p : Nat -> Prop} (x : TE) : (zk4 x).nmd p := ⟨trivial, trivial, trivial, trivial, trivial, ⟨trivial, trivial, trivial⟩, trivial⟩
structure TEvEvent where
 Kind : Int
 Site : Int
 Steps : Int
 Label : Int
 Channel : List UInt8
 Value : TA
 E : Int
def zal (x : TEvEvent) : SV := .agg [(SV.int .i64) x.Kind, (SV.int .i64) x.Site, (SV.int .i64) x.Steps, (SV.int .i64) x.Label, SV.str x.Channel, yn x.Value, (SV.int .i64) x.E]
theorem zf7 {p : Nat -> Prop} (x : TEvEvent) : (zal x).nmd p := ⟨trivial, trivial, trivial, trivial, trivial, (zly _), trivial, trivial⟩
structure TP where
 Lattice : TL
 Channels : List (TR)
 Vars : List (TV)
 Rules : List (TU)
def qu (x : TP) : SV := .agg [qd x.Lattice, (zj 2 zO) x.Channels, (zj 6 qg) x.Vars, (zj 3 yb) x.Rules]
theorem zrx {p : Nat -> Prop} (x : TP) : (qu x).nmd p := ⟨(zlk _), (wj fun _ => (zpy _)), (wj fun _ => (zp9 _)), (wj fun _ => (zp6 _)), trivial⟩
structure Tinvigilatorlaw28_Types where
 V : TY
 Y : TY
 From : Int
 Goal : Int
 PC : Int
 EC : Int
 Lower : Int
 Top : Int
def jD (x : Tinvigilatorlaw28_Types) : SV := .agg [wC x.V, wC x.Y, (SV.int .i64) x.From, (SV.int .i64) x.Goal, (SV.int .i64) x.PC, (SV.int .i64) x.EC, (SV.int .i64) x.Lower, (SV.int .i64) x.Top]
theorem zep {p : Nat -> Prop} (x : Tinvigilatorlaw28_Types) : (jD x).nmd p := ⟨(zhg _), (zhg _), trivial, trivial, trivial, trivial, trivial, trivial, trivial⟩
structure TC where
 Events : List (TEvEvent)
 Log : List (TE)
 Vars : List (TW)
 Steps : Int
def zql (x : TC) : SV := .agg [(zj 11 zal) x.Events, (zj 7 zk4) x.Log, (zj 6 zE) x.Vars, (SV.int .i64) x.Steps]
theorem zrv {p : Nat -> Prop} (x : TC) : (zql x).nmd p := ⟨(wj fun _ => (zf7 _)), (wj fun _ => (zpx _)), (wj fun _ => (zqp _)), trivial, trivial⟩
end Go.Sx.O
namespace Go.Sx.O
noncomputable def zQ (a0 : List UInt8) (a1 : Int) : Option Int := some (Go.Lib.indexByte a0 a1.toNat.toUInt8)
end Go.Sx.O
namespace Go.Sx.O
open Go
def inK (k : IntKind) (n : Int) : Prop := k.min <= n /\ n <= k.max
def allW {α : Type} (W : α -> Prop) (l : List α) : Prop := ∀ x ∈ l, W x
def w2 {α : Type} (W : α -> Prop) (p : α × α) : Prop := W p.1 /\ W p.2
def w3 {α : Type} (W : α -> Prop) (p : α × α × α) : Prop := W p.1 /\ W p.2.1 /\ W p.2.2
def wN {α : Type} (n : Nat) (W : α -> Prop) (l : List α) : Prop := l.length = n /\ ∀ x ∈ l, W x
structure W_TR (x : TR) : Prop where
 s_ : (fun _ => True) x.s_
 at_ : (inK .i64) x.at_
structure W_TF (x : TF) : Prop where
 low_ : (inK .i64) x.low_
 high_ : (inK .i64) x.high_
structure W_TL (x : TL) : Prop where
 Names : (allW (fun _ => True)) x.Names
 Up : (allW (inK .u8)) x.Up
structure W_TU (x : TU) : Prop where
 From : (inK .i64) x.From
 Goal : (inK .i64) x.Goal
 K : (inK .i64) x.K
structure W_TG (x : TG) : Prop where
 Lattice : W_TL x.Lattice
 bottom_ : (inK .i64) x.bottom_
structure W_TK (x : TK) : Prop where
 Kind : (inK .i64) x.Kind
 From : (inK .i64) x.From
 To : (inK .i64) x.To
 N : (inK .i64) x.N
 S : (fun _ => True) x.S
structure W_Tlattice_order (x : Tlattice_order) : Prop where
 n_ : (inK .i64) x.n_
 up_ : (wN 8 (inK .u8)) x.up_
 down_ : (wN 8 (inK .u8)) x.down_
structure W_TY (x : TY) : Prop where
 Kind : (inK .i64) x.Kind
 Rank : (inK .i64) x.Rank
 Axes : (w2 (inK .i64)) x.Axes
 Data : (inK .i64) x.Data
structure W_TA (x : TA) : Prop where
 Kind : (inK .i64) x.Kind
 Rank : (inK .i64) x.Rank
 Lens : (w2 (inK .i64)) x.Lens
 Cells : (allW (inK .i64)) x.Cells
structure W_TV (x : TV) : Prop where
 Name : (fun _ => True) x.Name
 Type_ : W_TY x.Type_
structure W_TW (x : TW) : Prop where
 Name : (fun _ => True) x.Name
 Value : W_TA x.Value
structure W_TE (x : TE) : Prop where
 Site : (inK .i64) x.Site
 Fold : (inK .i64) x.Fold
 From : (inK .i64) x.From
 Goal : (inK .i64) x.Goal
 Cells : (inK .i64) x.Cells
 Value : (w2 (inK .i64)) x.Value
structure W_TEvEvent (x : TEvEvent) : Prop where
 Kind : (inK .i64) x.Kind
 Site : (inK .i64) x.Site
 Steps : (inK .i64) x.Steps
 Label : (inK .i64) x.Label
 Channel : (fun _ => True) x.Channel
 Value : W_TA x.Value
 E : (inK .i64) x.E
structure W_TP (x : TP) : Prop where
 Lattice : W_TL x.Lattice
 Channels : (allW W_TR) x.Channels
 Vars : (allW W_TV) x.Vars
 Rules : (allW W_TU) x.Rules
structure W_Tinvigilatorlaw28_Types (x : Tinvigilatorlaw28_Types) : Prop where
 V : W_TY x.V
 Y : W_TY x.Y
 From : (inK .i64) x.From
 Goal : (inK .i64) x.Goal
 PC : (inK .i64) x.PC
 EC : (inK .i64) x.EC
 Lower : (inK .i64) x.Lower
 Top : (inK .i64) x.Top
structure W_TC (x : TC) : Prop where
 Events : (allW W_TEvEvent) x.Events
 Log : (allW W_TE) x.Log
 Vars : (allW W_TW) x.Vars
 Steps : (inK .i64) x.Steps
end Go.Sx.O
namespace Go.Sx.O
noncomputable def Fz0 (a0 : List (List UInt8)) : Option (Bool) :=
 Option.bind (
 lpO (fun (s25 : Int) =>
 cond (decide (s25 < (↑(List.length (List.map SV.str a0)) : Int)))
 (cond (decide (s25 < 20))
 (idxO a0 s25 fun x31 =>
 cond (decide (100 < (↑(List.length x31) : Int)))
 (some (.inr (.inr (true))))
 (letO (IntKind.wrap .i64 (s25 + 1)) fun x33 =>
 some (.inl x33)))
 (some (.inr (.inl ()))))
 (some (.inr (.inl ())))) (0))
 (Sum.elim (fun (s23 : Unit) =>
 some (decide (12 < (↑(List.length (List.map SV.str a0)) : Int)))) some)
noncomputable def Fz1 (a0 : TL) : Option (Bool) :=
 (Fz0 (a0.Names)).bind fun x34 =>
 cond x34
 (some (true))
 (some (decide (12 < (↑(List.length (List.map (SV.int .u8) a0.Up)) : Int))))
noncomputable def Fz2 (a0 : TP) : Option (Bool) :=
 Option.bind (
 lpO (fun (s3 : Int) =>
 cond (decide (s3 < (↑(List.length (List.map zO a0.Channels)) : Int)))
 (cond (decide (s3 < 25))
 (idxO (a0.Channels) s3 fun x9 =>
 cond (decide (100 < (↑(List.length x9.s_) : Int)))
 (some (.inr (.inr (true))))
 (letO (IntKind.wrap .i64 (s3 + 1)) fun x11 =>
 some (.inl x11)))
 (some (.inr (.inl ()))))
 (some (.inr (.inl ())))) (0))
 (Sum.elim (fun (s1 : Unit) =>
 Option.bind (
 lpO (fun (s14 : Int) =>
 cond (decide (s14 < (↑(List.length (List.map qg a0.Vars)) : Int)))
 (cond (decide (s14 < 45))
 (idxO (a0.Vars) s14 fun x20 =>
 cond (decide (100 < (↑(List.length x20.Name) : Int)))
 (some (.inr (.inr (true))))
 (letO (IntKind.wrap .i64 (s14 + 1)) fun x22 =>
 some (.inl x22)))
 (some (.inr (.inl ()))))
 (some (.inr (.inl ())))) (0))
 (Sum.elim (fun (s12 : Unit) =>
 (Fz1 (a0.Lattice)).bind fun x36 =>
 cond x36
 (some (true))
 (cond (decide (20 < (↑(List.length (List.map zO a0.Channels)) : Int)))
 (some (true))
 (cond (decide (40 < (↑(List.length (List.map qg a0.Vars)) : Int)))
 (some (true))
 (some (decide (70 < (↑(List.length (List.map yb a0.Rules)) : Int))))))) some)) some)
noncomputable def Fz3 (a0 : List TW) : Option (Bool) :=
 Option.bind (
 lpO (fun (s44 : Int × Int) =>
 cond (decide (s44.fst < (↑(List.length (List.map zE a0)) : Int)))
 (cond (decide (s44.fst < 50))
 (idxO a0 (s44.fst) fun x52 =>
 letO (IntKind.wrap .i64 (s44.snd + (↑(List.length (List.map (SV.int .i64) x52.Value.Cells)) : Int))) fun x53 =>
 idxO a0 (s44.fst) fun x54 =>
 cond (decide (100 < (↑(List.length x54.Name) : Int)))
 (some (.inr (.inr (true))))
 (letO (IntKind.wrap .i64 (s44.fst + 1)) fun x56 =>
 some (.inl ((x56, x53)))))
 (some (.inr (.inl (s44.snd)))))
 (some (.inr (.inl (s44.snd))))) ((0, 0)))
 (Sum.elim (fun (s42 : Int) =>
 cond (decide (1000 < s42))
 (some (true))
 (some (decide (40 < (↑(List.length (List.map zE a0)) : Int))))) some)
noncomputable def Fz4 (a0 : List UInt8) (a1 : Int) : Option (List UInt8) :=
 Option.bind (
 lpO (fun (s82 : List UInt8) =>
 cond (decide (0 < (↑(List.length s82) : Int)))
 (letO (IntKind.wrap .i64 ((↑(List.length s82) : Int) - 1)) fun x89 =>
 idxO s82 x89 fun x90 =>
 cond (decide ((↑(UInt8.toNat x90) : Int) = a1))
 (letO (IntKind.wrap .i64 ((↑(List.length s82) : Int) - 1)) fun x92 =>
 zl (0 <= x92 /\ x92 <= (↑(List.length s82) : Int)) (
 some (.inl (List.drop (Int.toNat 0) (List.take (Int.toNat x92) s82)))))
 (some (.inr (.inl s82))))
 (some (.inr (.inl s82)))) a0)
 (Sum.elim (fun (s80 : List UInt8) =>
 some s80) some)
noncomputable def Fz5 (a0 : List UInt8) (a1 : Int) : Option (List UInt8) :=
 Option.bind (
 lpO (fun (s97 : List UInt8) =>
 cond (decide (0 < (↑(List.length s97) : Int)))
 (idxO s97 (0) fun x102 =>
 cond (decide ((↑(UInt8.toNat x102) : Int) = a1))
 (zl ((0 : Int) <= (1 : Int) /\ (1 : Int) <= (↑(List.length s97) : Int)) (
 some (.inl (List.drop (Int.toNat 1) (List.take (Int.toNat (↑(List.length s97) : Int)) s97)))))
 (some (.inr (.inl s97))))
 (some (.inr (.inl s97)))) a0)
 (Sum.elim (fun (s95 : List UInt8) =>
 some s95) some)
noncomputable def Fz6 (a0 : List UInt8) : Option (List Bool × Bool) :=
 Option.bind (
 lpO (fun (s107 : Int × List Bool) =>
 cond (decide (s107.fst < (↑(List.length a0) : Int)))
 (idxO a0 (s107.fst) fun x113 =>
 cond (decide (128 <= (↑(UInt8.toNat x113) : Int)))
 (some (.inr (.inr ((s107.snd, false)))))
 (zl ((0 : Int) <= (↑(UInt8.toNat x113) : Int) /\ (↑(UInt8.toNat x113) : Int) < (↑(256 : Nat) : Int)) (
 idxO (s107.snd) ((↑(Int.toNat (↑(UInt8.toNat x113) : Int)) : Int)) fun x115 =>
 letO (IntKind.wrap .i64 (s107.fst + 1)) fun x116 =>
 some (.inl ((x116, List.set s107.snd (Int.toNat (↑(UInt8.toNat x113) : Int)) true))))))
 (some (.inr (.inl (s107.snd))))) ((0, List.replicate 256 false)))
 (Sum.elim (fun (s105 : List Bool) =>
 some ((s105, true))) some)
noncomputable def Fz7 (a0 : List Bool) (a1 : Int) : Option (Bool) :=
 zl (0 <= a1 /\ a1 < (↑(256 : Nat) : Int)) (
 idxO a0 ((↑(Int.toNat a1) : Int)) fun x124 =>
 some x124)
noncomputable def Fz8 (a0 : List UInt8) (a1 : List Bool) : Option (List UInt8) :=
 Option.bind (
 lpO (fun (s121 : List UInt8) =>
 cond (decide (0 < (↑(List.length s121) : Int)))
 (letO (IntKind.wrap .i64 ((↑(List.length s121) : Int) - 1)) fun x129 =>
 idxO s121 x129 fun x130 =>
 (Fz7 a1 ((↑(UInt8.toNat x130) : Int))).bind fun x131 =>
 cond (!x131)
 (some (.inr (.inl s121)))
 (letO (IntKind.wrap .i64 ((↑(List.length s121) : Int) - 1)) fun x133 =>
 zl (0 <= x133 /\ x133 <= (↑(List.length s121) : Int)) (
 some (.inl (List.drop (Int.toNat 0) (List.take (Int.toNat x133) s121))))))
 (some (.inr (.inl s121)))) a0)
 (Sum.elim (fun (s119 : List UInt8) =>
 some s119) some)
noncomputable def Fz9 (a0 : List UInt8) (a1 : List Bool) : Option (List UInt8) :=
 Option.bind (
 lpO (fun (s137 : List UInt8) =>
 cond (decide (0 < (↑(List.length s137) : Int)))
 (idxO s137 (0) fun x143 =>
 (Fz7 a1 ((↑(UInt8.toNat x143) : Int))).bind fun x144 =>
 cond (!x144)
 (some (.inr (.inl s137)))
 (zl ((0 : Int) <= (1 : Int) /\ (1 : Int) <= (↑(List.length s137) : Int)) (
 some (.inl (List.drop (Int.toNat 1) (List.take (Int.toNat (↑(List.length s137) : Int)) s137))))))
 (some (.inr (.inl s137)))) a0)
 (Sum.elim (fun (s135 : List UInt8) =>
 some s135) some)
noncomputable def Fz10 (a0 : Int) : Option (Bool) :=
 some (!decide (bits BinOp.and IntKind.u8 a0 192 = 128))
noncomputable def Fz11 (a0 : List UInt8) : Option (Int × Int) :=
 cond (decide ((↑(List.length a0) : Int) < 1))
 (some ((65533, 0)))
 (idxO a0 (0) fun x181 =>
 none)
noncomputable def Fz12 (a0 : List UInt8) : Option (Int × Int) :=
 cond (!decide (a0 = (ByteArray.mk #[]).data.toList))
 (idxO a0 (0) fun x176 =>
 cond (decide ((↑(UInt8.toNat x176) : Int) < 128))
 (idxO a0 (0) fun x178 =>
 letO (IntKind.wrap .i32 (↑(UInt8.toNat x178) : Int)) fun x179 =>
 some ((x179, 1)))
 ((Fz11 a0).bind fun x182 =>
 some x182))
 ((Fz11 a0).bind fun x183 =>
 some x183)
noncomputable def Fz13 (a0 : List UInt8) : Option (Int × Int) :=
 cond (decide ((↑(List.length a0) : Int) = 0))
 (some ((65533, 0)))
 (letO (IntKind.wrap .i64 ((↑(List.length a0) : Int) - 1)) fun x155 =>
 idxO a0 x155 fun x156 =>
 letO (IntKind.wrap .i32 (↑(UInt8.toNat x156) : Int)) fun x157 =>
 cond (decide (x157 < 128))
 (some ((x157, 1)))
 (letO (IntKind.wrap .i64 ((↑(List.length a0) : Int) - 4)) fun x159 =>
 letO (IntKind.wrap .i64 (x155 - 1)) fun x160 =>
 Option.bind (
 lpO (fun (s163 : Int) =>
 cond (decide (max x159 0 <= s163))
 (idxO a0 s163 fun x170 =>
 (Fz10 ((↑(UInt8.toNat x170) : Int))).bind fun x171 =>
 cond x171
 (some (.inr (.inl s163)))
 (letO (IntKind.wrap .i64 (s163 - 1)) fun x173 =>
 some (.inl x173)))
 (some (.inr (.inl s163)))) x160)
 (Sum.elim (fun (s161 : Int) =>
 cond (decide (s161 < 0))
 (zl ((0 : Int) <= (0 : Int) /\ (0 : Int) <= (↑(List.length a0) : Int) /\ (↑(List.length a0) : Int) <= (↑(List.length a0) : Int)) (
 (Fz12 (List.drop (Int.toNat 0) (List.take (Int.toNat (↑(List.length a0) : Int)) a0))).bind fun x184 =>
 letO (IntKind.wrap .i64 (0 + x184.snd)) fun x185 =>
 cond (!decide (x185 = (↑(List.length a0) : Int)))
 (some ((65533, 1)))
 (some x184)))
 (zl (0 <= s161 /\ s161 <= (↑(List.length a0) : Int) /\ (↑(List.length a0) : Int) <= (↑(List.length a0) : Int)) (
 (Fz12 (List.drop (Int.toNat s161) (List.take (Int.toNat (↑(List.length a0) : Int)) a0))).bind fun x187 =>
 letO (IntKind.wrap .i64 (s161 + x187.snd)) fun x188 =>
 cond (!decide (x188 = (↑(List.length a0) : Int)))
 (some ((65533, 1)))
 (some x187)))) some)))
noncomputable def Fz14 (a0 : List UInt8) (a1 : Int) : Option (Int) :=
 (zQ a0 a1).bind fun x194 =>
 some x194
noncomputable def Fz15 (a0 : Int) : Option (Bool) :=
 cond (decide (0 <= a0))
 (cond (decide (a0 < 55296))
 (some (true))
 (cond (decide (57343 < a0))
 (cond (decide (a0 <= 1114111))
 (some (true))
 (some (false)))
 (some (false))))
 (cond (decide (57343 < a0))
 (cond (decide (a0 <= 1114111))
 (some (true))
 (some (false)))
 (some (false)))
noncomputable def Fz16 (a0 : List UInt8) (a1 : Int) : Option (Int) :=
 cond (decide (0 <= a1))
 (cond (decide (a1 < 128))
 (letO (IntKind.wrap .u8 a1) fun x193 =>
 (Fz14 a0 x193).bind fun x195 =>
 some x195)
 (cond (decide (a1 = 65533))
 (none)
 ((Fz15 a1).bind fun x203 =>
 cond (!x203)
 (some ((-1 : Int)))
 (letO (IntKind.wrap .i64 ((↑(List.length (Utf8.encode a1).data.toList) : Int) - 1)) fun x205 =>
 Option.bind (
 lpO (fun (s208 : Unit) =>
 cond (decide (x205 < (↑(List.length a0) : Int)))
 (idxO a0 x205 fun x210 =>
 idxO ((Utf8.encode a1).data.toList) x205 fun x211 =>
 cond (!decide ((↑(UInt8.toNat x210) : Int) = (↑(UInt8.toNat x211) : Int)))
 (letO (IntKind.wrap .i64 (x205 + 1)) fun x213 =>
 zl (0 <= x213 /\ x213 <= (↑(List.length a0) : Int)) (
 idxO ((Utf8.encode a1).data.toList) x205 fun x214 =>
 (Fz14 (List.drop (Int.toNat x213) (List.take (Int.toNat (↑(List.length a0) : Int)) a0)) ((↑(UInt8.toNat x214) : Int))).bind fun x215 =>
 cond (decide (x215 < 0))
 (some (.inr (.inr ((-1 : Int)))))
 (letO (IntKind.wrap .i64 (x215 + 1)) fun x217 =>
 letO (IntKind.wrap .i64 (x205 + x217)) fun x218 =>
 Option.bind (
 lpO (fun (s221 : Int) =>
 cond (decide (s221 < (↑(List.length (Utf8.encode a1).data.toList) : Int)))
 (letO (IntKind.wrap .i64 (x218 - s221)) fun x229 =>
 idxO a0 x229 fun x230 =>
 letO (IntKind.wrap .i64 (x205 - s221)) fun x231 =>
 idxO ((Utf8.encode a1).data.toList) x231 fun x232 =>
 cond (!decide ((↑(UInt8.toNat x230) : Int) = (↑(UInt8.toNat x232) : Int)))
 (none)
 (letO (IntKind.wrap .i64 (s221 + 1)) fun x234 =>
 some (.inl x234)))
 (some (.inr (.inl ())))) (1))
 (Sum.elim (fun (s219 : Unit) =>
 letO (IntKind.wrap .i64 (x218 - x205)) fun x235 =>
 some (.inr (.inr x235))) some))))
 (Option.bind (
 lpO (fun (s238 : Int) =>
 cond (decide (s238 < (↑(List.length (Utf8.encode a1).data.toList) : Int)))
 (letO (IntKind.wrap .i64 (x205 - s238)) fun x246 =>
 idxO a0 x246 fun x247 =>
 letO (IntKind.wrap .i64 (x205 - s238)) fun x248 =>
 idxO ((Utf8.encode a1).data.toList) x248 fun x249 =>
 cond (!decide ((↑(UInt8.toNat x247) : Int) = (↑(UInt8.toNat x249) : Int)))
 (none)
 (letO (IntKind.wrap .i64 (s238 + 1)) fun x251 =>
 some (.inl x251)))
 (some (.inr (.inl ())))) (1))
 (Sum.elim (fun (s236 : Unit) =>
 letO (IntKind.wrap .i64 (x205 - x205)) fun x252 =>
 some (.inr (.inr x252))) some)))
 (some (.inr (.inl ())))) (()))
 (Sum.elim (fun (s206 : Unit) =>
 some ((-1 : Int))) some)))))
 (cond (decide (a1 = 65533))
 (none)
 ((Fz15 a1).bind fun x254 =>
 cond (!x254)
 (some ((-1 : Int)))
 (letO (IntKind.wrap .i64 ((↑(List.length (Utf8.encode a1).data.toList) : Int) - 1)) fun x256 =>
 Option.bind (
 lpO (fun (s259 : Unit) =>
 cond (decide (x256 < (↑(List.length a0) : Int)))
 (idxO a0 x256 fun x261 =>
 idxO ((Utf8.encode a1).data.toList) x256 fun x262 =>
 cond (!decide ((↑(UInt8.toNat x261) : Int) = (↑(UInt8.toNat x262) : Int)))
 (letO (IntKind.wrap .i64 (x256 + 1)) fun x264 =>
 zl (0 <= x264 /\ x264 <= (↑(List.length a0) : Int)) (
 idxO ((Utf8.encode a1).data.toList) x256 fun x265 =>
 (Fz14 (List.drop (Int.toNat x264) (List.take (Int.toNat (↑(List.length a0) : Int)) a0)) ((↑(UInt8.toNat x265) : Int))).bind fun x266 =>
 cond (decide (x266 < 0))
 (some (.inr (.inr ((-1 : Int)))))
 (letO (IntKind.wrap .i64 (x266 + 1)) fun x268 =>
 letO (IntKind.wrap .i64 (x256 + x268)) fun x269 =>
 Option.bind (
 lpO (fun (s272 : Int) =>
 cond (decide (s272 < (↑(List.length (Utf8.encode a1).data.toList) : Int)))
 (letO (IntKind.wrap .i64 (x269 - s272)) fun x280 =>
 idxO a0 x280 fun x281 =>
 letO (IntKind.wrap .i64 (x256 - s272)) fun x282 =>
 idxO ((Utf8.encode a1).data.toList) x282 fun x283 =>
 cond (!decide ((↑(UInt8.toNat x281) : Int) = (↑(UInt8.toNat x283) : Int)))
 (none)
 (letO (IntKind.wrap .i64 (s272 + 1)) fun x285 =>
 some (.inl x285)))
 (some (.inr (.inl ())))) (1))
 (Sum.elim (fun (s270 : Unit) =>
 letO (IntKind.wrap .i64 (x269 - x256)) fun x286 =>
 some (.inr (.inr x286))) some))))
 (Option.bind (
 lpO (fun (s289 : Int) =>
 cond (decide (s289 < (↑(List.length (Utf8.encode a1).data.toList) : Int)))
 (letO (IntKind.wrap .i64 (x256 - s289)) fun x297 =>
 idxO a0 x297 fun x298 =>
 letO (IntKind.wrap .i64 (x256 - s289)) fun x299 =>
 idxO ((Utf8.encode a1).data.toList) x299 fun x300 =>
 cond (!decide ((↑(UInt8.toNat x298) : Int) = (↑(UInt8.toNat x300) : Int)))
 (none)
 (letO (IntKind.wrap .i64 (s289 + 1)) fun x302 =>
 some (.inl x302)))
 (some (.inr (.inl ())))) (1))
 (Sum.elim (fun (s287 : Unit) =>
 letO (IntKind.wrap .i64 (x256 - x256)) fun x303 =>
 some (.inr (.inr x303))) some)))
 (some (.inr (.inl ())))) (()))
 (Sum.elim (fun (s257 : Unit) =>
 some ((-1 : Int))) some))))
noncomputable def Fz17 (a0 : List UInt8) (a1 : Int) : Option (Bool) :=
 (Fz16 a0 a1).bind fun x304 =>
 some (decide (0 <= x304))
noncomputable def Fz18 (a0 : List UInt8) (a1 : List UInt8) : Option (List UInt8) :=
 Option.bind (
 lpO (fun (s149 : List UInt8) =>
 cond (decide (0 < (↑(List.length s149) : Int)))
 (letO (IntKind.wrap .i64 ((↑(List.length s149) : Int) - 1)) fun x163 =>
 idxO s149 x163 fun x164 =>
 letO (IntKind.wrap .i32 (↑(UInt8.toNat x164) : Int)) fun x165 =>
 cond (decide (128 <= x165))
 ((Fz13 s149).bind fun x167 =>
 (Fz17 a1 (x167.fst)).bind fun x168 =>
 cond (!x168)
 (some (.inr (.inl s149)))
 (letO (IntKind.wrap .i64 ((↑(List.length s149) : Int) - x167.snd)) fun x170 =>
 zl (0 <= x170 /\ x170 <= (↑(List.length s149) : Int)) (
 some (.inl (List.drop (Int.toNat 0) (List.take (Int.toNat x170) s149))))))
 ((Fz17 a1 x165).bind fun x171 =>
 cond (!x171)
 (some (.inr (.inl s149)))
 (letO (IntKind.wrap .i64 ((↑(List.length s149) : Int) - 1)) fun x173 =>
 zl (0 <= x173 /\ x173 <= (↑(List.length s149) : Int)) (
 some (.inl (List.drop (Int.toNat 0) (List.take (Int.toNat x173) s149)))))))
 (some (.inr (.inl s149)))) a0)
 (Sum.elim (fun (s147 : List UInt8) =>
 some s147) some)
noncomputable def Fz19 (a0 : List UInt8) (a1 : List UInt8) : Option (List UInt8) :=
 Option.bind (
 lpO (fun (s177 : List UInt8) =>
 cond (decide (0 < (↑(List.length s177) : Int)))
 ((Fz12 s177).bind fun x183 =>
 (Fz17 a1 (x183.fst)).bind fun x184 =>
 cond (!x184)
 (some (.inr (.inl s177)))
 (zl (0 <= x183.snd /\ x183.snd <= (↑(List.length s177) : Int)) (
 some (.inl (List.drop (Int.toNat x183.snd) (List.take (Int.toNat (↑(List.length s177) : Int)) s177))))))
 (some (.inr (.inl s177)))) a0)
 (Sum.elim (fun (s175 : List UInt8) =>
 some s175) some)
noncomputable def Fz20 (a0 : List UInt8) (a1 : List UInt8) : Option (List UInt8) :=
 cond (decide (a0 = (ByteArray.mk #[]).data.toList))
 (some a0)
 (cond (decide (a1 = (ByteArray.mk #[]).data.toList))
 (some a0)
 (cond (decide ((↑(List.length a1) : Int) = 1))
 (idxO a1 (0) fun x77 =>
 cond (decide ((↑(UInt8.toNat x77) : Int) < 128))
 (idxO a1 (0) fun x79 =>
 (Fz4 a0 ((↑(UInt8.toNat x79) : Int))).bind fun x93 =>
 idxO a1 (0) fun x94 =>
 (Fz5 x93 ((↑(UInt8.toNat x94) : Int))).bind fun x104 =>
 some x104)
 ((Fz6 a1).bind fun x117 =>
 cond (x117.snd)
 ((Fz8 a0 (x117.fst)).bind fun x134 =>
 (Fz9 x134 (x117.fst)).bind fun x146 =>
 some x146)
 ((Fz18 a0 a1).bind fun x174 =>
 (Fz19 x174 a1).bind fun x186 =>
 some x186)))
 ((Fz6 a1).bind fun x187 =>
 cond (x187.snd)
 ((Fz8 a0 (x187.fst)).bind fun x189 =>
 (Fz9 x189 (x187.fst)).bind fun x190 =>
 some x190)
 ((Fz18 a0 a1).bind fun x191 =>
 (Fz19 x191 a1).bind fun x192 =>
 some x192))))
noncomputable def Fz21 (a0 : List UInt8) : Option (Bool) :=
 cond (decide (a0 = (ByteArray.mk #[]).data.toList))
 (some (false))
 (cond (decide (16 < (↑(List.length a0) : Int)))
 (some (false))
 (idxO a0 (0) fun x70 =>
 cond (decide ((↑(UInt8.toNat x70) : Int) < 97))
 (some (false))
 (idxO a0 (0) fun x72 =>
 cond (decide (122 < (↑(UInt8.toNat x72) : Int)))
 (some (false))
 ((Fz20 a0 ((ByteArray.mk #[97, 98, 99, 100, 101, 102, 103, 104, 105, 106, 107, 108, 109, 110, 111, 112, 113, 114, 115, 116, 117, 118, 119, 120, 121, 122, 48, 49, 50, 51, 52, 53, 54, 55, 56, 57, 45]).data.toList)).bind fun x193 =>
 some (decide (x193 = (ByteArray.mk #[]).data.toList))))))
noncomputable def Fz22 (a0 : List (List UInt8)) (a1 : List UInt8) : Option (Int) :=
 Option.bind (
 lpO (fun (s198 : Int) =>
 cond (decide (s198 < (↑(List.length (List.map SV.str a0)) : Int)))
 (idxO a0 s198 fun x203 =>
 cond (decide (a1 = x203))
 (some (.inr (.inr s198)))
 (letO (IntKind.wrap .i64 (s198 + 1)) fun x205 =>
 some (.inl x205)))
 (some (.inr (.inl ())))) (0))
 (Sum.elim (fun (s196 : Unit) =>
 some ((-1 : Int))) some)
noncomputable def Fz23 (a0 : List (List UInt8)) (a1 : List UInt8) : Option (Bool) :=
 (Fz22 a0 a1).bind fun x206 =>
 some (decide (0 <= x206))
noncomputable def Fz24 (a0 : List (List UInt8)) : Option (Int × Int) :=
 cond (decide ((↑(List.length (List.map SV.str a0)) : Int) < 1))
 (some (((-1 : Int), 3)))
 (cond (decide (8 < (↑(List.length (List.map SV.str a0)) : Int)))
 (some (((-1 : Int), 3)))
 (Option.bind (
 lpO (fun (s66 : Int) =>
 cond (decide (s66 < (↑(List.length (List.map SV.str a0)) : Int)))
 (idxO a0 s66 fun x74 =>
 (Fz21 x74).bind fun x75 =>
 cond (!x75)
 (some (.inr (.inr ((s66, 6)))))
 (zl (0 <= s66 /\ s66 <= (↑(List.length (List.map SV.str a0)) : Int)) (
 (Fz23 (List.drop (Int.toNat 0) (List.take (Int.toNat s66) a0)) x74).bind fun x77 =>
 cond x77
 (some (.inr (.inr ((s66, 8)))))
 (letO (IntKind.wrap .i64 (s66 + 1)) fun x79 =>
 some (.inl x79)))))
 (some (.inr (.inl ())))) (0))
 (Sum.elim (fun (s64 : Unit) =>
 some ((0, 0))) some)))
noncomputable def Fz25 (a0 : Int) : Option (Int) :=
 idxO ((ByteArray.mk (List.toArray (List.append (List.append [(0 : UInt8), 1, 2, 2, 3, 3, 3, 3, 4, 4, 4, 4, 4, 4, 4, 4, 5, 5, 5, 5, 5, 5, 5, 5, 5, 5, 5, 5, 5, 5, 5, 5, 6, 6, 6, 6, 6, 6, 6, 6, 6, 6, 6, 6, 6, 6, 6, 6, 6, 6, 6, 6, 6, 6, 6, 6, 6, 6, 6, 6, 6, 6, 6, 6] [(7 : UInt8), 7, 7, 7, 7, 7, 7, 7, 7, 7, 7, 7, 7, 7, 7, 7, 7, 7, 7, 7, 7, 7, 7, 7, 7, 7, 7, 7, 7, 7, 7, 7, 7, 7, 7, 7, 7, 7, 7, 7, 7, 7, 7, 7, 7, 7, 7, 7, 7, 7, 7, 7, 7, 7, 7, 7, 7, 7, 7, 7, 7, 7, 7, 7]) (List.append [(8 : UInt8), 8, 8, 8, 8, 8, 8, 8, 8, 8, 8, 8, 8, 8, 8, 8, 8, 8, 8, 8, 8, 8, 8, 8, 8, 8, 8, 8, 8, 8, 8, 8, 8, 8, 8, 8, 8, 8, 8, 8, 8, 8, 8, 8, 8, 8, 8, 8, 8, 8, 8, 8, 8, 8, 8, 8, 8, 8, 8, 8, 8, 8, 8, 8] [(8 : UInt8), 8, 8, 8, 8, 8, 8, 8, 8, 8, 8, 8, 8, 8, 8, 8, 8, 8, 8, 8, 8, 8, 8, 8, 8, 8, 8, 8, 8, 8, 8, 8, 8, 8, 8, 8, 8, 8, 8, 8, 8, 8, 8, 8, 8, 8, 8, 8, 8, 8, 8, 8, 8, 8, 8, 8, 8, 8, 8, 8, 8, 8, 8, 8])))).data.toList) a0 fun x89 =>
 letO (IntKind.wrap .i64 (↑(UInt8.toNat x89) : Int)) fun x90 =>
 some x90
noncomputable def Fz26 (a0 : TL) : Option (Tlattice_order) :=
 Option.bind (
 lpO (fun (s162 : Int × List Int × List Int) =>
 cond (decide (s162.fst < (↑(List.length (List.map (SV.int .u8) a0.Up)) : Int)))
 (idxO (a0.Up) (s162.fst) fun x176 =>
 zl (0 <= s162.fst /\ s162.fst < (↑(8 : Nat) : Int)) (
 idxO (s162.snd.fst) ((↑(Int.toNat s162.fst) : Int)) fun x177 =>
 Option.bind (
 lpO (fun (s180 : Int × List Int) =>
 cond (decide (s180.fst < (↑(List.length (List.map SV.str a0.Names)) : Int)))
 (zl (0 <= s180.fst /\ s180.fst < (↑(8 : Nat) : Int)) (
 idxO (s180.snd) ((↑(Int.toNat s180.fst) : Int)) fun x186 =>
 zl (0 <= s180.fst) (
 zl (0 <= s162.fst) (
 letO (IntKind.wrap .u8 (bits BinOp.and IntKind.u8 (Int.fdiv x176 (2 ^ min (Int.toNat s180.fst) (IntKind.bits IntKind.u8))) 1 * 2 ^ min (Int.toNat s162.fst) (IntKind.bits IntKind.u8))) fun x187 =>
 zl (0 <= s180.fst /\ s180.fst < (↑(8 : Nat) : Int)) (
 idxO (s180.snd) ((↑(Int.toNat s180.fst) : Int)) fun x188 =>
 letO (IntKind.wrap .i64 (s180.fst + 1)) fun x189 =>
 some (.inl ((x189, List.set s180.snd (Int.toNat s180.fst) (bits BinOp.or IntKind.u8 x186 x187)))))))))
 (some (.inr (.inl (s180.snd))))) ((0, s162.snd.snd)))
 (Sum.elim (fun (s178 : List Int) =>
 letO (IntKind.wrap .i64 (s162.fst + 1)) fun x190 =>
 some (.inl ((x190, List.set s162.snd.fst (Int.toNat s162.fst) x176, s178)))) some)))
 (some (.inr (.inl (s162.snd))))) ((0, [0, 0, 0, 0, 0, 0, 0, 0], [0, 0, 0, 0, 0, 0, 0, 0])))
 (Sum.elim (fun (s160 : List Int × List Int) =>
 some (Tlattice_order.mk (↑(List.length (List.map SV.str a0.Names)) : Int) s160.fst s160.snd)) some)
noncomputable def Fz27 (a0 : List Int) (a1 : Int) (a2 : Int) (a3 : Int) : Option (Int) :=
 zl (0 <= a2 /\ a2 < (↑(8 : Nat) : Int)) (
 idxO a0 ((↑(Int.toNat a2) : Int)) fun x197 =>
 zl (0 <= a3 /\ a3 < (↑(8 : Nat) : Int)) (
 idxO a0 ((↑(Int.toNat a3) : Int)) fun x198 =>
 Option.bind (
 lpO (fun (s201 : Int) =>
 cond (decide (s201 < a1))
 (zl (0 <= s201) (
 cond (decide (bits BinOp.and IntKind.u8 (Int.fdiv (bits BinOp.and IntKind.u8 x197 x198) (2 ^ min (Int.toNat s201) (IntKind.bits IntKind.u8))) 1 = 1))
 (zl (0 <= s201 /\ s201 < (↑(8 : Nat) : Int)) (
 idxO a0 ((↑(Int.toNat s201) : Int)) fun x208 =>
 cond (decide (x208 = bits BinOp.and IntKind.u8 x197 x198))
 (some (.inr (.inr s201)))
 (letO (IntKind.wrap .i64 (s201 + 1)) fun x210 =>
 some (.inl x210))))
 (letO (IntKind.wrap .i64 (s201 + 1)) fun x211 =>
 some (.inl x211))))
 (some (.inr (.inl ())))) (0))
 (Sum.elim (fun (s199 : Unit) =>
 some ((-1 : Int))) some)))
noncomputable def Fz28 (a0 : List Int) (a1 : Int) (a2 : Int) (a3 : Int) : Option (Int) :=
 zl (0 <= a2 /\ a2 < (↑(8 : Nat) : Int)) (
 idxO a0 ((↑(Int.toNat a2) : Int)) fun x214 =>
 zl (0 <= a3 /\ a3 < (↑(8 : Nat) : Int)) (
 idxO a0 ((↑(Int.toNat a3) : Int)) fun x215 =>
 Option.bind (
 lpO (fun (s218 : Int) =>
 cond (decide (s218 < a1))
 (zl (0 <= s218) (
 cond (decide (bits BinOp.and IntKind.u8 (Int.fdiv (bits BinOp.and IntKind.u8 x214 x215) (2 ^ min (Int.toNat s218) (IntKind.bits IntKind.u8))) 1 = 1))
 (zl (0 <= s218 /\ s218 < (↑(8 : Nat) : Int)) (
 idxO a0 ((↑(Int.toNat s218) : Int)) fun x225 =>
 cond (decide (x225 = bits BinOp.and IntKind.u8 x214 x215))
 (some (.inr (.inr s218)))
 (letO (IntKind.wrap .i64 (s218 + 1)) fun x227 =>
 some (.inl x227))))
 (letO (IntKind.wrap .i64 (s218 + 1)) fun x228 =>
 some (.inl x228))))
 (some (.inr (.inl ())))) (0))
 (Sum.elim (fun (s216 : Unit) =>
 some ((-1 : Int))) some)))
noncomputable def Fz29 (a0 : TL) : Option (Int × Int) :=
 (Fz24 (a0.Names)).bind fun x80 =>
 cond (!decide (x80.snd = 0))
 (some x80)
 (cond (!decide ((↑(List.length (List.map (SV.int .u8) a0.Up)) : Int) = (↑(List.length (List.map SV.str a0.Names)) : Int)))
 (some (((-1 : Int), 6)))
 (zl ((0 : Int) <= (↑(List.length (List.map SV.str a0.Names)) : Int)) (
 letO (IntKind.wrap .u8 (1 * 2 ^ min (Int.toNat (↑(List.length (List.map SV.str a0.Names)) : Int)) (IntKind.bits IntKind.u8))) fun x83 =>
 letO (IntKind.wrap .u8 (x83 - 1)) fun x84 =>
 Option.bind (
 lpO (fun (s87 : Int) =>
 cond (decide (s87 < (↑(List.length (List.map (SV.int .u8) a0.Up)) : Int)))
 (idxO (a0.Up) s87 fun x117 =>
 (Fz25 x117).bind fun x118 =>
 cond (decide ((↑(List.length (List.map SV.str a0.Names)) : Int) < x118))
 (some (.inr (.inr ((s87, 6)))))
 (zl (0 <= s87) (
 cond (decide (bits BinOp.and IntKind.u8 (Int.fdiv x117 (2 ^ min (Int.toNat s87) (IntKind.bits IntKind.u8))) 1 = 0))
 (some (.inr (.inr ((s87, 6)))))
 (Option.bind (
 lpO (fun (s123 : Int) =>
 cond (decide (s123 < (↑(List.length (List.map (SV.int .u8) a0.Up)) : Int)))
 (idxO (a0.Up) s123 fun x141 =>
 zl (0 <= s123) (
 cond (decide (bits BinOp.and IntKind.u8 (Int.fdiv x117 (2 ^ min (Int.toNat s123) (IntKind.bits IntKind.u8))) 1 = 0))
 (letO (IntKind.wrap .i64 ((↑(List.length (List.map SV.str a0.Names)) : Int) - 1)) fun x143 =>
 cond (decide (s123 = x143))
 (letO (IntKind.wrap .i64 (s87 + 1)) fun x145 =>
 some (.inr (.inr (.inl x145))))
 (letO (IntKind.wrap .i64 (s123 + 1)) fun x146 =>
 some (.inl x146)))
 (cond (!decide (s123 = s87))
 (zl (0 <= s87) (
 cond (decide (bits BinOp.and IntKind.u8 (Int.fdiv x141 (2 ^ min (Int.toNat s87) (IntKind.bits IntKind.u8))) 1 = 1))
 (some (.inr (.inr (.inr (.inr ((s87, 6)))))))
 (cond (!decide (bits BinOp.andNot IntKind.u8 (bits BinOp.and IntKind.u8 x141 x84) x117 = 0))
 (some (.inr (.inr (.inr (.inr ((s87, 6)))))))
 (letO (IntKind.wrap .i64 ((↑(List.length (List.map SV.str a0.Names)) : Int) - 1)) fun x150 =>
 cond (decide (s123 = x150))
 (letO (IntKind.wrap .i64 (s87 + 1)) fun x152 =>
 some (.inr (.inr (.inl x152))))
 (letO (IntKind.wrap .i64 (s123 + 1)) fun x153 =>
 some (.inl x153))))))
 (cond (!decide (bits BinOp.andNot IntKind.u8 (bits BinOp.and IntKind.u8 x141 x84) x117 = 0))
 (some (.inr (.inr (.inr (.inr ((s87, 6)))))))
 (letO (IntKind.wrap .i64 ((↑(List.length (List.map SV.str a0.Names)) : Int) - 1)) fun x155 =>
 cond (decide (s123 = x155))
 (letO (IntKind.wrap .i64 (s87 + 1)) fun x157 =>
 some (.inr (.inr (.inl x157))))
 (letO (IntKind.wrap .i64 (s123 + 1)) fun x158 =>
 some (.inl x158)))))))
 (some (.inr (.inl ())))) (0))
 (Sum.elim (fun (s121 : Unit) =>
 letO (IntKind.wrap .i64 (s87 + 1)) fun x159 =>
 some (.inl x159)) some)))))
 (some (.inr (.inl ())))) (0))
 (Sum.elim (fun (s85 : Unit) =>
 (Fz26 a0).bind fun x191 =>
 Option.bind (
 lpO (fun (s194 : Int) =>
 cond (decide (s194 < (↑(List.length (List.map SV.str a0.Names)) : Int)))
 (Option.bind (
 lpO (fun (s212 : Int) =>
 cond (decide (s212 < (↑(List.length (List.map SV.str a0.Names)) : Int)))
 ((Fz27 (x191.up_) ((↑(List.length (List.map SV.str a0.Names)) : Int)) s194 s212).bind fun x219 =>
 cond (decide (x219 < 0))
 (some (.inr (.inr (.inr (.inr ((s194, 4)))))))
 ((Fz28 (x191.down_) ((↑(List.length (List.map SV.str a0.Names)) : Int)) s194 s212).bind fun x221 =>
 cond (decide (x221 < 0))
 (some (.inr (.inr (.inr (.inr ((s194, 4)))))))
 (letO (IntKind.wrap .i64 (s212 + 1)) fun x223 =>
 some (.inl x223))))
 (some (.inr (.inl ())))) (0))
 (Sum.elim (fun (s210 : Unit) =>
 letO (IntKind.wrap .i64 (s194 + 1)) fun x224 =>
 some (.inl x224)) some))
 (some (.inr (.inl ())))) (0))
 (Sum.elim (fun (s192 : Unit) =>
 some ((0, 0))) some)) some))))
noncomputable def Fz30 (a0 : TP) : Option (Int × Int) :=
 (Fz29 (a0.Lattice)).bind fun x225 =>
 some x225
noncomputable def Fz31 (a0 : List UInt8) : Option (Int × Int) :=
 Option.bind (
 cond (decide ([(110 : UInt8), (101 : UInt8), (103 : UInt8)] = a0))
 (some (.inr ((1, 0))))
 (cond (decide ([(97 : UInt8), (98 : UInt8), (115 : UInt8)] = a0))
 (some (.inr ((2, 0))))
 (cond (decide ([(110 : UInt8), (111 : UInt8), (116 : UInt8)] = a0))
 (some (.inr ((3, 0))))
 (cond (decide ([(115 : UInt8), (104 : UInt8), (97 : UInt8), (112 : UInt8), (101 : UInt8)] = a0))
 (some (.inr ((4, 0))))
 (cond (decide ([(114 : UInt8), (97 : UInt8), (118 : UInt8), (101 : UInt8), (108 : UInt8)] = a0))
 (some (.inr ((5, 0))))
 (cond (decide ([(114 : UInt8), (101 : UInt8), (118 : UInt8), (101 : UInt8), (114 : UInt8), (115 : UInt8), (101 : UInt8)] = a0))
 (some (.inr ((6, 0))))
 (cond (decide ([(102 : UInt8), (108 : UInt8), (105 : UInt8), (112 : UInt8)] = a0))
 (some (.inr ((7, 0))))
 (cond (decide ([(105 : UInt8), (111 : UInt8), (116 : UInt8), (97 : UInt8)] = a0))
 (some (.inr ((8, 0))))
 (cond (decide ([(115 : UInt8), (117 : UInt8), (109 : UInt8)] = a0))
 (some (.inr ((9, 0))))
 (cond (decide ([(108 : UInt8), (101 : UInt8), (97 : UInt8), (115 : UInt8), (116 : UInt8)] = a0))
 (some (.inr ((10, 0))))
 (cond (decide ([(109 : UInt8), (111 : UInt8), (115 : UInt8), (116 : UInt8)] = a0))
 (some (.inr ((11, 0))))
 (cond (decide ([(99 : UInt8), (111 : UInt8), (117 : UInt8), (110 : UInt8), (116 : UInt8)] = a0))
 (some (.inr ((12, 0))))
 (cond (decide ([(115 : UInt8), (99 : UInt8), (97 : UInt8), (110 : UInt8)] = a0))
 (some (.inr ((13, 0))))
 (cond (decide ([(103 : UInt8), (114 : UInt8), (97 : UInt8), (100 : UInt8), (101 : UInt8)] = a0))
 (some (.inr ((14, 0))))
 (cond (decide ([(97 : UInt8), (100 : UInt8), (100 : UInt8)] = a0))
 (some (.inr ((15, 0))))
 (cond (decide ([(115 : UInt8), (117 : UInt8), (98 : UInt8)] = a0))
 (some (.inr ((16, 0))))
 (cond (decide ([(109 : UInt8), (117 : UInt8), (108 : UInt8)] = a0))
 (some (.inr ((17, 0))))
 (cond (decide ([(100 : UInt8), (105 : UInt8), (118 : UInt8)] = a0))
 (some (.inr ((18, 0))))
 (cond (decide ([(109 : UInt8), (111 : UInt8), (100 : UInt8)] = a0))
 (some (.inr ((19, 0))))
 (cond (decide ([(112 : UInt8), (108 : UInt8), (117 : UInt8), (115 : UInt8)] = a0))
 (some (.inr ((20, 0))))
 (cond (decide ([(109 : UInt8), (105 : UInt8), (110 : UInt8), (117 : UInt8), (115 : UInt8)] = a0))
 (some (.inr ((21, 0))))
 (cond (decide ([(116 : UInt8), (105 : UInt8), (109 : UInt8), (101 : UInt8), (115 : UInt8)] = a0))
 (some (.inr ((22, 0))))
 (cond (decide ([(101 : UInt8), (113 : UInt8)] = a0))
 (some (.inr ((23, 0))))
 (cond (decide ([(110 : UInt8), (101 : UInt8)] = a0))
 (some (.inr ((24, 0))))
 (cond (decide ([(108 : UInt8), (116 : UInt8)] = a0))
 (some (.inr ((25, 0))))
 (cond (decide ([(108 : UInt8), (101 : UInt8)] = a0))
 (some (.inr ((26, 0))))
 (cond (decide ([(103 : UInt8), (116 : UInt8)] = a0))
 (some (.inr ((27, 0))))
 (cond (decide ([(103 : UInt8), (101 : UInt8)] = a0))
 (some (.inr ((28, 0))))
 (cond (decide ([(97 : UInt8), (110 : UInt8), (100 : UInt8)] = a0))
 (some (.inr ((29, 0))))
 (cond (decide ([(111 : UInt8), (114 : UInt8)] = a0))
 (some (.inr ((30, 0))))
 (cond (decide ([(109 : UInt8), (105 : UInt8), (110 : UInt8)] = a0))
 (some (.inr ((31, 0))))
 (cond (decide ([(109 : UInt8), (97 : UInt8), (120 : UInt8)] = a0))
 (some (.inr ((32, 0))))
 (cond (decide ([(116 : UInt8), (97 : UInt8), (107 : UInt8), (101 : UInt8)] = a0))
 (some (.inr ((33, 0))))
 (cond (decide ([(100 : UInt8), (114 : UInt8), (111 : UInt8), (112 : UInt8)] = a0))
 (some (.inr ((34, 0))))
 (cond (decide ([(102 : UInt8), (105 : UInt8), (108 : UInt8), (108 : UInt8)] = a0))
 (some (.inr ((35, 0))))
 (cond (decide ([(103 : UInt8), (114 : UInt8), (105 : UInt8), (100 : UInt8)] = a0))
 (some (.inr ((36, 0))))
 (cond (decide ([(99 : UInt8), (97 : UInt8), (116 : UInt8)] = a0))
 (some (.inr ((37, 0))))
 (cond (decide ([(97 : UInt8), (116 : UInt8)] = a0))
 (some (.inr ((38, 0))))
 (cond (decide ([(105 : UInt8), (110 : UInt8)] = a0))
 (some (.inr ((39, 0))))
 (cond (decide ([(112 : UInt8), (105 : UInt8), (99 : UInt8), (107 : UInt8)] = a0))
 (some (.inr ((40, 0))))
 (some (.inl ()))))))))))))))))))))))))))))))))))))))))))
 (Sum.elim (fun (s244 : Unit) =>
 some ((0, 4))) some)
noncomputable def Fz32 (a0 : Int) : Option (Bool) :=
 letO (IntKind.wrap .i32 a0) fun x303 =>
 letO (IntKind.wrap .i64 x303) fun x304 =>
 cond (decide (a0 = x304))
 (letO (IntKind.wrap .i32 a0) fun x306 =>
 (Fz15 x306).bind fun x307 =>
 some x307)
 (some (false))
noncomputable def Fz33 : Option (List (List UInt8)) :=
 some ([[], (ByteArray.mk #[32]).data.toList, (ByteArray.mk #[10]).data.toList, (ByteArray.mk #[40, 91]).data.toList, (ByteArray.mk #[41, 93]).data.toList, (ByteArray.mk #[34]).data.toList, [], (ByteArray.mk #[45]).data.toList, [], (ByteArray.mk #[60, 61]).data.toList])
noncomputable def Fz34 (a0 : Int) : Option (Int × Int) :=
 (Fz32 a0).bind fun x308 =>
 cond (!x308)
 (some ((0, 7)))
 (cond (decide (48 <= a0))
 (cond (decide (a0 <= 57))
 (some ((6, 0)))
 (cond (decide (97 <= a0))
 (cond (decide (a0 <= 122))
 (some ((8, 0)))
 ((Fz33).bind fun x314 =>
 Option.bind (
 lpO (fun (s317 : Int) =>
 cond (decide (s317 < 10))
 (idxO x314 s317 fun x323 =>
 letO (IntKind.wrap .i32 a0) fun x324 =>
 (Fz17 x323 x324).bind fun x325 =>
 cond x325
 (some (.inr (.inr ((s317, 0)))))
 (letO (IntKind.wrap .i64 (s317 + 1)) fun x327 =>
 some (.inl x327)))
 (some (.inr (.inl ())))) (0))
 (Sum.elim (fun (s315 : Unit) =>
 some ((10, 0))) some)))
 ((Fz33).bind fun x328 =>
 Option.bind (
 lpO (fun (s331 : Int) =>
 cond (decide (s331 < 10))
 (idxO x328 s331 fun x337 =>
 letO (IntKind.wrap .i32 a0) fun x338 =>
 (Fz17 x337 x338).bind fun x339 =>
 cond x339
 (some (.inr (.inr ((s331, 0)))))
 (letO (IntKind.wrap .i64 (s331 + 1)) fun x341 =>
 some (.inl x341)))
 (some (.inr (.inl ())))) (0))
 (Sum.elim (fun (s329 : Unit) =>
 some ((10, 0))) some))))
 (cond (decide (97 <= a0))
 (cond (decide (a0 <= 122))
 (some ((8, 0)))
 ((Fz33).bind fun x344 =>
 Option.bind (
 lpO (fun (s347 : Int) =>
 cond (decide (s347 < 10))
 (idxO x344 s347 fun x353 =>
 letO (IntKind.wrap .i32 a0) fun x354 =>
 (Fz17 x353 x354).bind fun x355 =>
 cond x355
 (some (.inr (.inr ((s347, 0)))))
 (letO (IntKind.wrap .i64 (s347 + 1)) fun x357 =>
 some (.inl x357)))
 (some (.inr (.inl ())))) (0))
 (Sum.elim (fun (s345 : Unit) =>
 some ((10, 0))) some)))
 ((Fz33).bind fun x358 =>
 Option.bind (
 lpO (fun (s361 : Int) =>
 cond (decide (s361 < 10))
 (idxO x358 s361 fun x367 =>
 letO (IntKind.wrap .i32 a0) fun x368 =>
 (Fz17 x367 x368).bind fun x369 =>
 cond x369
 (some (.inr (.inr ((s361, 0)))))
 (letO (IntKind.wrap .i64 (s361 + 1)) fun x371 =>
 some (.inl x371)))
 (some (.inr (.inl ())))) (0))
 (Sum.elim (fun (s359 : Unit) =>
 some ((10, 0))) some))))
noncomputable def Fz35 (a0 : List UInt8) : Option (Int) :=
 idxO a0 (0) fun x416 =>
 letO (IntKind.wrap .u64 (↑(UInt8.toNat x416) : Int)) fun x417 =>
 idxO a0 (1) fun x418 =>
 letO (IntKind.wrap .u64 (↑(UInt8.toNat x418) : Int)) fun x419 =>
 letO (IntKind.wrap .u64 (x419 * 2 ^ min (Int.toNat 8) (IntKind.bits IntKind.u64))) fun x420 =>
 idxO a0 (2) fun x421 =>
 letO (IntKind.wrap .u64 (↑(UInt8.toNat x421) : Int)) fun x422 =>
 letO (IntKind.wrap .u64 (x422 * 2 ^ min (Int.toNat 16) (IntKind.bits IntKind.u64))) fun x423 =>
 idxO a0 (3) fun x424 =>
 letO (IntKind.wrap .u64 (↑(UInt8.toNat x424) : Int)) fun x425 =>
 letO (IntKind.wrap .u64 (x425 * 2 ^ min (Int.toNat 24) (IntKind.bits IntKind.u64))) fun x426 =>
 idxO a0 (4) fun x427 =>
 letO (IntKind.wrap .u64 (↑(UInt8.toNat x427) : Int)) fun x428 =>
 letO (IntKind.wrap .u64 (x428 * 2 ^ min (Int.toNat 32) (IntKind.bits IntKind.u64))) fun x429 =>
 idxO a0 (5) fun x430 =>
 letO (IntKind.wrap .u64 (↑(UInt8.toNat x430) : Int)) fun x431 =>
 letO (IntKind.wrap .u64 (x431 * 2 ^ min (Int.toNat 40) (IntKind.bits IntKind.u64))) fun x432 =>
 idxO a0 (6) fun x433 =>
 letO (IntKind.wrap .u64 (↑(UInt8.toNat x433) : Int)) fun x434 =>
 letO (IntKind.wrap .u64 (x434 * 2 ^ min (Int.toNat 48) (IntKind.bits IntKind.u64))) fun x435 =>
 idxO a0 (7) fun x436 =>
 letO (IntKind.wrap .u64 (↑(UInt8.toNat x436) : Int)) fun x437 =>
 letO (IntKind.wrap .u64 (x437 * 2 ^ min (Int.toNat 56) (IntKind.bits IntKind.u64))) fun x438 =>
 some (bits BinOp.or IntKind.u64 (bits BinOp.or IntKind.u64 (bits BinOp.or IntKind.u64 (bits BinOp.or IntKind.u64 (bits BinOp.or IntKind.u64 (bits BinOp.or IntKind.u64 (bits BinOp.or IntKind.u64 x417 x420) x423) x426) x429) x432) x435) x438)
noncomputable def Fz36 (a0 : List UInt8) : Option (Bool) :=
 Option.bind (
 lpO (fun (s412 : List UInt8) =>
 cond (decide (0 < (↑(List.length s412) : Int)))
 (idxO s412 (0) fun x439 =>
 cond (decide ((↑(UInt8.toNat x439) : Int) < 128))
 (zl ((0 : Int) <= (1 : Int) /\ (1 : Int) <= (↑(List.length s412) : Int)) (
 cond (decide (8 < (↑(List.length (List.drop (Int.toNat 1) (List.take (Int.toNat (↑(List.length s412) : Int)) s412))) : Int)))
 ((Fz35 (List.drop (Int.toNat 1) (List.take (Int.toNat (↑(List.length s412) : Int)) s412))).bind fun x442 =>
 cond (decide (bits BinOp.and IntKind.u64 x442 9259542123273814144 = 0))
 (zl ((0 : Int) <= (8 : Int) /\ (8 : Int) <= (↑(List.length (List.drop (Int.toNat (1 : Int)) (List.take (Int.toNat (↑(List.length s412) : Int)) s412))) : Int)) (
 cond (decide (16 < (↑(List.length (List.drop (Int.toNat 8) (List.take (Int.toNat (↑(List.length (List.drop (Int.toNat 1) (List.take (Int.toNat (↑(List.length s412) : Int)) s412))) : Int)) (List.drop (Int.toNat 1) (List.take (Int.toNat (↑(List.length s412) : Int)) s412))))) : Int)))
 ((Fz35 (List.drop (Int.toNat 8) (List.take (Int.toNat (↑(List.length (List.drop (Int.toNat 1) (List.take (Int.toNat (↑(List.length s412) : Int)) s412))) : Int)) (List.drop (Int.toNat 1) (List.take (Int.toNat (↑(List.length s412) : Int)) s412))))).bind fun x445 =>
 zl ((0 : Int) <= (8 : Int) /\ (8 : Int) <= (↑(List.length (List.drop (Int.toNat (8 : Int)) (List.take (Int.toNat (↑(List.length (List.drop (Int.toNat (1 : Int)) (List.take (Int.toNat (↑(List.length s412) : Int)) s412))) : Int)) (List.drop (Int.toNat (1 : Int)) (List.take (Int.toNat (↑(List.length s412) : Int)) s412))))) : Int)) (
 (Fz35 (List.drop (Int.toNat 8) (List.take (Int.toNat (↑(List.length (List.drop (Int.toNat 8) (List.take (Int.toNat (↑(List.length (List.drop (Int.toNat 1) (List.take (Int.toNat (↑(List.length s412) : Int)) s412))) : Int)) (List.drop (Int.toNat 1) (List.take (Int.toNat (↑(List.length s412) : Int)) s412))))) : Int)) (List.drop (Int.toNat 8) (List.take (Int.toNat (↑(List.length (List.drop (Int.toNat 1) (List.take (Int.toNat (↑(List.length s412) : Int)) s412))) : Int)) (List.drop (Int.toNat 1) (List.take (Int.toNat (↑(List.length s412) : Int)) s412))))))).bind fun x446 =>
 cond (decide (bits BinOp.and IntKind.u64 (bits BinOp.or IntKind.u64 x445 x446) 9259542123273814144 = 0))
 (zl ((0 : Int) <= (16 : Int) /\ (16 : Int) <= (↑(List.length (List.drop (Int.toNat (8 : Int)) (List.take (Int.toNat (↑(List.length (List.drop (Int.toNat (1 : Int)) (List.take (Int.toNat (↑(List.length s412) : Int)) s412))) : Int)) (List.drop (Int.toNat (1 : Int)) (List.take (Int.toNat (↑(List.length s412) : Int)) s412))))) : Int)) (
 Option.bind (
 lpO (fun (s450 : List UInt8) =>
 cond (decide (32 < (↑(List.length s450) : Int)))
 ((Fz35 s450).bind fun x458 =>
 zl ((0 : Int) <= (8 : Int) /\ (8 : Int) <= (↑(List.length s450) : Int)) (
 (Fz35 (List.drop (Int.toNat 8) (List.take (Int.toNat (↑(List.length s450) : Int)) s450))).bind fun x459 =>
 zl ((0 : Int) <= (16 : Int) /\ (16 : Int) <= (↑(List.length s450) : Int)) (
 (Fz35 (List.drop (Int.toNat 16) (List.take (Int.toNat (↑(List.length s450) : Int)) s450))).bind fun x460 =>
 zl ((0 : Int) <= (24 : Int) /\ (24 : Int) <= (↑(List.length s450) : Int)) (
 (Fz35 (List.drop (Int.toNat 24) (List.take (Int.toNat (↑(List.length s450) : Int)) s450))).bind fun x461 =>
 cond (decide (bits BinOp.and IntKind.u64 (bits BinOp.or IntKind.u64 (bits BinOp.or IntKind.u64 x458 x459) (bits BinOp.or IntKind.u64 x460 x461)) 9259542123273814144 = 0))
 (zl ((0 : Int) <= (32 : Int) /\ (32 : Int) <= (↑(List.length s450) : Int)) (
 some (.inl (List.drop (Int.toNat 32) (List.take (Int.toNat (↑(List.length s450) : Int)) s450)))))
 (some (.inr (.inl s450)))))))
 (some (.inr (.inl s450)))) (List.drop (Int.toNat 16) (List.take (Int.toNat (↑(List.length (List.drop (Int.toNat 8) (List.take (Int.toNat (↑(List.length (List.drop (Int.toNat 1) (List.take (Int.toNat (↑(List.length s412) : Int)) s412))) : Int)) (List.drop (Int.toNat 1) (List.take (Int.toNat (↑(List.length s412) : Int)) s412))))) : Int)) (List.drop (Int.toNat 8) (List.take (Int.toNat (↑(List.length (List.drop (Int.toNat 1) (List.take (Int.toNat (↑(List.length s412) : Int)) s412))) : Int)) (List.drop (Int.toNat 1) (List.take (Int.toNat (↑(List.length s412) : Int)) s412)))))))
 (Sum.elim (fun (s448 : List UInt8) =>
 some (.inl s448)) some)))
 (some (.inl (List.drop (Int.toNat 8) (List.take (Int.toNat (↑(List.length (List.drop (Int.toNat 1) (List.take (Int.toNat (↑(List.length s412) : Int)) s412))) : Int)) (List.drop (Int.toNat 1) (List.take (Int.toNat (↑(List.length s412) : Int)) s412))))))))
 (some (.inl (List.drop (Int.toNat 8) (List.take (Int.toNat (↑(List.length (List.drop (Int.toNat 1) (List.take (Int.toNat (↑(List.length s412) : Int)) s412))) : Int)) (List.drop (Int.toNat 1) (List.take (Int.toNat (↑(List.length s412) : Int)) s412))))))))
 (some (.inl (List.drop (Int.toNat 1) (List.take (Int.toNat (↑(List.length s412) : Int)) s412)))))
 (some (.inl (List.drop (Int.toNat 1) (List.take (Int.toNat (↑(List.length s412) : Int)) s412))))))
 (none))
 (some (.inr (.inl ())))) a0)
 (Sum.elim (fun (s410 : Unit) =>
 some (true)) some)
noncomputable def Fz37 (a0 : TK) : Option (Int) :=
 Option.bind (
 cond (decide (a0.Kind = 1))
 (some (.inl ((0, a0.S))))
 (cond (decide (a0.Kind = 3))
 (some (.inl ((0, a0.S))))
 (cond (decide (a0.Kind = 2))
 (some (.inl ((a0.N, []))))
 (some (.inl ((0, [])))))))
 (Sum.elim (fun (s289 : Int × List UInt8) =>
 cond (decide (a0.Kind < 1))
 (some (2))
 (cond (decide (9 < a0.Kind))
 (some (2))
 (cond (!(decide (a0.Kind = a0.Kind) && (decide (a0.From = a0.From) && (decide (a0.To = a0.To) && (decide (a0.N = s289.fst) && (decide (a0.S = s289.snd) && true))))))
 (some (2))
 (Option.bind (
 cond (decide (a0.Kind = 1))
 (cond (decide ((↑(List.length a0.S) : Int) <= 0))
 (some (.inr (6)))
 (idxO (a0.S) (0) fun x302 =>
 letO (IntKind.wrap .i64 (↑(UInt8.toNat x302) : Int)) fun x303 =>
 (Fz34 x303).bind fun x304 =>
 cond (!decide (x304.fst = 8))
 (some (.inr (6)))
 (idxO (a0.S) (0) fun x308 =>
 letO (IntKind.wrap .i64 (↑(UInt8.toNat x308) : Int)) fun x309 =>
 (Fz34 x309).bind fun x310 =>
 Option.bind (
 lpO (fun (s313 : Int × Int) =>
 cond (decide (s313.fst = 8))
 (letO (IntKind.wrap .i64 (s313.snd + 1)) fun x327 =>
 cond (decide ((↑(List.length a0.S) : Int) <= x327))
 (some (.inl ((10, x327))))
 (idxO (a0.S) x327 fun x330 =>
 letO (IntKind.wrap .i64 (↑(UInt8.toNat x330) : Int)) fun x331 =>
 (Fz34 x331).bind fun x332 =>
 some (.inl ((x332.fst, x327)))))
 (cond (decide (s313.fst = 6))
 (letO (IntKind.wrap .i64 (s313.snd + 1)) fun x334 =>
 cond (decide ((↑(List.length a0.S) : Int) <= x334))
 (some (.inl ((10, x334))))
 (idxO (a0.S) x334 fun x337 =>
 letO (IntKind.wrap .i64 (↑(UInt8.toNat x337) : Int)) fun x338 =>
 (Fz34 x338).bind fun x339 =>
 some (.inl ((x339.fst, x334)))))
 (some (.inr (.inl ((decide (s313.fst = 6), s313))))))) ((x310.fst, 0)))
 (Sum.elim (fun (s311 : Bool × Int × Int) =>
 zl ((0 : Int) <= (0 : Int) /\ 0 <= s311.snd.snd /\ s311.snd.snd <= (↑(List.length a0.S) : Int)) (
 cond (!decide (List.drop (Int.toNat 0) (List.take (Int.toNat s311.snd.snd) a0.S) = a0.S))
 (some (.inr (6)))
 (some (.inl (16))))) some))))
 (cond (decide (a0.Kind = 3))
 ((Fz36 (a0.S)).bind fun x342 =>
 cond (!x342)
 (some (.inr (6)))
 (some (.inl (2000))))
 (some (.inl (0)))))
 (Sum.elim (fun (s297 : Int) =>
 cond (decide (s297 < (↑(List.length a0.S) : Int)))
 (some (3))
 (some (0))) some))))) some)
noncomputable def Fz38 (a0 : List UInt8) : Option (Bool) :=
 cond (decide (a0 = (ByteArray.mk #[118, 97, 114]).data.toList))
 (some (false))
 (cond (decide (a0 = (ByteArray.mk #[100, 101, 102]).data.toList))
 (some (false))
 (cond (decide (a0 = (ByteArray.mk #[111, 117, 116]).data.toList))
 (some (false))
 (cond (decide (a0 = (ByteArray.mk #[105, 102]).data.toList))
 (some (false))
 (cond (decide (a0 = (ByteArray.mk #[101, 108, 115, 101]).data.toList))
 (some (false))
 (cond (decide (a0 = (ByteArray.mk #[119, 104, 105, 108, 101]).data.toList))
 (some (false))
 (cond (decide (a0 = (ByteArray.mk #[101, 110, 100]).data.toList))
 (some (false))
 (cond (decide (a0 = (ByteArray.mk #[114, 101, 108, 101, 97, 115, 101]).data.toList))
 (some (false))
 (cond (decide (a0 = (ByteArray.mk #[105, 110, 116]).data.toList))
 (some (false))
 (cond (decide (a0 = (ByteArray.mk #[99, 104, 97, 114]).data.toList))
 (some (false))
 ((Fz31 a0).bind fun x287 =>
 cond (decide (x287.snd = 0))
 (some (false))
 ((Fz37 (TK.mk 1 0 0 0 a0)).bind fun x345 =>
 some (decide (x345 = 0)))))))))))))
noncomputable def Fz39 (a0 : TL) (a1 : Int) : Option (Bool) :=
 cond (decide (0 <= a1))
 (some (decide (a1 < (↑(List.length (List.map SV.str a0.Names)) : Int))))
 (some (false))
noncomputable def Fz40 (a0 : TP) : Option (Int × Int) :=
 cond (decide (16 < (↑(List.length (List.map zO a0.Channels)) : Int)))
 (some (((-1 : Int), 3)))
 (Option.bind (
 lpO (fun (s231 : Int × List (List UInt8)) =>
 cond (decide (s231.fst < (↑(List.length (List.map zO a0.Channels)) : Int)))
 (idxO (a0.Channels) (s231.fst) fun x240 =>
 (Fz38 (x240.s_)).bind fun x242 =>
 cond (!x242)
 (some (.inr (.inr ((s231.fst, 24)))))
 (cond (inL (x240.s_) (s231.snd))
 (some (.inr (.inr ((s231.fst, 8)))))
 (cond (inL (x240.s_) (s231.snd))
 ((Fz39 (a0.Lattice) (x240.at_)).bind fun x250 =>
 cond (!x250)
 (some (.inr (.inr ((s231.fst, 7)))))
 (letO (IntKind.wrap .i64 (s231.fst + 1)) fun x252 =>
 some (.inl ((x252, s231.snd)))))
 ((Fz39 (a0.Lattice) (x240.at_)).bind fun x253 =>
 cond (!x253)
 (some (.inr (.inr ((s231.fst, 7)))))
 (letO (IntKind.wrap .i64 (s231.fst + 1)) fun x255 =>
 some (.inl ((x255, s231.snd ++ [x240.s_]))))))))
 (some (.inr (.inl ())))) ((0, [])))
 (Sum.elim (fun (s229 : Unit) =>
 some ((0, 0))) some))
noncomputable def Fz41 (a0 : TL) (a1 : List Int) : Option (Int) :=
 (Fz29 a0).bind fun x266 =>
 cond (!decide (x266.snd = 0))
 (some (x266.snd))
 (Option.bind (
 lpO (fun (s270 : Int) =>
 cond (decide (s270 < (↑(List.length (List.map (SV.int .i64) a1)) : Int)))
 (idxO a1 s270 fun x276 =>
 cond (decide (x276 < 0))
 (some (.inr (.inr (7))))
 (cond (decide ((↑(List.length (List.map SV.str a0.Names)) : Int) <= x276))
 (some (.inr (.inr (7))))
 (letO (IntKind.wrap .i64 (s270 + 1)) fun x279 =>
 some (.inl x279))))
 (some (.inr (.inl ())))) (0))
 (Sum.elim (fun (s268 : Unit) =>
 some (0)) some))
noncomputable def Fz42 (a0 : Int) : Option (Int) :=
 idxO ((ByteArray.mk (List.toArray (List.append (List.append [(0 : UInt8), 1, 1, 2, 1, 2, 2, 3, 1, 2, 2, 3, 2, 3, 3, 4, 1, 2, 2, 3, 2, 3, 3, 4, 2, 3, 3, 4, 3, 4, 4, 5, 1, 2, 2, 3, 2, 3, 3, 4, 2, 3, 3, 4, 3, 4, 4, 5, 2, 3, 3, 4, 3, 4, 4, 5, 3, 4, 4, 5, 4, 5, 5, 6] [(1 : UInt8), 2, 2, 3, 2, 3, 3, 4, 2, 3, 3, 4, 3, 4, 4, 5, 2, 3, 3, 4, 3, 4, 4, 5, 3, 4, 4, 5, 4, 5, 5, 6, 2, 3, 3, 4, 3, 4, 4, 5, 3, 4, 4, 5, 4, 5, 5, 6, 3, 4, 4, 5, 4, 5, 5, 6, 4, 5, 5, 6, 5, 6, 6, 7]) (List.append [(1 : UInt8), 2, 2, 3, 2, 3, 3, 4, 2, 3, 3, 4, 3, 4, 4, 5, 2, 3, 3, 4, 3, 4, 4, 5, 3, 4, 4, 5, 4, 5, 5, 6, 2, 3, 3, 4, 3, 4, 4, 5, 3, 4, 4, 5, 4, 5, 5, 6, 3, 4, 4, 5, 4, 5, 5, 6, 4, 5, 5, 6, 5, 6, 6, 7] [(2 : UInt8), 3, 3, 4, 3, 4, 4, 5, 3, 4, 4, 5, 4, 5, 5, 6, 3, 4, 4, 5, 4, 5, 5, 6, 4, 5, 5, 6, 5, 6, 6, 7, 3, 4, 4, 5, 4, 5, 5, 6, 4, 5, 5, 6, 5, 6, 6, 7, 4, 5, 5, 6, 5, 6, 6, 7, 5, 6, 6, 7, 6, 7, 7, 8])))).data.toList) a0 fun x288 =>
 letO (IntKind.wrap .i64 (↑(UInt8.toNat x288) : Int)) fun x289 =>
 some x289
noncomputable def Fz43 (a0 : List Int) (a1 : Int) : Option (Int) :=
 Option.bind (
 lpO (fun (s285 : Int) =>
 letO (IntKind.wrap .i64 (a1 - 1)) fun x291 =>
 cond (decide (s285 < x291))
 (zl (0 <= s285 /\ s285 < (↑(8 : Nat) : Int)) (
 idxO a0 ((↑(Int.toNat s285) : Int)) fun x293 =>
 (Fz42 x293).bind fun x294 =>
 cond (decide (x294 < a1))
 (letO (IntKind.wrap .i64 (s285 + 1)) fun x296 =>
 some (.inl x296))
 (some (.inr (.inl s285)))))
 (some (.inr (.inl s285)))) (0))
 (Sum.elim (fun (s283 : Int) =>
 some s283) some)
noncomputable def Fz44 (a0 : TL) : Option (Int × Int) :=
 (Fz41 a0 ([])).bind fun x280 =>
 cond (!decide (x280 = 0))
 (some ((0, x280)))
 ((Fz26 a0).bind fun x282 =>
 (Fz43 (x282.up_) (x282.n_)).bind fun x297 =>
 some ((x297, 0)))
noncomputable def Fz45 (a0 : TL) (a1 : List Int) : Option (Int × Int) :=
 (Fz29 a0).bind fun x320 =>
 cond (!decide (x320.snd = 0))
 (some (((-1 : Int), x320.snd)))
 (cond (decide (64 < (↑(List.length (List.map (SV.int .i64) a1)) : Int)))
 (some (((-1 : Int), 3)))
 (Option.bind (
 lpO (fun (s325 : Int) =>
 cond (decide (s325 < (↑(List.length (List.map (SV.int .i64) a1)) : Int)))
 (idxO a1 s325 fun x331 =>
 cond (decide (x331 < 0))
 (some (.inr (.inr ((s325, 7)))))
 (cond (decide ((↑(List.length (List.map SV.str a0.Names)) : Int) <= x331))
 (some (.inr (.inr ((s325, 7)))))
 (letO (IntKind.wrap .i64 (s325 + 1)) fun x334 =>
 some (.inl x334))))
 (some (.inr (.inl ())))) (0))
 (Sum.elim (fun (s323 : Unit) =>
 some ((0, 0))) some)))
noncomputable def Fz46 (a0 : TL) (a1 : Int) (a2 : Int) : Option (Bool) :=
 idxO (a0.Up) a1 fun x343 =>
 zl (0 <= a2) (
 some (decide (bits BinOp.and IntKind.u8 (Int.fdiv x343 (2 ^ min (Int.toNat a2) (IntKind.bits IntKind.u8))) 1 = 1)))
noncomputable def Fz47 (a0 : Int) (a1 : TL) (a2 : Int) : Option (Bool) :=
 (Fz46 a1 a0 a2).bind fun x344 =>
 some (!x344)
noncomputable def Fz48 (a0 : List Int) (a1 : TL × Int) : Option (Int) :=
 Option.bind (
 lpO (fun (s341 : Int) =>
 cond (decide (s341 < (↑(List.length (List.map (SV.int .i64) a0)) : Int)))
 (idxO a0 s341 fun x347 =>
 (Fz47 x347 (a1.fst) (a1.snd)).bind fun x348 =>
 cond x348
 (some (.inr (.inr s341)))
 (letO (IntKind.wrap .i64 (s341 + 1)) fun x350 =>
 some (.inl x350)))
 (some (.inr (.inl ())))) (0))
 (Sum.elim (fun (s339 : Unit) =>
 some ((-1 : Int))) some)
noncomputable def Fz49 (a0 : TL) (a1 : List Int) (a2 : Int) : Option (Int × Int) :=
 (Fz45 a0 a1).bind fun x335 =>
 cond (!decide (x335.snd = 0))
 (some x335)
 (cond (decide (a2 < 0))
 (some (((-1 : Int), 7)))
 (cond (decide ((↑(List.length (List.map SV.str a0.Names)) : Int) <= a2))
 (some (((-1 : Int), 7)))
 ((Fz48 a1 ((a0, a2))).bind fun x351 =>
 cond (decide (0 <= x351))
 (some ((x351, 25)))
 (some ((0, 0))))))
noncomputable def Fz50 (a0 : TL) (a1 : TY) : Option (Int) :=
 (Fz44 a0).bind fun x298 =>
 cond (!decide (x298.snd = 0))
 (some (x298.snd))
 (cond (!decide (a1.Kind = 1))
 (cond (!decide (a1.Kind = 2))
 (some (7))
 (cond (decide (a1.Rank < 0))
 (some (7))
 (cond (decide (2 < a1.Rank))
 (some (7))
 ((Fz39 a0 (a1.Axes.fst)).bind fun x304 =>
 cond (!x304)
 (some (7))
 ((Fz39 a0 (a1.Axes.snd)).bind fun x306 =>
 cond (!x306)
 (some (7))
 ((Fz39 a0 (a1.Data)).bind fun x308 =>
 cond (!x308)
 (some (7))
 (zl (0 <= a1.Rank /\ a1.Rank <= (↑(2 : Nat) : Int)) (
 Option.bind (
 lpO (fun (s312 : Int) =>
 cond (decide (s312 < (↑(List.length (List.drop (Int.toNat a1.Rank) (List.take (Int.toNat (↑(2 : Nat) : Int)) [SV.int .i64 a1.Axes.fst, SV.int .i64 a1.Axes.snd]))) : Int)))
 (idxO (List.drop (Int.toNat a1.Rank) (List.take (Int.toNat (↑(2 : Nat) : Int)) [a1.Axes.fst, a1.Axes.snd])) s312 fun x317 =>
 cond (!decide (x317 = x298.fst))
 (some (.inr (.inr (6))))
 (letO (IntKind.wrap .i64 (s312 + 1)) fun x319 =>
 some (.inl x319)))
 (some (.inr (.inl ())))) (0))
 (Sum.elim (fun (s310 : Unit) =>
 zl (0 <= a1.Rank /\ a1.Rank <= (↑(2 : Nat) : Int)) (
 (Fz49 a0 (List.drop (Int.toNat 0) (List.take (Int.toNat a1.Rank) [a1.Axes.fst, a1.Axes.snd])) (a1.Data)).bind fun x353 =>
 cond (!decide (x353.snd = 0))
 (some (x353.snd))
 (some (0)))) some)))))))))
 (cond (decide (a1.Rank < 0))
 (some (7))
 (cond (decide (2 < a1.Rank))
 (some (7))
 ((Fz39 a0 (a1.Axes.fst)).bind fun x357 =>
 cond (!x357)
 (some (7))
 ((Fz39 a0 (a1.Axes.snd)).bind fun x359 =>
 cond (!x359)
 (some (7))
 ((Fz39 a0 (a1.Data)).bind fun x361 =>
 cond (!x361)
 (some (7))
 (zl (0 <= a1.Rank /\ a1.Rank <= (↑(2 : Nat) : Int)) (
 Option.bind (
 lpO (fun (s365 : Int) =>
 cond (decide (s365 < (↑(List.length (List.drop (Int.toNat a1.Rank) (List.take (Int.toNat (↑(2 : Nat) : Int)) [SV.int .i64 a1.Axes.fst, SV.int .i64 a1.Axes.snd]))) : Int)))
 (idxO (List.drop (Int.toNat a1.Rank) (List.take (Int.toNat (↑(2 : Nat) : Int)) [a1.Axes.fst, a1.Axes.snd])) s365 fun x370 =>
 cond (!decide (x370 = x298.fst))
 (some (.inr (.inr (6))))
 (letO (IntKind.wrap .i64 (s365 + 1)) fun x372 =>
 some (.inl x372)))
 (some (.inr (.inl ())))) (0))
 (Sum.elim (fun (s363 : Unit) =>
 zl (0 <= a1.Rank /\ a1.Rank <= (↑(2 : Nat) : Int)) (
 (Fz49 a0 (List.drop (Int.toNat 0) (List.take (Int.toNat a1.Rank) [a1.Axes.fst, a1.Axes.snd])) (a1.Data)).bind fun x373 =>
 cond (!decide (x373.snd = 0))
 (some (x373.snd))
 (some (0)))) some)))))))))
noncomputable def Fz51 (a0 : TP) : Option (Int × Int) :=
 cond (decide (32 < (↑(List.length (List.map qg a0.Vars)) : Int)))
 (some (((-1 : Int), 3)))
 (Option.bind (
 lpO (fun (s261 : Int × List (List UInt8)) =>
 cond (decide (s261.fst < (↑(List.length (List.map qg a0.Vars)) : Int)))
 (idxO (a0.Vars) (s261.fst) fun x270 =>
 (Fz38 (x270.Name)).bind fun x272 =>
 cond (!x272)
 (some (.inr (.inr ((s261.fst, 24)))))
 (cond (inL (x270.Name) (s261.snd))
 (some (.inr (.inr ((s261.fst, 8)))))
 (cond (inL (x270.Name) (s261.snd))
 ((Fz50 (a0.Lattice) (x270.Type_)).bind fun x280 =>
 cond (!decide (x280 = 0))
 (some (.inr (.inr ((s261.fst, x280)))))
 (letO (IntKind.wrap .i64 (s261.fst + 1)) fun x282 =>
 some (.inl ((x282, s261.snd)))))
 ((Fz50 (a0.Lattice) (x270.Type_)).bind fun x283 =>
 cond (!decide (x283 = 0))
 (some (.inr (.inr ((s261.fst, x283)))))
 (letO (IntKind.wrap .i64 (s261.fst + 1)) fun x285 =>
 some (.inl ((x285, s261.snd ++ [x270.Name]))))))))
 (some (.inr (.inl ())))) ((0, [])))
 (Sum.elim (fun (s259 : Unit) =>
 some ((0, 0))) some))
noncomputable def Fz52 (a0 : TP) : Option (Int × Int) :=
 cond (decide (64 < (↑(List.length (List.map yb a0.Rules)) : Int)))
 (some (((-1 : Int), 3)))
 (Option.bind (
 lpO (fun (s291 : Int × List (Int × Int)) =>
 cond (decide (s291.fst < (↑(List.length (List.map yb a0.Rules)) : Int)))
 (idxO (a0.Rules) (s291.fst) fun x304 =>
 (Fz39 (a0.Lattice) (x304.From)).bind fun x305 =>
 cond (!x305)
 (some (.inr (.inr ((s291.fst, 7)))))
 ((Fz39 (a0.Lattice) (x304.Goal)).bind fun x307 =>
 cond (!x307)
 (some (.inr (.inr ((s291.fst, 7)))))
 (cond (decide (x304.From = x304.Goal))
 (some (.inr (.inr ((s291.fst, 25)))))
 (idxO (a0.Lattice.Up) (x304.Goal) fun x310 =>
 zl (0 <= x304.From) (
 cond (decide (bits BinOp.and IntKind.u8 (Int.fdiv x310 (2 ^ min (Int.toNat x304.From) (IntKind.bits IntKind.u8))) 1 = 0))
 (some (.inr (.inr ((s291.fst, 25)))))
 (cond (inL ((x304.From, x304.Goal)) (s291.snd))
 (some (.inr (.inr ((s291.fst, 8)))))
 (cond (decide (x304.K < 2))
 (some (.inr (.inr ((s291.fst, 3)))))
 (cond (decide (400 < x304.K))
 (some (.inr (.inr ((s291.fst, 3)))))
 (cond (inL ((x304.From, x304.Goal)) (s291.snd))
 (letO (IntKind.wrap .i64 (s291.fst + 1)) fun x320 =>
 some (.inl ((x320, s291.snd))))
 (letO (IntKind.wrap .i64 (s291.fst + 1)) fun x321 =>
 some (.inl ((x321, s291.snd ++ [(x304.From, x304.Goal)])))))))))))))
 (some (.inr (.inl ())))) ((0, [])))
 (Sum.elim (fun (s289 : Unit) =>
 some ((0, 0))) some))
noncomputable def Fz53 (a0 : TP) : Option (Int × Int × Int) :=
 Option.bind (
 (Fz30 a0).bind fun x63 =>
 cond (!decide (x63.snd = 0))
 (some (.inl ((1, x63.snd, x63.fst))))
 ((Fz40 a0).bind fun x65 =>
 cond (!decide (x65.snd = 0))
 (some (.inl ((2, x65.snd, x65.fst))))
 ((Fz51 a0).bind fun x67 =>
 cond (!decide (x67.snd = 0))
 (some (.inl ((3, x67.snd, x67.fst))))
 ((Fz52 a0).bind fun x69 =>
 cond (!decide (x69.snd = 0))
 (some (.inl ((4, x69.snd, x69.fst))))
 (some (.inl ((0, x69.snd, x69.fst))))))))
 (Sum.elim (fun (s60 : Int × Int × Int) =>
 some ((s60.fst, s60.snd.snd, s60.snd.fst))) some)
noncomputable def Fz54 (a0 : Int) (a1 : Int) : Option (TA × Int) :=
 cond (!decide (a0 = 1))
 (cond (!decide (a0 = 2))
 (some ((TA.mk 0 0 (0, 0) [], 2)))
 (cond (decide (a1 < 0))
 (some ((TA.mk 0 0 (0, 0) [], 7)))
 (cond (decide (2 < a1))
 (some ((TA.mk 0 0 (0, 0) [], 7)))
 (cond (decide (a1 = 0))
 (some ((TA.mk a0 0 (0, 0) [0], 0)))
 (some ((TA.mk a0 a1 (0, 0) [], 0)))))))
 (cond (decide (a1 < 0))
 (some ((TA.mk 0 0 (0, 0) [], 7)))
 (cond (decide (2 < a1))
 (some ((TA.mk 0 0 (0, 0) [], 7)))
 (cond (decide (a1 = 0))
 (some ((TA.mk a0 0 (0, 0) [0], 0)))
 (some ((TA.mk a0 a1 (0, 0) [], 0))))))
noncomputable def Fz55 (a0 : TP) : Option (List TW × Int) :=
 (Fz53 a0).bind fun x71 =>
 cond (!decide (x71.snd.snd = 0))
 (some (([], x71.snd.snd)))
 (Option.bind (
 lpO (fun (s75 : Int × List TW) =>
 cond (decide (s75.fst < (↑(List.length (List.map qg a0.Vars)) : Int)))
 (idxO (a0.Vars) (s75.fst) fun x81 =>
 (Fz54 (x81.Type_.Kind) (x81.Type_.Rank)).bind fun x82 =>
 cond (!decide (x82.snd = 0))
 (some (.inr (.inr (([], x82.snd)))))
 (zl ((List.length (List.map zE s75.snd) + (1 : Nat)) * (72 : Nat) <= (70368744177664 : Nat)) (
 letO (IntKind.wrap .i64 (s75.fst + 1)) fun x84 =>
 some (.inl ((x84, s75.snd ++ [TW.mk x81.Name x82.fst]))))))
 (some (.inr (.inl (s75.snd))))) ((0, [])))
 (Sum.elim (fun (s73 : List TW) =>
 some ((s73, 0))) some))
noncomputable def Fz56 (a0 : Int) : Option (Bool) :=
 some (decide (a0 < 0))
noncomputable def Fz57 (a0 : List Int) : Option (Int) :=
 Option.bind (
 lpO (fun (s102 : Int) =>
 cond (decide (s102 < (↑(List.length (List.map (SV.int .i64) a0)) : Int)))
 (idxO a0 s102 fun x108 =>
 (Fz56 x108).bind fun x109 =>
 cond x109
 (some (.inr (.inr s102)))
 (letO (IntKind.wrap .i64 (s102 + 1)) fun x111 =>
 some (.inl x111)))
 (some (.inr (.inl ())))) (0))
 (Sum.elim (fun (s100 : Unit) =>
 some ((-1 : Int))) some)
noncomputable def Fz58 (a0 : List Int) : Option (Bool) :=
 (Fz57 a0).bind fun x112 =>
 some (decide (0 <= x112))
noncomputable def Fz59 (a0 : Int) : Option (Bool) :=
 some (!decide (a0 = 0))
noncomputable def Fz60 (a0 : List Int) : Option (Int) :=
 Option.bind (
 lpO (fun (s117 : Int) =>
 cond (decide (s117 < (↑(List.length (List.map (SV.int .i64) a0)) : Int)))
 (idxO a0 s117 fun x123 =>
 (Fz59 x123).bind fun x124 =>
 cond x124
 (some (.inr (.inr s117)))
 (letO (IntKind.wrap .i64 (s117 + 1)) fun x126 =>
 some (.inl x126)))
 (some (.inr (.inl ())))) (0))
 (Sum.elim (fun (s115 : Unit) =>
 some ((-1 : Int))) some)
noncomputable def Fz61 (a0 : List Int) : Option (Bool) :=
 (Fz60 a0).bind fun x127 =>
 some (decide (0 <= x127))
noncomputable def Fz62 (a0 : Int) : Option (Bool) :=
 some (decide (400 < a0))
noncomputable def Fz63 (a0 : List Int) : Option (Int) :=
 Option.bind (
 lpO (fun (s132 : Int) =>
 cond (decide (s132 < (↑(List.length (List.map (SV.int .i64) a0)) : Int)))
 (idxO a0 s132 fun x138 =>
 (Fz62 x138).bind fun x139 =>
 cond x139
 (some (.inr (.inr s132)))
 (letO (IntKind.wrap .i64 (s132 + 1)) fun x141 =>
 some (.inl x141)))
 (some (.inr (.inl ())))) (0))
 (Sum.elim (fun (s130 : Unit) =>
 some ((-1 : Int))) some)
noncomputable def Fz64 (a0 : List Int) : Option (Bool) :=
 (Fz63 a0).bind fun x142 =>
 some (decide (0 <= x142))
noncomputable def Fz65 (a0 : Int) (a1 : Int × Int) : Option (Int) :=
 cond (decide (a0 = 2))
 (letO (IntKind.wrap .i64 (1 * a1.snd)) fun x146 =>
 letO (IntKind.wrap .i64 (x146 * a1.fst)) fun x147 =>
 some x147)
 (cond (decide (a0 = 1))
 (letO (IntKind.wrap .i64 (1 * a1.fst)) fun x149 =>
 some x149)
 (some (1)))
noncomputable def Fz66 (a0 : Int) (a1 : Int × Int) : Option (Int) :=
 cond (decide (a0 < 0))
 (some (7))
 (cond (decide (2 < a0))
 (some (7))
 (zl (0 <= a0 /\ a0 <= (↑(2 : Nat) : Int)) (
 zl (0 <= a0 /\ a0 <= (↑(2 : Nat) : Int)) (
 (Fz58 (List.drop (Int.toNat 0) (List.take (Int.toNat a0) [a1.fst, a1.snd]))).bind fun x113 =>
 cond x113
 (some (7))
 ((Fz61 (List.drop (Int.toNat a0) (List.take (Int.toNat (↑(2 : Nat) : Int)) [a1.fst, a1.snd]))).bind fun x128 =>
 cond x128
 (some (6))
 ((Fz64 (List.drop (Int.toNat 0) (List.take (Int.toNat a0) [a1.fst, a1.snd]))).bind fun x143 =>
 cond x143
 (some (15))
 ((Fz65 a0 a1).bind fun x150 =>
 cond (decide (400 < x150))
 (some (15))
 (some (0)))))))))
noncomputable def Fz67 (a0 : Int) (a1 : Int × Int) : Option (Int × Int) :=
 (Fz66 a0 a1).bind fun x152 =>
 cond (!decide (x152 = 0))
 (some ((0, x152)))
 ((Fz65 a0 a1).bind fun x154 =>
 some ((x154, 0)))
noncomputable def Fz68 (a0 : Int) (a1 : Int) : Option (Bool) :=
 cond (decide (a0 = 1))
 (some (true))
 (cond (decide (0 <= a1))
 (cond (decide (a1 <= 1114111))
 (letO (IntKind.wrap .i32 a1) fun x165 =>
 (Fz15 x165).bind fun x166 =>
 some x166)
 (some (false)))
 (some (false)))
noncomputable def Fz69 (a0 : Int) (a1 : TA) : Option (Bool) :=
 (Fz68 (a1.Kind) a0).bind fun x167 =>
 some (!x167)
noncomputable def Fz70 (a0 : List Int) (a1 : TA) : Option (Int) :=
 Option.bind (
 lpO (fun (s160 : Int) =>
 cond (decide (s160 < (↑(List.length (List.map (SV.int .i64) a0)) : Int)))
 (idxO a0 s160 fun x166 =>
 (Fz69 x166 a1).bind fun x167 =>
 cond x167
 (some (.inr (.inr s160)))
 (letO (IntKind.wrap .i64 (s160 + 1)) fun x169 =>
 some (.inl x169)))
 (some (.inr (.inl ())))) (0))
 (Sum.elim (fun (s158 : Unit) =>
 some ((-1 : Int))) some)
noncomputable def Fz71 (a0 : List Int) (a1 : TA) : Option (Bool) :=
 (Fz70 a0 a1).bind fun x170 =>
 some (decide (0 <= x170))
noncomputable def Fz72 (a0 : TA) : Option (Int) :=
 cond (!decide (a0.Kind = 1))
 (cond (!decide (a0.Kind = 2))
 (some (2))
 ((Fz67 (a0.Rank) (a0.Lens)).bind fun x155 =>
 cond (!decide (x155.snd = 0))
 (some (x155.snd))
 (cond (!decide ((↑(List.length (List.map (SV.int .i64) a0.Cells)) : Int) = x155.fst))
 (some (6))
 ((Fz71 (a0.Cells) a0).bind fun x171 =>
 cond x171
 (some (7))
 (some (0))))))
 ((Fz67 (a0.Rank) (a0.Lens)).bind fun x173 =>
 cond (!decide (x173.snd = 0))
 (some (x173.snd))
 (cond (!decide ((↑(List.length (List.map (SV.int .i64) a0.Cells)) : Int) = x173.fst))
 (some (6))
 ((Fz71 (a0.Cells) a0).bind fun x176 =>
 cond x176
 (some (7))
 (some (0)))))
noncomputable def Fz73 (a0 : TP) (a1 : List TW) : Option (Int × Int) :=
 (Fz53 a0).bind fun x88 =>
 cond (!decide (x88.snd.snd = 0))
 (some (((-1 : Int), x88.snd.snd)))
 (cond (!decide ((↑(List.length (List.map zE a1)) : Int) = (↑(List.length (List.map qg a0.Vars)) : Int)))
 (some (((-1 : Int), 3)))
 (Option.bind (
 lpO (fun (s93 : Int) =>
 cond (decide (s93 < (↑(List.length (List.map zE a1)) : Int)))
 (idxO a1 s93 fun x104 =>
 idxO (a0.Vars) s93 fun x105 =>
 (Fz72 (x104.Value)).bind fun x106 =>
 idxO (a0.Vars) s93 fun x107 =>
 cond (!decide (x104.Name = x107.Name))
 (some (.inr (.inr ((s93, 24)))))
 (cond (!decide (x106 = 0))
 (some (.inr (.inr ((s93, x106)))))
 (cond (!decide (x104.Value.Kind = x105.Type_.Kind))
 (some (.inr (.inr ((s93, 21)))))
 (cond (!decide (x104.Value.Rank = x105.Type_.Rank))
 (some (.inr (.inr ((s93, 22)))))
 (letO (IntKind.wrap .i64 (s93 + 1)) fun x112 =>
 some (.inl x112))))))
 (some (.inr (.inl ())))) (0))
 (Sum.elim (fun (s91 : Unit) =>
 some ((0, 0))) some)))
noncomputable def Fz74 (a0 : TP) (a1 : List UInt8) : Option (TY × Int) :=
 (Fz53 a0).bind fun x122 =>
 cond (!decide (x122.snd.snd = 0))
 (some ((TY.mk 0 0 (0, 0) 0, x122.snd.snd)))
 (Option.bind (
 lpO (fun (s126 : Int) =>
 cond (decide (s126 < (↑(List.length (List.map qg a0.Vars)) : Int)))
 (idxO (a0.Vars) s126 fun x131 =>
 cond (decide (x131.Name = a1))
 (some (.inr (.inr ((x131.Type_, 0)))))
 (letO (IntKind.wrap .i64 (s126 + 1)) fun x133 =>
 some (.inl x133)))
 (some (.inr (.inl ())))) (0))
 (Sum.elim (fun (s124 : Unit) =>
 some ((TY.mk 0 0 (0, 0) 0, 4))) some))
noncomputable def Fz75 (a0 : TP) (a1 : List TW) : Option (Bool) :=
 (Fz2 a0).bind fun x40 =>
 cond x40
 (some (true))
 ((Fz3 a1).bind fun x58 =>
 cond x58
 (some (true))
 ((Fz55 a0).bind fun x85 =>
 cond (!decide (x85.snd = 0))
 (cond (decide ((↑(List.length (List.map zE x85.fst)) : Int) = 0))
 (some (true))
 (some (false)))
 ((Fz73 a0 (x85.fst)).bind fun x113 =>
 cond (!decide (x113.snd = 0))
 (some (false))
 (cond (!decide ((↑(List.length (List.map zE x85.fst)) : Int) = (↑(List.length (List.map qg a0.Vars)) : Int)))
 (some (false))
 ((Fz73 a0 a1).bind fun x116 =>
 cond (!decide (x116.snd = 0))
 (some (true))
 (Option.bind (
 lpO (fun (s120 : Int) =>
 cond (decide (s120 < (↑(List.length (List.map zE a1)) : Int)))
 (idxO a1 s120 fun x130 =>
 (Fz74 a0 (x130.Name)).bind fun x131 =>
 cond (!decide (x131.snd = 0))
 (some (.inr (.inr (false))))
 (idxO a1 s120 fun x133 =>
 cond (!decide (x131.fst.Kind = x133.Value.Kind))
 (some (.inr (.inr (false))))
 (idxO a1 s120 fun x135 =>
 cond (!decide (x131.fst.Rank = x135.Value.Rank))
 (some (.inr (.inr (false))))
 (letO (IntKind.wrap .i64 (s120 + 1)) fun x137 =>
 some (.inl x137)))))
 (some (.inr (.inl ())))) (0))
 (Sum.elim (fun (s118 : Unit) =>
 cond (decide ((↑(List.length (List.map zE a1)) : Int) = 0))
 (some (true))
 (letO (IntKind.wrap .i64 ((↑(List.length (List.map zE a1)) : Int) - 1)) fun x139 =>
 zl (0 <= x139 /\ x139 <= (↑(List.length (List.map zE a1)) : Int)) (
 (Fz73 a0 (List.drop (Int.toNat 0) (List.take (Int.toNat x139) a1))).bind fun x140 =>
 zl (((0 : Nat) + List.length (List.map zE a1)) * (72 : Nat) <= (70368744177664 : Nat)) (
 letO (IntKind.wrap .i64 ((↑(List.length (List.map zE a1)) : Int) - 1)) fun x141 =>
 letO (IntKind.wrap .i64 ((↑(List.length (List.map zE a1)) : Int) - 1)) fun x142 =>
 zl (0 <= x142 /\ x142 < (↑(List.length ([] ++ List.map zE a1)) : Int)) (
 idxO ([] ++ a1) ((↑(Int.toNat x142) : Int)) fun x143 =>
 zl ((↑(List.length x143.Name + (1 : Nat)) : Int) <= (9223372036854775807 : Int)) (
 zl (0 <= x141 /\ x141 < (↑(List.length ([] ++ List.map zE a1)) : Int)) (
 idxO ([] ++ a1) ((↑(Int.toNat x141) : Int)) fun x144 =>
 (Fz73 a0 (List.set ([] ++ a1) (Int.toNat x141) (TW.mk (x143.Name ++ (ByteArray.mk #[120]).data.toList) x144.Value))).bind fun x145 =>
 cond (decide (x140.fst = (-1 : Int)))
 (cond (decide (x140.snd = 3))
 (letO (IntKind.wrap .i64 ((↑(List.length (List.map zE a1)) : Int) - 1)) fun x148 =>
 cond (decide (x145.fst = x148))
 (cond (decide (x145.snd = 24))
 (some (true))
 (some (false)))
 (some (false)))
 (some (false)))
 (some (false))))))))) some)))))))
end Go.Sx.O
namespace Go.Sx.O
open Go
theorem zei {α τ : Type} {l : List α} (p : α -> Bool) {step : Int -> Option (Int ⊕ τ)} {d : τ} {g : Int -> τ}
 (h1 : ∀ (k : Nat) x, l[k]? = some x -> step (k : Int) = if p x then some (.inr (g k)) else some (.inl ((k : Int) + 1)))
 (h2 : step (l.length : Int) = some (.inr d)) :
 lpO step 0 = (match l.findIdx? p with | some i => some (g i) | none => some d) := by
 have key : ∀ j k, j + k = l.length -> lpO step (k : Int) = (match (l.drop k).findIdx? p with | some i => some (g ((k + i : Nat) : Int)) | none => some d) := by
  intro j
  induction j with
  | zero =>
    intro k hk
    rw [yp]
    have : k = l.length := by omega
    subst this
    rw [h2]
    simp
  | succ j ih =>
    intro k hk
    have hlt : k < l.length := by omega
    rw [yp, h1 k _ (List.getElem?_eq_getElem hlt), List.drop_eq_getElem_cons hlt, List.findIdx?_cons]
    split
    · simp
    · have := ih (k + 1) (by omega)
      simp only [Option.bind_some, Sum.elim_inl]
      push_cast at this
      rw [this]
      cases (l.drop (k + 1)).findIdx? p with
      | none => rfl
      | some i => simp; congr 1; omega
 have := key l.length 0 (by omega)
 simpa using this
end Go.Sx.O
namespace Go.Sx.O
open Go
theorem dropWhile_nil {α : Type} {p : α -> Bool} : ∀ {l : List α}, l.dropWhile p = [] ↔ ∀ x ∈ l, p x = true
 | [] => by simp
 | a :: l => by
   rw [List.dropWhile_cons]
   cases h : p a with
   | true => simp [h, dropWhile_nil (l := l)]
   | false => simp [h]
theorem zah (l : List (List UInt8)) (s : List UInt8) (hl : l.length <= 1000000000) :
 Fz22 l s = some (match l.findIdx? (fun x => decide (s = x)) with | some i => (i : Int) | none => -1) := by
 unfold Fz22
 rw [zei (l := l) (fun x => decide (s = x)) (d := .inl ()) (g := .inr) ?_ ?_]
 · cases l.findIdx? (fun x => decide (s = x)) <;> rfl
 · intro k x hx
   have hlt : k < l.length := by
    by_cases h : k < l.length
    · exact h
    · rw [List.getElem?_eq_none (by omega)] at hx; cases hx
   simp only [List.length_map, Int.ofNat_lt, hlt, decide_true, cond_true, idxO, Int.toNat_natCast, hx, Option.bind_some, letO, Int.natCast_nonneg, if_true]
   rw [w64 (by omega) (by omega)]
   cases decide (s = x) <;> rfl
 · simp
theorem yI (l : List (List UInt8)) (s : List UInt8) (hl : l.length <= 1000000000) :
 Fz23 l s = some (decide (s ∈ l)) := by
 unfold Fz23
 rw [zah l s hl]
 cases h : l.findIdx? (fun x => decide (s = x)) with
 | none =>
   have := List.findIdx?_eq_none_iff.1 h
   simp only [Option.bind_some]
   congr 1
   have hn : s ∉ l := fun hm => by have := this s hm; simp at this
   simp [hn]
 | some i =>
   have := List.findIdx?_eq_some_iff_getElem.1 h
   obtain ⟨hi, h1, _⟩ := this
   have hm : s ∈ l := by
    have e : s = l[i] := by simpa using h1
    rw [e]; exact List.getElem_mem hi
   simp [hm]
def wI (set : List Bool) (c : UInt8) : Bool := set.getD c.toNat false
theorem uJ (set : List Bool) (c : UInt8) (h : set.length = 256) : Fz7 set (c.toNat : Int) = some (wI set c) := by
 unfold Fz7
 have hc : c.toNat < 256 := c.toNat_lt
 have h2 : set[c.toNat]? = some (set[c.toNat]'(by omega)) := List.getElem?_eq_getElem _
 have h3 : (c.toNat : Int) < 256 := by omega
 simp [zl, idxO, wI, h2, h3]
def jj (p : UInt8 -> Bool) (s : List UInt8) : List UInt8 := (s.reverse.dropWhile p).reverse
theorem zlt {p : UInt8 -> Bool} {s : List UInt8} : (jj p s).dropWhile p = [] ↔ ∀ c ∈ s, p c = true := by
 unfold jj
 constructor
 · intro h c hc
   have h1 : ∀ c ∈ (s.reverse.dropWhile p).reverse, p c = true := dropWhile_nil.1 h
   have h2 : s.reverse.dropWhile p = [] := by
    cases e : s.reverse.dropWhile p with
    | nil => rfl
    | cons a r =>
      have := List.head?_dropWhile_not p s.reverse
      rw [e] at this
      simp at this
      rw [e] at h1
      rw [h1 a (by simp)] at this
      cases this
   exact dropWhile_nil.1 h2 c (by simpa using hc)
 · intro h
   have : s.reverse.dropWhile p = [] := dropWhile_nil.2 fun c hc => h c (by simpa using hc)
   rw [this]; rfl
theorem uN (s : List UInt8) (set : List Bool) (h : set.length = 256) (hs : s.length <= 1000000000) : Fz8 s set = some (jj (wI set) s) := by
 unfold Fz8
 apply Tot.eq
 simp only [zr]
 refine Tot.loop (fun s => s.length) (fun r => r.length <= 1000000000 /\ jj (wI set) r = jj (wI set) s) ?_ ⟨hs, rfl⟩
 rintro r ⟨hr, he⟩
 simp only [zo, zw, zW, qf, qv, zr, Sum.elim_inl, Sum.elim_inr, decide_eq_true_eq, decide_eq_false_iff_not]
 refine ⟨fun h1 => ?_, fun h1 => ?_⟩
 · have h0 : r ≠ [] := by rintro rfl; simp at h1
   rw [w64 (by omega) (by omega)]
   have e1 : ((r.length : Int) - 1).toNat = r.length - 1 := by omega
   rw [e1]
   refine ⟨by omega, _, List.getElem?_eq_getElem (by omega), ?_⟩
   rw [uJ set _ h]
   simp only [zo, Bool.not_eq_true', Bool.not_eq_false']
   have hr2 : r = r.dropLast ++ [r[r.length - 1]'(by omega)] := by
    rw [<- List.getLast_eq_getElem h0]; exact (List.dropLast_concat_getLast h0).symm
   refine ⟨fun h2 => ?_, fun h2 => ⟨⟨by omega, by omega⟩, ⟨by simp; omega, ?_⟩, by simp; omega⟩⟩
   · rw [<- he]
     unfold jj
     rw [hr2]
     simp [h2]
   · rw [<- he]
     simp only [Int.toNat_zero, List.drop_zero]
     rw [<- List.dropLast_eq_take]
     conv => rhs; rw [hr2]
     unfold jj
     simp [h2]
 · have h0 : r = [] := List.length_eq_zero_iff.1 (by omega)
   rw [<- he, h0]; rfl
theorem uX (s : List UInt8) (set : List Bool) (h : set.length = 256) (hs : s.length <= 1000000000) : Fz9 s set = some (s.dropWhile (wI set)) := by
 unfold Fz9
 apply Tot.eq
 simp only [zr]
 refine Tot.loop (fun s => s.length) (fun r => r.length <= 1000000000 /\ r.dropWhile (wI set) = s.dropWhile (wI set)) ?_ ⟨hs, rfl⟩
 rintro r ⟨hr, he⟩
 simp only [zo, zw, zW, qf, qv, zr, Sum.elim_inl, Sum.elim_inr, decide_eq_true_eq, decide_eq_false_iff_not]
 cases r with
 | nil => simp [<- he]
 | cons a r =>
   refine ⟨fun h1 => ⟨by omega, a, rfl, ?_⟩, fun h1 => absurd h1 (by simp)⟩
   rw [uJ set _ h]
   simp only [zo, Bool.not_eq_true', Bool.not_eq_false']
   refine ⟨fun h2 => ?_, fun h2 => ⟨by simp; omega, ⟨?_, ?_⟩, ?_⟩⟩
   · rw [<- he]; simp [h2]
   · simp at hr ⊢; omega
   · rw [<- he]; simp [h2]
   · simp
end Go.Sx.O
namespace Go.Sx.O
open Go
theorem zlx {set : List Bool} {c d : UInt8} (h : set.length = 256) : wI (set.set c.toNat true) d = (decide (d = c) || wI set d) := by
 have hc : c.toNat < 256 := c.toNat_lt
 unfold wI
 rw [List.getD_eq_getElem?_getD, List.getD_eq_getElem?_getD, List.getElem?_set]
 by_cases e : c.toNat = d.toNat
 · have : d = c := (UInt8.toNat_inj.1 e).symm
   subst this
   simp [h, hc]
 · have : d ≠ c := fun e' => e (by rw [e'])
   simp [e, this]
theorem za6 (cs : List UInt8) (h : ∀ c ∈ cs, c.toNat < 128) (hs : cs.length <= 1000000000) : Tot (Fz6 cs) fun r => r.2 = true /\ r.1.length = 256 /\ ∀ d, wI r.1 d = decide (d ∈ cs) := by
 unfold Fz6
 simp only [zr]
 refine Tot.count cs.length (fun k s => s.1 = (k : Int) /\ s.2.length = 256 /\ ∀ d, wI s.2 d = decide (d ∈ cs.take k)) ?_ ⟨rfl, List.length_replicate, fun d => ?_⟩
 · rintro k ⟨i, set⟩ hk ⟨h0, h1, h2⟩
   simp only at h0 h1 h2
   subst h0
   simp only [zo, zw, zW, qf, qv, Sum.elim_inl, Sum.elim_inr, decide_eq_true_eq, decide_eq_false_iff_not, Int.toNat_natCast]
   refine ⟨fun hlt => ⟨by omega, _, List.getElem?_eq_getElem (by omega), fun h3 => ?_, fun h3 => ?_⟩, fun hlt => ?_⟩
   · have := h cs[k] (List.getElem_mem _)
     omega
   · have hc : cs[k].toNat < 256 := (cs[k]'(by omega)).toNat_lt
     refine ⟨⟨by omega, by omega⟩, by omega, _, List.getElem?_eq_getElem (by omega), ?_⟩
     rw [w64 (by omega) (by omega)]
     refine ⟨by omega, by omega, by simpa using h1, fun d => ?_⟩
     have hm : d ∈ cs.take (k + 1) ↔ d ∈ cs.take k \/ d = cs[k] := by
      rw [List.take_add_one, List.getElem?_eq_getElem (by omega), List.mem_append]
      simp
     rw [zlx h1, h2, Bool.eq_iff_iff]
     simp only [Bool.or_eq_true, decide_eq_true_eq, hm]
     exact or_comm
   · refine ⟨trivial, h1, fun d => ?_⟩
     rw [h2, List.take_of_length_le (by omega)]
 · unfold wI
   rw [List.getD_eq_getElem?_getD, List.getElem?_replicate]
   split <;> simp
theorem zkq (s cs : List UInt8) (h : ∀ c ∈ cs, c.toNat < 128) (h1 : 2 <= cs.length) (hs : cs.length <= 1000000000) (hl : s.length <= 1000000000) :
 Fz20 s cs = some ((jj (fun c => decide (c ∈ cs)) s).dropWhile (fun c => decide (c ∈ cs))) := by
 unfold Fz20
 have e0 : (ByteArray.mk #[]).data.toList = [] := rfl
 simp only [e0]
 cases s with
 | nil => simp [jj]
 | cons a r =>
   have e1 : decide (a :: r = []) = false := by simp
   have e2 : decide (cs = []) = false := by cases cs <;> simp at h1 ⊢
   have e3 : decide ((cs.length : Int) = 1) = false := by simp; omega
   simp only [e1, e2, e3, cond_false]
   obtain ⟨x, hx, hx1, hx2, hx3⟩ := za6 cs h hs
   have e4 : wI x.1 = fun c => decide (c ∈ cs) := funext hx3
   rw [hx]
   simp only [Option.bind_some, hx1, cond_true]
   rw [uN _ _ hx2 hl]
   simp only [Option.bind_some]
   rw [uX _ _ hx2 (by
    refine Nat.le_trans ?_ hl
    unfold jj
    rw [List.length_reverse]
    refine Nat.le_trans (List.dropWhile_sublist _).length_le (by simp))]
   rw [e4]
   rfl
def zop : List UInt8 := [97, 98, 99, 100, 101, 102, 103, 104, 105, 106, 107, 108, 109, 110, 111, 112, 113, 114, 115, 116, 117, 118, 119, 120, 121, 122, 48, 49, 50, 51, 52, 53, 54, 55, 56, 57, 45]
def zfv (s : List UInt8) : Bool := decide (s.length <= 16) && (match s with | [] => false | c :: _ => decide (97 <= c.toNat) && decide (c.toNat <= 122)) && s.all fun c => decide (c ∈ zop)
theorem zfc (s : List UInt8) (hl : s.length <= 1000000000) : Fz21 s = some (zfv s) := by
 unfold Fz21
 have e0 : (ByteArray.mk #[]).data.toList = [] := rfl
 simp only [e0]
 rw [zkq s _ (by decide) (by decide) (by decide) hl]
 cases s with
 | nil => rfl
 | cons a r =>
   have e1 : decide (a :: r = []) = false := by simp
   simp only [e1, cond_false, Option.bind_some]
   have e5 : idxO (a :: r) 0 = fun f => (f a : Option Bool) := rfl
   simp only [e5]
   unfold zfv
   by_cases h1 : (16 : Int) < ((a :: r).length : Int)
   · have : ¬ (a :: r).length <= 16 := by omega
     simp only [h1, decide_true, cond_true, this, decide_false, Bool.false_and]
   · have h1' : (a :: r).length <= 16 := by omega
     simp only [h1, decide_false, cond_false, h1', decide_true, Bool.true_and]
     by_cases h2 : (a.toNat : Int) < 97
     · have : ¬ 97 <= a.toNat := by omega
       simp only [h2, decide_true, cond_true, this, decide_false, Bool.false_and]
     · have h2' : 97 <= a.toNat := by omega
       simp only [h2, decide_false, cond_false, h2', decide_true, Bool.true_and]
       by_cases h3 : (122 : Int) < (a.toNat : Int)
       · have : ¬ a.toNat <= 122 := by omega
         simp only [h3, decide_true, cond_true, this, decide_false, Bool.false_and]
       · have h3' : a.toNat <= 122 := by omega
         simp only [h3, decide_false, cond_false, h3', decide_true, Bool.true_and]
         congr 1
         rw [Bool.eq_iff_iff, decide_eq_true_eq, zlt, List.all_eq_true]
         rfl
end Go.Sx.O
namespace Go.Sx.O
open Go
theorem zqh : ∀ u : Fin 256, ∀ b : Fin 9, bits .and .u8 (Int.fdiv (u.val : Int) (2 ^ min b.val (IntKind.bits .u8))) 1 = if Nat.testBit u b then 1 else 0 := by decide +kernel
theorem uq {u : Int} {b : Nat} (h0 : 0 <= u) (h1 : u < 256) (hb : b <= 8) : bits .and .u8 (Int.fdiv u (2 ^ min b (IntKind.bits .u8))) 1 = if u.toNat.testBit b then 1 else 0 := by
 have := zqh ⟨u.toNat, by omega⟩ ⟨b, by omega⟩
 simp only at this
 rw [Int.toNat_of_nonneg h0] at this
 exact this
theorem yY {u : Int} (h0 : 0 <= u) : BitVec.ofInt 8 u = BitVec.ofNat 8 u.toNat := by
 conv => lhs; rw [<- Int.toNat_of_nonneg h0]
 exact BitVec.ofInt_natCast 8 u.toNat
theorem zdp {n : Nat} (h : n < 256) : IntKind.wrap .u8 (n : Int) = n := by
 simp only [IntKind.wrap, IntKind.signed, IntKind.bits, Bool.false_and]
 have h3 : (2 : Int) ^ 8 = 256 := by decide
 simp only [h3]
 have : (n : Int) % 256 = n := by omega
 simp [this]
theorem ul {a b : Int} (ha : 0 <= a) (ha' : a < 256) (hb : 0 <= b) (hb' : b < 256) : bits .and .u8 a b = ((a.toNat &&& b.toNat : Nat) : Int) := by
 have e : bits .and .u8 a b = IntKind.wrap .u8 ((BitVec.ofInt 8 a &&& BitVec.ofInt 8 b).toNat : Int) := rfl
 rw [e, yY ha, yY hb]
 rw [zdp (BitVec.isLt _)]
 rw [BitVec.toNat_and, BitVec.toNat_ofNat, BitVec.toNat_ofNat, Nat.mod_eq_of_lt (by omega), Nat.mod_eq_of_lt (by omega)]
theorem zjd {a b : Int} (ha : 0 <= a) (ha' : a < 256) (hb : 0 <= b) (hb' : b < 256) : bits .or .u8 a b = ((a.toNat ||| b.toNat : Nat) : Int) := by
 have e : bits .or .u8 a b = IntKind.wrap .u8 ((BitVec.ofInt 8 a ||| BitVec.ofInt 8 b).toNat : Int) := rfl
 rw [e, yY ha, yY hb]
 rw [zdp (BitVec.isLt _)]
 rw [BitVec.toNat_or, BitVec.toNat_ofNat, BitVec.toNat_ofNat, Nat.mod_eq_of_lt (by omega), Nat.mod_eq_of_lt (by omega)]
theorem xL {a b : Int} (ha : 0 <= a) (ha' : a < 256) (hb : 0 <= b) (hb' : b < 256) : bits .andNot .u8 a b = 0 ↔ ∀ i, a.toNat.testBit i = true -> b.toNat.testBit i = true := by
 have e : bits .andNot .u8 a b = IntKind.wrap .u8 ((BitVec.ofInt 8 a &&& ~~~BitVec.ofInt 8 b).toNat : Int) := rfl
 rw [e, yY ha, yY hb]
 rw [zdp (BitVec.isLt _)]
 have hbit : ∀ i, (BitVec.ofNat 8 a.toNat &&& ~~~BitVec.ofNat 8 b.toNat).getLsbD i = (decide (i < 8) && a.toNat.testBit i && !(b.toNat.testBit i)) := by
  intro i
  rw [BitVec.getLsbD_and, BitVec.getLsbD_not, BitVec.getLsbD_ofNat, BitVec.getLsbD_ofNat]
  cases decide (i < 8) <;> simp
 have h8 : ∀ i, a.toNat.testBit i = true -> i < 8 := by
  intro i hi
  rcases Nat.lt_or_ge i 8 with g | g
  · exact g
  · rw [Nat.testBit_lt_two_pow (Nat.lt_of_lt_of_le (show a.toNat < 2 ^ 8 by omega) (Nat.pow_le_pow_right (by omega) g))] at hi
    cases hi
 constructor
 · intro h i hi
   have h0 : (BitVec.ofNat 8 a.toNat &&& ~~~BitVec.ofNat 8 b.toNat).toNat = 0 := Int.ofNat_eq_zero.1 h
   have h1 := hbit i
   rw [<- BitVec.testBit_toNat, h0, Nat.zero_testBit] at h1
   have := h8 i hi
   simp [this, hi] at h1
   exact h1
 · intro h
   have h1 : (BitVec.ofNat 8 a.toNat &&& ~~~BitVec.ofNat 8 b.toNat).toNat = 0 := by
    apply Nat.eq_of_testBit_eq
    intro i
    rw [BitVec.testBit_toNat, hbit i, Nat.zero_testBit]
    cases hi : a.toNat.testBit i with
    | false => simp
    | true => simp [h i hi]
   rw [h1]; rfl
theorem zc3 {a b : Nat} (h : a < 256) : a &&& b < 256 := Nat.lt_of_le_of_lt Nat.and_le_left h
theorem zri {a b : Nat} (h : a < 256) (k : b < 256) : a ||| b < 256 := Nat.or_lt_two_pow (n := 8) h k
theorem zia (ns : List (List UInt8)) (h : ns.length <= 20) (hn : ∀ s ∈ ns, s.length <= 1000) : Tot (Fz24 ns) fun r => r.2 = 0 -> 1 <= ns.length /\ ns.length <= 8 := by
 unfold Fz24
 simp only [zw, zo, zr, List.length_map, decide_eq_true_eq, decide_eq_false_iff_not]
 refine ⟨fun _ h => absurd h (by decide), fun h1 => ⟨fun _ h => absurd h (by decide), fun h2 => ?_⟩⟩
 refine Tot.count ns.length (fun k s => s = (k : Int)) ?_ rfl
 rintro k _ hk rfl
 simp only [zo, zw, zW, qf, qv, zr, Sum.elim_inl, Sum.elim_inr, decide_eq_true_eq, decide_eq_false_iff_not, Int.toNat_natCast]
 refine ⟨fun hlt => ⟨by omega, _, List.getElem?_eq_getElem (by omega), ?_⟩, fun hlt => fun _ => by omega⟩
 rw [zfc _ (by have := hn ns[k] (List.getElem_mem _); omega), zo]
 refine ⟨fun _ h => absurd h (by decide), fun _ => ⟨⟨by omega, by omega⟩, ?_⟩⟩
 rw [yI _ _ (by simp; omega), zo]
 refine ⟨fun _ h => absurd h (by decide), fun _ => ?_⟩
 rw [w64 (by omega) (by omega)]
 exact ⟨by omega, by omega⟩
end Go.Sx.O
namespace Go.Sx.O
open Go
def U8s (l : List Int) : Prop := ∀ x ∈ l, 0 <= x /\ x < 256
theorem U8s.get {l : List Int} (h : U8s l) {i : Nat} {x : Int} (hx : l[i]? = some x) : 0 <= x /\ x < 256 := h x (List.mem_of_getElem? hx)
theorem U8s.set {l : List Int} (h : U8s l) {i : Nat} {x : Int} (h0 : 0 <= x) (h1 : x < 256) : U8s (l.set i x) := by
 intro y hy
 rcases List.mem_or_eq_of_mem_set hy with g | g
 · exact h y g
 · subst g; exact ⟨h0, h1⟩
theorem zgs {e : Int} : 0 <= IntKind.wrap .u8 e /\ IntKind.wrap .u8 e < 256 := by
 simp only [IntKind.wrap, IntKind.signed, IntKind.bits, Bool.false_and]
 have h3 : (2 : Int) ^ 8 = 256 := by decide
 simp only [h3]
 refine ⟨?_, ?_⟩ <;> simp <;> omega
theorem orU {a b : Int} (ha : 0 <= a) (ha' : a < 256) (hb : 0 <= b) (hb' : b < 256) : 0 <= bits .or .u8 a b /\ bits .or .u8 a b < 256 := by
 rw [zjd ha ha' hb hb']
 have := zri (a := a.toNat) (b := b.toNat) (by omega) (by omega)
 omega
theorem zy {α : Type} {l : List α} {i : Nat} (h : i < l.length) : ∃ x, l[i]? = some x := ⟨_, List.getElem?_eq_getElem h⟩
theorem zny (l : TL) (hu : U8s l.Up) (hn : l.Names.length <= 8) (hl : l.Up.length <= 8) :
 Tot (Fz26 l) fun o => o.n_ = l.Names.length /\ o.up_.length = 8 /\ o.down_.length = 8 /\ U8s o.up_ /\ U8s o.down_ := by
 unfold Fz26
 simp only [zr, List.length_map]
 refine Tot.count l.Up.length (fun k s => s.1 = (k : Int) /\ s.2.1.length = 8 /\ s.2.2.length = 8 /\ U8s s.2.1 /\ U8s s.2.2) ?_ ⟨rfl, rfl, rfl, by intro x hx; simp at hx; omega, by intro x hx; simp at hx; omega⟩
 rintro k ⟨i, up, down⟩ hk ⟨h0, h1, h2, h3, h4⟩
 simp only at h0 h1 h2 h3 h4
 subst h0
 simp only [zo, zw, zW, qf, qv, zr, Sum.elim_inl, Sum.elim_inr, decide_eq_true_eq, decide_eq_false_iff_not, Int.toNat_natCast]
 refine ⟨fun hlt => ?_, fun hlt => ⟨trivial, h1, h2, h3, h4⟩⟩
 obtain ⟨x, hx⟩ := zy (l := l.Up) (i := k) (by omega)
 obtain ⟨y, hy⟩ := zy (l := up) (i := k) (by omega)
 refine ⟨by omega, x, hx, ⟨by omega, by omega⟩, by omega, y, hy, ?_⟩
 have hx' := hu.get hx
 refine Tot.count l.Names.length (fun j s => s.1 = (j : Int) /\ s.2.length = 8 /\ U8s s.2) ?_ ⟨rfl, h2, h4⟩
 rintro j ⟨i', d⟩ hj ⟨g0, g1, g2⟩
 simp only at g0 g1 g2
 subst g0
 simp only [zo, zw, zW, qf, qv, zr, Sum.elim_inl, Sum.elim_inr, decide_eq_true_eq, decide_eq_false_iff_not, Int.toNat_natCast]
 refine ⟨fun hlt' => ?_, fun _ => ?_⟩
 · obtain ⟨z, hz⟩ := zy (l := d) (i := j) (by omega)
   have hz' := g2.get hz
   rw [w64 (by omega) (by omega)]
   refine ⟨⟨by omega, by omega⟩, by omega, z, hz, by omega, by omega, ⟨by omega, by omega⟩, by omega, z, hz, by omega, by omega, by simpa using g1, ?_⟩
   have hw := zgs (e := bits .and .u8 (Int.fdiv x (2 ^ min j (IntKind.bits .u8))) 1 * 2 ^ min k (IntKind.bits .u8))
   have ho := orU hz'.1 hz'.2 hw.1 hw.2
   exact g2.set ho.1 ho.2
 · rw [w64 (by omega) (by omega)]
   exact ⟨by omega, by omega, by simpa using h1, g1, h3.set hx'.1 hx'.2, g2⟩
theorem xw (m : List Int) (n : Nat) (a b : Nat) (hm : m.length = 8) (hu : U8s m) (hn : n <= 8) (ha : a < n) (hb : b < n) : Tot (Fz27 m n a b) fun _ => True := by
 unfold Fz27
 obtain ⟨x, hx⟩ := zy (l := m) (i := a) (by omega)
 obtain ⟨y, hy⟩ := zy (l := m) (i := b) (by omega)
 simp only [zo, zw, zW, qf, qv, zr, Int.toNat_natCast]
 refine ⟨⟨by omega, by omega⟩, by omega, x, hx, ⟨by omega, by omega⟩, by omega, y, hy, ?_⟩
 refine Tot.count n (fun k s => s = (k : Int)) ?_ rfl
 rintro k _ hk rfl
 simp only [zo, zw, zW, qf, qv, zr, Sum.elim_inl, Sum.elim_inr, decide_eq_true_eq, decide_eq_false_iff_not, Int.toNat_natCast]
 refine ⟨fun hlt => ⟨by omega, fun _ => ?_, fun _ => ?_⟩, fun _ => trivial⟩
 · obtain ⟨z, hz⟩ := zy (l := m) (i := k) (by omega)
   rw [w64 (by omega) (by omega)]
   exact ⟨⟨by omega, by omega⟩, by omega, z, hz, fun _ => trivial, fun _ => ⟨by omega, by omega⟩⟩
 · rw [w64 (by omega) (by omega)]
   exact ⟨by omega, by omega⟩
theorem zba (m : List Int) (n : Nat) (a b : Nat) (hm : m.length = 8) (hu : U8s m) (hn : n <= 8) (ha : a < n) (hb : b < n) : Tot (Fz28 m n a b) fun _ => True := xw m n a b hm hu hn ha hb
theorem zj9 (x : Int) (h0 : 0 <= x) (h1 : x < 256) : Tot (Fz25 x) fun _ => True := by
 unfold Fz25
 rw [qf]
 refine ⟨h0, ?_⟩
 have key : ∀ l : List UInt8, l.length = 256 -> ∃ y, l[x.toNat]? = some y /\ Tot (letO (IntKind.wrap .i64 (y.toNat : Int)) fun z => some z) fun _ => True := by
  intro l hl
  obtain ⟨y, hy⟩ := zy (l := l) (i := x.toNat) (by omega)
  exact ⟨y, hy, .mk trivial⟩
 exact key _ (by decide +kernel)
def up (l : TL) (a b : Nat) : Bool := (l.Up.getD a 0).toNat.testBit b
def jk (l : TL) (a b : Nat) : Prop := up l a b = true -> (b ≠ a -> up l b a = false) /\ ∀ i, i < l.Names.length -> up l b i = true -> up l a i = true
structure LatOK (l : TL) : Prop where
 pos : 1 <= l.Names.length
 le : l.Names.length <= 8
 len : l.Up.length = l.Names.length
 u8 : U8s l.Up
 self : ∀ a, a < l.Names.length -> up l a a = true
 row : ∀ a, a < l.Names.length -> ∀ b, b < l.Names.length -> jk l a b
theorem jm {l : TL} {a : Nat} {x : Int} (h : l.Up[a]? = some x) (b : Nat) : up l a b = x.toNat.testBit b := by
 unfold up; rw [List.getD_eq_getElem?_getD, h]; rfl
theorem zg6 (n : Nat) (h : n <= 8) (i : Nat) : (IntKind.wrap .u8 (IntKind.wrap .u8 (1 * 2 ^ min n (IntKind.bits .u8)) - 1)).toNat.testBit i = decide (i < n) := by
 have key : ∀ n : Fin 9, (IntKind.wrap .u8 (IntKind.wrap .u8 (1 * 2 ^ min n.val (IntKind.bits .u8)) - 1)).toNat = 2 ^ n.val - 1 := by decide +kernel
 rw [key ⟨n, by omega⟩]
 exact Nat.testBit_two_pow_sub_one n i
theorem zev (l : TL) (hu : U8s l.Up) (hn : l.Names.length <= 20) (hs : ∀ s ∈ l.Names, s.length <= 1000) : Tot (Fz29 l) fun r => r.2 = 0 -> LatOK l := by
 unfold Fz29
 simp only [zr, List.length_map]
 refine (zia l.Names hn hs).mono fun x53 h53 => ?_
 simp only [zw, zo, Bool.not_eq_true', Bool.not_eq_false', decide_eq_true_eq, decide_eq_false_iff_not]
 refine ⟨fun h h' => absurd h' h, fun h => ⟨fun _ h' => absurd h' (by decide), fun hlen => ?_⟩⟩
 obtain ⟨p1, p8⟩ := h53 h
 have hlen' : l.Up.length = l.Names.length := by omega
 rw [qv, zW, zW, zr]
 refine ⟨by omega, ?_⟩
 rw [Int.toNat_natCast]
 have hmask := zg6 l.Names.length p8
 have hm0 := zgs (e := IntKind.wrap .u8 (1 * 2 ^ min l.Names.length (IntKind.bits .u8)) - 1)
 revert hmask hm0
 generalize IntKind.wrap .u8 (IntKind.wrap .u8 (1 * 2 ^ min l.Names.length (IntKind.bits .u8)) - 1) = mask
 intro hmask hm0
 refine Tot.count l.Names.length (fun k s => s = (k : Int) /\ (∀ a, a < k -> up l a a = true) /\ ∀ a, a < k -> ∀ b, b < l.Names.length -> jk l a b) ?_ ⟨rfl, fun a ha => absurd ha (by omega), fun a ha => absurd ha (by omega)⟩
 rintro k _ hk ⟨rfl, hself, hrow⟩
 simp only [zw, zo, zW, Sum.elim_inl, Sum.elim_inr, decide_eq_true_eq, decide_eq_false_iff_not]
 refine ⟨fun hlt => ?_, fun hlt => ?_⟩
 · -- a round
   simp only [qf, Int.toNat_natCast]
   obtain ⟨x, hx⟩ := zy (l := l.Up) (i := k) (by omega)
   have hx' := hu.get hx
   refine ⟨by omega, x, hx, ?_⟩
   rw [zr]
   refine (zj9 x hx'.1 hx'.2).mono fun x91 _ => ?_
   simp only [zw, zo, qv, Sum.elim_inl, Sum.elim_inr, decide_eq_true_eq, decide_eq_false_iff_not, Int.toNat_natCast]
   refine ⟨fun _ h' => absurd h' (by decide), fun _ => ⟨by omega, fun _ h' => absurd h' (by decide), fun hs => ?_⟩⟩
   rw [uq hx'.1 hx'.2 (by omega), <- jm hx] at hs
   have hkk : up l k k = true := by
    cases e : up l k k with
    | true => rfl
    | false => rw [e] at hs; simp at hs
   rw [zr]
   refine Tot.count l.Names.length (fun j s => s = (j : Int) /\ ∀ b, b < j -> jk l k b) ?_ ⟨rfl, fun b hb => absurd hb (by omega)⟩
   rintro j _ hj ⟨rfl, hr⟩
   have fin : (∀ b, b < l.Names.length -> jk l k b) -> k < l.Names.length /\ IntKind.wrap .i64 ((k : Int) + 1) = ((k + 1 : Nat) : Int) /\ (∀ a, a < k + 1 -> up l a a = true) /\ ∀ a, a < k + 1 -> ∀ b, b < l.Names.length -> jk l a b := by
    intro hall
    rw [w64 (by omega) (by omega)]
    refine ⟨by omega, by omega, fun a ha => ?_, fun a ha => ?_⟩
    · rcases Nat.lt_or_ge a k with g | g
      · exact hself a g
      · have : a = k := by omega
        subst this; exact hkk
    · rcases Nat.lt_or_ge a k with g | g
      · exact hrow a g
      · have : a = k := by omega
        subst this; exact hall
   have ext : ∀ {b}, jk l k j -> b < j + 1 -> jk l k b := by
    intro b h hb
    rcases Nat.lt_or_ge b j with g | g
    · exact hr b g
    · have : b = j := by omega
      subst this; exact h
   simp only [zw, zo, zW, qv, Sum.elim_inl, Sum.elim_inr, decide_eq_true_eq, decide_eq_false_iff_not, Bool.not_eq_true', Bool.not_eq_false', Int.toNat_natCast]
   refine ⟨fun hjl => ?_, fun hjl => ?_⟩
   · simp only [qf, Int.toNat_natCast]
     obtain ⟨y, hy⟩ := zy (l := l.Up) (i := j) (by omega)
     have hy' := hu.get hy
     refine ⟨by omega, y, hy, ?_⟩
     simp only [zw, zo, zW, qv, Sum.elim_inl, Sum.elim_inr, decide_eq_true_eq, decide_eq_false_iff_not, Bool.not_eq_true', Bool.not_eq_false', Int.toNat_natCast]
     rw [uq hx'.1 hx'.2 (by omega), <- jm hx]
     rw [w64 (e := (l.Names.length : Int) - 1) (by omega) (by omega)]
     have stay : jk l k j -> ((j : Int) = (l.Names.length : Int) - 1 -> k < l.Names.length /\ IntKind.wrap .i64 ((k : Int) + 1) = ((k + 1 : Nat) : Int) /\ (∀ a, a < k + 1 -> up l a a = true) /\ ∀ a, a < k + 1 -> ∀ b, b < l.Names.length -> jk l a b) /\ (¬ (j : Int) = (l.Names.length : Int) - 1 -> j < l.Names.length /\ IntKind.wrap .i64 ((j : Int) + 1) = ((j + 1 : Nat) : Int) /\ ∀ b, b < j + 1 -> jk l k b) := by
      intro hrow'
      refine ⟨fun e => fin fun b hb => ext hrow' (by omega), fun e => ?_⟩
      rw [w64 (by omega) (by omega)]
      exact ⟨by omega, by omega, fun b hb => ext hrow' hb⟩
     refine ⟨by omega, fun hb => ?_, fun hb => ⟨fun hne => ⟨by omega, fun _ h' => absurd h' (by decide), fun hba => ⟨fun _ h' => absurd h' (by decide), fun han => ?_⟩⟩, fun heq => ⟨fun _ h' => absurd h' (by decide), fun han => ?_⟩⟩⟩
     · refine stay fun hup => ?_
       rw [hup] at hb; simp at hb
     · refine stay fun _ => ⟨fun _ => ?_, fun i hi hyi => ?_⟩
       · rw [uq hy'.1 hy'.2 (by omega), <- jm hy] at hba
         cases e : up l j k with
         | false => rfl
         | true => rw [e] at hba; simp at hba
       · rw [ul hy'.1 hy'.2 hm0.1 hm0.2] at han
         have hand := zc3 (a := y.toNat) (b := mask.toNat) (by omega)
         have := (xL (by omega) (by omega) hx'.1 hx'.2).1 han i (by
          rw [Int.toNat_natCast, Nat.testBit_and, hmask, <- jm hy, hyi]; simp [hi])
         rw [jm hx]; exact this
     · refine stay fun _ => ⟨fun hne => absurd (by omega) hne, fun i hi hyi => ?_⟩
       rw [ul hy'.1 hy'.2 hm0.1 hm0.2] at han
       have hand := zc3 (a := y.toNat) (b := mask.toNat) (by omega)
       have := (xL (by omega) (by omega) hx'.1 hx'.2).1 han i (by
        rw [Int.toNat_natCast, Nat.testBit_and, hmask, <- jm hy, hyi]; simp [hi])
       rw [jm hx]; exact this
   · exact fin fun b hb => hr b (by omega)
 · -- the end
   have hk' : k = l.Names.length := by omega
   subst hk'
   have good : LatOK l := ⟨p1, p8, hlen', hu, hself, hrow⟩
   rw [zr]
   refine (zny l hu p8 (by omega)).mono fun o ho => ?_
   obtain ⟨_, o1, o2, o3, o4⟩ := ho
   rw [zr]
   refine Tot.count l.Names.length (fun j s => s = (j : Int)) ?_ rfl
   rintro j _ hj rfl
   simp only [zw, zo, zW, zr, Sum.elim_inl, Sum.elim_inr, decide_eq_true_eq, decide_eq_false_iff_not]
   refine ⟨fun hlt => ?_, fun _ _ => good⟩
   refine Tot.count l.Names.length (fun i s => s = (i : Int)) ?_ rfl
   rintro i _ hi rfl
   simp only [zw, zo, zW, zr, Sum.elim_inl, Sum.elim_inr, decide_eq_true_eq, decide_eq_false_iff_not]
   refine ⟨fun hlt' => ?_, fun _ => ?_⟩
   · refine (xw _ _ _ _ o1 o3 p8 (by omega) (by omega)).mono fun b1 _ => ⟨fun _ h' => absurd h' (by decide), fun _ => ?_⟩
     refine (zba _ _ _ _ o2 o4 p8 (by omega) (by omega)).mono fun b2 _ => ⟨fun _ h' => absurd h' (by decide), fun _ => ?_⟩
     rw [w64 (by omega) (by omega)]
     exact ⟨by omega, by omega⟩
   · rw [w64 (by omega) (by omega)]
     exact ⟨by omega, by omega⟩
end Go.Sx.O
namespace Go.Sx.O
open Go
structure LatIn (l : TL) : Prop where
 u8 : U8s l.Up
 names : l.Names.length <= 20
 name : ∀ s ∈ l.Names, s.length <= 1000
noncomputable def latR (l : TL) : Int × Int := (Fz29 l).getD (0, 0)
theorem xW {l : TL} (h : LatIn l) : Fz29 l = some (latR l) := by
 obtain ⟨r, e, _⟩ := zev l h.u8 h.names h.name
 unfold latR; rw [e]; rfl
theorem uT {l : TL} (h : LatIn l) (k : (latR l).2 = 0) : LatOK l := by
 obtain ⟨r, e, q⟩ := zev l h.u8 h.names h.name
 have := xW h
 rw [e] at this; cases this
 exact q k
def wv (l : TL) (a : Int) : Bool := decide (0 <= a) && decide (a < (l.Names.length : Int))
noncomputable def askE (l : TL) (xs : List Int) : Int := if (latR l).2 = 0 then (if xs.all (wv l) then 0 else 7) else (latR l).2
theorem zh0 {l : TL} (h : LatIn l) (xs : List Int) (hx : xs.length <= 1000000000) : Fz41 l xs = some (askE l xs) := by
 unfold Fz41 askE
 rw [xW h]
 simp only [Option.bind_some]
 by_cases h0 : (latR l).2 = 0
 · simp only [h0, decide_true, Bool.not_true, cond_false, if_true]
   apply Tot.eq
   simp only [zr, List.length_map]
   refine Tot.count xs.length (fun k s => s = (k : Int) /\ (xs.take k).all (wv l) = true) ?_ ⟨rfl, by simp⟩
   rintro k _ hk ⟨rfl, hall⟩
   simp only [zw, zo, zW, qf, Sum.elim_inl, Sum.elim_inr, decide_eq_true_eq, decide_eq_false_iff_not, Int.toNat_natCast]
   refine ⟨fun hlt => ?_, fun hlt => ?_⟩
   · obtain ⟨x, hx'⟩ := zy (l := xs) (i := k) (by omega)
     have hm := List.mem_of_getElem? hx'
     have bad : wv l x = false -> (7 : Int) = if xs.all (wv l) = true then 0 else 7 := by
      intro e
      have : xs.all (wv l) = false := by
       rw [List.all_eq_false]; exact ⟨x, hm, by simp [e]⟩
      simp [this]
     refine ⟨by omega, x, hx', fun g => bad (by unfold wv; simp; omega), fun g1 => ⟨fun g => bad (by unfold wv; simp; omega), fun g2 => ?_⟩⟩
     rw [w64 (by omega) (by omega)]
     refine ⟨by omega, by omega, ?_⟩
     rw [List.take_add_one, hx', List.all_append, hall]
     simp [wv]; omega
   · rw [List.take_of_length_le (by omega)] at hall
     simp [hall]
 · simp only [h0, decide_false, Bool.not_false, cond_true, if_false]
noncomputable def sees (l : TL) (a o : Int) : Bool := decide ((latR l).2 = 0) && wv l a && wv l o && up l a.toNat o.toNat
end Go.Sx.O
namespace Go.Sx.O
open Go
theorem uv {α : Type} {l : List α} (p : α -> Bool) {ε : Type} {step : Int -> Option (Int ⊕ (ε ⊕ Int))} {e : ε} {G : Option Int}
 (hG : G = (lpO step 0).bind (Sum.elim (fun _ => some (-1)) some))
 (h1 : ∀ (k : Nat) x, l[k]? = some x -> k < l.length -> step (k : Int) = if p x then some (.inr (.inr (k : Int))) else some (.inl ((k : Int) + 1)))
 (h2 : step (l.length : Int) = some (.inr (.inl e))) : G.bind (fun x => some (decide (0 <= x))) = some (l.any p) := by
 rw [hG, zei (l := l) p (d := .inl e) (g := .inr) (fun k x hx => h1 k x hx (by
  rcases Nat.lt_or_ge k l.length with g | g
  · exact g
  · rw [List.getElem?_eq_none g] at hx; cases hx)) h2]
 cases h : l.findIdx? p with
 | none =>
   have := List.findIdx?_eq_none_iff.1 h
   simp only [Option.bind_some, Sum.elim_inl]
   have hn : l.any p = false := by rw [List.any_eq_false]; intro x hx; simp [this x hx]
   rw [hn]; rfl
 | some i =>
   obtain ⟨hi, hp, _⟩ := List.findIdx?_eq_some_iff_getElem.1 h
   have hy : l.any p = true := List.any_eq_true.2 ⟨_, List.getElem_mem hi, hp⟩
   simp [hy]
theorem zfm (l : List Int) (h : l.length <= 1000000000) : Fz58 l = some (l.any fun x => decide (x < 0)) := by
 unfold Fz58 Fz57
 refine uv (l := l) (fun x => decide (x < 0)) (e := ()) rfl (fun k x hx hlt => ?_) (by simp)
 simp only [List.length_map, Int.ofNat_lt, hlt, decide_true, cond_true, idxO, Int.toNat_natCast, hx, Option.bind_some, letO, Int.natCast_nonneg, if_true, Fz56]
 rw [w64 (by omega) (by omega)]
 cases decide (x < 0) <;> rfl
theorem zfg (l : List Int) (h : l.length <= 1000000000) : Fz61 l = some (l.any fun x => !decide (x = 0)) := by
 unfold Fz61 Fz60
 refine uv (l := l) (fun x => !decide (x = 0)) (e := ()) rfl (fun k x hx hlt => ?_) (by simp)
 simp only [List.length_map, Int.ofNat_lt, hlt, decide_true, cond_true, idxO, Int.toNat_natCast, hx, Option.bind_some, letO, Int.natCast_nonneg, if_true, Fz59]
 rw [w64 (by omega) (by omega)]
 cases decide (x = 0) <;> rfl
theorem zfk (l : List Int) (h : l.length <= 1000000000) : Fz64 l = some (l.any fun x => decide (400 < x)) := by
 unfold Fz64 Fz63
 refine uv (l := l) (fun x => decide (400 < x)) (e := ()) rfl (fun k x hx hlt => ?_) (by simp)
 simp only [List.length_map, Int.ofNat_lt, hlt, decide_true, cond_true, idxO, Int.toNat_natCast, hx, Option.bind_some, letO, Int.natCast_nonneg, if_true, Fz62]
 rw [w64 (by omega) (by omega)]
 cases decide (400 < x) <;> rfl
theorem xF (x : Int) : Tot (Fz15 x) fun _ => True := by
 unfold Fz15
 simp only [zw, zo, implies_true, and_self]
end Go.Sx.O
namespace Go.Sx.O
open Go
theorem zdu {l : List UInt8} {c : UInt8} (h : c ∉ l) : Lib.indexByte l c = -1 := by
 induction l with
 | nil => rfl
 | cons a l ih =>
   simp only [List.mem_cons, not_or] at h
   have : (a == c) = false := by simp; exact fun e => h.1 e.symm
   simp [Lib.indexByte, this, ih h.2]
theorem zl9 {r : Int} (h0 : 128 <= r) (h1 : r < 256) : ∃ x y, (Utf8.encode r).data.toList = [x, y] /\ 128 <= y.toNat := by
 refine ⟨UInt8.ofNat (0xC0 + r.toNat / 64), UInt8.ofNat (0x80 + r.toNat % 64), ?_, ?_⟩
 · have hv : Utf8.valid r = true := by unfold Utf8.valid; simp; omega
   unfold Utf8.encode
   simp only [hv, if_true]
   rw [if_neg (by omega), if_pos (by omega)]
 · rw [UInt8.toNat_ofNat']; omega
theorem zc0 (s : List UInt8) (r : Int) (hs : ∀ c ∈ s, c.toNat < 128) (hl : s.length <= 1000) (h0 : 0 <= r) (h1 : r < 256) : Tot (Fz16 s r) fun _ => True := by
 unfold Fz16
 have e0 : decide (0 <= r) = true := by simp [h0]
 simp only [e0, cond_true]
 rw [zw]
 refine ⟨fun _ => ?_, fun h2 => ?_⟩
 · rw [zW, zr]
   unfold Fz14 zQ
   simp only [Option.bind_some, zo]
 · simp only [decide_eq_false_iff_not] at h2
   obtain ⟨x, y, exy, hy⟩ := zl9 (r := r) (by omega) h1
   have e1 : decide (r = 65533) = false := by simp; omega
   simp only [e1, cond_false, exy]
   rw [zr]
   refine (xF r).mono fun v _ => ?_
   rw [zw]
   refine ⟨fun _ => .mk trivial, fun _ => ?_⟩
   rw [zW]
   have e2 : IntKind.wrap .i64 (((List.length [x, y] : Nat) : Int) - 1) = 1 := rfl
   rw [e2, zr]
   refine Tot.loop (fun _ => 0) (fun _ => True) (fun _ _ => ?_) trivial
   rw [zw]
   refine ⟨fun h3 => ?_, fun _ => ?_⟩
   · simp only [decide_eq_true_eq] at h3
     obtain ⟨c, hc⟩ := zy (l := s) (i := 1) (by omega)
     have hc' := hs c (List.mem_of_getElem? hc)
     have e3 : (1 : Int).toNat = 1 := rfl
     simp only [qf, e3]
     refine ⟨by omega, c, hc, by omega, y, rfl, ?_⟩
     have e4 : decide ((c.toNat : Int) = (y.toNat : Int)) = false := by simp; omega
     simp only [e4, Bool.not_false, cond_true]
     rw [zW]
     have e5 : IntKind.wrap .i64 (1 + 1) = 2 := rfl
     rw [e5, qv]
     refine ⟨by omega, ?_⟩
     simp only [qf, e3]
     refine ⟨by omega, y, rfl, ?_⟩
     unfold Fz14 zQ
     simp only [Option.bind_some]
     have hn : ((y.toNat : Int).toNat.toUInt8) = y := by simp
     rw [hn, zdu (fun hm => by
      have := hs y (List.mem_of_mem_take (List.mem_of_mem_drop hm))
      omega)]
     have e6 : decide ((-1 : Int) < 0) = true := rfl
     simp only [e6, cond_true, zo, Sum.elim_inr]
   · simp only [zo, Sum.elim_inr, Sum.elim_inl]
theorem zaa (s : List UInt8) (r : Int) (hs : ∀ c ∈ s, c.toNat < 128) (hl : s.length <= 1000) (h0 : 0 <= r) (h1 : r < 256) : Tot (Fz17 s r) fun _ => True := by
 unfold Fz17
 rw [zr]
 exact (zc0 s r hs hl h0 h1).mono fun _ _ => .mk trivial
theorem zhh {r : Int} (h0 : 0 <= r) (h1 : r < 256) : IntKind.wrap .i32 r = r := by
 simp only [IntKind.wrap, IntKind.signed, IntKind.bits]
 have h3 : (2 : Int) ^ 32 = 4294967296 := by decide
 have h4 : (2 : Int) ^ (32 - 1) = 2147483648 := by decide
 simp only [h3, h4, Bool.true_and, decide_eq_true_eq, ge_iff_le]
 split <;> omega
end Go.Sx.O
