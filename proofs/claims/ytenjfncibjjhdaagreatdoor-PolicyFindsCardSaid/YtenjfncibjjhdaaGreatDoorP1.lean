/-
  An own text of this claim.
-/
import Derived.Test.YtenjfncibjjhdaaGreatDoorA7
import Derived.Lib.Bytealg
namespace Go.Sx.O
structure TR where
 s_ : List UInt8
 at_ : Int
def zJ (x : TR) : SV := .agg [SV.str x.s_, (SV.int .i64) x.at_]
theorem zA8 {p : Nat -> Prop} (x : TR) : (zJ x).nmd p := ⟨trivial, trivial, trivial⟩
structure TF where
 low_ : Int
 high_ : Int
def zAn (x : TF) : SV := .agg [(SV.int .i64) x.low_, (SV.int .i64) x.high_]
theorem zEh {p : Nat -> Prop} (x : TF) : (zAn x).nmd p := ⟨trivial, trivial, trivial⟩
structure TL where
 Names : List (List UInt8)
 Up : List (Int)
def zA (x : TL) : SV := .agg [(zi 1 SV.str) x.Names, (zi 1 (SV.int .u8)) x.Up]
theorem zuy {p : Nat -> Prop} (x : TL) : (zA x).nmd p := ⟨(yb fun _ => trivial), (yb fun _ => trivial), trivial⟩
structure TU where
 From : Int
 Goal : Int
 K : Int
def qa (x : TU) : SV := .agg [(SV.int .i64) x.From, (SV.int .i64) x.Goal, (SV.int .i64) x.K]
theorem zzq {p : Nat -> Prop} (x : TU) : (qa x).nmd p := ⟨trivial, trivial, trivial, trivial⟩
structure TG where
 Lattice : TL
 bottom_ : Int
def zzy (x : TG) : SV := .agg [zA x.Lattice, (SV.int .i64) x.bottom_]
theorem zEj {p : Nat -> Prop} (x : TG) : (zzy x).nmd p := ⟨(zuy _), trivial, trivial⟩
structure TK where
 Kind : Int
 From : Int
 To : Int
 N : Int
 S : List UInt8
def zT (x : TK) : SV := .agg [(SV.int .i64) x.Kind, (SV.int .i64) x.From, (SV.int .i64) x.To, (SV.int .i64) x.N, SV.str x.S]
theorem zEg {p : Nat -> Prop} (x : TK) : (zT x).nmd p := ⟨trivial, trivial, trivial, trivial, trivial, trivial⟩
structure Tlattice_order where
 n_ : Int
 up_ : List (Int)
 down_ : List (Int)
def qn (x : Tlattice_order) : SV := .agg [(SV.int .i64) x.n_, (qj 8 1 (SV.int .u8)) x.up_, (qj 8 1 (SV.int .u8)) x.down_]
theorem zu7 {p : Nat -> Prop} (x : Tlattice_order) : (qn x).nmd p := ⟨trivial, (yb fun _ => trivial), (yb fun _ => trivial), trivial⟩
structure TY where
 Kind : Int
 Rank : Int
 Axes : (Int) × (Int)
 Data : Int
def qW (x : TY) : SV := .agg [(SV.int .i64) x.Kind, (SV.int .i64) x.Rank, (jK 1 (SV.int .i64)) x.Axes, (SV.int .i64) x.Data]
theorem zoi {p : Nat -> Prop} (x : TY) : (qW x).nmd p := ⟨trivial, trivial, ⟨trivial, trivial, trivial⟩, trivial, trivial⟩
structure TA where
 Kind : Int
 Rank : Int
 Lens : (Int) × (Int)
 Cells : List (Int)
def znt (x : TA) : SV := .agg [(SV.int .i64) x.Kind, (SV.int .i64) x.Rank, (jK 1 (SV.int .i64)) x.Lens, (zi 1 (SV.int .i64)) x.Cells]
theorem zta {p : Nat -> Prop} (x : TA) : (znt x).nmd p := ⟨trivial, trivial, ⟨trivial, trivial, trivial⟩, (yb fun _ => trivial), trivial⟩
structure TV where
 Name : List UInt8
 Type_ : TY
def qJ (x : TV) : SV := .agg [SV.str x.Name, qW x.Type_]
theorem zz5 {p : Nat -> Prop} (x : TV) : (qJ x).nmd p := ⟨trivial, (zoi _), trivial⟩
structure TW where
 Name : List UInt8
 Value : TA
def ztg (x : TW) : SV := .agg [SV.str x.Name, znt x.Value]
theorem zBd {p : Nat -> Prop} (x : TW) : (ztg x).nmd p := ⟨trivial, (zta _), trivial⟩
structure TE where
 Site : Int
 Fold : Int
 From : Int
 Goal : Int
 Cells : Int
 Value : (Int) × (Int)
def ztj (x : TE) : SV := .agg [(SV.int .i64) x.Site, (SV.int .i64) x.Fold, (SV.int .i64) x.From, (SV.int .i64) x.Goal, (SV.int .i64) x.Cells, (jK 1 (SV.int .i64)) x.Value]
theorem zzl {p : Nat -> Prop} (x : TE) : (ztj x).nmd p := ⟨trivial, trivial, trivial, trivial, trivial, ⟨trivial, trivial, trivial⟩, trivial⟩
structure TEvEvent where
 Kind : Int
 Site : Int
 Steps : Int
 Label : Int
 Channel : List UInt8
 Value : TA
 E : Int
def zeb (x : TEvEvent) : SV := .agg [(SV.int .i64) x.Kind, (SV.int .i64) x.Site, (SV.int .i64) x.Steps, (SV.int .i64) x.Label, SV.str x.Channel, znt x.Value, (SV.int .i64) x.E]
theorem zlu {p : Nat -> Prop} (x : TEvEvent) : (zeb x).nmd p := ⟨trivial, trivial, trivial, trivial, trivial, (zta _), trivial, trivial⟩
structure TP where
 Lattice : TL
 Channels : List (TR)
 Vars : List (TV)
 Rules : List (TU)
def zS (x : TP) : SV := .agg [zA x.Lattice, (zi 2 zJ) x.Channels, (zi 6 qJ) x.Vars, (zi 3 qa) x.Rules]
theorem zEi {p : Nat -> Prop} (x : TP) : (zS x).nmd p := ⟨(zuy _), (yb fun _ => (zA8 _)), (yb fun _ => (zz5 _)), (yb fun _ => (zzq _)), trivial⟩
structure Tinvigilatorlaw28_Types where
 V : TY
 Y : TY
 From : Int
 Goal : Int
 PC : Int
 EC : Int
 Lower : Int
 Top : Int
def ur (x : Tinvigilatorlaw28_Types) : SV := .agg [qW x.V, qW x.Y, (SV.int .i64) x.From, (SV.int .i64) x.Goal, (SV.int .i64) x.PC, (SV.int .i64) x.EC, (SV.int .i64) x.Lower, (SV.int .i64) x.Top]
theorem zkc {p : Nat -> Prop} (x : Tinvigilatorlaw28_Types) : (ur x).nmd p := ⟨(zoi _), (zoi _), trivial, trivial, trivial, trivial, trivial, trivial, trivial⟩
structure TC where
 Events : List (TEvEvent)
 Log : List (TE)
 Vars : List (TW)
 Steps : Int
def zBf (x : TC) : SV := .agg [(zi 11 zeb) x.Events, (zi 7 ztj) x.Log, (zi 6 ztg) x.Vars, (SV.int .i64) x.Steps]
theorem zEk {p : Nat -> Prop} (x : TC) : (zBf x).nmd p := ⟨(yb fun _ => (zlu _)), (yb fun _ => (zzl _)), (yb fun _ => (zBd _)), trivial, trivial⟩
end Go.Sx.O
noncomputable section
namespace Go.Sx.O
def qi (a0 : List UInt8) (a1 : Int) : Option Int := some (Go.Lib.indexByte a0 a1.toNat.toUInt8)
def zwj : List Int := [0, 1, 2, 2, 3, 3, 3, 3, 4, 4, 4, 4, 4]
def yn (a0 : Int) : Option Int := if 0 <= a0 then zwj[a0.toNat]? else none
end Go.Sx.O
end
namespace Go.Sx.O
open Go
def inK (k : IntKind) (n : Int) : Prop := k.min <= n /\ n <= k.max
def jP {α : Type} (W : α -> Prop) (l : List α) : Prop := ∀ x ∈ l, W x
def w2 {α : Type} (W : α -> Prop) (p : α × α) : Prop := W p.1 /\ W p.2
def w3 {α : Type} (W : α -> Prop) (p : α × α × α) : Prop := W p.1 /\ W p.2.1 /\ W p.2.2
def wN {α : Type} (n : Nat) (W : α -> Prop) (l : List α) : Prop := l.length = n /\ ∀ x ∈ l, W x
structure W_TR (x : TR) : Prop where
 s_ : (fun _ => True) x.s_
 at_ : (inK .i64) x.at_
structure W_TF (x : TF) : Prop where
 low_ : (inK .i64) x.low_
 high_ : (inK .i64) x.high_
structure W_TL (x : TL) : Prop where
 Names : (jP (fun _ => True)) x.Names
 Up : (jP (inK .u8)) x.Up
structure W_TU (x : TU) : Prop where
 From : (inK .i64) x.From
 Goal : (inK .i64) x.Goal
 K : (inK .i64) x.K
structure W_TG (x : TG) : Prop where
 Lattice : W_TL x.Lattice
 bottom_ : (inK .i64) x.bottom_
structure W_TK (x : TK) : Prop where
 Kind : (inK .i64) x.Kind
 From : (inK .i64) x.From
 To : (inK .i64) x.To
 N : (inK .i64) x.N
 S : (fun _ => True) x.S
structure W_Tlattice_order (x : Tlattice_order) : Prop where
 n_ : (inK .i64) x.n_
 up_ : (wN 8 (inK .u8)) x.up_
 down_ : (wN 8 (inK .u8)) x.down_
structure W_TY (x : TY) : Prop where
 Kind : (inK .i64) x.Kind
 Rank : (inK .i64) x.Rank
 Axes : (w2 (inK .i64)) x.Axes
 Data : (inK .i64) x.Data
structure W_TA (x : TA) : Prop where
 Kind : (inK .i64) x.Kind
 Rank : (inK .i64) x.Rank
 Lens : (w2 (inK .i64)) x.Lens
 Cells : (jP (inK .i64)) x.Cells
structure W_TV (x : TV) : Prop where
 Name : (fun _ => True) x.Name
 Type_ : W_TY x.Type_
structure W_TW (x : TW) : Prop where
 Name : (fun _ => True) x.Name
 Value : W_TA x.Value
structure W_TE (x : TE) : Prop where
 Site : (inK .i64) x.Site
 Fold : (inK .i64) x.Fold
 From : (inK .i64) x.From
 Goal : (inK .i64) x.Goal
 Cells : (inK .i64) x.Cells
 Value : (w2 (inK .i64)) x.Value
structure W_TEvEvent (x : TEvEvent) : Prop where
 Kind : (inK .i64) x.Kind
 Site : (inK .i64) x.Site
 Steps : (inK .i64) x.Steps
 Label : (inK .i64) x.Label
 Channel : (fun _ => True) x.Channel
 Value : W_TA x.Value
 E : (inK .i64) x.E
structure W_TP (x : TP) : Prop where
 Lattice : W_TL x.Lattice
 Channels : (jP W_TR) x.Channels
 Vars : (jP W_TV) x.Vars
 Rules : (jP W_TU) x.Rules
structure W_Tinvigilatorlaw28_Types (x : Tinvigilatorlaw28_Types) : Prop where
 V : W_TY x.V
 Y : W_TY x.Y
 From : (inK .i64) x.From
 Goal : (inK .i64) x.Goal
 PC : (inK .i64) x.PC
 EC : (inK .i64) x.EC
 Lower : (inK .i64) x.Lower
 Top : (inK .i64) x.Top
structure W_TC (x : TC) : Prop where
 Events : (jP W_TEvEvent) x.Events
 Log : (jP W_TE) x.Log
 Vars : (jP W_TW) x.Vars
 Steps : (inK .i64) x.Steps
end Go.Sx.O
noncomputable section
namespace Go.Sx.O
def Fz0 (a0 : List (List UInt8)) : Option (Bool) :=
 Option.bind (
 lpO (fun (s25 : Int) =>
 cond (decide (s25 < (↑(List.length (List.map SV.str a0)) : Int)))
 (cond (decide (s25 < 20))
 (zh a0 s25 fun x31 =>
 cond (decide (100 < (↑(List.length x31) : Int)))
 (some (.inr (.inr (true))))
 (zg (IntKind.wrap .i64 (s25 + 1)) fun x33 =>
 some (.inl x33)))
 (some (.inr (.inl ()))))
 (some (.inr (.inl ())))) (0))
 (Sum.elim (fun (_ : Unit) =>
 some (decide (12 < (↑(List.length (List.map SV.str a0)) : Int)))) some)
def Fz1 (a0 : TL) : Option (Bool) :=
 (Fz0 (a0.Names)).bind fun x34 =>
 cond x34
 (some (true))
 (some (decide (12 < (↑(List.length (List.map (SV.int .u8) a0.Up)) : Int))))
def Fz2 (a0 : TP) : Option (Bool) :=
 Option.bind (
 lpO (fun (s3 : Int) =>
 cond (decide (s3 < (↑(List.length (List.map zJ a0.Channels)) : Int)))
 (cond (decide (s3 < 25))
 (zh (a0.Channels) s3 fun x9 =>
 cond (decide (100 < (↑(List.length x9.s_) : Int)))
 (some (.inr (.inr (true))))
 (zg (IntKind.wrap .i64 (s3 + 1)) fun x11 =>
 some (.inl x11)))
 (some (.inr (.inl ()))))
 (some (.inr (.inl ())))) (0))
 (Sum.elim (fun (_ : Unit) =>
 Option.bind (
 lpO (fun (s14 : Int) =>
 cond (decide (s14 < (↑(List.length (List.map qJ a0.Vars)) : Int)))
 (cond (decide (s14 < 45))
 (zh (a0.Vars) s14 fun x20 =>
 cond (decide (100 < (↑(List.length x20.Name) : Int)))
 (some (.inr (.inr (true))))
 (zg (IntKind.wrap .i64 (s14 + 1)) fun x22 =>
 some (.inl x22)))
 (some (.inr (.inl ()))))
 (some (.inr (.inl ())))) (0))
 (Sum.elim (fun (_ : Unit) =>
 (Fz1 (a0.Lattice)).bind fun x36 =>
 cond x36
 (some (true))
 (cond (decide (20 < (↑(List.length (List.map zJ a0.Channels)) : Int)))
 (some (true))
 (cond (decide (40 < (↑(List.length (List.map qJ a0.Vars)) : Int)))
 (some (true))
 (some (decide (70 < (↑(List.length (List.map qa a0.Rules)) : Int))))))) some)) some)
def Fz3 (a0 : List UInt8) (a1 : Int) : Option (List UInt8) :=
 Option.bind (
 lpO (fun (s65 : List UInt8) =>
 cond (decide (0 < (↑(List.length s65) : Int)))
 (zg (IntKind.wrap .i64 ((↑(List.length s65) : Int) - 1)) fun x72 =>
 zh s65 x72 fun x73 =>
 cond (decide ((↑(UInt8.toNat x73) : Int) = a1))
 (zg (IntKind.wrap .i64 ((↑(List.length s65) : Int) - 1)) fun x75 =>
 zl (0 <= x75 /\ x75 <= (↑(List.length s65) : Int)) (
 some (.inl (List.drop (Int.toNat 0) (List.take (Int.toNat x75) s65)))))
 (some (.inr (.inl s65))))
 (some (.inr (.inl s65)))) a0)
 (Sum.elim (fun (s63 : List UInt8) =>
 some s63) some)
def Fz4 (a0 : List UInt8) (a1 : Int) : Option (List UInt8) :=
 Option.bind (
 lpO (fun (s80 : List UInt8) =>
 cond (decide (0 < (↑(List.length s80) : Int)))
 (zh s80 (0) fun x85 =>
 cond (decide ((↑(UInt8.toNat x85) : Int) = a1))
 (zl ((0 : Int) <= (1 : Int) /\ (1 : Int) <= (↑(List.length s80) : Int)) (
 some (.inl (List.drop (Int.toNat 1) (List.take (Int.toNat (↑(List.length s80) : Int)) s80)))))
 (some (.inr (.inl s80))))
 (some (.inr (.inl s80)))) a0)
 (Sum.elim (fun (s78 : List UInt8) =>
 some s78) some)
def Fz5 (a0 : List UInt8) : Option (List Bool × Bool) :=
 Option.bind (
 lpO (fun (s90 : Int × List Bool) =>
 cond (decide (s90.fst < (↑(List.length a0) : Int)))
 (zh a0 (s90.fst) fun x96 =>
 cond (decide (128 <= (↑(UInt8.toNat x96) : Int)))
 (some (.inr (.inr ((s90.snd, false)))))
 (zl ((0 : Int) <= (↑(UInt8.toNat x96) : Int) /\ (↑(UInt8.toNat x96) : Int) < (↑(256 : Nat) : Int)) (
 zh (s90.snd) ((↑(Int.toNat (↑(UInt8.toNat x96) : Int)) : Int)) fun _ =>
 zg (IntKind.wrap .i64 (s90.fst + 1)) fun x99 =>
 some (.inl ((x99, List.set s90.snd (Int.toNat (↑(UInt8.toNat x96) : Int)) true))))))
 (some (.inr (.inl (s90.snd))))) ((0, List.replicate 256 false)))
 (Sum.elim (fun (s88 : List Bool) =>
 some ((s88, true))) some)
def Fz6 (a0 : List Bool) (a1 : Int) : Option (Bool) :=
 zl (0 <= a1 /\ a1 < (↑(256 : Nat) : Int)) (
 zh a0 ((↑(Int.toNat a1) : Int)) fun x107 =>
 some x107)
def Fz7 (a0 : List UInt8) (a1 : List Bool) : Option (List UInt8) :=
 Option.bind (
 lpO (fun (s104 : List UInt8) =>
 cond (decide (0 < (↑(List.length s104) : Int)))
 (zg (IntKind.wrap .i64 ((↑(List.length s104) : Int) - 1)) fun x112 =>
 zh s104 x112 fun x113 =>
 (Fz6 a1 ((↑(UInt8.toNat x113) : Int))).bind fun x114 =>
 cond (!x114)
 (some (.inr (.inl s104)))
 (zg (IntKind.wrap .i64 ((↑(List.length s104) : Int) - 1)) fun x116 =>
 zl (0 <= x116 /\ x116 <= (↑(List.length s104) : Int)) (
 some (.inl (List.drop (Int.toNat 0) (List.take (Int.toNat x116) s104))))))
 (some (.inr (.inl s104)))) a0)
 (Sum.elim (fun (s102 : List UInt8) =>
 some s102) some)
def Fz8 (a0 : List UInt8) (a1 : List Bool) : Option (List UInt8) :=
 Option.bind (
 lpO (fun (s120 : List UInt8) =>
 cond (decide (0 < (↑(List.length s120) : Int)))
 (zh s120 (0) fun x126 =>
 (Fz6 a1 ((↑(UInt8.toNat x126) : Int))).bind fun x127 =>
 cond (!x127)
 (some (.inr (.inl s120)))
 (zl ((0 : Int) <= (1 : Int) /\ (1 : Int) <= (↑(List.length s120) : Int)) (
 some (.inl (List.drop (Int.toNat 1) (List.take (Int.toNat (↑(List.length s120) : Int)) s120))))))
 (some (.inr (.inl s120)))) a0)
 (Sum.elim (fun (s118 : List UInt8) =>
 some s118) some)
def Fz9 (a0 : Int) : Option (Bool) :=
 some (!decide (bits BinOp.and IntKind.u8 a0 192 = 128))
def zru (a0 : List UInt8) : Option (Int × Int) :=
 cond (decide ((↑(List.length a0) : Int) < 1))
 (some ((65533, 0)))
 (zh a0 (0) fun _ =>
 none)
def znh (a0 : List UInt8) : Option (Int × Int) :=
 cond (!decide (a0 = (ByteArray.mk #[]).data.toList))
 (zh a0 (0) fun x159 =>
 cond (decide ((↑(UInt8.toNat x159) : Int) < 128))
 (zh a0 (0) fun x161 =>
 zg (IntKind.wrap .i32 (↑(UInt8.toNat x161) : Int)) fun x162 =>
 some ((x162, 1)))
 ((zru a0).bind fun x165 =>
 some x165))
 ((zru a0).bind fun x166 =>
 some x166)
def zvi (a0 : List UInt8) : Option (Int × Int) :=
 cond (decide ((↑(List.length a0) : Int) = 0))
 (some ((65533, 0)))
 (zg (IntKind.wrap .i64 ((↑(List.length a0) : Int) - 1)) fun x138 =>
 zh a0 x138 fun x139 =>
 zg (IntKind.wrap .i32 (↑(UInt8.toNat x139) : Int)) fun x140 =>
 cond (decide (x140 < 128))
 (some ((x140, 1)))
 (zg (IntKind.wrap .i64 ((↑(List.length a0) : Int) - 4)) fun x142 =>
 zg (IntKind.wrap .i64 (x138 - 1)) fun x143 =>
 Option.bind (
 lpO (fun (s146 : Int) =>
 cond (decide (max x142 0 <= s146))
 (zh a0 s146 fun x153 =>
 (Fz9 ((↑(UInt8.toNat x153) : Int))).bind fun x154 =>
 cond x154
 (some (.inr (.inl s146)))
 (zg (IntKind.wrap .i64 (s146 - 1)) fun x156 =>
 some (.inl x156)))
 (some (.inr (.inl s146)))) x143)
 (Sum.elim (fun (s144 : Int) =>
 cond (decide (s144 < 0))
 (zl ((0 : Int) <= (0 : Int) /\ (0 : Int) <= (↑(List.length a0) : Int) /\ (↑(List.length a0) : Int) <= (↑(List.length a0) : Int)) (
 (znh (List.drop (Int.toNat 0) (List.take (Int.toNat (↑(List.length a0) : Int)) a0))).bind fun x167 =>
 zg (IntKind.wrap .i64 (0 + x167.snd)) fun x168 =>
 cond (!decide (x168 = (↑(List.length a0) : Int)))
 (some ((65533, 1)))
 (some x167)))
 (zl (0 <= s144 /\ s144 <= (↑(List.length a0) : Int) /\ (↑(List.length a0) : Int) <= (↑(List.length a0) : Int)) (
 (znh (List.drop (Int.toNat s144) (List.take (Int.toNat (↑(List.length a0) : Int)) a0))).bind fun x170 =>
 zg (IntKind.wrap .i64 (s144 + x170.snd)) fun x171 =>
 cond (!decide (x171 = (↑(List.length a0) : Int)))
 (some ((65533, 1)))
 (some x170)))) some)))
def zci (a0 : List UInt8) (a1 : Int) : Option (Int) :=
 (qi a0 a1).bind fun x177 =>
 some x177
def zcw (a0 : Int) : Option (Bool) :=
 cond (decide (0 <= a0))
 (cond (decide (a0 < 55296))
 (some (true))
 (cond (decide (57343 < a0))
 (cond (decide (a0 <= 1114111))
 (some (true))
 (some (false)))
 (some (false))))
 (cond (decide (57343 < a0))
 (cond (decide (a0 <= 1114111))
 (some (true))
 (some (false)))
 (some (false)))
def zgg (a0 : List UInt8) (a1 : Int) : Option (Int) :=
 cond (decide (0 <= a1))
 (cond (decide (a1 < 128))
 (zg (IntKind.wrap .u8 a1) fun x176 =>
 (zci a0 x176).bind fun x178 =>
 some x178)
 (cond (decide (a1 = 65533))
 (none)
 ((zcw a1).bind fun x186 =>
 cond (!x186)
 (some ((-1 : Int)))
 (zg (IntKind.wrap .i64 ((↑(List.length (Utf8.encode a1).data.toList) : Int) - 1)) fun x188 =>
 Option.bind (
 lpO (fun (_ : Unit) =>
 cond (decide (x188 < (↑(List.length a0) : Int)))
 (zh a0 x188 fun x193 =>
 zh ((Utf8.encode a1).data.toList) x188 fun x194 =>
 cond (!decide ((↑(UInt8.toNat x193) : Int) = (↑(UInt8.toNat x194) : Int)))
 (zg (IntKind.wrap .i64 (x188 + 1)) fun x196 =>
 zl (0 <= x196 /\ x196 <= (↑(List.length a0) : Int)) (
 zh ((Utf8.encode a1).data.toList) x188 fun x197 =>
 (zci (List.drop (Int.toNat x196) (List.take (Int.toNat (↑(List.length a0) : Int)) a0)) ((↑(UInt8.toNat x197) : Int))).bind fun x198 =>
 cond (decide (x198 < 0))
 (some (.inr (.inr ((-1 : Int)))))
 (zg (IntKind.wrap .i64 (x198 + 1)) fun x200 =>
 zg (IntKind.wrap .i64 (x188 + x200)) fun x201 =>
 Option.bind (
 lpO (fun (s204 : Int) =>
 cond (decide (s204 < (↑(List.length (Utf8.encode a1).data.toList) : Int)))
 (zg (IntKind.wrap .i64 (x201 - s204)) fun x212 =>
 zh a0 x212 fun x213 =>
 zg (IntKind.wrap .i64 (x188 - s204)) fun x214 =>
 zh ((Utf8.encode a1).data.toList) x214 fun x215 =>
 cond (!decide ((↑(UInt8.toNat x213) : Int) = (↑(UInt8.toNat x215) : Int)))
 (none)
 (zg (IntKind.wrap .i64 (s204 + 1)) fun x217 =>
 some (.inl x217)))
 (some (.inr (.inl ())))) (1))
 (Sum.elim (fun (_ : Unit) =>
 zg (IntKind.wrap .i64 (x201 - x188)) fun x218 =>
 some (.inr (.inr x218))) some))))
 (Option.bind (
 lpO (fun (s221 : Int) =>
 cond (decide (s221 < (↑(List.length (Utf8.encode a1).data.toList) : Int)))
 (zg (IntKind.wrap .i64 (x188 - s221)) fun x229 =>
 zh a0 x229 fun x230 =>
 zg (IntKind.wrap .i64 (x188 - s221)) fun x231 =>
 zh ((Utf8.encode a1).data.toList) x231 fun x232 =>
 cond (!decide ((↑(UInt8.toNat x230) : Int) = (↑(UInt8.toNat x232) : Int)))
 (none)
 (zg (IntKind.wrap .i64 (s221 + 1)) fun x234 =>
 some (.inl x234)))
 (some (.inr (.inl ())))) (1))
 (Sum.elim (fun (_ : Unit) =>
 zg (IntKind.wrap .i64 (x188 - x188)) fun x235 =>
 some (.inr (.inr x235))) some)))
 (some (.inr (.inl ())))) (()))
 (Sum.elim (fun (_ : Unit) =>
 some ((-1 : Int))) some)))))
 (cond (decide (a1 = 65533))
 (none)
 ((zcw a1).bind fun x237 =>
 cond (!x237)
 (some ((-1 : Int)))
 (zg (IntKind.wrap .i64 ((↑(List.length (Utf8.encode a1).data.toList) : Int) - 1)) fun x239 =>
 Option.bind (
 lpO (fun (_ : Unit) =>
 cond (decide (x239 < (↑(List.length a0) : Int)))
 (zh a0 x239 fun x244 =>
 zh ((Utf8.encode a1).data.toList) x239 fun x245 =>
 cond (!decide ((↑(UInt8.toNat x244) : Int) = (↑(UInt8.toNat x245) : Int)))
 (zg (IntKind.wrap .i64 (x239 + 1)) fun x247 =>
 zl (0 <= x247 /\ x247 <= (↑(List.length a0) : Int)) (
 zh ((Utf8.encode a1).data.toList) x239 fun x248 =>
 (zci (List.drop (Int.toNat x247) (List.take (Int.toNat (↑(List.length a0) : Int)) a0)) ((↑(UInt8.toNat x248) : Int))).bind fun x249 =>
 cond (decide (x249 < 0))
 (some (.inr (.inr ((-1 : Int)))))
 (zg (IntKind.wrap .i64 (x249 + 1)) fun x251 =>
 zg (IntKind.wrap .i64 (x239 + x251)) fun x252 =>
 Option.bind (
 lpO (fun (s255 : Int) =>
 cond (decide (s255 < (↑(List.length (Utf8.encode a1).data.toList) : Int)))
 (zg (IntKind.wrap .i64 (x252 - s255)) fun x263 =>
 zh a0 x263 fun x264 =>
 zg (IntKind.wrap .i64 (x239 - s255)) fun x265 =>
 zh ((Utf8.encode a1).data.toList) x265 fun x266 =>
 cond (!decide ((↑(UInt8.toNat x264) : Int) = (↑(UInt8.toNat x266) : Int)))
 (none)
 (zg (IntKind.wrap .i64 (s255 + 1)) fun x268 =>
 some (.inl x268)))
 (some (.inr (.inl ())))) (1))
 (Sum.elim (fun (_ : Unit) =>
 zg (IntKind.wrap .i64 (x252 - x239)) fun x269 =>
 some (.inr (.inr x269))) some))))
 (Option.bind (
 lpO (fun (s272 : Int) =>
 cond (decide (s272 < (↑(List.length (Utf8.encode a1).data.toList) : Int)))
 (zg (IntKind.wrap .i64 (x239 - s272)) fun x280 =>
 zh a0 x280 fun x281 =>
 zg (IntKind.wrap .i64 (x239 - s272)) fun x282 =>
 zh ((Utf8.encode a1).data.toList) x282 fun x283 =>
 cond (!decide ((↑(UInt8.toNat x281) : Int) = (↑(UInt8.toNat x283) : Int)))
 (none)
 (zg (IntKind.wrap .i64 (s272 + 1)) fun x285 =>
 some (.inl x285)))
 (some (.inr (.inl ())))) (1))
 (Sum.elim (fun (_ : Unit) =>
 zg (IntKind.wrap .i64 (x239 - x239)) fun x286 =>
 some (.inr (.inr x286))) some)))
 (some (.inr (.inl ())))) (()))
 (Sum.elim (fun (_ : Unit) =>
 some ((-1 : Int))) some))))
def xm (a0 : List UInt8) (a1 : Int) : Option (Bool) :=
 (zgg a0 a1).bind fun x287 =>
 some (decide (0 <= x287))
def zrf (a0 : List UInt8) (a1 : List UInt8) : Option (List UInt8) :=
 Option.bind (
 lpO (fun (s132 : List UInt8) =>
 cond (decide (0 < (↑(List.length s132) : Int)))
 (zg (IntKind.wrap .i64 ((↑(List.length s132) : Int) - 1)) fun x146 =>
 zh s132 x146 fun x147 =>
 zg (IntKind.wrap .i32 (↑(UInt8.toNat x147) : Int)) fun x148 =>
 cond (decide (128 <= x148))
 ((zvi s132).bind fun x150 =>
 (xm a1 (x150.fst)).bind fun x151 =>
 cond (!x151)
 (some (.inr (.inl s132)))
 (zg (IntKind.wrap .i64 ((↑(List.length s132) : Int) - x150.snd)) fun x153 =>
 zl (0 <= x153 /\ x153 <= (↑(List.length s132) : Int)) (
 some (.inl (List.drop (Int.toNat 0) (List.take (Int.toNat x153) s132))))))
 ((xm a1 x148).bind fun x154 =>
 cond (!x154)
 (some (.inr (.inl s132)))
 (zg (IntKind.wrap .i64 ((↑(List.length s132) : Int) - 1)) fun x156 =>
 zl (0 <= x156 /\ x156 <= (↑(List.length s132) : Int)) (
 some (.inl (List.drop (Int.toNat 0) (List.take (Int.toNat x156) s132)))))))
 (some (.inr (.inl s132)))) a0)
 (Sum.elim (fun (s130 : List UInt8) =>
 some s130) some)
def zs7 (a0 : List UInt8) (a1 : List UInt8) : Option (List UInt8) :=
 Option.bind (
 lpO (fun (s160 : List UInt8) =>
 cond (decide (0 < (↑(List.length s160) : Int)))
 ((znh s160).bind fun x166 =>
 (xm a1 (x166.fst)).bind fun x167 =>
 cond (!x167)
 (some (.inr (.inl s160)))
 (zl (0 <= x166.snd /\ x166.snd <= (↑(List.length s160) : Int)) (
 some (.inl (List.drop (Int.toNat x166.snd) (List.take (Int.toNat (↑(List.length s160) : Int)) s160))))))
 (some (.inr (.inl s160)))) a0)
 (Sum.elim (fun (s158 : List UInt8) =>
 some s158) some)
def zmy (a0 : List UInt8) (a1 : List UInt8) : Option (List UInt8) :=
 cond (decide (a0 = (ByteArray.mk #[]).data.toList))
 (some a0)
 (cond (decide (a1 = (ByteArray.mk #[]).data.toList))
 (some a0)
 (cond (decide ((↑(List.length a1) : Int) = 1))
 (zh a1 (0) fun x60 =>
 cond (decide ((↑(UInt8.toNat x60) : Int) < 128))
 (zh a1 (0) fun x62 =>
 (Fz3 a0 ((↑(UInt8.toNat x62) : Int))).bind fun x76 =>
 zh a1 (0) fun x77 =>
 (Fz4 x76 ((↑(UInt8.toNat x77) : Int))).bind fun x87 =>
 some x87)
 ((Fz5 a1).bind fun x100 =>
 cond (x100.snd)
 ((Fz7 a0 (x100.fst)).bind fun x117 =>
 (Fz8 x117 (x100.fst)).bind fun x129 =>
 some x129)
 ((zrf a0 a1).bind fun x157 =>
 (zs7 x157 a1).bind fun x169 =>
 some x169)))
 ((Fz5 a1).bind fun x170 =>
 cond (x170.snd)
 ((Fz7 a0 (x170.fst)).bind fun x172 =>
 (Fz8 x172 (x170.fst)).bind fun x173 =>
 some x173)
 ((zrf a0 a1).bind fun x174 =>
 (zs7 x174 a1).bind fun x175 =>
 some x175))))
def zn5 (a0 : List UInt8) : Option (Bool) :=
 cond (decide (a0 = (ByteArray.mk #[]).data.toList))
 (some (false))
 (cond (decide (16 < (↑(List.length a0) : Int)))
 (some (false))
 (zh a0 (0) fun x53 =>
 cond (decide ((↑(UInt8.toNat x53) : Int) < 97))
 (some (false))
 (zh a0 (0) fun x55 =>
 cond (decide (122 < (↑(UInt8.toNat x55) : Int)))
 (some (false))
 ((zmy a0 ((ByteArray.mk #[97, 98, 99, 100, 101, 102, 103, 104, 105, 106, 107, 108, 109, 110, 111, 112, 113, 114, 115, 116, 117, 118, 119, 120, 121, 122, 48, 49, 50, 51, 52, 53, 54, 55, 56, 57, 45]).data.toList)).bind fun x176 =>
 some (decide (x176 = (ByteArray.mk #[]).data.toList))))))
def znw (a0 : List (List UInt8)) (a1 : List UInt8) : Option (Int) :=
 Option.bind (
 lpO (fun (s181 : Int) =>
 cond (decide (s181 < (↑(List.length (List.map SV.str a0)) : Int)))
 (zh a0 s181 fun x186 =>
 cond (decide (a1 = x186))
 (some (.inr (.inr s181)))
 (zg (IntKind.wrap .i64 (s181 + 1)) fun x188 =>
 some (.inl x188)))
 (some (.inr (.inl ())))) (0))
 (Sum.elim (fun (_ : Unit) =>
 some ((-1 : Int))) some)
def zot (a0 : List (List UInt8)) (a1 : List UInt8) : Option (Bool) :=
 (znw a0 a1).bind fun x189 =>
 some (decide (0 <= x189))
def zfp (a0 : List (List UInt8)) : Option (Int × Int) :=
 cond (decide ((↑(List.length (List.map SV.str a0)) : Int) < 1))
 (some (((-1 : Int), 3)))
 (cond (decide (8 < (↑(List.length (List.map SV.str a0)) : Int)))
 (some (((-1 : Int), 3)))
 (Option.bind (
 lpO (fun (s49 : Int) =>
 cond (decide (s49 < (↑(List.length (List.map SV.str a0)) : Int)))
 (zh a0 s49 fun x57 =>
 (zn5 x57).bind fun x58 =>
 cond (!x58)
 (some (.inr (.inr ((s49, 6)))))
 (zl (0 <= s49 /\ s49 <= (↑(List.length (List.map SV.str a0)) : Int)) (
 (zot (List.drop (Int.toNat 0) (List.take (Int.toNat s49) a0)) x57).bind fun x60 =>
 cond x60
 (some (.inr (.inr ((s49, 8)))))
 (zg (IntKind.wrap .i64 (s49 + 1)) fun x62 =>
 some (.inl x62)))))
 (some (.inr (.inl ())))) (0))
 (Sum.elim (fun (_ : Unit) =>
 some ((0, 0))) some)))
def zgl (a0 : Int) : Option (Int) :=
 zh ((ByteArray.mk (List.toArray (List.append (List.append [(0 : UInt8), 1, 2, 2, 3, 3, 3, 3, 4, 4, 4, 4, 4, 4, 4, 4, 5, 5, 5, 5, 5, 5, 5, 5, 5, 5, 5, 5, 5, 5, 5, 5, 6, 6, 6, 6, 6, 6, 6, 6, 6, 6, 6, 6, 6, 6, 6, 6, 6, 6, 6, 6, 6, 6, 6, 6, 6, 6, 6, 6, 6, 6, 6, 6] [(7 : UInt8), 7, 7, 7, 7, 7, 7, 7, 7, 7, 7, 7, 7, 7, 7, 7, 7, 7, 7, 7, 7, 7, 7, 7, 7, 7, 7, 7, 7, 7, 7, 7, 7, 7, 7, 7, 7, 7, 7, 7, 7, 7, 7, 7, 7, 7, 7, 7, 7, 7, 7, 7, 7, 7, 7, 7, 7, 7, 7, 7, 7, 7, 7, 7]) (List.append [(8 : UInt8), 8, 8, 8, 8, 8, 8, 8, 8, 8, 8, 8, 8, 8, 8, 8, 8, 8, 8, 8, 8, 8, 8, 8, 8, 8, 8, 8, 8, 8, 8, 8, 8, 8, 8, 8, 8, 8, 8, 8, 8, 8, 8, 8, 8, 8, 8, 8, 8, 8, 8, 8, 8, 8, 8, 8, 8, 8, 8, 8, 8, 8, 8, 8] [(8 : UInt8), 8, 8, 8, 8, 8, 8, 8, 8, 8, 8, 8, 8, 8, 8, 8, 8, 8, 8, 8, 8, 8, 8, 8, 8, 8, 8, 8, 8, 8, 8, 8, 8, 8, 8, 8, 8, 8, 8, 8, 8, 8, 8, 8, 8, 8, 8, 8, 8, 8, 8, 8, 8, 8, 8, 8, 8, 8, 8, 8, 8, 8, 8, 8])))).data.toList) a0 fun x72 =>
 zg (IntKind.wrap .i64 (↑(UInt8.toNat x72) : Int)) fun x73 =>
 some x73
def zdf (a0 : TL) : Option (Tlattice_order) :=
 Option.bind (
 lpO (fun (s145 : Int × List Int × List Int) =>
 cond (decide (s145.fst < (↑(List.length (List.map (SV.int .u8) a0.Up)) : Int)))
 (zh (a0.Up) (s145.fst) fun x159 =>
 zl (0 <= s145.fst /\ s145.fst < (↑(8 : Nat) : Int)) (
 zh (s145.snd.fst) ((↑(Int.toNat s145.fst) : Int)) fun _ =>
 Option.bind (
 lpO (fun (s163 : Int × List Int) =>
 cond (decide (s163.fst < (↑(List.length (List.map SV.str a0.Names)) : Int)))
 (zl (0 <= s163.fst /\ s163.fst < (↑(8 : Nat) : Int)) (
 zh (s163.snd) ((↑(Int.toNat s163.fst) : Int)) fun x169 =>
 zl (0 <= s163.fst) (
 zl (0 <= s145.fst) (
 zg (IntKind.wrap .u8 (bits BinOp.and IntKind.u8 (Int.fdiv x159 (2 ^ min (Int.toNat s163.fst) (IntKind.bits IntKind.u8))) 1 * 2 ^ min (Int.toNat s145.fst) (IntKind.bits IntKind.u8))) fun x170 =>
 zl (0 <= s163.fst /\ s163.fst < (↑(8 : Nat) : Int)) (
 zh (s163.snd) ((↑(Int.toNat s163.fst) : Int)) fun _ =>
 zg (IntKind.wrap .i64 (s163.fst + 1)) fun x172 =>
 some (.inl ((x172, List.set s163.snd (Int.toNat s163.fst) (bits BinOp.or IntKind.u8 x169 x170)))))))))
 (some (.inr (.inl (s163.snd))))) ((0, s145.snd.snd)))
 (Sum.elim (fun (s161 : List Int) =>
 zg (IntKind.wrap .i64 (s145.fst + 1)) fun x173 =>
 some (.inl ((x173, List.set s145.snd.fst (Int.toNat s145.fst) x159, s161)))) some)))
 (some (.inr (.inl (s145.snd))))) ((0, [0, 0, 0, 0, 0, 0, 0, 0], [0, 0, 0, 0, 0, 0, 0, 0])))
 (Sum.elim (fun (s143 : List Int × List Int) =>
 some (Tlattice_order.mk (↑(List.length (List.map SV.str a0.Names)) : Int) s143.fst s143.snd)) some)
def zf2 (a0 : List Int) (a1 : Int) (a2 : Int) (a3 : Int) : Option (Int) :=
 zl (0 <= a2 /\ a2 < (↑(8 : Nat) : Int)) (
 zh a0 ((↑(Int.toNat a2) : Int)) fun x180 =>
 zl (0 <= a3 /\ a3 < (↑(8 : Nat) : Int)) (
 zh a0 ((↑(Int.toNat a3) : Int)) fun x181 =>
 Option.bind (
 lpO (fun (s184 : Int) =>
 cond (decide (s184 < a1))
 (zl (0 <= s184) (
 cond (decide (bits BinOp.and IntKind.u8 (Int.fdiv (bits BinOp.and IntKind.u8 x180 x181) (2 ^ min (Int.toNat s184) (IntKind.bits IntKind.u8))) 1 = 1))
 (zl (0 <= s184 /\ s184 < (↑(8 : Nat) : Int)) (
 zh a0 ((↑(Int.toNat s184) : Int)) fun x191 =>
 cond (decide (x191 = bits BinOp.and IntKind.u8 x180 x181))
 (some (.inr (.inr s184)))
 (zg (IntKind.wrap .i64 (s184 + 1)) fun x193 =>
 some (.inl x193))))
 (zg (IntKind.wrap .i64 (s184 + 1)) fun x194 =>
 some (.inl x194))))
 (some (.inr (.inl ())))) (0))
 (Sum.elim (fun (_ : Unit) =>
 some ((-1 : Int))) some)))
def zl0 (a0 : List Int) (a1 : Int) (a2 : Int) (a3 : Int) : Option (Int) :=
 zl (0 <= a2 /\ a2 < (↑(8 : Nat) : Int)) (
 zh a0 ((↑(Int.toNat a2) : Int)) fun x197 =>
 zl (0 <= a3 /\ a3 < (↑(8 : Nat) : Int)) (
 zh a0 ((↑(Int.toNat a3) : Int)) fun x198 =>
 Option.bind (
 lpO (fun (s201 : Int) =>
 cond (decide (s201 < a1))
 (zl (0 <= s201) (
 cond (decide (bits BinOp.and IntKind.u8 (Int.fdiv (bits BinOp.and IntKind.u8 x197 x198) (2 ^ min (Int.toNat s201) (IntKind.bits IntKind.u8))) 1 = 1))
 (zl (0 <= s201 /\ s201 < (↑(8 : Nat) : Int)) (
 zh a0 ((↑(Int.toNat s201) : Int)) fun x208 =>
 cond (decide (x208 = bits BinOp.and IntKind.u8 x197 x198))
 (some (.inr (.inr s201)))
 (zg (IntKind.wrap .i64 (s201 + 1)) fun x210 =>
 some (.inl x210))))
 (zg (IntKind.wrap .i64 (s201 + 1)) fun x211 =>
 some (.inl x211))))
 (some (.inr (.inl ())))) (0))
 (Sum.elim (fun (_ : Unit) =>
 some ((-1 : Int))) some)))
def uW (a0 : TL) : Option (Int × Int) :=
 (zfp (a0.Names)).bind fun x63 =>
 cond (!decide (x63.snd = 0))
 (some x63)
 (cond (!decide ((↑(List.length (List.map (SV.int .u8) a0.Up)) : Int) = (↑(List.length (List.map SV.str a0.Names)) : Int)))
 (some (((-1 : Int), 6)))
 (zl ((0 : Int) <= (↑(List.length (List.map SV.str a0.Names)) : Int)) (
 zg (IntKind.wrap .u8 (1 * 2 ^ min (Int.toNat (↑(List.length (List.map SV.str a0.Names)) : Int)) (IntKind.bits IntKind.u8))) fun x66 =>
 zg (IntKind.wrap .u8 (x66 - 1)) fun x67 =>
 Option.bind (
 lpO (fun (s70 : Int) =>
 cond (decide (s70 < (↑(List.length (List.map (SV.int .u8) a0.Up)) : Int)))
 (zh (a0.Up) s70 fun x100 =>
 (zgl x100).bind fun x101 =>
 cond (decide ((↑(List.length (List.map SV.str a0.Names)) : Int) < x101))
 (some (.inr (.inr ((s70, 6)))))
 (zl (0 <= s70) (
 cond (decide (bits BinOp.and IntKind.u8 (Int.fdiv x100 (2 ^ min (Int.toNat s70) (IntKind.bits IntKind.u8))) 1 = 0))
 (some (.inr (.inr ((s70, 6)))))
 (Option.bind (
 lpO (fun (s106 : Int) =>
 cond (decide (s106 < (↑(List.length (List.map (SV.int .u8) a0.Up)) : Int)))
 (zh (a0.Up) s106 fun x124 =>
 zl (0 <= s106) (
 cond (decide (bits BinOp.and IntKind.u8 (Int.fdiv x100 (2 ^ min (Int.toNat s106) (IntKind.bits IntKind.u8))) 1 = 0))
 (zg (IntKind.wrap .i64 ((↑(List.length (List.map SV.str a0.Names)) : Int) - 1)) fun x126 =>
 cond (decide (s106 = x126))
 (zg (IntKind.wrap .i64 (s70 + 1)) fun x128 =>
 some (.inr (.inr (.inl x128))))
 (zg (IntKind.wrap .i64 (s106 + 1)) fun x129 =>
 some (.inl x129)))
 (cond (!decide (s106 = s70))
 (zl (0 <= s70) (
 cond (decide (bits BinOp.and IntKind.u8 (Int.fdiv x124 (2 ^ min (Int.toNat s70) (IntKind.bits IntKind.u8))) 1 = 1))
 (some (.inr (.inr (.inr (.inr ((s70, 6)))))))
 (cond (!decide (bits BinOp.andNot IntKind.u8 (bits BinOp.and IntKind.u8 x124 x67) x100 = 0))
 (some (.inr (.inr (.inr (.inr ((s70, 6)))))))
 (zg (IntKind.wrap .i64 ((↑(List.length (List.map SV.str a0.Names)) : Int) - 1)) fun x133 =>
 cond (decide (s106 = x133))
 (zg (IntKind.wrap .i64 (s70 + 1)) fun x135 =>
 some (.inr (.inr (.inl x135))))
 (zg (IntKind.wrap .i64 (s106 + 1)) fun x136 =>
 some (.inl x136))))))
 (cond (!decide (bits BinOp.andNot IntKind.u8 (bits BinOp.and IntKind.u8 x124 x67) x100 = 0))
 (some (.inr (.inr (.inr (.inr ((s70, 6)))))))
 (zg (IntKind.wrap .i64 ((↑(List.length (List.map SV.str a0.Names)) : Int) - 1)) fun x138 =>
 cond (decide (s106 = x138))
 (zg (IntKind.wrap .i64 (s70 + 1)) fun x140 =>
 some (.inr (.inr (.inl x140))))
 (zg (IntKind.wrap .i64 (s106 + 1)) fun x141 =>
 some (.inl x141)))))))
 (some (.inr (.inl ())))) (0))
 (Sum.elim (fun (_ : Unit) =>
 zg (IntKind.wrap .i64 (s70 + 1)) fun x142 =>
 some (.inl x142)) some)))))
 (some (.inr (.inl ())))) (0))
 (Sum.elim (fun (_ : Unit) =>
 (zdf a0).bind fun x174 =>
 Option.bind (
 lpO (fun (s177 : Int) =>
 cond (decide (s177 < (↑(List.length (List.map SV.str a0.Names)) : Int)))
 (Option.bind (
 lpO (fun (s195 : Int) =>
 cond (decide (s195 < (↑(List.length (List.map SV.str a0.Names)) : Int)))
 ((zf2 (x174.up_) ((↑(List.length (List.map SV.str a0.Names)) : Int)) s177 s195).bind fun x202 =>
 cond (decide (x202 < 0))
 (some (.inr (.inr (.inr (.inr ((s177, 4)))))))
 ((zl0 (x174.down_) ((↑(List.length (List.map SV.str a0.Names)) : Int)) s177 s195).bind fun x204 =>
 cond (decide (x204 < 0))
 (some (.inr (.inr (.inr (.inr ((s177, 4)))))))
 (zg (IntKind.wrap .i64 (s195 + 1)) fun x206 =>
 some (.inl x206))))
 (some (.inr (.inl ())))) (0))
 (Sum.elim (fun (_ : Unit) =>
 zg (IntKind.wrap .i64 (s177 + 1)) fun x207 =>
 some (.inl x207)) some))
 (some (.inr (.inl ())))) (0))
 (Sum.elim (fun (_ : Unit) =>
 some ((0, 0))) some)) some))))
def zs0 (a0 : TP) : Option (Int × Int) :=
 (uW (a0.Lattice)).bind fun x208 =>
 some x208
def zh9 (a0 : List UInt8) : Option (Int × Int) :=
 Option.bind (
 cond (decide ([(110 : UInt8), (101 : UInt8), (103 : UInt8)] = a0))
 (some (.inr ((1, 0))))
 (cond (decide ([(97 : UInt8), (98 : UInt8), (115 : UInt8)] = a0))
 (some (.inr ((2, 0))))
 (cond (decide ([(110 : UInt8), (111 : UInt8), (116 : UInt8)] = a0))
 (some (.inr ((3, 0))))
 (cond (decide ([(115 : UInt8), (104 : UInt8), (97 : UInt8), (112 : UInt8), (101 : UInt8)] = a0))
 (some (.inr ((4, 0))))
 (cond (decide ([(114 : UInt8), (97 : UInt8), (118 : UInt8), (101 : UInt8), (108 : UInt8)] = a0))
 (some (.inr ((5, 0))))
 (cond (decide ([(114 : UInt8), (101 : UInt8), (118 : UInt8), (101 : UInt8), (114 : UInt8), (115 : UInt8), (101 : UInt8)] = a0))
 (some (.inr ((6, 0))))
 (cond (decide ([(102 : UInt8), (108 : UInt8), (105 : UInt8), (112 : UInt8)] = a0))
 (some (.inr ((7, 0))))
 (cond (decide ([(105 : UInt8), (111 : UInt8), (116 : UInt8), (97 : UInt8)] = a0))
 (some (.inr ((8, 0))))
 (cond (decide ([(115 : UInt8), (117 : UInt8), (109 : UInt8)] = a0))
 (some (.inr ((9, 0))))
 (cond (decide ([(108 : UInt8), (101 : UInt8), (97 : UInt8), (115 : UInt8), (116 : UInt8)] = a0))
 (some (.inr ((10, 0))))
 (cond (decide ([(109 : UInt8), (111 : UInt8), (115 : UInt8), (116 : UInt8)] = a0))
 (some (.inr ((11, 0))))
 (cond (decide ([(99 : UInt8), (111 : UInt8), (117 : UInt8), (110 : UInt8), (116 : UInt8)] = a0))
 (some (.inr ((12, 0))))
 (cond (decide ([(115 : UInt8), (99 : UInt8), (97 : UInt8), (110 : UInt8)] = a0))
 (some (.inr ((13, 0))))
 (cond (decide ([(103 : UInt8), (114 : UInt8), (97 : UInt8), (100 : UInt8), (101 : UInt8)] = a0))
 (some (.inr ((14, 0))))
 (cond (decide ([(97 : UInt8), (100 : UInt8), (100 : UInt8)] = a0))
 (some (.inr ((15, 0))))
 (cond (decide ([(115 : UInt8), (117 : UInt8), (98 : UInt8)] = a0))
 (some (.inr ((16, 0))))
 (cond (decide ([(109 : UInt8), (117 : UInt8), (108 : UInt8)] = a0))
 (some (.inr ((17, 0))))
 (cond (decide ([(100 : UInt8), (105 : UInt8), (118 : UInt8)] = a0))
 (some (.inr ((18, 0))))
 (cond (decide ([(109 : UInt8), (111 : UInt8), (100 : UInt8)] = a0))
 (some (.inr ((19, 0))))
 (cond (decide ([(112 : UInt8), (108 : UInt8), (117 : UInt8), (115 : UInt8)] = a0))
 (some (.inr ((20, 0))))
 (cond (decide ([(109 : UInt8), (105 : UInt8), (110 : UInt8), (117 : UInt8), (115 : UInt8)] = a0))
 (some (.inr ((21, 0))))
 (cond (decide ([(116 : UInt8), (105 : UInt8), (109 : UInt8), (101 : UInt8), (115 : UInt8)] = a0))
 (some (.inr ((22, 0))))
 (cond (decide ([(101 : UInt8), (113 : UInt8)] = a0))
 (some (.inr ((23, 0))))
 (cond (decide ([(110 : UInt8), (101 : UInt8)] = a0))
 (some (.inr ((24, 0))))
 (cond (decide ([(108 : UInt8), (116 : UInt8)] = a0))
 (some (.inr ((25, 0))))
 (cond (decide ([(108 : UInt8), (101 : UInt8)] = a0))
 (some (.inr ((26, 0))))
 (cond (decide ([(103 : UInt8), (116 : UInt8)] = a0))
 (some (.inr ((27, 0))))
 (cond (decide ([(103 : UInt8), (101 : UInt8)] = a0))
 (some (.inr ((28, 0))))
 (cond (decide ([(97 : UInt8), (110 : UInt8), (100 : UInt8)] = a0))
 (some (.inr ((29, 0))))
 (cond (decide ([(111 : UInt8), (114 : UInt8)] = a0))
 (some (.inr ((30, 0))))
 (cond (decide ([(109 : UInt8), (105 : UInt8), (110 : UInt8)] = a0))
 (some (.inr ((31, 0))))
 (cond (decide ([(109 : UInt8), (97 : UInt8), (120 : UInt8)] = a0))
 (some (.inr ((32, 0))))
 (cond (decide ([(116 : UInt8), (97 : UInt8), (107 : UInt8), (101 : UInt8)] = a0))
 (some (.inr ((33, 0))))
 (cond (decide ([(100 : UInt8), (114 : UInt8), (111 : UInt8), (112 : UInt8)] = a0))
 (some (.inr ((34, 0))))
 (cond (decide ([(102 : UInt8), (105 : UInt8), (108 : UInt8), (108 : UInt8)] = a0))
 (some (.inr ((35, 0))))
 (cond (decide ([(103 : UInt8), (114 : UInt8), (105 : UInt8), (100 : UInt8)] = a0))
 (some (.inr ((36, 0))))
 (cond (decide ([(99 : UInt8), (97 : UInt8), (116 : UInt8)] = a0))
 (some (.inr ((37, 0))))
 (cond (decide ([(97 : UInt8), (116 : UInt8)] = a0))
 (some (.inr ((38, 0))))
 (cond (decide ([(105 : UInt8), (110 : UInt8)] = a0))
 (some (.inr ((39, 0))))
 (cond (decide ([(112 : UInt8), (105 : UInt8), (99 : UInt8), (107 : UInt8)] = a0))
 (some (.inr ((40, 0))))
 (some (.inl ()))))))))))))))))))))))))))))))))))))))))))
 (Sum.elim (fun (_ : Unit) =>
 some ((0, 4))) some)
def zm8 (a0 : Int) : Option (Bool) :=
 zg (IntKind.wrap .i32 a0) fun x286 =>
 zg (IntKind.wrap .i64 x286) fun x287 =>
 cond (decide (a0 = x287))
 (zg (IntKind.wrap .i32 a0) fun x289 =>
 (zcw x289).bind fun x290 =>
 some x290)
 (some (false))
def zfv : Option (List (List UInt8)) :=
 some ([[], (ByteArray.mk #[32]).data.toList, (ByteArray.mk #[10]).data.toList, (ByteArray.mk #[40, 91]).data.toList, (ByteArray.mk #[41, 93]).data.toList, (ByteArray.mk #[34]).data.toList, [], (ByteArray.mk #[45]).data.toList, [], (ByteArray.mk #[60, 61]).data.toList])
def zcg (a0 : Int) : Option (Int × Int) :=
 (zm8 a0).bind fun x291 =>
 cond (!x291)
 (some ((0, 7)))
 (cond (decide (48 <= a0))
 (cond (decide (a0 <= 57))
 (some ((6, 0)))
 (cond (decide (97 <= a0))
 (cond (decide (a0 <= 122))
 (some ((8, 0)))
 ((zfv).bind fun x297 =>
 Option.bind (
 lpO (fun (s300 : Int) =>
 cond (decide (s300 < 10))
 (zh x297 s300 fun x306 =>
 zg (IntKind.wrap .i32 a0) fun x307 =>
 (xm x306 x307).bind fun x308 =>
 cond x308
 (some (.inr (.inr ((s300, 0)))))
 (zg (IntKind.wrap .i64 (s300 + 1)) fun x310 =>
 some (.inl x310)))
 (some (.inr (.inl ())))) (0))
 (Sum.elim (fun (_ : Unit) =>
 some ((10, 0))) some)))
 ((zfv).bind fun x311 =>
 Option.bind (
 lpO (fun (s314 : Int) =>
 cond (decide (s314 < 10))
 (zh x311 s314 fun x320 =>
 zg (IntKind.wrap .i32 a0) fun x321 =>
 (xm x320 x321).bind fun x322 =>
 cond x322
 (some (.inr (.inr ((s314, 0)))))
 (zg (IntKind.wrap .i64 (s314 + 1)) fun x324 =>
 some (.inl x324)))
 (some (.inr (.inl ())))) (0))
 (Sum.elim (fun (_ : Unit) =>
 some ((10, 0))) some))))
 (cond (decide (97 <= a0))
 (cond (decide (a0 <= 122))
 (some ((8, 0)))
 ((zfv).bind fun x327 =>
 Option.bind (
 lpO (fun (s330 : Int) =>
 cond (decide (s330 < 10))
 (zh x327 s330 fun x336 =>
 zg (IntKind.wrap .i32 a0) fun x337 =>
 (xm x336 x337).bind fun x338 =>
 cond x338
 (some (.inr (.inr ((s330, 0)))))
 (zg (IntKind.wrap .i64 (s330 + 1)) fun x340 =>
 some (.inl x340)))
 (some (.inr (.inl ())))) (0))
 (Sum.elim (fun (_ : Unit) =>
 some ((10, 0))) some)))
 ((zfv).bind fun x341 =>
 Option.bind (
 lpO (fun (s344 : Int) =>
 cond (decide (s344 < 10))
 (zh x341 s344 fun x350 =>
 zg (IntKind.wrap .i32 a0) fun x351 =>
 (xm x350 x351).bind fun x352 =>
 cond x352
 (some (.inr (.inr ((s344, 0)))))
 (zg (IntKind.wrap .i64 (s344 + 1)) fun x354 =>
 some (.inl x354)))
 (some (.inr (.inl ())))) (0))
 (Sum.elim (fun (_ : Unit) =>
 some ((10, 0))) some))))
def zb0 (a0 : List UInt8) : Option (Int) :=
 zh a0 (0) fun x399 =>
 zg (IntKind.wrap .u64 (↑(UInt8.toNat x399) : Int)) fun x400 =>
 zh a0 (1) fun x401 =>
 zg (IntKind.wrap .u64 (↑(UInt8.toNat x401) : Int)) fun x402 =>
 zg (IntKind.wrap .u64 (x402 * 2 ^ min (Int.toNat 8) (IntKind.bits IntKind.u64))) fun x403 =>
 zh a0 (2) fun x404 =>
 zg (IntKind.wrap .u64 (↑(UInt8.toNat x404) : Int)) fun x405 =>
 zg (IntKind.wrap .u64 (x405 * 2 ^ min (Int.toNat 16) (IntKind.bits IntKind.u64))) fun x406 =>
 zh a0 (3) fun x407 =>
 zg (IntKind.wrap .u64 (↑(UInt8.toNat x407) : Int)) fun x408 =>
 zg (IntKind.wrap .u64 (x408 * 2 ^ min (Int.toNat 24) (IntKind.bits IntKind.u64))) fun x409 =>
 zh a0 (4) fun x410 =>
 zg (IntKind.wrap .u64 (↑(UInt8.toNat x410) : Int)) fun x411 =>
 zg (IntKind.wrap .u64 (x411 * 2 ^ min (Int.toNat 32) (IntKind.bits IntKind.u64))) fun x412 =>
 zh a0 (5) fun x413 =>
 zg (IntKind.wrap .u64 (↑(UInt8.toNat x413) : Int)) fun x414 =>
 zg (IntKind.wrap .u64 (x414 * 2 ^ min (Int.toNat 40) (IntKind.bits IntKind.u64))) fun x415 =>
 zh a0 (6) fun x416 =>
 zg (IntKind.wrap .u64 (↑(UInt8.toNat x416) : Int)) fun x417 =>
 zg (IntKind.wrap .u64 (x417 * 2 ^ min (Int.toNat 48) (IntKind.bits IntKind.u64))) fun x418 =>
 zh a0 (7) fun x419 =>
 zg (IntKind.wrap .u64 (↑(UInt8.toNat x419) : Int)) fun x420 =>
 zg (IntKind.wrap .u64 (x420 * 2 ^ min (Int.toNat 56) (IntKind.bits IntKind.u64))) fun x421 =>
 some (bits BinOp.or IntKind.u64 (bits BinOp.or IntKind.u64 (bits BinOp.or IntKind.u64 (bits BinOp.or IntKind.u64 (bits BinOp.or IntKind.u64 (bits BinOp.or IntKind.u64 (bits BinOp.or IntKind.u64 x400 x403) x406) x409) x412) x415) x418) x421)
def zxl (a0 : List UInt8) : Option (Bool) :=
 Option.bind (
 lpO (fun (s395 : List UInt8) =>
 cond (decide (0 < (↑(List.length s395) : Int)))
 (zh s395 (0) fun x422 =>
 cond (decide ((↑(UInt8.toNat x422) : Int) < 128))
 (zl ((0 : Int) <= (1 : Int) /\ (1 : Int) <= (↑(List.length s395) : Int)) (
 cond (decide (8 < (↑(List.length (List.drop (Int.toNat 1) (List.take (Int.toNat (↑(List.length s395) : Int)) s395))) : Int)))
 ((zb0 (List.drop (Int.toNat 1) (List.take (Int.toNat (↑(List.length s395) : Int)) s395))).bind fun x425 =>
 cond (decide (bits BinOp.and IntKind.u64 x425 9259542123273814144 = 0))
 (zl ((0 : Int) <= (8 : Int) /\ (8 : Int) <= (↑(List.length (List.drop (Int.toNat (1 : Int)) (List.take (Int.toNat (↑(List.length s395) : Int)) s395))) : Int)) (
 cond (decide (16 < (↑(List.length (List.drop (Int.toNat 8) (List.take (Int.toNat (↑(List.length (List.drop (Int.toNat 1) (List.take (Int.toNat (↑(List.length s395) : Int)) s395))) : Int)) (List.drop (Int.toNat 1) (List.take (Int.toNat (↑(List.length s395) : Int)) s395))))) : Int)))
 ((zb0 (List.drop (Int.toNat 8) (List.take (Int.toNat (↑(List.length (List.drop (Int.toNat 1) (List.take (Int.toNat (↑(List.length s395) : Int)) s395))) : Int)) (List.drop (Int.toNat 1) (List.take (Int.toNat (↑(List.length s395) : Int)) s395))))).bind fun x428 =>
 zl ((0 : Int) <= (8 : Int) /\ (8 : Int) <= (↑(List.length (List.drop (Int.toNat (8 : Int)) (List.take (Int.toNat (↑(List.length (List.drop (Int.toNat (1 : Int)) (List.take (Int.toNat (↑(List.length s395) : Int)) s395))) : Int)) (List.drop (Int.toNat (1 : Int)) (List.take (Int.toNat (↑(List.length s395) : Int)) s395))))) : Int)) (
 (zb0 (List.drop (Int.toNat 8) (List.take (Int.toNat (↑(List.length (List.drop (Int.toNat 8) (List.take (Int.toNat (↑(List.length (List.drop (Int.toNat 1) (List.take (Int.toNat (↑(List.length s395) : Int)) s395))) : Int)) (List.drop (Int.toNat 1) (List.take (Int.toNat (↑(List.length s395) : Int)) s395))))) : Int)) (List.drop (Int.toNat 8) (List.take (Int.toNat (↑(List.length (List.drop (Int.toNat 1) (List.take (Int.toNat (↑(List.length s395) : Int)) s395))) : Int)) (List.drop (Int.toNat 1) (List.take (Int.toNat (↑(List.length s395) : Int)) s395))))))).bind fun x429 =>
 cond (decide (bits BinOp.and IntKind.u64 (bits BinOp.or IntKind.u64 x428 x429) 9259542123273814144 = 0))
 (zl ((0 : Int) <= (16 : Int) /\ (16 : Int) <= (↑(List.length (List.drop (Int.toNat (8 : Int)) (List.take (Int.toNat (↑(List.length (List.drop (Int.toNat (1 : Int)) (List.take (Int.toNat (↑(List.length s395) : Int)) s395))) : Int)) (List.drop (Int.toNat (1 : Int)) (List.take (Int.toNat (↑(List.length s395) : Int)) s395))))) : Int)) (
 Option.bind (
 lpO (fun (s433 : List UInt8) =>
 cond (decide (32 < (↑(List.length s433) : Int)))
 ((zb0 s433).bind fun x441 =>
 zl ((0 : Int) <= (8 : Int) /\ (8 : Int) <= (↑(List.length s433) : Int)) (
 (zb0 (List.drop (Int.toNat 8) (List.take (Int.toNat (↑(List.length s433) : Int)) s433))).bind fun x442 =>
 zl ((0 : Int) <= (16 : Int) /\ (16 : Int) <= (↑(List.length s433) : Int)) (
 (zb0 (List.drop (Int.toNat 16) (List.take (Int.toNat (↑(List.length s433) : Int)) s433))).bind fun x443 =>
 zl ((0 : Int) <= (24 : Int) /\ (24 : Int) <= (↑(List.length s433) : Int)) (
 (zb0 (List.drop (Int.toNat 24) (List.take (Int.toNat (↑(List.length s433) : Int)) s433))).bind fun x444 =>
 cond (decide (bits BinOp.and IntKind.u64 (bits BinOp.or IntKind.u64 (bits BinOp.or IntKind.u64 x441 x442) (bits BinOp.or IntKind.u64 x443 x444)) 9259542123273814144 = 0))
 (zl ((0 : Int) <= (32 : Int) /\ (32 : Int) <= (↑(List.length s433) : Int)) (
 some (.inl (List.drop (Int.toNat 32) (List.take (Int.toNat (↑(List.length s433) : Int)) s433)))))
 (some (.inr (.inl s433)))))))
 (some (.inr (.inl s433)))) (List.drop (Int.toNat 16) (List.take (Int.toNat (↑(List.length (List.drop (Int.toNat 8) (List.take (Int.toNat (↑(List.length (List.drop (Int.toNat 1) (List.take (Int.toNat (↑(List.length s395) : Int)) s395))) : Int)) (List.drop (Int.toNat 1) (List.take (Int.toNat (↑(List.length s395) : Int)) s395))))) : Int)) (List.drop (Int.toNat 8) (List.take (Int.toNat (↑(List.length (List.drop (Int.toNat 1) (List.take (Int.toNat (↑(List.length s395) : Int)) s395))) : Int)) (List.drop (Int.toNat 1) (List.take (Int.toNat (↑(List.length s395) : Int)) s395)))))))
 (Sum.elim (fun (s431 : List UInt8) =>
 some (.inl s431)) some)))
 (some (.inl (List.drop (Int.toNat 8) (List.take (Int.toNat (↑(List.length (List.drop (Int.toNat 1) (List.take (Int.toNat (↑(List.length s395) : Int)) s395))) : Int)) (List.drop (Int.toNat 1) (List.take (Int.toNat (↑(List.length s395) : Int)) s395))))))))
 (some (.inl (List.drop (Int.toNat 8) (List.take (Int.toNat (↑(List.length (List.drop (Int.toNat 1) (List.take (Int.toNat (↑(List.length s395) : Int)) s395))) : Int)) (List.drop (Int.toNat 1) (List.take (Int.toNat (↑(List.length s395) : Int)) s395))))))))
 (some (.inl (List.drop (Int.toNat 1) (List.take (Int.toNat (↑(List.length s395) : Int)) s395)))))
 (some (.inl (List.drop (Int.toNat 1) (List.take (Int.toNat (↑(List.length s395) : Int)) s395))))))
 (none))
 (some (.inr (.inl ())))) a0)
 (Sum.elim (fun (_ : Unit) =>
 some (true)) some)
def zli (a0 : TK) : Option (Int) :=
 Option.bind (
 cond (decide (a0.Kind = 1))
 (some (.inl ((0, a0.S))))
 (cond (decide (a0.Kind = 3))
 (some (.inl ((0, a0.S))))
 (cond (decide (a0.Kind = 2))
 (some (.inl ((a0.N, []))))
 (some (.inl ((0, [])))))))
 (Sum.elim (fun (s272 : Int × List UInt8) =>
 cond (decide (a0.Kind < 1))
 (some (2))
 (cond (decide (9 < a0.Kind))
 (some (2))
 (cond (!(decide (a0.Kind = a0.Kind) && (decide (a0.From = a0.From) && (decide (a0.To = a0.To) && (decide (a0.N = s272.fst) && (decide (a0.S = s272.snd) && true))))))
 (some (2))
 (Option.bind (
 cond (decide (a0.Kind = 1))
 (cond (decide ((↑(List.length a0.S) : Int) <= 0))
 (some (.inr (6)))
 (zh (a0.S) (0) fun x285 =>
 zg (IntKind.wrap .i64 (↑(UInt8.toNat x285) : Int)) fun x286 =>
 (zcg x286).bind fun x287 =>
 cond (!decide (x287.fst = 8))
 (some (.inr (6)))
 (zh (a0.S) (0) fun x291 =>
 zg (IntKind.wrap .i64 (↑(UInt8.toNat x291) : Int)) fun x292 =>
 (zcg x292).bind fun x293 =>
 Option.bind (
 lpO (fun (s296 : Int × Int) =>
 cond (decide (s296.fst = 8))
 (zg (IntKind.wrap .i64 (s296.snd + 1)) fun x310 =>
 cond (decide ((↑(List.length a0.S) : Int) <= x310))
 (some (.inl ((10, x310))))
 (zh (a0.S) x310 fun x313 =>
 zg (IntKind.wrap .i64 (↑(UInt8.toNat x313) : Int)) fun x314 =>
 (zcg x314).bind fun x315 =>
 some (.inl ((x315.fst, x310)))))
 (cond (decide (s296.fst = 6))
 (zg (IntKind.wrap .i64 (s296.snd + 1)) fun x317 =>
 cond (decide ((↑(List.length a0.S) : Int) <= x317))
 (some (.inl ((10, x317))))
 (zh (a0.S) x317 fun x320 =>
 zg (IntKind.wrap .i64 (↑(UInt8.toNat x320) : Int)) fun x321 =>
 (zcg x321).bind fun x322 =>
 some (.inl ((x322.fst, x317)))))
 (some (.inr (.inl ((decide (s296.fst = 6), s296))))))) ((x293.fst, 0)))
 (Sum.elim (fun (s294 : Bool × Int × Int) =>
 zl ((0 : Int) <= (0 : Int) /\ 0 <= s294.snd.snd /\ s294.snd.snd <= (↑(List.length a0.S) : Int)) (
 cond (!decide (List.drop (Int.toNat 0) (List.take (Int.toNat s294.snd.snd) a0.S) = a0.S))
 (some (.inr (6)))
 (some (.inl (16))))) some))))
 (cond (decide (a0.Kind = 3))
 ((zxl (a0.S)).bind fun x325 =>
 cond (!x325)
 (some (.inr (6)))
 (some (.inl (2000))))
 (some (.inl (0)))))
 (Sum.elim (fun (s280 : Int) =>
 cond (decide (s280 < (↑(List.length a0.S) : Int)))
 (some (3))
 (some (0))) some))))) some)
def zfw (a0 : List UInt8) : Option (Bool) :=
 cond (decide (a0 = (ByteArray.mk #[118, 97, 114]).data.toList))
 (some (false))
 (cond (decide (a0 = (ByteArray.mk #[100, 101, 102]).data.toList))
 (some (false))
 (cond (decide (a0 = (ByteArray.mk #[111, 117, 116]).data.toList))
 (some (false))
 (cond (decide (a0 = (ByteArray.mk #[105, 102]).data.toList))
 (some (false))
 (cond (decide (a0 = (ByteArray.mk #[101, 108, 115, 101]).data.toList))
 (some (false))
 (cond (decide (a0 = (ByteArray.mk #[119, 104, 105, 108, 101]).data.toList))
 (some (false))
 (cond (decide (a0 = (ByteArray.mk #[101, 110, 100]).data.toList))
 (some (false))
 (cond (decide (a0 = (ByteArray.mk #[114, 101, 108, 101, 97, 115, 101]).data.toList))
 (some (false))
 (cond (decide (a0 = (ByteArray.mk #[105, 110, 116]).data.toList))
 (some (false))
 (cond (decide (a0 = (ByteArray.mk #[99, 104, 97, 114]).data.toList))
 (some (false))
 ((zh9 a0).bind fun x270 =>
 cond (decide (x270.snd = 0))
 (some (false))
 ((zli (TK.mk 1 0 0 0 a0)).bind fun x328 =>
 some (decide (x328 = 0)))))))))))))
def jg (a0 : TL) (a1 : Int) : Option (Bool) :=
 cond (decide (0 <= a1))
 (some (decide (a1 < (↑(List.length (List.map SV.str a0.Names)) : Int))))
 (some (false))
def zmo (a0 : TP) : Option (Int × Int) :=
 cond (decide (16 < (↑(List.length (List.map zJ a0.Channels)) : Int)))
 (some (((-1 : Int), 3)))
 (Option.bind (
 lpO (fun (s214 : Int × List (List UInt8)) =>
 cond (decide (s214.fst < (↑(List.length (List.map zJ a0.Channels)) : Int)))
 (zh (a0.Channels) (s214.fst) fun x223 =>
 (zfw (x223.s_)).bind fun x225 =>
 cond (!x225)
 (some (.inr (.inr ((s214.fst, 24)))))
 (cond (inL (x223.s_) (s214.snd))
 (some (.inr (.inr ((s214.fst, 8)))))
 (cond (inL (x223.s_) (s214.snd))
 ((jg (a0.Lattice) (x223.at_)).bind fun x233 =>
 cond (!x233)
 (some (.inr (.inr ((s214.fst, 7)))))
 (zg (IntKind.wrap .i64 (s214.fst + 1)) fun x235 =>
 some (.inl ((x235, s214.snd)))))
 ((jg (a0.Lattice) (x223.at_)).bind fun x236 =>
 cond (!x236)
 (some (.inr (.inr ((s214.fst, 7)))))
 (zg (IntKind.wrap .i64 (s214.fst + 1)) fun x238 =>
 some (.inl ((x238, s214.snd ++ [x223.s_]))))))))
 (some (.inr (.inl ())))) ((0, [])))
 (Sum.elim (fun (_ : Unit) =>
 some ((0, 0))) some))
def zmr (a0 : TL) (a1 : List Int) : Option (Int) :=
 (uW a0).bind fun x249 =>
 cond (!decide (x249.snd = 0))
 (some (x249.snd))
 (Option.bind (
 lpO (fun (s253 : Int) =>
 cond (decide (s253 < (↑(List.length (List.map (SV.int .i64) a1)) : Int)))
 (zh a1 s253 fun x259 =>
 cond (decide (x259 < 0))
 (some (.inr (.inr (7))))
 (cond (decide ((↑(List.length (List.map SV.str a0.Names)) : Int) <= x259))
 (some (.inr (.inr (7))))
 (zg (IntKind.wrap .i64 (s253 + 1)) fun x262 =>
 some (.inl x262))))
 (some (.inr (.inl ())))) (0))
 (Sum.elim (fun (_ : Unit) =>
 some (0)) some))
def zjf (a0 : Int) : Option (Int) :=
 zh ((ByteArray.mk (List.toArray (List.append (List.append [(0 : UInt8), 1, 1, 2, 1, 2, 2, 3, 1, 2, 2, 3, 2, 3, 3, 4, 1, 2, 2, 3, 2, 3, 3, 4, 2, 3, 3, 4, 3, 4, 4, 5, 1, 2, 2, 3, 2, 3, 3, 4, 2, 3, 3, 4, 3, 4, 4, 5, 2, 3, 3, 4, 3, 4, 4, 5, 3, 4, 4, 5, 4, 5, 5, 6] [(1 : UInt8), 2, 2, 3, 2, 3, 3, 4, 2, 3, 3, 4, 3, 4, 4, 5, 2, 3, 3, 4, 3, 4, 4, 5, 3, 4, 4, 5, 4, 5, 5, 6, 2, 3, 3, 4, 3, 4, 4, 5, 3, 4, 4, 5, 4, 5, 5, 6, 3, 4, 4, 5, 4, 5, 5, 6, 4, 5, 5, 6, 5, 6, 6, 7]) (List.append [(1 : UInt8), 2, 2, 3, 2, 3, 3, 4, 2, 3, 3, 4, 3, 4, 4, 5, 2, 3, 3, 4, 3, 4, 4, 5, 3, 4, 4, 5, 4, 5, 5, 6, 2, 3, 3, 4, 3, 4, 4, 5, 3, 4, 4, 5, 4, 5, 5, 6, 3, 4, 4, 5, 4, 5, 5, 6, 4, 5, 5, 6, 5, 6, 6, 7] [(2 : UInt8), 3, 3, 4, 3, 4, 4, 5, 3, 4, 4, 5, 4, 5, 5, 6, 3, 4, 4, 5, 4, 5, 5, 6, 4, 5, 5, 6, 5, 6, 6, 7, 3, 4, 4, 5, 4, 5, 5, 6, 4, 5, 5, 6, 5, 6, 6, 7, 4, 5, 5, 6, 5, 6, 6, 7, 5, 6, 6, 7, 6, 7, 7, 8])))).data.toList) a0 fun x271 =>
 zg (IntKind.wrap .i64 (↑(UInt8.toNat x271) : Int)) fun x272 =>
 some x272
def zon (a0 : List Int) (a1 : Int) : Option (Int) :=
 Option.bind (
 lpO (fun (s268 : Int) =>
 zg (IntKind.wrap .i64 (a1 - 1)) fun x274 =>
 cond (decide (s268 < x274))
 (zl (0 <= s268 /\ s268 < (↑(8 : Nat) : Int)) (
 zh a0 ((↑(Int.toNat s268) : Int)) fun x276 =>
 (zjf x276).bind fun x277 =>
 cond (decide (x277 < a1))
 (zg (IntKind.wrap .i64 (s268 + 1)) fun x279 =>
 some (.inl x279))
 (some (.inr (.inl s268)))))
 (some (.inr (.inl s268)))) (0))
 (Sum.elim (fun (s266 : Int) =>
 some s266) some)
def zld (a0 : TL) : Option (Int × Int) :=
 (zmr a0 ([])).bind fun x263 =>
 cond (!decide (x263 = 0))
 (some ((0, x263)))
 ((zdf a0).bind fun x265 =>
 (zon (x265.up_) (x265.n_)).bind fun x280 =>
 some ((x280, 0)))
def zib (a0 : TL) (a1 : List Int) : Option (Int × Int) :=
 (uW a0).bind fun x303 =>
 cond (!decide (x303.snd = 0))
 (some (((-1 : Int), x303.snd)))
 (cond (decide (64 < (↑(List.length (List.map (SV.int .i64) a1)) : Int)))
 (some (((-1 : Int), 3)))
 (Option.bind (
 lpO (fun (s308 : Int) =>
 cond (decide (s308 < (↑(List.length (List.map (SV.int .i64) a1)) : Int)))
 (zh a1 s308 fun x314 =>
 cond (decide (x314 < 0))
 (some (.inr (.inr ((s308, 7)))))
 (cond (decide ((↑(List.length (List.map SV.str a0.Names)) : Int) <= x314))
 (some (.inr (.inr ((s308, 7)))))
 (zg (IntKind.wrap .i64 (s308 + 1)) fun x317 =>
 some (.inl x317))))
 (some (.inr (.inl ())))) (0))
 (Sum.elim (fun (_ : Unit) =>
 some ((0, 0))) some)))
def zcu (a0 : TL) (a1 : Int) (a2 : Int) : Option (Bool) :=
 zh (a0.Up) a1 fun x326 =>
 zl (0 <= a2) (
 some (decide (bits BinOp.and IntKind.u8 (Int.fdiv x326 (2 ^ min (Int.toNat a2) (IntKind.bits IntKind.u8))) 1 = 1)))
def zsb (a0 : Int) (a1 : TL) (a2 : Int) : Option (Bool) :=
 (zcu a1 a0 a2).bind fun x327 =>
 some (!x327)
def zoa (a0 : List Int) (a1 : TL × Int) : Option (Int) :=
 Option.bind (
 lpO (fun (s324 : Int) =>
 cond (decide (s324 < (↑(List.length (List.map (SV.int .i64) a0)) : Int)))
 (zh a0 s324 fun x330 =>
 (zsb x330 (a1.fst) (a1.snd)).bind fun x331 =>
 cond x331
 (some (.inr (.inr s324)))
 (zg (IntKind.wrap .i64 (s324 + 1)) fun x333 =>
 some (.inl x333)))
 (some (.inr (.inl ())))) (0))
 (Sum.elim (fun (_ : Unit) =>
 some ((-1 : Int))) some)
def zgq (a0 : TL) (a1 : List Int) (a2 : Int) : Option (Int × Int) :=
 (zib a0 a1).bind fun x318 =>
 cond (!decide (x318.snd = 0))
 (some x318)
 (cond (decide (a2 < 0))
 (some (((-1 : Int), 7)))
 (cond (decide ((↑(List.length (List.map SV.str a0.Names)) : Int) <= a2))
 (some (((-1 : Int), 7)))
 ((zoa a1 ((a0, a2))).bind fun x334 =>
 cond (decide (0 <= x334))
 (some ((x334, 25)))
 (some ((0, 0))))))
def zf3 (a0 : TL) (a1 : TY) : Option (Int) :=
 (zld a0).bind fun x281 =>
 cond (!decide (x281.snd = 0))
 (some (x281.snd))
 (cond (!decide (a1.Kind = 1))
 (cond (!decide (a1.Kind = 2))
 (some (7))
 (cond (decide (a1.Rank < 0))
 (some (7))
 (cond (decide (2 < a1.Rank))
 (some (7))
 ((jg a0 (a1.Axes.fst)).bind fun x287 =>
 cond (!x287)
 (some (7))
 ((jg a0 (a1.Axes.snd)).bind fun x289 =>
 cond (!x289)
 (some (7))
 ((jg a0 (a1.Data)).bind fun x291 =>
 cond (!x291)
 (some (7))
 (zl (0 <= a1.Rank /\ a1.Rank <= (↑(2 : Nat) : Int)) (
 Option.bind (
 lpO (fun (s295 : Int) =>
 cond (decide (s295 < (↑(List.length (List.drop (Int.toNat a1.Rank) (List.take (Int.toNat (↑(2 : Nat) : Int)) [SV.int .i64 a1.Axes.fst, SV.int .i64 a1.Axes.snd]))) : Int)))
 (zh (List.drop (Int.toNat a1.Rank) (List.take (Int.toNat (↑(2 : Nat) : Int)) [a1.Axes.fst, a1.Axes.snd])) s295 fun x300 =>
 cond (!decide (x300 = x281.fst))
 (some (.inr (.inr (6))))
 (zg (IntKind.wrap .i64 (s295 + 1)) fun x302 =>
 some (.inl x302)))
 (some (.inr (.inl ())))) (0))
 (Sum.elim (fun (_ : Unit) =>
 zl (0 <= a1.Rank /\ a1.Rank <= (↑(2 : Nat) : Int)) (
 (zgq a0 (List.drop (Int.toNat 0) (List.take (Int.toNat a1.Rank) [a1.Axes.fst, a1.Axes.snd])) (a1.Data)).bind fun x336 =>
 cond (!decide (x336.snd = 0))
 (some (x336.snd))
 (some (0)))) some)))))))))
 (cond (decide (a1.Rank < 0))
 (some (7))
 (cond (decide (2 < a1.Rank))
 (some (7))
 ((jg a0 (a1.Axes.fst)).bind fun x340 =>
 cond (!x340)
 (some (7))
 ((jg a0 (a1.Axes.snd)).bind fun x342 =>
 cond (!x342)
 (some (7))
 ((jg a0 (a1.Data)).bind fun x344 =>
 cond (!x344)
 (some (7))
 (zl (0 <= a1.Rank /\ a1.Rank <= (↑(2 : Nat) : Int)) (
 Option.bind (
 lpO (fun (s348 : Int) =>
 cond (decide (s348 < (↑(List.length (List.drop (Int.toNat a1.Rank) (List.take (Int.toNat (↑(2 : Nat) : Int)) [SV.int .i64 a1.Axes.fst, SV.int .i64 a1.Axes.snd]))) : Int)))
 (zh (List.drop (Int.toNat a1.Rank) (List.take (Int.toNat (↑(2 : Nat) : Int)) [a1.Axes.fst, a1.Axes.snd])) s348 fun x353 =>
 cond (!decide (x353 = x281.fst))
 (some (.inr (.inr (6))))
 (zg (IntKind.wrap .i64 (s348 + 1)) fun x355 =>
 some (.inl x355)))
 (some (.inr (.inl ())))) (0))
 (Sum.elim (fun (_ : Unit) =>
 zl (0 <= a1.Rank /\ a1.Rank <= (↑(2 : Nat) : Int)) (
 (zgq a0 (List.drop (Int.toNat 0) (List.take (Int.toNat a1.Rank) [a1.Axes.fst, a1.Axes.snd])) (a1.Data)).bind fun x356 =>
 cond (!decide (x356.snd = 0))
 (some (x356.snd))
 (some (0)))) some)))))))))
def zmg (a0 : TP) : Option (Int × Int) :=
 cond (decide (32 < (↑(List.length (List.map qJ a0.Vars)) : Int)))
 (some (((-1 : Int), 3)))
 (Option.bind (
 lpO (fun (s244 : Int × List (List UInt8)) =>
 cond (decide (s244.fst < (↑(List.length (List.map qJ a0.Vars)) : Int)))
 (zh (a0.Vars) (s244.fst) fun x253 =>
 (zfw (x253.Name)).bind fun x255 =>
 cond (!x255)
 (some (.inr (.inr ((s244.fst, 24)))))
 (cond (inL (x253.Name) (s244.snd))
 (some (.inr (.inr ((s244.fst, 8)))))
 (cond (inL (x253.Name) (s244.snd))
 ((zf3 (a0.Lattice) (x253.Type_)).bind fun x263 =>
 cond (!decide (x263 = 0))
 (some (.inr (.inr ((s244.fst, x263)))))
 (zg (IntKind.wrap .i64 (s244.fst + 1)) fun x265 =>
 some (.inl ((x265, s244.snd)))))
 ((zf3 (a0.Lattice) (x253.Type_)).bind fun x266 =>
 cond (!decide (x266 = 0))
 (some (.inr (.inr ((s244.fst, x266)))))
 (zg (IntKind.wrap .i64 (s244.fst + 1)) fun x268 =>
 some (.inl ((x268, s244.snd ++ [x253.Name]))))))))
 (some (.inr (.inl ())))) ((0, [])))
 (Sum.elim (fun (_ : Unit) =>
 some ((0, 0))) some))
def zom (a0 : TP) : Option (Int × Int) :=
 cond (decide (64 < (↑(List.length (List.map qa a0.Rules)) : Int)))
 (some (((-1 : Int), 3)))
 (Option.bind (
 lpO (fun (s274 : Int × List (Int × Int)) =>
 cond (decide (s274.fst < (↑(List.length (List.map qa a0.Rules)) : Int)))
 (zh (a0.Rules) (s274.fst) fun x287 =>
 (jg (a0.Lattice) (x287.From)).bind fun x288 =>
 cond (!x288)
 (some (.inr (.inr ((s274.fst, 7)))))
 ((jg (a0.Lattice) (x287.Goal)).bind fun x290 =>
 cond (!x290)
 (some (.inr (.inr ((s274.fst, 7)))))
 (cond (decide (x287.From = x287.Goal))
 (some (.inr (.inr ((s274.fst, 25)))))
 (zh (a0.Lattice.Up) (x287.Goal) fun x293 =>
 zl (0 <= x287.From) (
 cond (decide (bits BinOp.and IntKind.u8 (Int.fdiv x293 (2 ^ min (Int.toNat x287.From) (IntKind.bits IntKind.u8))) 1 = 0))
 (some (.inr (.inr ((s274.fst, 25)))))
 (cond (inL ((x287.From, x287.Goal)) (s274.snd))
 (some (.inr (.inr ((s274.fst, 8)))))
 (cond (decide (x287.K < 2))
 (some (.inr (.inr ((s274.fst, 3)))))
 (cond (decide (400 < x287.K))
 (some (.inr (.inr ((s274.fst, 3)))))
 (cond (inL ((x287.From, x287.Goal)) (s274.snd))
 (zg (IntKind.wrap .i64 (s274.fst + 1)) fun x303 =>
 some (.inl ((x303, s274.snd))))
 (zg (IntKind.wrap .i64 (s274.fst + 1)) fun x304 =>
 some (.inl ((x304, s274.snd ++ [(x287.From, x287.Goal)])))))))))))))
 (some (.inr (.inl ())))) ((0, [])))
 (Sum.elim (fun (_ : Unit) =>
 some ((0, 0))) some))
def zds (a0 : TP) : Option (Int × Int × Int) :=
 Option.bind (
 (zs0 a0).bind fun x46 =>
 cond (!decide (x46.snd = 0))
 (some (.inl ((1, x46.snd, x46.fst))))
 ((zmo a0).bind fun x48 =>
 cond (!decide (x48.snd = 0))
 (some (.inl ((2, x48.snd, x48.fst))))
 ((zmg a0).bind fun x50 =>
 cond (!decide (x50.snd = 0))
 (some (.inl ((3, x50.snd, x50.fst))))
 ((zom a0).bind fun x52 =>
 cond (!decide (x52.snd = 0))
 (some (.inl ((4, x52.snd, x52.fst))))
 (some (.inl ((0, x52.snd, x52.fst))))))))
 (Sum.elim (fun (s43 : Int × Int × Int) =>
 some ((s43.fst, s43.snd.snd, s43.snd.fst))) some)
def zly (a0 : TP) (a1 : List UInt8) : Option (Int × Int) :=
 (zds a0).bind fun x54 =>
 cond (!decide (x54.snd.snd = 0))
 (some ((0, x54.snd.snd)))
 (Option.bind (
 lpO (fun (s58 : Int) =>
 cond (decide (s58 < (↑(List.length (List.map zJ a0.Channels)) : Int)))
 (zh (a0.Channels) s58 fun x63 =>
 cond (decide (x63.s_ = a1))
 (some (.inr (.inr ((x63.at_, 0)))))
 (zg (IntKind.wrap .i64 (s58 + 1)) fun x65 =>
 some (.inl x65)))
 (some (.inr (.inl ())))) (0))
 (Sum.elim (fun (_ : Unit) =>
 some ((0, 4))) some))
def zim (a0 : Int) : Option (Bool) :=
 cond (decide (97 <= a0))
 (some (decide (a0 <= 122)))
 (some (false))
def zn4 (a0 : Int) : Option (Bool) :=
 cond (decide (48 <= a0))
 (some (decide (a0 <= 57)))
 (some (false))
def zmq (a0 : List UInt8) : Option (Bool) :=
 cond (decide ((↑(List.length a0) : Int) < 1))
 (some (false))
 (cond (decide (16 < (↑(List.length a0) : Int)))
 (some (false))
 (zh a0 (0) fun x75 =>
 (zim ((↑(UInt8.toNat x75) : Int))).bind fun x77 =>
 cond (!x77)
 (some (false))
 (Option.bind (
 lpO (fun (s81 : Int) =>
 cond (decide (s81 < (↑(List.length a0) : Int)))
 (zh a0 s81 fun x92 =>
 (zim ((↑(UInt8.toNat x92) : Int))).bind fun x93 =>
 cond (!x93)
 (zh a0 s81 fun x95 =>
 (zn4 ((↑(UInt8.toNat x95) : Int))).bind fun x96 =>
 cond (!x96)
 (zh a0 s81 fun x98 =>
 cond (!decide ((↑(UInt8.toNat x98) : Int) = 45))
 (some (.inr (.inr (false))))
 (zg (IntKind.wrap .i64 (s81 + 1)) fun x100 =>
 some (.inl x100)))
 (zg (IntKind.wrap .i64 (s81 + 1)) fun x101 =>
 some (.inl x101)))
 (zg (IntKind.wrap .i64 (s81 + 1)) fun x102 =>
 some (.inl x102)))
 (some (.inr (.inl ())))) (0))
 (Sum.elim (fun (_ : Unit) =>
 some (true)) some))))
def zoq (a0 : List (List UInt8)) : Option (Int × Int) :=
 cond (decide ((↑(List.length (List.map SV.str a0)) : Int) < 1))
 (some (((-1 : Int), 3)))
 (cond (decide (8 < (↑(List.length (List.map SV.str a0)) : Int)))
 (some (((-1 : Int), 3)))
 (Option.bind (
 lpO (fun (s71 : Int) =>
 cond (decide (s71 < (↑(List.length (List.map SV.str a0)) : Int)))
 (zh a0 s71 fun x80 =>
 (zmq x80).bind fun x81 =>
 cond (!x81)
 (some (.inr (.inr ((s71, 6)))))
 (Option.bind (
 lpO (fun (s85 : Int) =>
 cond (decide (s85 < s71))
 (zh a0 s85 fun x91 =>
 zh a0 s71 fun x92 =>
 cond (decide (x91 = x92))
 (some (.inr (.inr (.inr (.inr ((s71, 8)))))))
 (zg (IntKind.wrap .i64 (s85 + 1)) fun x94 =>
 some (.inl x94)))
 (some (.inr (.inl ())))) (0))
 (Sum.elim (fun (_ : Unit) =>
 zg (IntKind.wrap .i64 (s71 + 1)) fun x95 =>
 some (.inl x95)) some)))
 (some (.inr (.inl ())))) (0))
 (Sum.elim (fun (_ : Unit) =>
 some ((0, 0))) some)))
def xj (a0 : TL) (a1 : Int) (a2 : Int) : Option (Bool) :=
 cond (decide (0 <= a1))
 (cond (decide (a1 < (↑(List.length (List.map (SV.int .u8) a0.Up)) : Int)))
 (cond (decide (0 <= a2))
 (zh (a0.Up) a1 fun x108 =>
 zl (0 <= a2) (
 some (decide (Int.tmod (Int.fdiv x108 (2 ^ min (Int.toNat a2) (IntKind.bits IntKind.u8))) 2 = 1))))
 (some (false)))
 (some (false)))
 (some (false))
def zl1 (a0 : TL) (a1 : Int) : Option (Bool) :=
 zh (a0.Up) a1 fun x102 =>
 zg (IntKind.wrap .i64 x102) fun x103 =>
 zl ((0 : Int) <= (↑(List.length (List.map SV.str a0.Names)) : Int)) (
 cond (decide (0 < Int.fdiv x103 (2 ^ min (Int.toNat (↑(List.length (List.map SV.str a0.Names)) : Int)) (IntKind.bits IntKind.i64))))
 (some (false))
 ((xj a0 a1 a1).bind fun x109 =>
 cond (!x109)
 (some (false))
 (Option.bind (
 lpO (fun (s113 : Int) =>
 cond (decide (s113 < (↑(List.length (List.map SV.str a0.Names)) : Int)))
 ((xj a0 a1 s113).bind fun x127 =>
 cond (!x127)
 (zg (IntKind.wrap .i64 (s113 + 1)) fun x129 =>
 some (.inl x129))
 (zh (a0.Up) s113 fun x130 =>
 zg (IntKind.wrap .i64 x130) fun x131 =>
 zl ((0 : Int) <= (↑(List.length (List.map SV.str a0.Names)) : Int)) (
 zg (IntKind.wrap .i64 (1 * 2 ^ min (Int.toNat (↑(List.length (List.map SV.str a0.Names)) : Int)) (IntKind.bits IntKind.i64))) fun x132 =>
 zg (IntKind.wrap .i64 (x132 - 1)) fun x133 =>
 cond (!decide (s113 = a1))
 ((xj a0 s113 a1).bind fun x135 =>
 cond x135
 (some (.inr (.inr (false))))
 (cond (!decide (bits BinOp.and IntKind.i64 (bits BinOp.and IntKind.i64 x131 x133) x103 = bits BinOp.and IntKind.i64 x131 x133))
 (some (.inr (.inr (false))))
 (zg (IntKind.wrap .i64 (s113 + 1)) fun x138 =>
 some (.inl x138))))
 (cond (!decide (bits BinOp.and IntKind.i64 (bits BinOp.and IntKind.i64 x131 x133) x103 = bits BinOp.and IntKind.i64 x131 x133))
 (some (.inr (.inr (false))))
 (zg (IntKind.wrap .i64 (s113 + 1)) fun x140 =>
 some (.inl x140))))))
 (some (.inr (.inl ())))) (0))
 (Sum.elim (fun (_ : Unit) =>
 some (true)) some))))
def zie (a0 : TL) : Option (List Int) :=
 zl ((0 : Int) <= (↑(List.length (List.map SV.str a0.Names)) : Int) /\ (↑(List.length (List.map SV.str a0.Names)) : Int) = (↑(List.length (List.map SV.str a0.Names)) : Int) /\ (↑(List.length (List.map SV.str a0.Names)) : Int) <= (70368744177664 : Int) /\ (↑(List.length (List.map SV.str a0.Names)) : Int) * (↑(1 : Nat) : Int) <= (70368744177664 : Int)) (
 Option.bind (
 lpO (fun (s111 : Int × List Int) =>
 cond (decide (s111.fst < (↑(List.length (List.map SV.str a0.Names)) : Int)))
 (Option.bind (
 lpO (fun (s130 : Int × List Int) =>
 cond (decide (s130.fst < (↑(List.length (List.map SV.str a0.Names)) : Int)))
 ((xj a0 (s111.fst) (s130.fst)).bind fun x138 =>
 cond x138
 (zl (0 <= s130.fst /\ s130.fst < (↑(List.length (List.map (SV.int .u8) s130.snd)) : Int)) (
 zh (s130.snd) ((↑(Int.toNat s130.fst) : Int)) fun x140 =>
 zl (0 <= s111.fst) (
 zg (IntKind.wrap .u8 (1 * 2 ^ min (Int.toNat s111.fst) (IntKind.bits IntKind.u8))) fun x141 =>
 zl (0 <= s130.fst /\ s130.fst < (↑(List.length (List.map (SV.int .u8) s130.snd)) : Int)) (
 zh (s130.snd) ((↑(Int.toNat s130.fst) : Int)) fun _ =>
 zg (IntKind.wrap .i64 (s130.fst + 1)) fun x143 =>
 some (.inl ((x143, List.set s130.snd (Int.toNat s130.fst) (bits BinOp.or IntKind.u8 x140 x141))))))))
 (zg (IntKind.wrap .i64 (s130.fst + 1)) fun x144 =>
 some (.inl ((x144, s130.snd)))))
 (some (.inr (.inl (s130.snd))))) ((0, s111.snd)))
 (Sum.elim (fun (s128 : List Int) =>
 zg (IntKind.wrap .i64 (s111.fst + 1)) fun x145 =>
 some (.inl ((x145, s128)))) some))
 (some (.inr (.inl (s111.snd))))) ((0, List.replicate (Int.toNat (↑(List.length (List.map SV.str a0.Names)) : Int)) 0)))
 (Sum.elim (fun (s109 : List Int) =>
 some s109) some))
def zga (a0 : List Int) (a1 : Int) (a2 : Int) : Option (Int) :=
 zh a0 a1 fun x152 =>
 zh a0 a2 fun x153 =>
 Option.bind (
 lpO (fun (s156 : Int) =>
 cond (decide (s156 < (↑(List.length (List.map (SV.int .u8) a0)) : Int)))
 (zh a0 s156 fun x161 =>
 cond (decide (x161 = bits BinOp.and IntKind.u8 x152 x153))
 (some (.inr (.inr s156)))
 (zg (IntKind.wrap .i64 (s156 + 1)) fun x163 =>
 some (.inl x163)))
 (some (.inr (.inl ())))) (0))
 (Sum.elim (fun (_ : Unit) =>
 some ((-1 : Int))) some)
def zdu (a0 : TL) : Option (Int × Int) :=
 (zoq (a0.Names)).bind fun x96 =>
 cond (!decide (x96.snd = 0))
 (some x96)
 (cond (!decide ((↑(List.length (List.map (SV.int .u8) a0.Up)) : Int) = (↑(List.length (List.map SV.str a0.Names)) : Int)))
 (some (((-1 : Int), 6)))
 (Option.bind (
 lpO (fun (s101 : Int) =>
 cond (decide (s101 < (↑(List.length (List.map SV.str a0.Names)) : Int)))
 ((zl1 a0 s101).bind fun x106 =>
 cond (!x106)
 (some (.inr (.inr ((s101, 6)))))
 (zg (IntKind.wrap .i64 (s101 + 1)) fun x108 =>
 some (.inl x108)))
 (some (.inr (.inl ())))) (0))
 (Sum.elim (fun (_ : Unit) =>
 (zie a0).bind fun x146 =>
 Option.bind (
 lpO (fun (s149 : Int) =>
 cond (decide (s149 < (↑(List.length (List.map SV.str a0.Names)) : Int)))
 (Option.bind (
 lpO (fun (s167 : Int) =>
 cond (decide (s167 < (↑(List.length (List.map SV.str a0.Names)) : Int)))
 ((zga (a0.Up) s149 s167).bind fun x174 =>
 cond (decide (x174 < 0))
 (some (.inr (.inr (.inr (.inr ((s149, 4)))))))
 ((zga x146 s149 s167).bind fun x176 =>
 cond (decide (x176 < 0))
 (some (.inr (.inr (.inr (.inr ((s149, 4)))))))
 (zg (IntKind.wrap .i64 (s167 + 1)) fun x178 =>
 some (.inl x178))))
 (some (.inr (.inl ())))) (0))
 (Sum.elim (fun (_ : Unit) =>
 zg (IntKind.wrap .i64 (s149 + 1)) fun x179 =>
 some (.inl x179)) some))
 (some (.inr (.inl ())))) (0))
 (Sum.elim (fun (_ : Unit) =>
 some ((0, 0))) some)) some)))
def zr1 : Option (List (List UInt8)) :=
 some ([(ByteArray.mk #[110, 101, 103]).data.toList, (ByteArray.mk #[97, 98, 115]).data.toList, (ByteArray.mk #[110, 111, 116]).data.toList, (ByteArray.mk #[115, 104, 97, 112, 101]).data.toList, (ByteArray.mk #[114, 97, 118, 101, 108]).data.toList, (ByteArray.mk #[114, 101, 118, 101, 114, 115, 101]).data.toList, (ByteArray.mk #[102, 108, 105, 112]).data.toList, (ByteArray.mk #[105, 111, 116, 97]).data.toList, (ByteArray.mk #[115, 117, 109]).data.toList, (ByteArray.mk #[108, 101, 97, 115, 116]).data.toList, (ByteArray.mk #[109, 111, 115, 116]).data.toList, (ByteArray.mk #[99, 111, 117, 110, 116]).data.toList, (ByteArray.mk #[115, 99, 97, 110]).data.toList, (ByteArray.mk #[103, 114, 97, 100, 101]).data.toList, (ByteArray.mk #[97, 100, 100]).data.toList, (ByteArray.mk #[115, 117, 98]).data.toList, (ByteArray.mk #[109, 117, 108]).data.toList, (ByteArray.mk #[100, 105, 118]).data.toList, (ByteArray.mk #[109, 111, 100]).data.toList, (ByteArray.mk #[112, 108, 117, 115]).data.toList, (ByteArray.mk #[109, 105, 110, 117, 115]).data.toList, (ByteArray.mk #[116, 105, 109, 101, 115]).data.toList, (ByteArray.mk #[101, 113]).data.toList, (ByteArray.mk #[110, 101]).data.toList, (ByteArray.mk #[108, 116]).data.toList, (ByteArray.mk #[108, 101]).data.toList, (ByteArray.mk #[103, 116]).data.toList, (ByteArray.mk #[103, 101]).data.toList, (ByteArray.mk #[97, 110, 100]).data.toList, (ByteArray.mk #[111, 114]).data.toList, (ByteArray.mk #[109, 105, 110]).data.toList, (ByteArray.mk #[109, 97, 120]).data.toList, (ByteArray.mk #[116, 97, 107, 101]).data.toList, (ByteArray.mk #[100, 114, 111, 112]).data.toList, (ByteArray.mk #[102, 105, 108, 108]).data.toList, (ByteArray.mk #[103, 114, 105, 100]).data.toList, (ByteArray.mk #[99, 97, 116]).data.toList, (ByteArray.mk #[97, 116]).data.toList, (ByteArray.mk #[105, 110]).data.toList, (ByteArray.mk #[112, 105, 99, 107]).data.toList])
def zm2 (a0 : List UInt8) : Option (Int × Int) :=
 (zr1).bind fun x187 =>
 Option.bind (
 lpO (fun (s190 : Int) =>
 cond (decide (s190 < (↑(List.length (List.map SV.str x187)) : Int)))
 (zh x187 s190 fun x195 =>
 cond (decide (x195 = a0))
 (zg (IntKind.wrap .i64 (s190 + 1)) fun x197 =>
 some (.inr (.inr ((x197, 0)))))
 (zg (IntKind.wrap .i64 (s190 + 1)) fun x198 =>
 some (.inl x198)))
 (some (.inr (.inl ())))) (0))
 (Sum.elim (fun (_ : Unit) =>
 some ((0, 4))) some)
def zif (a0 : Int) : Option (Bool) :=
 cond (decide (97 <= a0))
 (some (decide (a0 <= 122)))
 (some (false))
def znm (a0 : Int) : Option (Bool) :=
 cond (decide (48 <= a0))
 (some (decide (a0 <= 57)))
 (some (false))
def za9 (a0 : List UInt8) : Option (Bool) :=
 cond (decide (a0 = (ByteArray.mk #[]).data.toList))
 (some (false))
 (zh a0 (0) fun x209 =>
 (zif ((↑(UInt8.toNat x209) : Int))).bind fun x211 =>
 cond (!x211)
 (some (false))
 (Option.bind (
 lpO (fun (s215 : Int) =>
 cond (decide (s215 < (↑(List.length a0) : Int)))
 (zh a0 s215 fun x224 =>
 (zif ((↑(UInt8.toNat x224) : Int))).bind fun x225 =>
 cond (!x225)
 (zh a0 s215 fun x227 =>
 (znm ((↑(UInt8.toNat x227) : Int))).bind fun x228 =>
 cond (!x228)
 (some (.inr (.inr (false))))
 (zg (IntKind.wrap .i64 (s215 + 1)) fun x230 =>
 some (.inl x230)))
 (zg (IntKind.wrap .i64 (s215 + 1)) fun x231 =>
 some (.inl x231)))
 (some (.inr (.inl ())))) (0))
 (Sum.elim (fun (_ : Unit) =>
 some (true)) some)))
def zdy (a0 : List UInt8) : Option (List Int × Bool) :=
 Option.bind (
 lpO (fun (_ : Unit) =>
 cond (decide (0 < (↑(List.length a0) : Int)))
 (none)
 (some (.inr (.inl ())))) (()))
 (Sum.elim (fun (_ : Unit) =>
 some (([], true))) some)
def znp (a0 : TK) : Option (Int) :=
 cond (decide (a0.Kind < 1))
 (some (2))
 (cond (decide (9 < a0.Kind))
 (some (2))
 (cond (!decide (a0.Kind = 2))
 (cond (!decide (a0.N = 0))
 (some (2))
 (cond (!decide (a0.Kind = 1))
 (cond (!decide (a0.Kind = 3))
 (cond (!decide (a0.S = (ByteArray.mk #[]).data.toList))
 (some (2))
 (cond (decide (a0.Kind = 1))
 ((za9 (a0.S)).bind fun x232 =>
 cond (!x232)
 (some (6))
 (cond (decide (16 < (↑(List.length a0.S) : Int)))
 (some (3))
 (some (0))))
 (cond (decide (a0.Kind = 3))
 ((zdy (a0.S)).bind fun x240 =>
 cond (!x240.snd)
 (some (6))
 (cond (decide (2000 < (↑(List.length a0.S) : Int)))
 (some (3))
 (some (0))))
 (some (0)))))
 (cond (decide (a0.Kind = 1))
 ((za9 (a0.S)).bind fun x244 =>
 cond (!x244)
 (some (6))
 (cond (decide (16 < (↑(List.length a0.S) : Int)))
 (some (3))
 (some (0))))
 (cond (decide (a0.Kind = 3))
 ((zdy (a0.S)).bind fun x248 =>
 cond (!x248.snd)
 (some (6))
 (cond (decide (2000 < (↑(List.length a0.S) : Int)))
 (some (3))
 (some (0))))
 (some (0)))))
 (cond (decide (a0.Kind = 1))
 ((za9 (a0.S)).bind fun x252 =>
 cond (!x252)
 (some (6))
 (cond (decide (16 < (↑(List.length a0.S) : Int)))
 (some (3))
 (some (0))))
 (cond (decide (a0.Kind = 3))
 ((zdy (a0.S)).bind fun x256 =>
 cond (!x256.snd)
 (some (6))
 (cond (decide (2000 < (↑(List.length a0.S) : Int)))
 (some (3))
 (some (0))))
 (some (0))))))
 (cond (!decide (a0.Kind = 1))
 (cond (!decide (a0.Kind = 3))
 (cond (!decide (a0.S = (ByteArray.mk #[]).data.toList))
 (some (2))
 (cond (decide (a0.Kind = 1))
 ((za9 (a0.S)).bind fun x263 =>
 cond (!x263)
 (some (6))
 (cond (decide (16 < (↑(List.length a0.S) : Int)))
 (some (3))
 (some (0))))
 (cond (decide (a0.Kind = 3))
 ((zdy (a0.S)).bind fun x267 =>
 cond (!x267.snd)
 (some (6))
 (cond (decide (2000 < (↑(List.length a0.S) : Int)))
 (some (3))
 (some (0))))
 (some (0)))))
 (cond (decide (a0.Kind = 1))
 ((za9 (a0.S)).bind fun x271 =>
 cond (!x271)
 (some (6))
 (cond (decide (16 < (↑(List.length a0.S) : Int)))
 (some (3))
 (some (0))))
 (cond (decide (a0.Kind = 3))
 ((zdy (a0.S)).bind fun x275 =>
 cond (!x275.snd)
 (some (6))
 (cond (decide (2000 < (↑(List.length a0.S) : Int)))
 (some (3))
 (some (0))))
 (some (0)))))
 (cond (decide (a0.Kind = 1))
 ((za9 (a0.S)).bind fun x279 =>
 cond (!x279)
 (some (6))
 (cond (decide (16 < (↑(List.length a0.S) : Int)))
 (some (3))
 (some (0))))
 (cond (decide (a0.Kind = 3))
 ((zdy (a0.S)).bind fun x283 =>
 cond (!x283.snd)
 (some (6))
 (cond (decide (2000 < (↑(List.length a0.S) : Int)))
 (some (3))
 (some (0))))
 (some (0)))))))
def zlh (a0 : List UInt8) : Option (Bool) :=
 Option.bind (
 lpO (fun (s291 : Int) =>
 cond (decide (s291 < (↑(10 : Nat) : Int)))
 (zl (0 <= s291 /\ s291 < (↑(10 : Nat) : Int)) (
 zh ([(ByteArray.mk #[118, 97, 114]).data.toList, (ByteArray.mk #[100, 101, 102]).data.toList, (ByteArray.mk #[111, 117, 116]).data.toList, (ByteArray.mk #[105, 102]).data.toList, (ByteArray.mk #[101, 108, 115, 101]).data.toList, (ByteArray.mk #[119, 104, 105, 108, 101]).data.toList, (ByteArray.mk #[101, 110, 100]).data.toList, (ByteArray.mk #[114, 101, 108, 101, 97, 115, 101]).data.toList, (ByteArray.mk #[105, 110, 116]).data.toList, (ByteArray.mk #[99, 104, 97, 114]).data.toList]) ((↑(Int.toNat s291) : Int)) fun x294 =>
 cond (decide (x294 = a0))
 (some (.inr (.inr (true))))
 (zg (IntKind.wrap .i64 (s291 + 1)) fun x296 =>
 some (.inl x296))))
 (some (.inr (.inl ())))) (0))
 (Sum.elim (fun (_ : Unit) =>
 some (false)) some)
def znk (a0 : List UInt8) : Option (Bool) :=
 (zm2 a0).bind fun x199 =>
 (znp (TK.mk 1 0 0 0 a0)).bind fun x286 =>
 cond (decide (x286 = 0))
 (cond (!decide (x199.snd = 0))
 ((zlh a0).bind fun x297 =>
 some (!x297))
 (some (false)))
 (some (false))
def zis (a0 : List UInt8) (a1 : List (List UInt8)) : Option (Int) :=
 (znk a0).bind fun x298 =>
 cond (!x298)
 (some (24))
 (Option.bind (
 lpO (fun (s302 : Int) =>
 cond (decide (s302 < (↑(List.length (List.map SV.str a1)) : Int)))
 (zh a1 s302 fun x307 =>
 cond (decide (x307 = a0))
 (some (.inr (.inr (8))))
 (zg (IntKind.wrap .i64 (s302 + 1)) fun x309 =>
 some (.inl x309)))
 (some (.inr (.inl ())))) (0))
 (Sum.elim (fun (_ : Unit) =>
 some (0)) some))
def ju (a0 : TL) (a1 : Int) : Option (Bool) :=
 cond (decide (0 <= a1))
 (some (decide (a1 < (↑(List.length (List.map SV.str a0.Names)) : Int))))
 (some (false))
def zmt (a0 : TP) : Option (Int × Int) :=
 cond (decide (16 < (↑(List.length (List.map zJ a0.Channels)) : Int)))
 (some (((-1 : Int), 3)))
 (Option.bind (
 lpO (fun (s185 : Int × List (List UInt8)) =>
 cond (decide (s185.fst < (↑(List.length (List.map zJ a0.Channels)) : Int)))
 (zh (a0.Channels) (s185.fst) fun x198 =>
 (zis (x198.s_) (s185.snd)).bind fun x199 =>
 cond (decide (x199 = 0))
 (zh (a0.Channels) (s185.fst) fun x201 =>
 (ju (a0.Lattice) (x201.at_)).bind fun x202 =>
 cond (!x202)
 (some (.inr (.inr ((s185.fst, 7)))))
 (cond (!decide (x199 = 0))
 (some (.inr (.inr ((s185.fst, x199)))))
 (zh (a0.Channels) (s185.fst) fun x205 =>
 zl ((List.length (List.map SV.str s185.snd) + (1 : Nat)) * (16 : Nat) <= (70368744177664 : Nat)) (
 zg (IntKind.wrap .i64 (s185.fst + 1)) fun x206 =>
 some (.inl ((x206, s185.snd ++ [x205.s_])))))))
 (cond (!decide (x199 = 0))
 (some (.inr (.inr ((s185.fst, x199)))))
 (zh (a0.Channels) (s185.fst) fun x208 =>
 zl ((List.length (List.map SV.str s185.snd) + (1 : Nat)) * (16 : Nat) <= (70368744177664 : Nat)) (
 zg (IntKind.wrap .i64 (s185.fst + 1)) fun x209 =>
 some (.inl ((x209, s185.snd ++ [x208.s_])))))))
 (some (.inr (.inl ())))) ((0, [])))
 (Sum.elim (fun (_ : Unit) =>
 some ((0, 0))) some))
def zob (a0 : TL) (a1 : Int) (a2 : Int) : Option (Int) :=
 (zdu a0).bind fun x232 =>
 cond (decide (x232.snd = 0))
 (cond (decide (a1 < 0))
 (some (7))
 (cond (decide ((↑(List.length (List.map SV.str a0.Names)) : Int) <= a1))
 (some (7))
 (cond (decide (a2 < 0))
 (some (7))
 (cond (decide ((↑(List.length (List.map SV.str a0.Names)) : Int) <= a2))
 (some (7))
 (some (x232.snd))))))
 (some (x232.snd))
def zja (a0 : TL) : Option (Int × Int) :=
 (zob a0 (0) (0)).bind fun x238 =>
 cond (!decide (x238 = 0))
 (some ((0, x238)))
 ((zie a0).bind fun x240 =>
 Option.bind (
 lpO (fun (s243 : Int × Int) =>
 cond (decide (s243.fst < (↑(List.length (List.map SV.str a0.Names)) : Int)))
 ((zga x240 (s243.fst) (s243.snd)).bind fun x247 =>
 zg (IntKind.wrap .i64 (s243.fst + 1)) fun x248 =>
 some (.inl ((x248, x247))))
 (some (.inr (.inl (s243.snd))))) ((0, 0)))
 (Sum.elim (fun (s241 : Int) =>
 some ((s241, 0))) some))
def ziq (a0 : TL) (a1 : TY) : Option (Int) :=
 (zdu a0).bind fun x220 =>
 cond (!decide (x220.snd = 0))
 (some (x220.snd))
 (cond (!decide (a1.Kind = 1))
 (cond (!decide (a1.Kind = 2))
 (some (7))
 (cond (decide (a1.Rank < 0))
 (some (7))
 (cond (decide (2 < a1.Rank))
 (some (7))
 ((ju a0 (a1.Axes.fst)).bind fun x226 =>
 cond (!x226)
 (some (7))
 ((ju a0 (a1.Axes.snd)).bind fun x228 =>
 cond (!x228)
 (some (7))
 ((ju a0 (a1.Data)).bind fun x230 =>
 cond (!x230)
 (some (7))
 ((zja a0).bind fun x249 =>
 Option.bind (
 lpO (fun (s252 : Int) =>
 cond (decide (s252 < 2))
 (zl (0 <= s252 /\ s252 < (↑(2 : Nat) : Int)) (
 zh ([a1.Axes.fst, a1.Axes.snd]) ((↑(Int.toNat s252) : Int)) fun x258 =>
 cond (!decide (x258 = x249.fst))
 (some (.inr (.inr (6))))
 (zg (IntKind.wrap .i64 (s252 + 1)) fun x260 =>
 some (.inl x260))))
 (some (.inr (.inl ())))) (a1.Rank))
 (Sum.elim (fun (_ : Unit) =>
 Option.bind (
 lpO (fun (s263 : Int) =>
 cond (decide (s263 < a1.Rank))
 (zl (0 <= s263 /\ s263 < (↑(2 : Nat) : Int)) (
 zh ([a1.Axes.fst, a1.Axes.snd]) ((↑(Int.toNat s263) : Int)) fun x268 =>
 (xj a0 x268 (a1.Data)).bind fun x269 =>
 cond (!x269)
 (some (.inr (.inr (25))))
 (zg (IntKind.wrap .i64 (s263 + 1)) fun x271 =>
 some (.inl x271))))
 (some (.inr (.inl ())))) (0))
 (Sum.elim (fun (_ : Unit) =>
 some (0)) some)) some))))))))
 (cond (decide (a1.Rank < 0))
 (some (7))
 (cond (decide (2 < a1.Rank))
 (some (7))
 ((ju a0 (a1.Axes.fst)).bind fun x274 =>
 cond (!x274)
 (some (7))
 ((ju a0 (a1.Axes.snd)).bind fun x276 =>
 cond (!x276)
 (some (7))
 ((ju a0 (a1.Data)).bind fun x278 =>
 cond (!x278)
 (some (7))
 ((zja a0).bind fun x280 =>
 Option.bind (
 lpO (fun (s283 : Int) =>
 cond (decide (s283 < 2))
 (zl (0 <= s283 /\ s283 < (↑(2 : Nat) : Int)) (
 zh ([a1.Axes.fst, a1.Axes.snd]) ((↑(Int.toNat s283) : Int)) fun x289 =>
 cond (!decide (x289 = x280.fst))
 (some (.inr (.inr (6))))
 (zg (IntKind.wrap .i64 (s283 + 1)) fun x291 =>
 some (.inl x291))))
 (some (.inr (.inl ())))) (a1.Rank))
 (Sum.elim (fun (_ : Unit) =>
 Option.bind (
 lpO (fun (s294 : Int) =>
 cond (decide (s294 < a1.Rank))
 (zl (0 <= s294 /\ s294 < (↑(2 : Nat) : Int)) (
 zh ([a1.Axes.fst, a1.Axes.snd]) ((↑(Int.toNat s294) : Int)) fun x299 =>
 (xj a0 x299 (a1.Data)).bind fun x300 =>
 cond (!x300)
 (some (.inr (.inr (25))))
 (zg (IntKind.wrap .i64 (s294 + 1)) fun x302 =>
 some (.inl x302))))
 (some (.inr (.inl ())))) (0))
 (Sum.elim (fun (_ : Unit) =>
 some (0)) some)) some))))))))
def zns (a0 : TP) : Option (Int × Int) :=
 cond (decide (32 < (↑(List.length (List.map qJ a0.Vars)) : Int)))
 (some (((-1 : Int), 3)))
 (Option.bind (
 lpO (fun (s215 : Int × List (List UInt8)) =>
 cond (decide (s215.fst < (↑(List.length (List.map qJ a0.Vars)) : Int)))
 (zh (a0.Vars) (s215.fst) fun x227 =>
 (zis (x227.Name) (s215.snd)).bind fun x228 =>
 cond (decide (x228 = 0))
 (zh (a0.Vars) (s215.fst) fun x230 =>
 (ziq (a0.Lattice) (x230.Type_)).bind fun x231 =>
 cond (!decide (x231 = 0))
 (some (.inr (.inr ((s215.fst, x231)))))
 (zh (a0.Vars) (s215.fst) fun x233 =>
 zl ((List.length (List.map SV.str s215.snd) + (1 : Nat)) * (16 : Nat) <= (70368744177664 : Nat)) (
 zg (IntKind.wrap .i64 (s215.fst + 1)) fun x234 =>
 some (.inl ((x234, s215.snd ++ [x233.Name]))))))
 (cond (!decide (x228 = 0))
 (some (.inr (.inr ((s215.fst, x228)))))
 (zh (a0.Vars) (s215.fst) fun x236 =>
 zl ((List.length (List.map SV.str s215.snd) + (1 : Nat)) * (16 : Nat) <= (70368744177664 : Nat)) (
 zg (IntKind.wrap .i64 (s215.fst + 1)) fun x237 =>
 some (.inl ((x237, s215.snd ++ [x236.Name])))))))
 (some (.inr (.inl ())))) ((0, [])))
 (Sum.elim (fun (_ : Unit) =>
 some ((0, 0))) some))
def zo5 (a0 : TP) : Option (Int × Int) :=
 cond (decide (64 < (↑(List.length (List.map qa a0.Rules)) : Int)))
 (some (((-1 : Int), 3)))
 (Option.bind (
 lpO (fun (s243 : Int) =>
 cond (decide (s243 < (↑(List.length (List.map qa a0.Rules)) : Int)))
 (zh (a0.Rules) s243 fun x259 =>
 (ju (a0.Lattice) (x259.From)).bind fun x260 =>
 cond (!x260)
 (some (.inr (.inr ((s243, 7)))))
 ((ju (a0.Lattice) (x259.Goal)).bind fun x262 =>
 cond (!x262)
 (some (.inr (.inr ((s243, 7)))))
 (cond (decide (x259.From = x259.Goal))
 (some (.inr (.inr ((s243, 25)))))
 ((xj (a0.Lattice) (x259.Goal) (x259.From)).bind fun x265 =>
 cond (!x265)
 (some (.inr (.inr ((s243, 25)))))
 (Option.bind (
 lpO (fun (s269 : Int) =>
 cond (decide (s269 < s243))
 (zh (a0.Rules) s269 fun x276 =>
 cond (decide (x276.From = x259.From))
 (zh (a0.Rules) s269 fun x278 =>
 cond (decide (x278.Goal = x259.Goal))
 (some (.inr (.inr (.inr (.inr ((s243, 8)))))))
 (zg (IntKind.wrap .i64 (s269 + 1)) fun x280 =>
 some (.inl x280)))
 (zg (IntKind.wrap .i64 (s269 + 1)) fun x281 =>
 some (.inl x281)))
 (some (.inr (.inl ())))) (0))
 (Sum.elim (fun (_ : Unit) =>
 cond (decide (x259.K < 2))
 (some (.inr (.inr ((s243, 3)))))
 (cond (decide (400 < x259.K))
 (some (.inr (.inr ((s243, 3)))))
 (zg (IntKind.wrap .i64 (s243 + 1)) fun x284 =>
 some (.inl x284)))) some))))))
 (some (.inr (.inl ())))) (0))
 (Sum.elim (fun (_ : Unit) =>
 some ((0, 0))) some))
def zdi (a0 : TP) : Option (Int × Int × Int) :=
 (zdu (a0.Lattice)).bind fun x180 =>
 cond (!decide (x180.snd = 0))
 (some ((1, x180)))
 ((zmt a0).bind fun x210 =>
 cond (!decide (x210.snd = 0))
 (some ((2, x210)))
 ((zns a0).bind fun x238 =>
 cond (!decide (x238.snd = 0))
 (some ((3, x238)))
 ((zo5 a0).bind fun x285 =>
 cond (!decide (x285.snd = 0))
 (some ((4, x285)))
 (some ((0, 0, 0))))))
def zo9 (a0 : TP) (a1 : List UInt8) : Option (Int × Int) :=
 (zdi a0).bind fun x287 =>
 cond (!decide (x287.snd.snd = 0))
 (some ((0, x287.snd.snd)))
 (Option.bind (
 lpO (fun (s291 : Int) =>
 cond (decide (s291 < (↑(List.length (List.map zJ a0.Channels)) : Int)))
 (zh (a0.Channels) s291 fun x297 =>
 cond (decide (x297.s_ = a1))
 (zh (a0.Channels) s291 fun x299 =>
 some (.inr (.inr ((x299.at_, 0)))))
 (zg (IntKind.wrap .i64 (s291 + 1)) fun x300 =>
 some (.inl x300)))
 (some (.inr (.inl ())))) (0))
 (Sum.elim (fun (_ : Unit) =>
 some ((0, 4))) some))
def zm6 (a0 : TP) (a1 : List UInt8) : Option (TY × Int) :=
 (zds a0).bind fun x302 =>
 cond (!decide (x302.snd.snd = 0))
 (some ((TY.mk 0 0 (0, 0) 0, x302.snd.snd)))
 (Option.bind (
 lpO (fun (s306 : Int) =>
 cond (decide (s306 < (↑(List.length (List.map qJ a0.Vars)) : Int)))
 (zh (a0.Vars) s306 fun x311 =>
 cond (decide (x311.Name = a1))
 (some (.inr (.inr ((x311.Type_, 0)))))
 (zg (IntKind.wrap .i64 (s306 + 1)) fun x313 =>
 some (.inl x313)))
 (some (.inr (.inl ())))) (0))
 (Sum.elim (fun (_ : Unit) =>
 some ((TY.mk 0 0 (0, 0) 0, 4))) some))
def zni (a0 : TP) (a1 : List UInt8) : Option (TY × Int) :=
 (zdi a0).bind fun x315 =>
 cond (!decide (x315.snd.snd = 0))
 (some ((TY.mk 0 0 (0, 0) 0, x315.snd.snd)))
 (Option.bind (
 lpO (fun (s319 : Int) =>
 cond (decide (s319 < (↑(List.length (List.map qJ a0.Vars)) : Int)))
 (zh (a0.Vars) s319 fun x325 =>
 cond (decide (x325.Name = a1))
 (zh (a0.Vars) s319 fun x327 =>
 some (.inr (.inr ((x327.Type_, 0)))))
 (zg (IntKind.wrap .i64 (s319 + 1)) fun x328 =>
 some (.inl x328)))
 (some (.inr (.inl ())))) (0))
 (Sum.elim (fun (_ : Unit) =>
 some ((TY.mk 0 0 (0, 0) 0, 4))) some))
def zlk (a0 : TP) (a1 : Int) (a2 : Int) : Option (Int × Int) :=
 (zds a0).bind fun x334 =>
 cond (!decide (x334.snd.snd = 0))
 (some ((0, x334.snd.snd)))
 ((jg (a0.Lattice) a1).bind fun x336 =>
 cond (!x336)
 (some ((0, 7)))
 ((jg (a0.Lattice) a2).bind fun x338 =>
 cond (!x338)
 (some ((0, 7)))
 (Option.bind (
 lpO (fun (s342 : Int) =>
 cond (decide (s342 < (↑(List.length (List.map qa a0.Rules)) : Int)))
 (zh (a0.Rules) s342 fun x348 =>
 cond (decide (x348.From = a1))
 (cond (decide (x348.Goal = a2))
 (some (.inr (.inr ((x348.K, 0)))))
 (zg (IntKind.wrap .i64 (s342 + 1)) fun x351 =>
 some (.inl x351)))
 (zg (IntKind.wrap .i64 (s342 + 1)) fun x352 =>
 some (.inl x352)))
 (some (.inr (.inl ())))) (0))
 (Sum.elim (fun (_ : Unit) =>
 some ((0, 4))) some))))
def zn0 (a0 : TP) (a1 : Int) (a2 : Int) : Option (Int × Int) :=
 (zdi a0).bind fun x354 =>
 cond (decide (x354.snd.snd = 0))
 ((ju (a0.Lattice) a1).bind fun x356 =>
 cond (!x356)
 (some ((0, 7)))
 ((ju (a0.Lattice) a2).bind fun x358 =>
 cond (!x358)
 (some ((0, 7)))
 (cond (!decide (x354.snd.snd = 0))
 (some ((0, x354.snd.snd)))
 (Option.bind (
 lpO (fun (s363 : Int) =>
 cond (decide (s363 < (↑(List.length (List.map qa a0.Rules)) : Int)))
 (zh (a0.Rules) s363 fun x371 =>
 cond (decide (x371.From = a1))
 (zh (a0.Rules) s363 fun x373 =>
 cond (decide (x373.Goal = a2))
 (zh (a0.Rules) s363 fun x375 =>
 some (.inr (.inr ((x375.K, 0)))))
 (zg (IntKind.wrap .i64 (s363 + 1)) fun x376 =>
 some (.inl x376)))
 (zg (IntKind.wrap .i64 (s363 + 1)) fun x377 =>
 some (.inl x377)))
 (some (.inr (.inl ())))) (0))
 (Sum.elim (fun (_ : Unit) =>
 some ((0, 4))) some)))))
 (cond (!decide (x354.snd.snd = 0))
 (some ((0, x354.snd.snd)))
 (Option.bind (
 lpO (fun (s381 : Int) =>
 cond (decide (s381 < (↑(List.length (List.map qa a0.Rules)) : Int)))
 (zh (a0.Rules) s381 fun x389 =>
 cond (decide (x389.From = a1))
 (zh (a0.Rules) s381 fun x391 =>
 cond (decide (x391.Goal = a2))
 (zh (a0.Rules) s381 fun x393 =>
 some (.inr (.inr ((x393.K, 0)))))
 (zg (IntKind.wrap .i64 (s381 + 1)) fun x394 =>
 some (.inl x394)))
 (zg (IntKind.wrap .i64 (s381 + 1)) fun x395 =>
 some (.inl x395)))
 (some (.inr (.inl ())))) (0))
 (Sum.elim (fun (_ : Unit) =>
 some ((0, 4))) some)))
def ziu (a0 : List Int) (a1 : Int) (a2 : Int) : Option (Bool) :=
 zh a0 a1 fun x470 =>
 zh a0 a2 fun x471 =>
 cond (!decide (x470 = x471))
 (zh a0 a1 fun x473 =>
 zh a0 a2 fun x474 =>
 some (decide (x473 < x474)))
 (some (decide (a1 < a2)))
def zln (a0 : Int) (a1 : Int) (a2 : List Int) : Option (Int) :=
 (ziu a2 a0 a1).bind fun x475 =>
 cond x475
 (some ((-1 : Int)))
 ((ziu a2 a1 a0).bind fun x477 =>
 cond x477
 (some (1))
 (some (0)))
def zi2 (a0 : TL) (a1 : List Int) : Option (List Int) :=
 zl ((0 : Int) <= (↑(List.length (List.map SV.str a0.Names)) : Int) /\ (↑(List.length (List.map SV.str a0.Names)) : Int) = (↑(List.length (List.map SV.str a0.Names)) : Int) /\ (↑(List.length (List.map SV.str a0.Names)) : Int) <= (70368744177664 : Int) /\ (↑(List.length (List.map SV.str a0.Names)) : Int) * (↑(8 : Nat) : Int) <= (70368744177664 : Int)) (
 Option.bind (
 lpO (fun (s416 : Int × List Int) =>
 cond (decide (s416.fst < (↑(List.length (List.map SV.str a0.Names)) : Int)))
 (Option.bind (
 lpO (fun (s437 : Int × List Int) =>
 cond (decide (s437.fst < (↑(List.length (List.map SV.str a0.Names)) : Int)))
 ((zcu a0 (s437.fst) (s416.fst)).bind fun x445 =>
 cond x445
 (zl (0 <= s416.fst /\ s416.fst < (↑(List.length (List.map (SV.int .i64) s437.snd)) : Int)) (
 zh (s437.snd) ((↑(Int.toNat s416.fst) : Int)) fun x447 =>
 zg (IntKind.wrap .i64 (x447 + 1)) fun x448 =>
 zl (0 <= s416.fst /\ s416.fst < (↑(List.length (List.map (SV.int .i64) s437.snd)) : Int)) (
 zh (s437.snd) ((↑(Int.toNat s416.fst) : Int)) fun _ =>
 zg (IntKind.wrap .i64 (s437.fst + 1)) fun x450 =>
 some (.inl ((x450, List.set s437.snd (Int.toNat s416.fst) x448))))))
 (zg (IntKind.wrap .i64 (s437.fst + 1)) fun x451 =>
 some (.inl ((x451, s437.snd)))))
 (some (.inr (.inl (s437.snd))))) ((0, s416.snd)))
 (Sum.elim (fun (s435 : List Int) =>
 zg (IntKind.wrap .i64 (s416.fst + 1)) fun x452 =>
 some (.inl ((x452, s435)))) some))
 (some (.inr (.inl (s416.snd))))) ((0, List.replicate (Int.toNat (↑(List.length (List.map SV.str a0.Names)) : Int)) 0)))
 (Sum.elim (fun (s414 : List Int) =>
 zl (List.length (List.map (SV.int .i64) a1) <= (100000 : Nat)) (
 zg (IntKind.wrap .u64 (↑(List.length (List.map (SV.int .i64) a1)) : Int)) fun x454 =>
 (yn x454).bind fun x455 =>
 Option.bind (
 lpO (fun (_ : Unit) =>
 zg (IntKind.wrap .i64 ((↑(List.length (List.map (SV.int .i64) a1)) : Int) - 0)) fun x460 =>
 cond (decide (x460 <= 12))
 (Option.bind (
 lpO (fun (s465 : Int × List Int) =>
 cond (decide (s465.fst < (↑(List.length (List.map (SV.int .i64) a1)) : Int)))
 (Option.bind (
 lpO (fun (s494 : Int × List Int) =>
 cond (decide (0 < s494.fst))
 (zl (0 <= s494.fst /\ s494.fst < (↑(List.length (List.map (SV.int .i64) s494.snd)) : Int)) (
 zh (s494.snd) ((↑(Int.toNat s494.fst) : Int)) fun x509 =>
 zg (IntKind.wrap .i64 (s494.fst - 1)) fun x510 =>
 zl (0 <= x510 /\ x510 < (↑(List.length (List.map (SV.int .i64) s494.snd)) : Int)) (
 zh (s494.snd) ((↑(Int.toNat x510) : Int)) fun x511 =>
 (zln x509 x511 s414).bind fun x512 =>
 cond (decide (x512 < 0))
 (zg (IntKind.wrap .i64 (s494.fst - 1)) fun x514 =>
 zg (IntKind.wrap .i64 (s494.fst - 1)) fun x515 =>
 zl (0 <= x515 /\ x515 < (↑(List.length (List.map (SV.int .i64) s494.snd)) : Int)) (
 zh (s494.snd) ((↑(Int.toNat x515) : Int)) fun x516 =>
 zl (0 <= s494.fst /\ s494.fst < (↑(List.length (List.map (SV.int .i64) s494.snd)) : Int)) (
 zh (s494.snd) ((↑(Int.toNat s494.fst) : Int)) fun x517 =>
 zl (0 <= s494.fst /\ s494.fst < (↑(List.length (List.map (SV.int .i64) s494.snd)) : Int)) (
 zh (s494.snd) ((↑(Int.toNat s494.fst) : Int)) fun _ =>
 zl (0 <= x514 /\ x514 < (↑(List.length (List.set (List.map (SV.int .i64) s494.snd) (Int.toNat s494.fst) (SV.int .i64 x516))) : Int)) (
 zh (List.set s494.snd (Int.toNat s494.fst) x516) ((↑(Int.toNat x514) : Int)) fun _ =>
 zg (IntKind.wrap .i64 (s494.fst - 1)) fun x520 =>
 some (.inl ((x520, List.set (List.set s494.snd (Int.toNat s494.fst) x516) (Int.toNat x514) x517))))))))
 (some (.inr (.inl ((decide (x512 < 0), s494))))))))
 (some (.inr (.inl ((false, s494)))))) s465)
 (Sum.elim (fun (s492 : Bool × Int × List Int) =>
 zg (IntKind.wrap .i64 (s465.fst + 1)) fun x521 =>
 some (.inl ((x521, s492.snd.snd)))) some))
 (some (.inr (.inl ((decide (s465.fst < (↑(List.length (List.map (SV.int .i64) a1)) : Int)), s465)))))) ((1, a1)))
 (Sum.elim (fun (s463 : Bool × Int × List Int) =>
 cond (decide ((↑(List.length (List.map (SV.int .i64) s463.snd.snd)) : Int) < 2))
 (some (.inr (.inr (s463.snd.snd))))
 (Option.bind (
 lpO (fun (s526 : Int) =>
 cond (decide (s526 < (↑(List.length (List.map (SV.int .i64) s463.snd.snd)) : Int)))
 (zl (0 <= s526 /\ s526 < (↑(List.length (List.map (SV.int .i64) s463.snd.snd)) : Int)) (
 zh (s463.snd.snd) ((↑(Int.toNat s526) : Int)) fun x547 =>
 zg (IntKind.wrap .i64 (s526 - 1)) fun x548 =>
 zl (0 <= x548 /\ x548 < (↑(List.length (List.map (SV.int .i64) s463.snd.snd)) : Int)) (
 zh (s463.snd.snd) ((↑(Int.toNat x548) : Int)) fun x549 =>
 cond (decide (x547 = x549))
 (zl (0 <= s526 /\ s526 <= (↑(List.length (List.map (SV.int .i64) s463.snd.snd)) : Int)) (
 Option.bind (
 lpO (fun (s553 : Int) =>
 cond (decide (s553 < (↑(List.length (List.drop (Int.toNat s526) (List.take (Int.toNat (↑(List.length (List.map (SV.int .i64) s463.snd.snd)) : Int)) (List.map (SV.int .i64) s463.snd.snd)))) : Int)))
 (zh (List.drop (Int.toNat s526) (List.take (Int.toNat (↑(List.length (List.map (SV.int .i64) s463.snd.snd)) : Int)) s463.snd.snd)) s553 fun x560 =>
 zg (IntKind.wrap .i64 (s553 - 1)) fun x561 =>
 zh (List.drop (Int.toNat s526) (List.take (Int.toNat (↑(List.length (List.map (SV.int .i64) s463.snd.snd)) : Int)) s463.snd.snd)) x561 fun x562 =>
 cond (!decide (x560 = x562))
 (zh (List.drop (Int.toNat s526) (List.take (Int.toNat (↑(List.length (List.map (SV.int .i64) s463.snd.snd)) : Int)) s463.snd.snd)) s553 fun _ =>
 zl (0 <= s526 /\ s526 < (↑(List.length (List.map (SV.int .i64) s463.snd.snd)) : Int)) (
 none))
 (zg (IntKind.wrap .i64 (s553 + 1)) fun x565 =>
 some (.inl x565)))
 (some (.inr (.inl ((decide (s553 < (↑(List.length (List.drop (Int.toNat s526) (List.take (Int.toNat (↑(List.length (List.map (SV.int .i64) s463.snd.snd)) : Int)) (List.map (SV.int .i64) s463.snd.snd)))) : Int)), s553)))))) (1))
 (Sum.elim (fun (_ : Bool × Int) =>
 none) some)))
 (zg (IntKind.wrap .i64 (s526 + 1)) fun x566 =>
 some (.inl x566)))))
 (some (.inr (.inl ((decide (s526 < (↑(List.length (List.map (SV.int .i64) s463.snd.snd)) : Int)), s526)))))) (1))
 (Sum.elim (fun (_ : Bool × Int) =>
 some (.inr (.inr (s463.snd.snd)))) some))) some))
 (cond (decide (x455 = 0))
 (none)
 (none))) (()))
 (Sum.elim (fun (_ : Unit) =>
 none) some))) some))
def zlg (a0 : TL) (a1 : List Int) : Option (List Int × Int) :=
 (zib a0 a1).bind fun x412 =>
 cond (!decide (x412.snd = 0))
 (some (([], x412.snd)))
 ((zi2 a0 a1).bind fun x568 =>
 some ((x568, 0)))
def zlx (a0 : TP) (a1 : Int) : Option (List Int × Int) :=
 (zds a0).bind fun x397 =>
 cond (!decide (x397.snd.snd = 0))
 (some (([], x397.snd.snd)))
 ((jg (a0.Lattice) a1).bind fun x399 =>
 cond (!x399)
 (some (([], 7)))
 (Option.bind (
 lpO (fun (s403 : Int × List Int) =>
 cond (decide (s403.fst < (↑(List.length (List.map qa a0.Rules)) : Int)))
 (zh (a0.Rules) (s403.fst) fun x408 =>
 cond (decide (x408.From = a1))
 (zl ((List.length (List.map (SV.int .i64) s403.snd) + (1 : Nat)) * (8 : Nat) <= (70368744177664 : Nat)) (
 zg (IntKind.wrap .i64 (s403.fst + 1)) fun x410 =>
 some (.inl ((x410, s403.snd ++ [x408.Goal])))))
 (zg (IntKind.wrap .i64 (s403.fst + 1)) fun x411 =>
 some (.inl ((x411, s403.snd)))))
 (some (.inr (.inl (s403.snd))))) ((0, [])))
 (Sum.elim (fun (s401 : List Int) =>
 (zlg (a0.Lattice) s401).bind fun x569 =>
 some x569) some)))
def znd (a0 : TL) (a1 : List Int) : Option (Int × Int) :=
 (zdu a0).bind fun x589 =>
 cond (!decide (x589.snd = 0))
 (some (((-1 : Int), x589.snd)))
 (cond (decide (64 < (↑(List.length (List.map (SV.int .i64) a1)) : Int)))
 (some (((-1 : Int), 3)))
 (Option.bind (
 lpO (fun (s594 : Int) =>
 cond (decide (s594 < (↑(List.length (List.map (SV.int .i64) a1)) : Int)))
 (zh a1 s594 fun x601 =>
 cond (decide (x601 < 0))
 (some (.inr (.inr ((s594, 7)))))
 (zh a1 s594 fun x603 =>
 cond (decide ((↑(List.length (List.map SV.str a0.Names)) : Int) <= x603))
 (some (.inr (.inr ((s594, 7)))))
 (zg (IntKind.wrap .i64 (s594 + 1)) fun x605 =>
 some (.inl x605))))
 (some (.inr (.inl ())))) (0))
 (Sum.elim (fun (_ : Unit) =>
 some ((0, 0))) some)))
def zm5 (a0 : TL) (a1 : Int) : Option (Int) :=
 Option.bind (
 lpO (fun (s616 : Int × Int) =>
 cond (decide (s616.fst < (↑(List.length (List.map SV.str a0.Names)) : Int)))
 ((xj a0 (s616.fst) a1).bind fun x621 =>
 cond x621
 (zg (IntKind.wrap .i64 (s616.snd + 1)) fun x623 =>
 zg (IntKind.wrap .i64 (s616.fst + 1)) fun x624 =>
 some (.inl ((x624, x623))))
 (zg (IntKind.wrap .i64 (s616.fst + 1)) fun x625 =>
 some (.inl ((x625, s616.snd)))))
 (some (.inr (.inl (s616.snd))))) ((0, 0)))
 (Sum.elim (fun (s614 : Int) =>
 some s614) some)
def zoj (a0 : List Int) (a1 : Int) : Option (Bool) :=
 Option.bind (
 lpO (fun (s630 : Int) =>
 cond (decide (s630 < (↑(List.length (List.map (SV.int .i64) a0)) : Int)))
 (zh a0 s630 fun x635 =>
 cond (decide (x635 = a1))
 (some (.inr (.inr (true))))
 (zg (IntKind.wrap .i64 (s630 + 1)) fun x637 =>
 some (.inl x637)))
 (some (.inr (.inl ())))) (0))
 (Sum.elim (fun (_ : Unit) =>
 some (false)) some)
def zo1 (a0 : TL) (a1 : List Int) : Option (List Int) :=
 Option.bind (
 lpO (fun (s610 : Int × List Int) =>
 cond (decide (s610.fst <= (↑(List.length (List.map SV.str a0.Names)) : Int)))
 (Option.bind (
 lpO (fun (s631 : Int × List Int) =>
 cond (decide (s631.fst < (↑(List.length (List.map SV.str a0.Names)) : Int)))
 ((zm5 a0 (s631.fst)).bind fun x638 =>
 cond (decide (x638 = s610.fst))
 ((zoj a1 (s631.fst)).bind fun x640 =>
 cond x640
 (zl ((List.length (List.map (SV.int .i64) s631.snd) + (1 : Nat)) * (8 : Nat) <= (70368744177664 : Nat)) (
 zg (IntKind.wrap .i64 (s631.fst + 1)) fun x642 =>
 some (.inl ((x642, s631.snd ++ [s631.fst])))))
 (zg (IntKind.wrap .i64 (s631.fst + 1)) fun x643 =>
 some (.inl ((x643, s631.snd)))))
 (zg (IntKind.wrap .i64 (s631.fst + 1)) fun x644 =>
 some (.inl ((x644, s631.snd)))))
 (some (.inr (.inl (s631.snd))))) ((0, s610.snd)))
 (Sum.elim (fun (s629 : List Int) =>
 zg (IntKind.wrap .i64 (s610.fst + 1)) fun x645 =>
 some (.inl ((x645, s629)))) some))
 (some (.inr (.inl (s610.snd))))) ((1, [])))
 (Sum.elim (fun (s608 : List Int) =>
 some s608) some)
def zjk (a0 : TL) (a1 : List Int) : Option (List Int × Int) :=
 (znd a0 a1).bind fun x606 =>
 cond (!decide (x606.snd = 0))
 (some (([], x606.snd)))
 ((zo1 a0 a1).bind fun x646 =>
 some ((x646, 0)))
def zof (a0 : TP) (a1 : Int) : Option (List Int × Int) :=
 (zdi a0).bind fun x571 =>
 cond (decide (x571.snd.snd = 0))
 ((ju (a0.Lattice) a1).bind fun x573 =>
 cond (!x573)
 (some (([], 7)))
 (cond (!decide (x571.snd.snd = 0))
 (some (([], x571.snd.snd)))
 (Option.bind (
 lpO (fun (s578 : Int × List Int) =>
 cond (decide (s578.fst < (↑(List.length (List.map qa a0.Rules)) : Int)))
 (zh (a0.Rules) (s578.fst) fun x584 =>
 cond (decide (x584.From = a1))
 (zh (a0.Rules) (s578.fst) fun x586 =>
 zl ((List.length (List.map (SV.int .i64) s578.snd) + (1 : Nat)) * (8 : Nat) <= (70368744177664 : Nat)) (
 zg (IntKind.wrap .i64 (s578.fst + 1)) fun x587 =>
 some (.inl ((x587, s578.snd ++ [x586.Goal])))))
 (zg (IntKind.wrap .i64 (s578.fst + 1)) fun x588 =>
 some (.inl ((x588, s578.snd)))))
 (some (.inr (.inl (s578.snd))))) ((0, [])))
 (Sum.elim (fun (s576 : List Int) =>
 (zjk (a0.Lattice) s576).bind fun x647 =>
 some x647) some))))
 (cond (!decide (x571.snd.snd = 0))
 (some (([], x571.snd.snd)))
 (Option.bind (
 lpO (fun (s651 : Int × List Int) =>
 cond (decide (s651.fst < (↑(List.length (List.map qa a0.Rules)) : Int)))
 (zh (a0.Rules) (s651.fst) fun x657 =>
 cond (decide (x657.From = a1))
 (zh (a0.Rules) (s651.fst) fun x659 =>
 zl ((List.length (List.map (SV.int .i64) s651.snd) + (1 : Nat)) * (8 : Nat) <= (70368744177664 : Nat)) (
 zg (IntKind.wrap .i64 (s651.fst + 1)) fun x660 =>
 some (.inl ((x660, s651.snd ++ [x659.Goal])))))
 (zg (IntKind.wrap .i64 (s651.fst + 1)) fun x661 =>
 some (.inl ((x661, s651.snd)))))
 (some (.inr (.inl (s651.snd))))) ((0, [])))
 (Sum.elim (fun (s649 : List Int) =>
 (zjk (a0.Lattice) s649).bind fun x662 =>
 some x662) some)))
def zne (a0 : List Int) (a1 : List Int) : Option (Bool) :=
 cond (!decide ((↑(List.length (List.map (SV.int .i64) a0)) : Int) = (↑(List.length (List.map (SV.int .i64) a1)) : Int)))
 (some (false))
 (Option.bind (
 lpO (fun (s669 : Int) =>
 cond (decide (s669 < (↑(List.length (List.map (SV.int .i64) a0)) : Int)))
 (zh a0 s669 fun x675 =>
 zh a1 s669 fun x676 =>
 cond (!decide (x675 = x676))
 (some (.inr (.inr (false))))
 (zg (IntKind.wrap .i64 (s669 + 1)) fun x678 =>
 some (.inl x678)))
 (some (.inr (.inl ())))) (0))
 (Sum.elim (fun (_ : Unit) =>
 some (true)) some))
def zrn (a0 : TP) (a1 : List UInt8) (a2 : Int × Int) : Option (Bool) :=
 (Fz2 a0).bind fun x40 =>
 cond x40
 (some (true))
 (cond (decide (100 < (↑(List.length a1) : Int)))
 (some (true))
 ((zly a0 a1).bind fun x66 =>
 (zo9 a0 a1).bind fun x301 =>
 (zm6 a0 a1).bind fun x314 =>
 (zni a0 a1).bind fun x329 =>
 cond (!decide (x66.fst = x301.fst))
 (some (false))
 (cond (!decide (x66.snd = x301.snd))
 (some (false))
 (cond (!(decide (x314.fst.Kind = x329.fst.Kind) && (decide (x314.fst.Rank = x329.fst.Rank) && (decide (x314.fst.Axes.fst = x329.fst.Axes.fst) && (decide (x314.fst.Axes.snd = x329.fst.Axes.snd) && true) && (decide (x314.fst.Data = x329.fst.Data) && true)))))
 (some (false))
 (cond (!decide (x314.snd = x329.snd))
 (some (false))
 ((zlk a0 (a2.fst) (a2.snd)).bind fun x353 =>
 (zn0 a0 (a2.fst) (a2.snd)).bind fun x396 =>
 (zlx a0 (a2.fst)).bind fun x570 =>
 (zof a0 (a2.fst)).bind fun x663 =>
 cond (decide (x353.fst = x396.fst))
 (cond (decide (x353.snd = x396.snd))
 ((zne (x570.fst) (x663.fst)).bind fun x679 =>
 cond x679
 (cond (decide (x570.snd = x663.snd))
 (some (true))
 (some (false)))
 (some (false)))
 (some (false)))
 (some (false))))))))
end Go.Sx.O
end
namespace Go.Sx.O
open Go
theorem zux {α τ : Type} {l : List α} (p : α -> Bool) {step : Int -> Option (Int ⊕ τ)} {d : τ} {g : Int -> τ}
 (h1 : ∀ (k : Nat) x, l[k]? = some x -> step (k : Int) = if p x then some (.inr (g k)) else some (.inl ((k : Int) + 1)))
 (h2 : step (l.length : Int) = some (.inr d)) :
 lpO step 0 = (match l.findIdx? p with | some i => some (g i) | none => some d) := by
 have key : ∀ j k, j + k = l.length -> lpO step (k : Int) = (match (l.drop k).findIdx? p with | some i => some (g ((k + i : Nat) : Int)) | none => some d) := by
  intro j
  induction j with
  | zero =>
    intro k hk
    rw [jC]
    have : k = l.length := by omega
    subst this
    rw [h2]
    simp
  | succ j ih =>
    intro k hk
    have hlt : k < l.length := by omega
    rw [jC, h1 k _ (List.getElem?_eq_getElem hlt), List.drop_eq_getElem_cons hlt, List.findIdx?_cons]
    split
    . simp
    . have := ih (k + 1) (by omega)
      simp only [Option.bind_some, Sum.elim_inl]
      push_cast at this
      rw [this]
      cases (l.drop (k + 1)).findIdx? p with
      | none => rfl
      | some i => simp; congr 1; omega
 have := key l.length 0 (by omega)
 simpa using this
end Go.Sx.O
namespace Go.Sx.O
open Go
theorem dropWhile_nil {α : Type} {p : α -> Bool} : ∀ {l : List α}, l.dropWhile p = [] ↔ ∀ x ∈ l, p x = true
 | [] => by simp
 | a :: l => by
   rw [List.dropWhile_cons]
   cases h : p a with
   | true => simp [h, dropWhile_nil (l := l)]
   | false => simp [h]
theorem zc6 (l : List (List UInt8)) (s : List UInt8) (hl : l.length <= 1000000000) :
 znw l s = some (match l.findIdx? (fun x => decide (s = x)) with | some i => (i : Int) | none => -1) := by
 unfold znw
 rw [zux (l := l) (fun x => decide (s = x)) (d := .inl ()) (g := .inr) ?_ ?_]
 . cases l.findIdx? (fun x => decide (s = x)) <;> rfl
 . intro k x hx
   have hlt : k < l.length := by
    by_cases h : k < l.length
    . exact h
    . rw [List.getElem?_eq_none (by omega)] at hx; cases hx
   simp only [List.length_map, Int.ofNat_lt, hlt, decide_true, cond_true, zh, Int.toNat_natCast, hx, Option.bind_some, zg, Int.natCast_nonneg, if_true]
   rw [w64 (by omega) (by omega)]
   cases decide (s = x) <;> rfl
 . simp
theorem xe (l : List (List UInt8)) (s : List UInt8) (hl : l.length <= 1000000000) :
 zot l s = some (decide (s ∈ l)) := by
 unfold zot
 rw [zc6 l s hl]
 cases h : l.findIdx? (fun x => decide (s = x)) with
 | none =>
   have := List.findIdx?_eq_none_iff.1 h
   simp only [Option.bind_some]
   congr 1
   have hn : s ∉ l := fun hm => by have := this s hm; simp at this
   simp [hn]
 | some i =>
   have := List.findIdx?_eq_some_iff_getElem.1 h
   obtain ⟨hi, h1, _⟩ := this
   have hm : s ∈ l := by
    have e : s = l[i] := by simpa using h1
    rw [e]; exact List.getElem_mem hi
   simp [hm]
def yD (set : List Bool) (c : UInt8) : Bool := set.getD c.toNat false
theorem zc0 (set : List Bool) (c : UInt8) (h : set.length = 256) : Fz6 set (c.toNat : Int) = some (yD set c) := by
 unfold Fz6
 have hc : c.toNat < 256 := c.toNat_lt
 have h2 : set[c.toNat]? = some (set[c.toNat]'(by omega)) := List.getElem?_eq_getElem _
 have h3 : (c.toNat : Int) < 256 := by omega
 simp [zl, zh, yD, h2, h3]
def xW (p : UInt8 -> Bool) (s : List UInt8) : List UInt8 := (s.reverse.dropWhile p).reverse
theorem zuw {p : UInt8 -> Bool} {s : List UInt8} : (xW p s).dropWhile p = [] ↔ ∀ c ∈ s, p c = true := by
 unfold xW
 constructor
 . intro h c hc
   have h1 : ∀ c ∈ (s.reverse.dropWhile p).reverse, p c = true := dropWhile_nil.1 h
   have h2 : s.reverse.dropWhile p = [] := by
    cases e : s.reverse.dropWhile p with
    | nil => rfl
    | cons a r =>
      have := List.head?_dropWhile_not p s.reverse
      rw [e] at this
      simp at this
      rw [e] at h1
      rw [h1 a (by simp)] at this
      cases this
   exact dropWhile_nil.1 h2 c (by simpa using hc)
 . intro h
   have : s.reverse.dropWhile p = [] := dropWhile_nil.2 fun c hc => h c (by simpa using hc)
   rw [this]; rfl
theorem zc2 (s : List UInt8) (set : List Bool) (h : set.length = 256) (hs : s.length <= 1000000000) : Fz7 s set = some (xW (yD set) s) := by
 unfold Fz7
 apply Tot.eq
 simp only [zu]
 refine Tot.loop (fun s => s.length) (fun r => r.length <= 1000000000 /\ xW (yD set) r = xW (yD set) s) ?_ ⟨hs, rfl⟩
 rintro r ⟨hr, he⟩
 simp only [tot_some, zE, zQ, qt, qz, zu, Sum.elim_inl, Sum.elim_inr, decide_eq_true_eq, decide_eq_false_iff_not]
 refine ⟨fun h1 => ?_, fun h1 => ?_⟩
 . have h0 : r ≠ [] := by rintro rfl; simp at h1
   rw [w64 (by omega) (by omega)]
   have e1 : ((r.length : Int) - 1).toNat = r.length - 1 := by omega
   rw [e1]
   refine ⟨by omega, _, List.getElem?_eq_getElem (by omega), ?_⟩
   rw [zc0 set _ h]
   simp only [tot_some, Bool.not_eq_true', Bool.not_eq_false']
   have hr2 : r = r.dropLast ++ [r[r.length - 1]'(by omega)] := by
    rw [<- List.getLast_eq_getElem h0]; exact (List.dropLast_concat_getLast h0).symm
   refine ⟨fun h2 => ?_, fun h2 => ⟨⟨by omega, by omega⟩, ⟨by simp; omega, ?_⟩, by simp; omega⟩⟩
   . rw [<- he]
     unfold xW
     rw [hr2]
     simp [h2]
   . rw [<- he]
     simp only [Int.toNat_zero, List.drop_zero]
     rw [<- List.dropLast_eq_take]
     conv => rhs; rw [hr2]
     unfold xW
     simp [h2]
 . have h0 : r = [] := List.length_eq_zero_iff.1 (by omega)
   rw [<- he, h0]; rfl
theorem zdh (s : List UInt8) (set : List Bool) (h : set.length = 256) (hs : s.length <= 1000000000) : Fz8 s set = some (s.dropWhile (yD set)) := by
 unfold Fz8
 apply Tot.eq
 simp only [zu]
 refine Tot.loop (fun s => s.length) (fun r => r.length <= 1000000000 /\ r.dropWhile (yD set) = s.dropWhile (yD set)) ?_ ⟨hs, rfl⟩
 rintro r ⟨hr, he⟩
 simp only [tot_some, zE, zQ, qt, qz, zu, Sum.elim_inl, Sum.elim_inr, decide_eq_true_eq, decide_eq_false_iff_not]
 cases r with
 | nil => simp [<- he]
 | cons a r =>
   refine ⟨fun h1 => ⟨by omega, a, rfl, ?_⟩, fun h1 => absurd h1 (by simp)⟩
   rw [zc0 set _ h]
   simp only [tot_some, Bool.not_eq_true', Bool.not_eq_false']
   refine ⟨fun h2 => ?_, fun h2 => ⟨by simp; omega, ⟨?_, ?_⟩, ?_⟩⟩
   . rw [<- he]; simp [h2]
   . simp at hr ⊢; omega
   . rw [<- he]; simp [h2]
   . simp
end Go.Sx.O
namespace Go.Sx.O
open Go
theorem ztw {set : List Bool} {c d : UInt8} (h : set.length = 256) : yD (set.set c.toNat true) d = (decide (d = c) || yD set d) := by
 have hc : c.toNat < 256 := c.toNat_lt
 unfold yD
 rw [List.getD_eq_getElem?_getD, List.getD_eq_getElem?_getD, List.getElem?_set]
 by_cases e : c.toNat = d.toNat
 . have : d = c := (UInt8.toNat_inj.1 e).symm
   subst this
   simp [h, hc]
 . have : d ≠ c := fun e' => e (by rw [e'])
   simp [e, this]
theorem zez (cs : List UInt8) (h : ∀ c ∈ cs, c.toNat < 128) (hs : cs.length <= 1000000000) : Tot (Fz5 cs) fun r => r.2 = true /\ r.1.length = 256 /\ ∀ d, yD r.1 d = decide (d ∈ cs) := by
 unfold Fz5
 simp only [zu]
 refine Tot.count cs.length (fun k s => s.1 = (k : Int) /\ s.2.length = 256 /\ ∀ d, yD s.2 d = decide (d ∈ cs.take k)) ?_ ⟨rfl, List.length_replicate, fun d => ?_⟩
 . rintro k ⟨i, set⟩ hk ⟨h0, h1, h2⟩
   simp only at h0 h1 h2
   subst h0
   simp only [tot_some, zE, zQ, qt, qz, Sum.elim_inl, Sum.elim_inr, decide_eq_true_eq, decide_eq_false_iff_not, Int.toNat_natCast]
   refine ⟨fun hlt => ⟨by omega, _, List.getElem?_eq_getElem (by omega), fun h3 => ?_, fun h3 => ?_⟩, fun hlt => ?_⟩
   . have := h cs[k] (List.getElem_mem _)
     omega
   . have hc : cs[k].toNat < 256 := (cs[k]'(by omega)).toNat_lt
     refine ⟨⟨by omega, by omega⟩, by omega, _, List.getElem?_eq_getElem (by omega), ?_⟩
     rw [w64 (by omega) (by omega)]
     refine ⟨by omega, by omega, by simpa using h1, fun d => ?_⟩
     have hm : d ∈ cs.take (k + 1) ↔ d ∈ cs.take k \/ d = cs[k] := by
      rw [List.take_add_one, List.getElem?_eq_getElem (by omega), List.mem_append]
      simp
     rw [ztw h1, h2, Bool.eq_iff_iff]
     simp only [Bool.or_eq_true, decide_eq_true_eq, hm]
     exact or_comm
   . refine ⟨trivial, h1, fun d => ?_⟩
     rw [h2, List.take_of_length_le (by omega)]
 . unfold yD
   rw [List.getD_eq_getElem?_getD, List.getElem?_replicate]
   split <;> simp
theorem zul (s cs : List UInt8) (h : ∀ c ∈ cs, c.toNat < 128) (h1 : 2 <= cs.length) (hs : cs.length <= 1000000000) (hl : s.length <= 1000000000) :
 zmy s cs = some ((xW (fun c => decide (c ∈ cs)) s).dropWhile (fun c => decide (c ∈ cs))) := by
 unfold zmy
 have e0 : (ByteArray.mk #[]).data.toList = [] := rfl
 simp only [e0]
 cases s with
 | nil => simp [xW]
 | cons a r =>
   have e1 : decide (a :: r = []) = false := by simp
   have e2 : decide (cs = []) = false := by cases cs <;> simp at h1 ⊢
   have e3 : decide ((cs.length : Int) = 1) = false := by simp; omega
   simp only [e1, e2, e3, cond_false]
   obtain ⟨x, hx, hx1, hx2, hx3⟩ := zez cs h hs
   have e4 : yD x.1 = fun c => decide (c ∈ cs) := funext hx3
   rw [hx]
   simp only [Option.bind_some, hx1, cond_true]
   rw [zc2 _ _ hx2 hl]
   simp only [Option.bind_some]
   rw [zdh _ _ hx2 (by
    refine Nat.le_trans ?_ hl
    unfold xW
    rw [List.length_reverse]
    refine Nat.le_trans (List.dropWhile_sublist _).length_le (by simp))]
   rw [e4]
   rfl
def jo : List UInt8 := [97, 98, 99, 100, 101, 102, 103, 104, 105, 106, 107, 108, 109, 110, 111, 112, 113, 114, 115, 116, 117, 118, 119, 120, 121, 122, 48, 49, 50, 51, 52, 53, 54, 55, 56, 57, 45]
def zca (s : List UInt8) : Bool := decide (s.length <= 16) && (match s with | [] => false | c :: _ => decide (97 <= c.toNat) && decide (c.toNat <= 122)) && s.all fun c => decide (c ∈ jo)
theorem zj7 (s : List UInt8) (hl : s.length <= 1000000000) : zn5 s = some (zca s) := by
 unfold zn5
 have e0 : (ByteArray.mk #[]).data.toList = [] := rfl
 simp only [e0]
 rw [zul s _ (by decide) (by decide) (by decide) hl]
 cases s with
 | nil => rfl
 | cons a r =>
   have e1 : decide (a :: r = []) = false := by simp
   simp only [e1, cond_false, Option.bind_some]
   have e5 : zh (a :: r) 0 = fun f => (f a : Option Bool) := rfl
   simp only [e5]
   unfold zca
   by_cases h1 : (16 : Int) < ((a :: r).length : Int)
   . have : ¬ (a :: r).length <= 16 := by omega
     simp only [h1, decide_true, cond_true, this, decide_false, Bool.false_and]
   . have h1' : (a :: r).length <= 16 := by omega
     simp only [h1, decide_false, cond_false, h1', decide_true, Bool.true_and]
     by_cases h2 : (a.toNat : Int) < 97
     . have : ¬ 97 <= a.toNat := by omega
       simp only [h2, decide_true, cond_true, this, decide_false, Bool.false_and]
     . have h2' : 97 <= a.toNat := by omega
       simp only [h2, decide_false, cond_false, h2', decide_true, Bool.true_and]
       by_cases h3 : (122 : Int) < (a.toNat : Int)
       . have : ¬ a.toNat <= 122 := by omega
         simp only [h3, decide_true, cond_true, this, decide_false, Bool.false_and]
       . have h3' : a.toNat <= 122 := by omega
         simp only [h3, decide_false, cond_false, h3', decide_true, Bool.true_and]
         congr 1
         rw [Bool.eq_iff_iff, decide_eq_true_eq, zuw, List.all_eq_true]
         rfl
end Go.Sx.O
namespace Go.Sx.O
open Go
theorem zAl : ∀ u : Fin 256, ∀ b : Fin 9, bits .and .u8 (Int.fdiv (u.val : Int) (2 ^ min b.val (IntKind.bits .u8))) 1 = if Nat.testBit u b then 1 else 0 := by decide +kernel
theorem zb9 {u : Int} {b : Nat} (h0 : 0 <= u) (h1 : u < 256) (hb : b <= 8) : bits .and .u8 (Int.fdiv u (2 ^ min b (IntKind.bits .u8))) 1 = if u.toNat.testBit b then 1 else 0 := by
 have := zAl ⟨u.toNat, by omega⟩ ⟨b, by omega⟩
 simp only at this
 rw [Int.toNat_of_nonneg h0] at this
 exact this
theorem xH {u : Int} (h0 : 0 <= u) : BitVec.ofInt 8 u = BitVec.ofNat 8 u.toNat := by
 conv => lhs; rw [<- Int.toNat_of_nonneg h0]
 exact BitVec.ofInt_natCast 8 u.toNat
theorem zia {n : Nat} (h : n < 256) : IntKind.wrap .u8 (n : Int) = n := by
 simp only [IntKind.wrap, IntKind.signed, IntKind.bits, Bool.false_and]
 have h3 : (2 : Int) ^ 8 = 256 := by decide
 simp only [h3]
 have : (n : Int) % 256 = n := by omega
 simp [this]
theorem zbr {a b : Int} (ha : 0 <= a) (ha' : a < 256) (hb : 0 <= b) (hb' : b < 256) : bits .and .u8 a b = ((a.toNat &&& b.toNat : Nat) : Int) := by
 have e : bits .and .u8 a b = IntKind.wrap .u8 ((BitVec.ofInt 8 a &&& BitVec.ofInt 8 b).toNat : Int) := rfl
 rw [e, xH ha, xH hb]
 rw [zia (BitVec.isLt _)]
 rw [BitVec.toNat_and, BitVec.toNat_ofNat, BitVec.toNat_ofNat, Nat.mod_eq_of_lt (by omega), Nat.mod_eq_of_lt (by omega)]
theorem zp0 {a b : Int} (ha : 0 <= a) (ha' : a < 256) (hb : 0 <= b) (hb' : b < 256) : bits .or .u8 a b = ((a.toNat ||| b.toNat : Nat) : Int) := by
 have e : bits .or .u8 a b = IntKind.wrap .u8 ((BitVec.ofInt 8 a ||| BitVec.ofInt 8 b).toNat : Int) := rfl
 rw [e, xH ha, xH hb]
 rw [zia (BitVec.isLt _)]
 rw [BitVec.toNat_or, BitVec.toNat_ofNat, BitVec.toNat_ofNat, Nat.mod_eq_of_lt (by omega), Nat.mod_eq_of_lt (by omega)]
theorem zbd {a b : Int} (ha : 0 <= a) (ha' : a < 256) (hb : 0 <= b) (hb' : b < 256) : bits .andNot .u8 a b = 0 ↔ ∀ i, a.toNat.testBit i = true -> b.toNat.testBit i = true := by
 have e : bits .andNot .u8 a b = IntKind.wrap .u8 ((BitVec.ofInt 8 a &&& ~~~BitVec.ofInt 8 b).toNat : Int) := rfl
 rw [e, xH ha, xH hb]
 rw [zia (BitVec.isLt _)]
 have hbit : ∀ i, (BitVec.ofNat 8 a.toNat &&& ~~~BitVec.ofNat 8 b.toNat).getLsbD i = (decide (i < 8) && a.toNat.testBit i && !(b.toNat.testBit i)) := by
  intro i
  rw [BitVec.getLsbD_and, BitVec.getLsbD_not, BitVec.getLsbD_ofNat, BitVec.getLsbD_ofNat]
  cases decide (i < 8) <;> simp
 have h8 : ∀ i, a.toNat.testBit i = true -> i < 8 := by
  intro i hi
  rcases Nat.lt_or_ge i 8 with g | g
  . exact g
  . rw [Nat.testBit_lt_two_pow (Nat.lt_of_lt_of_le (show a.toNat < 2 ^ 8 by omega) (Nat.pow_le_pow_right (by omega) g))] at hi
    cases hi
 constructor
 . intro h i hi
   have h0 : (BitVec.ofNat 8 a.toNat &&& ~~~BitVec.ofNat 8 b.toNat).toNat = 0 := Int.ofNat_eq_zero.1 h
   have h1 := hbit i
   rw [<- BitVec.testBit_toNat, h0, Nat.zero_testBit] at h1
   have := h8 i hi
   simp [this, hi] at h1
   exact h1
 . intro h
   have h1 : (BitVec.ofNat 8 a.toNat &&& ~~~BitVec.ofNat 8 b.toNat).toNat = 0 := by
    apply Nat.eq_of_testBit_eq
    intro i
    rw [BitVec.testBit_toNat, hbit i, Nat.zero_testBit]
    cases hi : a.toNat.testBit i with
    | false => simp
    | true => simp [h i hi]
   rw [h1]; rfl
theorem zc8 {a b : Nat} (h : a < 256) : a &&& b < 256 := Nat.lt_of_le_of_lt Nat.and_le_left h
theorem zB3 {a b : Nat} (h : a < 256) (k : b < 256) : a ||| b < 256 := Nat.or_lt_two_pow (n := 8) h k
theorem zpb (ns : List (List UInt8)) (h : ns.length <= 20) (hn : ∀ s ∈ ns, s.length <= 1000) : Tot (zfp ns) fun r => r.2 = 0 -> 1 <= ns.length /\ ns.length <= 8 := by
 unfold zfp
 simp only [zE, tot_some, zu, List.length_map, decide_eq_true_eq, decide_eq_false_iff_not]
 refine ⟨fun _ h => absurd h (by decide), fun h1 => ⟨fun _ h => absurd h (by decide), fun h2 => ?_⟩⟩
 refine Tot.count ns.length (fun k s => s = (k : Int)) ?_ rfl
 rintro k _ hk rfl
 simp only [tot_some, zE, zQ, qt, qz, zu, Sum.elim_inl, Sum.elim_inr, decide_eq_true_eq, decide_eq_false_iff_not, Int.toNat_natCast]
 refine ⟨fun hlt => ⟨by omega, _, List.getElem?_eq_getElem (by omega), ?_⟩, fun hlt => fun _ => by omega⟩
 rw [zj7 _ (by have := hn ns[k] (List.getElem_mem _); omega), tot_some]
 refine ⟨fun _ h => absurd h (by decide), fun _ => ⟨⟨by omega, by omega⟩, ?_⟩⟩
 rw [xe _ _ (by simp; omega), tot_some]
 refine ⟨fun _ h => absurd h (by decide), fun _ => ?_⟩
 rw [w64 (by omega) (by omega)]
 exact ⟨by omega, by omega⟩
end Go.Sx.O
namespace Go.Sx.O
open Go
def U8s (l : List Int) : Prop := ∀ x ∈ l, 0 <= x /\ x < 256
theorem U8s.get {l : List Int} (h : U8s l) {i : Nat} {x : Int} (hx : l[i]? = some x) : 0 <= x /\ x < 256 := h x (List.mem_of_getElem? hx)
theorem U8s.set {l : List Int} (h : U8s l) {i : Nat} {x : Int} (h0 : 0 <= x) (h1 : x < 256) : U8s (l.set i x) := by
 intro y hy
 rcases List.mem_or_eq_of_mem_set hy with g | g
 . exact h y g
 . subst g; exact ⟨h0, h1⟩
theorem znz {e : Int} : 0 <= IntKind.wrap .u8 e /\ IntKind.wrap .u8 e < 256 := by
 simp only [IntKind.wrap, IntKind.signed, IntKind.bits, Bool.false_and]
 have h3 : (2 : Int) ^ 8 = 256 := by decide
 simp only [h3]
 refine ⟨?_, ?_⟩ <;> simp <;> omega
theorem orU {a b : Int} (ha : 0 <= a) (ha' : a < 256) (hb : 0 <= b) (hb' : b < 256) : 0 <= bits .or .u8 a b /\ bits .or .u8 a b < 256 := by
 rw [zp0 ha ha' hb hb']
 have := zB3 (a := a.toNat) (b := b.toNat) (by omega) (by omega)
 omega
theorem zB {α : Type} {l : List α} {i : Nat} (h : i < l.length) : ∃ x, l[i]? = some x := ⟨_, List.getElem?_eq_getElem h⟩
theorem zws (l : TL) (hu : U8s l.Up) (hn : l.Names.length <= 8) (hl : l.Up.length <= 8) :
 Tot (zdf l) fun o => o.n_ = l.Names.length /\ o.up_.length = 8 /\ o.down_.length = 8 /\ U8s o.up_ /\ U8s o.down_ := by
 unfold zdf
 simp only [zu, List.length_map]
 refine Tot.count l.Up.length (fun k s => s.1 = (k : Int) /\ s.2.1.length = 8 /\ s.2.2.length = 8 /\ U8s s.2.1 /\ U8s s.2.2) ?_ ⟨rfl, rfl, rfl, by intro x hx; simp at hx; omega, by intro x hx; simp at hx; omega⟩
 rintro k ⟨i, up, down⟩ hk ⟨h0, h1, h2, h3, h4⟩
 simp only at h0 h1 h2 h3 h4
 subst h0
 simp only [tot_some, zE, zQ, qt, qz, zu, Sum.elim_inl, Sum.elim_inr, decide_eq_true_eq, decide_eq_false_iff_not, Int.toNat_natCast]
 refine ⟨fun hlt => ?_, fun hlt => ⟨trivial, h1, h2, h3, h4⟩⟩
 obtain ⟨x, hx⟩ := zB (l := l.Up) (i := k) (by omega)
 obtain ⟨y, hy⟩ := zB (l := up) (i := k) (by omega)
 refine ⟨by omega, x, hx, ⟨by omega, by omega⟩, by omega, y, hy, ?_⟩
 have hx' := hu.get hx
 refine Tot.count l.Names.length (fun j s => s.1 = (j : Int) /\ s.2.length = 8 /\ U8s s.2) ?_ ⟨rfl, h2, h4⟩
 rintro j ⟨i', d⟩ hj ⟨g0, g1, g2⟩
 simp only at g0 g1 g2
 subst g0
 simp only [tot_some, zE, zQ, qt, qz, zu, Sum.elim_inl, Sum.elim_inr, decide_eq_true_eq, decide_eq_false_iff_not, Int.toNat_natCast]
 refine ⟨fun hlt' => ?_, fun _ => ?_⟩
 . obtain ⟨z, hz⟩ := zB (l := d) (i := j) (by omega)
   have hz' := g2.get hz
   rw [w64 (by omega) (by omega)]
   refine ⟨⟨by omega, by omega⟩, by omega, z, hz, by omega, by omega, ⟨by omega, by omega⟩, by omega, z, hz, by omega, by omega, by simpa using g1, ?_⟩
   have hw := znz (e := bits .and .u8 (Int.fdiv x (2 ^ min j (IntKind.bits .u8))) 1 * 2 ^ min k (IntKind.bits .u8))
   have ho := orU hz'.1 hz'.2 hw.1 hw.2
   exact g2.set ho.1 ho.2
 . rw [w64 (by omega) (by omega)]
   exact ⟨by omega, by omega, by simpa using h1, g1, h3.set hx'.1 hx'.2, g2⟩
theorem za5 (m : List Int) (n : Nat) (a b : Nat) (hm : m.length = 8) (hu : U8s m) (hn : n <= 8) (ha : a < n) (hb : b < n) : Tot (zf2 m n a b) fun _ => True := by
 unfold zf2
 obtain ⟨x, hx⟩ := zB (l := m) (i := a) (by omega)
 obtain ⟨y, hy⟩ := zB (l := m) (i := b) (by omega)
 simp only [tot_some, zE, zQ, qt, qz, zu, Int.toNat_natCast]
 refine ⟨⟨by omega, by omega⟩, by omega, x, hx, ⟨by omega, by omega⟩, by omega, y, hy, ?_⟩
 refine Tot.count n (fun k s => s = (k : Int)) ?_ rfl
 rintro k _ hk rfl
 simp only [tot_some, zE, zQ, qt, qz, zu, Sum.elim_inl, Sum.elim_inr, decide_eq_true_eq, decide_eq_false_iff_not, Int.toNat_natCast]
 refine ⟨fun hlt => ⟨by omega, fun _ => ?_, fun _ => ?_⟩, fun _ => trivial⟩
 . obtain ⟨z, hz⟩ := zB (l := m) (i := k) (by omega)
   rw [w64 (by omega) (by omega)]
   exact ⟨⟨by omega, by omega⟩, by omega, z, hz, fun _ => trivial, fun _ => ⟨by omega, by omega⟩⟩
 . rw [w64 (by omega) (by omega)]
   exact ⟨by omega, by omega⟩
theorem zey (m : List Int) (n : Nat) (a b : Nat) (hm : m.length = 8) (hu : U8s m) (hn : n <= 8) (ha : a < n) (hb : b < n) : Tot (zl0 m n a b) fun _ => True := za5 m n a b hm hu hn ha hb
theorem zsh (x : Int) (h0 : 0 <= x) (h1 : x < 256) : Tot (zgl x) fun _ => True := by
 unfold zgl
 rw [qt]
 refine ⟨h0, ?_⟩
 have key : ∀ l : List UInt8, l.length = 256 -> ∃ y, l[x.toNat]? = some y /\ Tot (zg (IntKind.wrap .i64 (y.toNat : Int)) fun z => some z) fun _ => True := by
  intro l hl
  obtain ⟨y, hy⟩ := zB (l := l) (i := x.toNat) (by omega)
  exact ⟨y, hy, .mk trivial⟩
 exact key _ (by decide +kernel)
def up (l : TL) (a b : Nat) : Bool := (l.Up.getD a 0).toNat.testBit b
def ua (l : TL) (a b : Nat) : Prop := up l a b = true -> (b ≠ a -> up l b a = false) /\ ∀ i, i < l.Names.length -> up l b i = true -> up l a i = true
structure LatOK (l : TL) : Prop where
 pos : 1 <= l.Names.length
 le : l.Names.length <= 8
 len : l.Up.length = l.Names.length
 u8 : U8s l.Up
 self : ∀ a, a < l.Names.length -> up l a a = true
 row : ∀ a, a < l.Names.length -> ∀ b, b < l.Names.length -> ua l a b
theorem jL {l : TL} {a : Nat} {x : Int} (h : l.Up[a]? = some x) (b : Nat) : up l a b = x.toNat.testBit b := by
 unfold up; rw [List.getD_eq_getElem?_getD, h]; rfl
theorem zow (n : Nat) (h : n <= 8) (i : Nat) : (IntKind.wrap .u8 (IntKind.wrap .u8 (1 * 2 ^ min n (IntKind.bits .u8)) - 1)).toNat.testBit i = decide (i < n) := by
 have key : ∀ n : Fin 9, (IntKind.wrap .u8 (IntKind.wrap .u8 (1 * 2 ^ min n.val (IntKind.bits .u8)) - 1)).toNat = 2 ^ n.val - 1 := by decide +kernel
 rw [key ⟨n, by omega⟩]
 exact Nat.testBit_two_pow_sub_one n i
theorem zjr (l : TL) (hu : U8s l.Up) (hn : l.Names.length <= 20) (hs : ∀ s ∈ l.Names, s.length <= 1000) : Tot (uW l) fun r => r.2 = 0 -> LatOK l := by
 unfold uW
 simp only [zu, List.length_map]
 refine (zpb l.Names hn hs).mono fun x53 h53 => ?_
 simp only [zE, tot_some, Bool.not_eq_true', Bool.not_eq_false', decide_eq_true_eq, decide_eq_false_iff_not]
 refine ⟨fun h h' => absurd h' h, fun h => ⟨fun _ h' => absurd h' (by decide), fun hlen => ?_⟩⟩
 obtain ⟨p1, p8⟩ := h53 h
 have hlen' : l.Up.length = l.Names.length := by omega
 rw [qz, zQ, zQ, zu]
 refine ⟨by omega, ?_⟩
 rw [Int.toNat_natCast]
 have hmask := zow l.Names.length p8
 have hm0 := znz (e := IntKind.wrap .u8 (1 * 2 ^ min l.Names.length (IntKind.bits .u8)) - 1)
 revert hmask hm0
 generalize IntKind.wrap .u8 (IntKind.wrap .u8 (1 * 2 ^ min l.Names.length (IntKind.bits .u8)) - 1) = mask
 intro hmask hm0
 refine Tot.count l.Names.length (fun k s => s = (k : Int) /\ (∀ a, a < k -> up l a a = true) /\ ∀ a, a < k -> ∀ b, b < l.Names.length -> ua l a b) ?_ ⟨rfl, fun a ha => absurd ha (by omega), fun a ha => absurd ha (by omega)⟩
 rintro k _ hk ⟨rfl, hself, hrow⟩
 simp only [zE, tot_some, zQ, Sum.elim_inl, Sum.elim_inr, decide_eq_true_eq, decide_eq_false_iff_not]
 refine ⟨fun hlt => ?_, fun hlt => ?_⟩
 . -- a round
   simp only [qt, Int.toNat_natCast]
   obtain ⟨x, hx⟩ := zB (l := l.Up) (i := k) (by omega)
   have hx' := hu.get hx
   refine ⟨by omega, x, hx, ?_⟩
   rw [zu]
   refine (zsh x hx'.1 hx'.2).mono fun x91 _ => ?_
   simp only [zE, tot_some, qz, Sum.elim_inl, Sum.elim_inr, decide_eq_true_eq, decide_eq_false_iff_not, Int.toNat_natCast]
   refine ⟨fun _ h' => absurd h' (by decide), fun _ => ⟨by omega, fun _ h' => absurd h' (by decide), fun hs => ?_⟩⟩
   rw [zb9 hx'.1 hx'.2 (by omega), <- jL hx] at hs
   have hkk : up l k k = true := by
    cases e : up l k k with
    | true => rfl
    | false => rw [e] at hs; simp at hs
   rw [zu]
   refine Tot.count l.Names.length (fun j s => s = (j : Int) /\ ∀ b, b < j -> ua l k b) ?_ ⟨rfl, fun b hb => absurd hb (by omega)⟩
   rintro j _ hj ⟨rfl, hr⟩
   have fin : (∀ b, b < l.Names.length -> ua l k b) -> k < l.Names.length /\ IntKind.wrap .i64 ((k : Int) + 1) = ((k + 1 : Nat) : Int) /\ (∀ a, a < k + 1 -> up l a a = true) /\ ∀ a, a < k + 1 -> ∀ b, b < l.Names.length -> ua l a b := by
    intro hall
    rw [w64 (by omega) (by omega)]
    refine ⟨by omega, by omega, fun a ha => ?_, fun a ha => ?_⟩
    . rcases Nat.lt_or_ge a k with g | g
      . exact hself a g
      . have : a = k := by omega
        subst this; exact hkk
    . rcases Nat.lt_or_ge a k with g | g
      . exact hrow a g
      . have : a = k := by omega
        subst this; exact hall
   have ext : ∀ {b}, ua l k j -> b < j + 1 -> ua l k b := by
    intro b h hb
    rcases Nat.lt_or_ge b j with g | g
    . exact hr b g
    . have : b = j := by omega
      subst this; exact h
   simp only [zE, tot_some, zQ, qz, Sum.elim_inl, Sum.elim_inr, decide_eq_true_eq, decide_eq_false_iff_not, Bool.not_eq_true', Bool.not_eq_false', Int.toNat_natCast]
   refine ⟨fun hjl => ?_, fun hjl => ?_⟩
   . simp only [qt, Int.toNat_natCast]
     obtain ⟨y, hy⟩ := zB (l := l.Up) (i := j) (by omega)
     have hy' := hu.get hy
     refine ⟨by omega, y, hy, ?_⟩
     simp only [zE, tot_some, zQ, qz, Sum.elim_inl, Sum.elim_inr, decide_eq_true_eq, decide_eq_false_iff_not, Bool.not_eq_true', Bool.not_eq_false', Int.toNat_natCast]
     rw [zb9 hx'.1 hx'.2 (by omega), <- jL hx]
     rw [w64 (e := (l.Names.length : Int) - 1) (by omega) (by omega)]
     have stay : ua l k j -> ((j : Int) = (l.Names.length : Int) - 1 -> k < l.Names.length /\ IntKind.wrap .i64 ((k : Int) + 1) = ((k + 1 : Nat) : Int) /\ (∀ a, a < k + 1 -> up l a a = true) /\ ∀ a, a < k + 1 -> ∀ b, b < l.Names.length -> ua l a b) /\ (¬ (j : Int) = (l.Names.length : Int) - 1 -> j < l.Names.length /\ IntKind.wrap .i64 ((j : Int) + 1) = ((j + 1 : Nat) : Int) /\ ∀ b, b < j + 1 -> ua l k b) := by
      intro hrow'
      refine ⟨fun e => fin fun b hb => ext hrow' (by omega), fun e => ?_⟩
      rw [w64 (by omega) (by omega)]
      exact ⟨by omega, by omega, fun b hb => ext hrow' hb⟩
     refine ⟨by omega, fun hb => ?_, fun hb => ⟨fun hne => ⟨by omega, fun _ h' => absurd h' (by decide), fun hba => ⟨fun _ h' => absurd h' (by decide), fun han => ?_⟩⟩, fun heq => ⟨fun _ h' => absurd h' (by decide), fun han => ?_⟩⟩⟩
     . refine stay fun hup => ?_
       rw [hup] at hb; simp at hb
     . refine stay fun _ => ⟨fun _ => ?_, fun i hi hyi => ?_⟩
       . rw [zb9 hy'.1 hy'.2 (by omega), <- jL hy] at hba
         cases e : up l j k with
         | false => rfl
         | true => rw [e] at hba; simp at hba
       . rw [zbr hy'.1 hy'.2 hm0.1 hm0.2] at han
         have hand := zc8 (a := y.toNat) (b := mask.toNat) (by omega)
         have := (zbd (by omega) (by omega) hx'.1 hx'.2).1 han i (by
          rw [Int.toNat_natCast, Nat.testBit_and, hmask, <- jL hy, hyi]; simp [hi])
         rw [jL hx]; exact this
     . refine stay fun _ => ⟨fun hne => absurd (by omega) hne, fun i hi hyi => ?_⟩
       rw [zbr hy'.1 hy'.2 hm0.1 hm0.2] at han
       have hand := zc8 (a := y.toNat) (b := mask.toNat) (by omega)
       have := (zbd (by omega) (by omega) hx'.1 hx'.2).1 han i (by
        rw [Int.toNat_natCast, Nat.testBit_and, hmask, <- jL hy, hyi]; simp [hi])
       rw [jL hx]; exact this
   . exact fin fun b hb => hr b (by omega)
 . -- the end
   have hk' : k = l.Names.length := by omega
   subst hk'
   have good : LatOK l := ⟨p1, p8, hlen', hu, hself, hrow⟩
   rw [zu]
   refine (zws l hu p8 (by omega)).mono fun o ho => ?_
   obtain ⟨_, o1, o2, o3, o4⟩ := ho
   rw [zu]
   refine Tot.count l.Names.length (fun j s => s = (j : Int)) ?_ rfl
   rintro j _ hj rfl
   simp only [zE, tot_some, zQ, zu, Sum.elim_inl, Sum.elim_inr, decide_eq_true_eq, decide_eq_false_iff_not]
   refine ⟨fun hlt => ?_, fun _ _ => good⟩
   refine Tot.count l.Names.length (fun i s => s = (i : Int)) ?_ rfl
   rintro i _ hi rfl
   simp only [zE, tot_some, zQ, zu, Sum.elim_inl, Sum.elim_inr, decide_eq_true_eq, decide_eq_false_iff_not]
   refine ⟨fun hlt' => ?_, fun _ => ?_⟩
   . refine (za5 _ _ _ _ o1 o3 p8 (by omega) (by omega)).mono fun b1 _ => ⟨fun _ h' => absurd h' (by decide), fun _ => ?_⟩
     refine (zey _ _ _ _ o2 o4 p8 (by omega) (by omega)).mono fun b2 _ => ⟨fun _ h' => absurd h' (by decide), fun _ => ?_⟩
     rw [w64 (by omega) (by omega)]
     exact ⟨by omega, by omega⟩
   . rw [w64 (by omega) (by omega)]
     exact ⟨by omega, by omega⟩
end Go.Sx.O
noncomputable section
namespace Go.Sx.O
open Go
structure LatIn (l : TL) : Prop where
 u8 : U8s l.Up
 names : l.Names.length <= 20
 name : ∀ s ∈ l.Names, s.length <= 1000
def qy (l : TL) : Int × Int := (uW l).getD (0, 0)
theorem zb2 {l : TL} (h : LatIn l) : uW l = some (qy l) := by
 obtain ⟨r, e, _⟩ := zjr l h.u8 h.names h.name
 unfold qy; rw [e]; rfl
theorem yv {l : TL} (h : LatIn l) (k : (qy l).2 = 0) : LatOK l := by
 obtain ⟨r, e, q⟩ := zjr l h.u8 h.names h.name
 have := zb2 h
 rw [e] at this; cases this
 exact q k
def wz (l : TL) (a : Int) : Bool := decide (0 <= a) && decide (a < (l.Names.length : Int))
def zb3 (l : TL) (xs : List Int) : Int := if (qy l).2 = 0 then (if xs.all (wz l) then 0 else 7) else (qy l).2
theorem zpq {l : TL} (h : LatIn l) (xs : List Int) (hx : xs.length <= 1000000000) : zmr l xs = some (zb3 l xs) := by
 unfold zmr zb3
 rw [zb2 h]
 simp only [Option.bind_some]
 by_cases h0 : (qy l).2 = 0
 . simp only [h0, decide_true, Bool.not_true, cond_false, if_true]
   apply Tot.eq
   simp only [zu, List.length_map]
   refine Tot.count xs.length (fun k s => s = (k : Int) /\ (xs.take k).all (wz l) = true) ?_ ⟨rfl, by simp⟩
   rintro k _ hk ⟨rfl, hall⟩
   simp only [zE, tot_some, zQ, qt, Sum.elim_inl, Sum.elim_inr, decide_eq_true_eq, decide_eq_false_iff_not, Int.toNat_natCast]
   refine ⟨fun hlt => ?_, fun hlt => ?_⟩
   . obtain ⟨x, hx'⟩ := zB (l := xs) (i := k) (by omega)
     have hm := List.mem_of_getElem? hx'
     have bad : wz l x = false -> (7 : Int) = if xs.all (wz l) = true then 0 else 7 := by
      intro e
      have : xs.all (wz l) = false := by
       rw [List.all_eq_false]; exact ⟨x, hm, by simp [e]⟩
      simp [this]
     refine ⟨by omega, x, hx', fun g => bad (by unfold wz; simp; omega), fun g1 => ⟨fun g => bad (by unfold wz; simp; omega), fun g2 => ?_⟩⟩
     rw [w64 (by omega) (by omega)]
     refine ⟨by omega, by omega, ?_⟩
     rw [List.take_add_one, hx', List.all_append, hall]
     simp [wz]; omega
   . rw [List.take_of_length_le (by omega)] at hall
     simp [hall]
 . simp only [h0, decide_false, Bool.not_false, cond_true, if_false]
def zwi (l : TL) (a o : Int) : Bool := decide ((qy l).2 = 0) && wz l a && wz l o && up l a.toNat o.toNat
end Go.Sx.O
end
namespace Go.Sx.O
open Go
theorem zay (x : Int) : Tot (zcw x) fun _ => True := by
 unfold zcw
 simp only [zE, tot_some, implies_true, and_self]
end Go.Sx.O
namespace Go.Sx.O
open Go
theorem zic {l : List UInt8} {c : UInt8} (h : c ∉ l) : Lib.indexByte l c = -1 := by
 induction l with
 | nil => rfl
 | cons a l ih =>
   simp only [List.mem_cons, not_or] at h
   have : (a == c) = false := by simp; exact fun e => h.1 e.symm
   simp [Lib.indexByte, this, ih h.2]
theorem zu2 {r : Int} (h0 : 128 <= r) (h1 : r < 256) : ∃ x y, (Utf8.encode r).data.toList = [x, y] /\ 128 <= y.toNat := by
 refine ⟨UInt8.ofNat (0xC0 + r.toNat / 64), UInt8.ofNat (0x80 + r.toNat % 64), ?_, ?_⟩
 . have hv : Utf8.valid r = true := by unfold Utf8.valid; simp; omega
   unfold Utf8.encode
   simp only [hv, if_true]
   rw [if_neg (by omega), if_pos (by omega)]
 . rw [UInt8.toNat_ofNat']; omega
theorem zg3 (s : List UInt8) (r : Int) (hs : ∀ c ∈ s, c.toNat < 128) (hl : s.length <= 1000) (h0 : 0 <= r) (h1 : r < 256) : Tot (zgg s r) fun _ => True := by
 unfold zgg
 have e0 : decide (0 <= r) = true := by simp [h0]
 simp only [e0, cond_true]
 rw [zE]
 refine ⟨fun _ => ?_, fun h2 => ?_⟩
 . rw [zQ, zu]
   unfold zci qi
   simp only [Option.bind_some, tot_some]
 . simp only [decide_eq_false_iff_not] at h2
   obtain ⟨x, y, exy, hy⟩ := zu2 (r := r) (by omega) h1
   have e1 : decide (r = 65533) = false := by simp; omega
   simp only [e1, cond_false, exy]
   rw [zu]
   refine (zay r).mono fun v _ => ?_
   rw [zE]
   refine ⟨fun _ => .mk trivial, fun _ => ?_⟩
   rw [zQ]
   have e2 : IntKind.wrap .i64 (((List.length [x, y] : Nat) : Int) - 1) = 1 := rfl
   rw [e2, zu]
   refine Tot.loop (fun _ => 0) (fun _ => True) (fun _ _ => ?_) trivial
   rw [zE]
   refine ⟨fun h3 => ?_, fun _ => ?_⟩
   . simp only [decide_eq_true_eq] at h3
     obtain ⟨c, hc⟩ := zB (l := s) (i := 1) (by omega)
     have hc' := hs c (List.mem_of_getElem? hc)
     have e3 : (1 : Int).toNat = 1 := rfl
     simp only [qt, e3]
     refine ⟨by omega, c, hc, by omega, y, rfl, ?_⟩
     have e4 : decide ((c.toNat : Int) = (y.toNat : Int)) = false := by simp; omega
     simp only [e4, Bool.not_false, cond_true]
     rw [zQ]
     have e5 : IntKind.wrap .i64 (1 + 1) = 2 := rfl
     rw [e5, qz]
     refine ⟨by omega, ?_⟩
     simp only [qt, e3]
     refine ⟨by omega, y, rfl, ?_⟩
     unfold zci qi
     simp only [Option.bind_some]
     have hn : ((y.toNat : Int).toNat.toUInt8) = y := by simp
     rw [hn, zic (fun hm => by
      have := hs y (List.mem_of_mem_take (List.mem_of_mem_drop hm))
      omega)]
     have e6 : decide ((-1 : Int) < 0) = true := rfl
     simp only [e6, cond_true, tot_some, Sum.elim_inr]
   . simp only [tot_some, Sum.elim_inr, Sum.elim_inl]
theorem zd6 (s : List UInt8) (r : Int) (hs : ∀ c ∈ s, c.toNat < 128) (hl : s.length <= 1000) (h0 : 0 <= r) (h1 : r < 256) : Tot (xm s r) fun _ => True := by
 unfold xm
 rw [zu]
 exact (zg3 s r hs hl h0 h1).mono fun _ _ => .mk trivial
theorem zm9 {r : Int} (h0 : 0 <= r) (h1 : r < 256) : IntKind.wrap .i32 r = r := by
 simp only [IntKind.wrap, IntKind.signed, IntKind.bits]
 have h3 : (2 : Int) ^ 32 = 4294967296 := by decide
 have h4 : (2 : Int) ^ (32 - 1) = 2147483648 := by decide
 simp only [h3, h4, Bool.true_and, decide_eq_true_eq, ge_iff_le]
 split <;> omega
end Go.Sx.O
