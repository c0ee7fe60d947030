/-
  An own text of this claim.
-/
import Derived.Test.YtljdcgnbdomlhaaGreatDoorA6
import Derived.Lib.Bytealg
namespace Go.Sx.O
structure TR where
 s_ : List UInt8
 at_ : Int
def zZ (x : TR) : SV := .agg [SV.str x.s_, (SV.int .i64) x.at_]
theorem zCs {p : Nat -> Prop} (x : TR) : (zZ x).nmd p := ⟨trivial, trivial, trivial⟩
structure TF where
 low_ : Int
 high_ : Int
def zCx (x : TF) : SV := .agg [(SV.int .i64) x.low_, (SV.int .i64) x.high_]
theorem zG3 {p : Nat -> Prop} (x : TF) : (zCx x).nmd p := ⟨trivial, trivial, trivial⟩
structure TL where
 Names : List (List UInt8)
 Up : List (Int)
def zH (x : TL) : SV := .agg [(zf 1 SV.str) x.Names, (zf 1 (SV.int .u8)) x.Up]
theorem zvw {p : Nat -> Prop} (x : TL) : (zH x).nmd p := ⟨(yn fun _ => trivial), (yn fun _ => trivial), trivial⟩
structure TU where
 From : Int
 Goal : Int
 K : Int
def wK (x : TU) : SV := .agg [(SV.int .i64) x.From, (SV.int .i64) x.Goal, (SV.int .i64) x.K]
theorem zBr {p : Nat -> Prop} (x : TU) : (wK x).nmd p := ⟨trivial, trivial, trivial, trivial⟩
structure TG where
 Lattice : TL
 bottom_ : Int
def yX (x : TG) : SV := .agg [zH x.Lattice, (SV.int .i64) x.bottom_]
theorem zG4 {p : Nat -> Prop} (x : TG) : (yX x).nmd p := ⟨(zvw _), trivial, trivial⟩
structure TK where
 Kind : Int
 From : Int
 To : Int
 N : Int
 S : List UInt8
def qa (x : TK) : SV := .agg [(SV.int .i64) x.Kind, (SV.int .i64) x.From, (SV.int .i64) x.To, (SV.int .i64) x.N, SV.str x.S]
theorem zG9 {p : Nat -> Prop} (x : TK) : (qa x).nmd p := ⟨trivial, trivial, trivial, trivial, trivial, trivial⟩
structure Tlattice_order where
 n_ : Int
 up_ : List (Int)
 down_ : List (Int)
def qs (x : Tlattice_order) : SV := .agg [(SV.int .i64) x.n_, (zI 8 1 (SV.int .u8)) x.up_, (zI 8 1 (SV.int .u8)) x.down_]
theorem zvh {p : Nat -> Prop} (x : Tlattice_order) : (qs x).nmd p := ⟨trivial, (yn fun _ => trivial), (yn fun _ => trivial), trivial⟩
structure TY where
 Kind : Int
 Rank : Int
 Axes : (Int) × (Int)
 Data : Int
def qH (x : TY) : SV := .agg [(SV.int .i64) x.Kind, (SV.int .i64) x.Rank, (zO 1 (SV.int .i64)) x.Axes, (SV.int .i64) x.Data]
theorem zn2 {p : Nat -> Prop} (x : TY) : (qH x).nmd p := ⟨trivial, trivial, ⟨trivial, trivial, trivial⟩, trivial, trivial⟩
structure TA where
 Kind : Int
 Rank : Int
 Lens : (Int) × (Int)
 Cells : List (Int)
def qk (x : TA) : SV := .agg [(SV.int .i64) x.Kind, (SV.int .i64) x.Rank, (zO 1 (SV.int .i64)) x.Lens, (zf 1 (SV.int .i64)) x.Cells]
theorem zvq {p : Nat -> Prop} (x : TA) : (qk x).nmd p := ⟨trivial, trivial, ⟨trivial, trivial, trivial⟩, (yn fun _ => trivial), trivial⟩
structure TV where
 Name : List UInt8
 Type_ : TY
def zS (x : TV) : SV := .agg [SV.str x.Name, qH x.Type_]
theorem zCv {p : Nat -> Prop} (x : TV) : (zS x).nmd p := ⟨trivial, (zn2 _), trivial⟩
structure TW where
 Name : List UInt8
 Value : TA
def zj (x : TW) : SV := .agg [SV.str x.Name, qk x.Value]
theorem zCr {p : Nat -> Prop} (x : TW) : (zj x).nmd p := ⟨trivial, (zvq _), trivial⟩
structure TE where
 Site : Int
 Fold : Int
 From : Int
 Goal : Int
 Cells : Int
 Value : (Int) × (Int)
def zvb (x : TE) : SV := .agg [(SV.int .i64) x.Site, (SV.int .i64) x.Fold, (SV.int .i64) x.From, (SV.int .i64) x.Goal, (SV.int .i64) x.Cells, (zO 1 (SV.int .i64)) x.Value]
theorem zCw {p : Nat -> Prop} (x : TE) : (zvb x).nmd p := ⟨trivial, trivial, trivial, trivial, trivial, ⟨trivial, trivial, trivial⟩, trivial⟩
structure TEvEvent where
 Kind : Int
 Site : Int
 Steps : Int
 Label : Int
 Channel : List UInt8
 Value : TA
 E : Int
def zd4 (x : TEvEvent) : SV := .agg [(SV.int .i64) x.Kind, (SV.int .i64) x.Site, (SV.int .i64) x.Steps, (SV.int .i64) x.Label, SV.str x.Channel, qk x.Value, (SV.int .i64) x.E]
theorem zp5 {p : Nat -> Prop} (x : TEvEvent) : (zd4 x).nmd p := ⟨trivial, trivial, trivial, trivial, trivial, (zvq _), trivial, trivial⟩
structure TP where
 Lattice : TL
 Channels : List (TR)
 Vars : List (TV)
 Rules : List (TU)
def zy (x : TP) : SV := .agg [zH x.Lattice, (zf 2 zZ) x.Channels, (zf 6 zS) x.Vars, (zf 3 wK) x.Rules]
theorem zG7 {p : Nat -> Prop} (x : TP) : (zy x).nmd p := ⟨(zvw _), (yn fun _ => (zCs _)), (yn fun _ => (zCv _)), (yn fun _ => (zBr _)), trivial⟩
structure Tinvigilatorlaw28_Types where
 V : TY
 Y : TY
 From : Int
 Goal : Int
 PC : Int
 EC : Int
 Lower : Int
 Top : Int
def um (x : Tinvigilatorlaw28_Types) : SV := .agg [qH x.V, qH x.Y, (SV.int .i64) x.From, (SV.int .i64) x.Goal, (SV.int .i64) x.PC, (SV.int .i64) x.EC, (SV.int .i64) x.Lower, (SV.int .i64) x.Top]
theorem zlm {p : Nat -> Prop} (x : Tinvigilatorlaw28_Types) : (um x).nmd p := ⟨(zn2 _), (zn2 _), trivial, trivial, trivial, trivial, trivial, trivial, trivial⟩
structure TC where
 Events : List (TEvEvent)
 Log : List (TE)
 Vars : List (TW)
 Steps : Int
def zB8 (x : TC) : SV := .agg [(zf 11 zd4) x.Events, (zf 7 zvb) x.Log, (zf 6 zj) x.Vars, (SV.int .i64) x.Steps]
theorem zG8 {p : Nat -> Prop} (x : TC) : (zB8 x).nmd p := ⟨(yn fun _ => (zp5 _)), (yn fun _ => (zCw _)), (yn fun _ => (zCr _)), trivial, trivial⟩
end Go.Sx.O
noncomputable section
namespace Go.Sx.O
def qo (a0 : List UInt8) (a1 : Int) : Option Int := some (Go.Lib.indexByte a0 a1.toNat.toUInt8)
def zF1 : List Int := [0, 1, 2, 2, 3, 3, 3, 3, 4, 4, 4, 4, 4]
def zzc (a0 : Int) : Option Int := if 0 <= a0 then zF1[a0.toNat]? else none
end Go.Sx.O
end
namespace Go.Sx.O
open Go
def inK (k : IntKind) (n : Int) : Prop := k.min <= n /\ n <= k.max
def yH {α : Type} (W : α -> Prop) (l : List α) : Prop := ∀ x ∈ l, W x
def w2 {α : Type} (W : α -> Prop) (p : α × α) : Prop := W p.1 /\ W p.2
def w3 {α : Type} (W : α -> Prop) (p : α × α × α) : Prop := W p.1 /\ W p.2.1 /\ W p.2.2
def wN {α : Type} (n : Nat) (W : α -> Prop) (l : List α) : Prop := l.length = n /\ ∀ x ∈ l, W x
structure W_TR (x : TR) : Prop where
 s_ : (fun _ => True) x.s_
 at_ : (inK .i64) x.at_
structure W_TF (x : TF) : Prop where
 low_ : (inK .i64) x.low_
 high_ : (inK .i64) x.high_
structure W_TL (x : TL) : Prop where
 Names : (yH (fun _ => True)) x.Names
 Up : (yH (inK .u8)) x.Up
structure W_TU (x : TU) : Prop where
 From : (inK .i64) x.From
 Goal : (inK .i64) x.Goal
 K : (inK .i64) x.K
structure W_TG (x : TG) : Prop where
 Lattice : W_TL x.Lattice
 bottom_ : (inK .i64) x.bottom_
structure W_TK (x : TK) : Prop where
 Kind : (inK .i64) x.Kind
 From : (inK .i64) x.From
 To : (inK .i64) x.To
 N : (inK .i64) x.N
 S : (fun _ => True) x.S
structure W_Tlattice_order (x : Tlattice_order) : Prop where
 n_ : (inK .i64) x.n_
 up_ : (wN 8 (inK .u8)) x.up_
 down_ : (wN 8 (inK .u8)) x.down_
structure W_TY (x : TY) : Prop where
 Kind : (inK .i64) x.Kind
 Rank : (inK .i64) x.Rank
 Axes : (w2 (inK .i64)) x.Axes
 Data : (inK .i64) x.Data
structure W_TA (x : TA) : Prop where
 Kind : (inK .i64) x.Kind
 Rank : (inK .i64) x.Rank
 Lens : (w2 (inK .i64)) x.Lens
 Cells : (yH (inK .i64)) x.Cells
structure W_TV (x : TV) : Prop where
 Name : (fun _ => True) x.Name
 Type_ : W_TY x.Type_
structure W_TW (x : TW) : Prop where
 Name : (fun _ => True) x.Name
 Value : W_TA x.Value
structure W_TE (x : TE) : Prop where
 Site : (inK .i64) x.Site
 Fold : (inK .i64) x.Fold
 From : (inK .i64) x.From
 Goal : (inK .i64) x.Goal
 Cells : (inK .i64) x.Cells
 Value : (w2 (inK .i64)) x.Value
structure W_TEvEvent (x : TEvEvent) : Prop where
 Kind : (inK .i64) x.Kind
 Site : (inK .i64) x.Site
 Steps : (inK .i64) x.Steps
 Label : (inK .i64) x.Label
 Channel : (fun _ => True) x.Channel
 Value : W_TA x.Value
 E : (inK .i64) x.E
structure W_TP (x : TP) : Prop where
 Lattice : W_TL x.Lattice
 Channels : (yH W_TR) x.Channels
 Vars : (yH W_TV) x.Vars
 Rules : (yH W_TU) x.Rules
structure W_Tinvigilatorlaw28_Types (x : Tinvigilatorlaw28_Types) : Prop where
 V : W_TY x.V
 Y : W_TY x.Y
 From : (inK .i64) x.From
 Goal : (inK .i64) x.Goal
 PC : (inK .i64) x.PC
 EC : (inK .i64) x.EC
 Lower : (inK .i64) x.Lower
 Top : (inK .i64) x.Top
structure W_TC (x : TC) : Prop where
 Events : (yH W_TEvEvent) x.Events
 Log : (yH W_TE) x.Log
 Vars : (yH W_TW) x.Vars
 Steps : (inK .i64) x.Steps
end Go.Sx.O
noncomputable section
namespace Go.Sx.O
def Fz0 (a0 : List (List UInt8)) : Option (Bool) :=
 Option.bind (
 lpO (fun (s25 : Int) =>
 cond (decide (s25 < (↑(List.length (List.map SV.str a0)) : Int)))
 (cond (decide (s25 < 20))
 (zi a0 s25 fun x31 =>
 cond (decide (100 < (↑(List.length x31) : Int)))
 (some (.inr (.inr (true))))
 (zg (IntKind.wrap .i64 (s25 + 1)) fun x33 =>
 some (.inl x33)))
 (some (.inr (.inl ()))))
 (some (.inr (.inl ())))) (0))
 (Sum.elim (fun (_ : Unit) =>
 some (decide (12 < (↑(List.length (List.map SV.str a0)) : Int)))) some)
def Fz1 (a0 : TL) : Option (Bool) :=
 (Fz0 (a0.Names)).bind fun x34 =>
 cond x34
 (some (true))
 (some (decide (12 < (↑(List.length (List.map (SV.int .u8) a0.Up)) : Int))))
def Fz2 (a0 : TP) : Option (Bool) :=
 Option.bind (
 lpO (fun (s3 : Int) =>
 cond (decide (s3 < (↑(List.length (List.map zZ a0.Channels)) : Int)))
 (cond (decide (s3 < 25))
 (zi (a0.Channels) s3 fun x9 =>
 cond (decide (100 < (↑(List.length x9.s_) : Int)))
 (some (.inr (.inr (true))))
 (zg (IntKind.wrap .i64 (s3 + 1)) fun x11 =>
 some (.inl x11)))
 (some (.inr (.inl ()))))
 (some (.inr (.inl ())))) (0))
 (Sum.elim (fun (_ : Unit) =>
 Option.bind (
 lpO (fun (s14 : Int) =>
 cond (decide (s14 < (↑(List.length (List.map zS a0.Vars)) : Int)))
 (cond (decide (s14 < 45))
 (zi (a0.Vars) s14 fun x20 =>
 cond (decide (100 < (↑(List.length x20.Name) : Int)))
 (some (.inr (.inr (true))))
 (zg (IntKind.wrap .i64 (s14 + 1)) fun x22 =>
 some (.inl x22)))
 (some (.inr (.inl ()))))
 (some (.inr (.inl ())))) (0))
 (Sum.elim (fun (_ : Unit) =>
 (Fz1 (a0.Lattice)).bind fun x36 =>
 cond x36
 (some (true))
 (cond (decide (20 < (↑(List.length (List.map zZ a0.Channels)) : Int)))
 (some (true))
 (cond (decide (40 < (↑(List.length (List.map zS a0.Vars)) : Int)))
 (some (true))
 (some (decide (70 < (↑(List.length (List.map wK a0.Rules)) : Int))))))) some)) some)
def Fz3 (a0 : List TW) : Option (Bool) :=
 Option.bind (
 lpO (fun (s44 : Int × Int) =>
 cond (decide (s44.fst < (↑(List.length (List.map zj a0)) : Int)))
 (cond (decide (s44.fst < 50))
 (zi a0 (s44.fst) fun x52 =>
 zg (IntKind.wrap .i64 (s44.snd + (↑(List.length (List.map (SV.int .i64) x52.Value.Cells)) : Int))) fun x53 =>
 zi a0 (s44.fst) fun x54 =>
 cond (decide (100 < (↑(List.length x54.Name) : Int)))
 (some (.inr (.inr (true))))
 (zg (IntKind.wrap .i64 (s44.fst + 1)) fun x56 =>
 some (.inl ((x56, x53)))))
 (some (.inr (.inl (s44.snd)))))
 (some (.inr (.inl (s44.snd))))) ((0, 0)))
 (Sum.elim (fun (s42 : Int) =>
 cond (decide (1000 < s42))
 (some (true))
 (some (decide (40 < (↑(List.length (List.map zj a0)) : Int))))) some)
def Fz4 (a0 : TP) (a1 : List TW) (a2 : List TW) : Option (Bool) :=
 (Fz2 a0).bind fun x40 =>
 cond x40
 (some (true))
 ((Fz3 a1).bind fun x58 =>
 cond x58
 (some (true))
 ((Fz3 a2).bind fun x60 =>
 some x60))
def Fz5 (a0 : List UInt8) (a1 : Int) : Option (List UInt8) :=
 Option.bind (
 lpO (fun (s85 : List UInt8) =>
 cond (decide (0 < (↑(List.length s85) : Int)))
 (zg (IntKind.wrap .i64 ((↑(List.length s85) : Int) - 1)) fun x92 =>
 zi s85 x92 fun x93 =>
 cond (decide ((↑(UInt8.toNat x93) : Int) = a1))
 (zg (IntKind.wrap .i64 ((↑(List.length s85) : Int) - 1)) fun x95 =>
 zk (0 <= x95 /\ x95 <= (↑(List.length s85) : Int)) (
 some (.inl (List.drop (Int.toNat 0) (List.take (Int.toNat x95) s85)))))
 (some (.inr (.inl s85))))
 (some (.inr (.inl s85)))) a0)
 (Sum.elim (fun (s83 : List UInt8) =>
 some s83) some)
def Fz6 (a0 : List UInt8) (a1 : Int) : Option (List UInt8) :=
 Option.bind (
 lpO (fun (s100 : List UInt8) =>
 cond (decide (0 < (↑(List.length s100) : Int)))
 (zi s100 (0) fun x105 =>
 cond (decide ((↑(UInt8.toNat x105) : Int) = a1))
 (zk ((0 : Int) <= (1 : Int) /\ (1 : Int) <= (↑(List.length s100) : Int)) (
 some (.inl (List.drop (Int.toNat 1) (List.take (Int.toNat (↑(List.length s100) : Int)) s100)))))
 (some (.inr (.inl s100))))
 (some (.inr (.inl s100)))) a0)
 (Sum.elim (fun (s98 : List UInt8) =>
 some s98) some)
def Fz7 (a0 : List UInt8) : Option (List Bool × Bool) :=
 Option.bind (
 lpO (fun (s110 : Int × List Bool) =>
 cond (decide (s110.fst < (↑(List.length a0) : Int)))
 (zi a0 (s110.fst) fun x116 =>
 cond (decide (128 <= (↑(UInt8.toNat x116) : Int)))
 (some (.inr (.inr ((s110.snd, false)))))
 (zk ((0 : Int) <= (↑(UInt8.toNat x116) : Int) /\ (↑(UInt8.toNat x116) : Int) < (↑(256 : Nat) : Int)) (
 zi (s110.snd) ((↑(Int.toNat (↑(UInt8.toNat x116) : Int)) : Int)) fun _ =>
 zg (IntKind.wrap .i64 (s110.fst + 1)) fun x119 =>
 some (.inl ((x119, List.set s110.snd (Int.toNat (↑(UInt8.toNat x116) : Int)) true))))))
 (some (.inr (.inl (s110.snd))))) ((0, List.replicate 256 false)))
 (Sum.elim (fun (s108 : List Bool) =>
 some ((s108, true))) some)
def Fz8 (a0 : List Bool) (a1 : Int) : Option (Bool) :=
 zk (0 <= a1 /\ a1 < (↑(256 : Nat) : Int)) (
 zi a0 ((↑(Int.toNat a1) : Int)) fun x127 =>
 some x127)
def Fz9 (a0 : List UInt8) (a1 : List Bool) : Option (List UInt8) :=
 Option.bind (
 lpO (fun (s124 : List UInt8) =>
 cond (decide (0 < (↑(List.length s124) : Int)))
 (zg (IntKind.wrap .i64 ((↑(List.length s124) : Int) - 1)) fun x132 =>
 zi s124 x132 fun x133 =>
 (Fz8 a1 ((↑(UInt8.toNat x133) : Int))).bind fun x134 =>
 cond (!x134)
 (some (.inr (.inl s124)))
 (zg (IntKind.wrap .i64 ((↑(List.length s124) : Int) - 1)) fun x136 =>
 zk (0 <= x136 /\ x136 <= (↑(List.length s124) : Int)) (
 some (.inl (List.drop (Int.toNat 0) (List.take (Int.toNat x136) s124))))))
 (some (.inr (.inl s124)))) a0)
 (Sum.elim (fun (s122 : List UInt8) =>
 some s122) some)
def zkn (a0 : List UInt8) (a1 : List Bool) : Option (List UInt8) :=
 Option.bind (
 lpO (fun (s140 : List UInt8) =>
 cond (decide (0 < (↑(List.length s140) : Int)))
 (zi s140 (0) fun x146 =>
 (Fz8 a1 ((↑(UInt8.toNat x146) : Int))).bind fun x147 =>
 cond (!x147)
 (some (.inr (.inl s140)))
 (zk ((0 : Int) <= (1 : Int) /\ (1 : Int) <= (↑(List.length s140) : Int)) (
 some (.inl (List.drop (Int.toNat 1) (List.take (Int.toNat (↑(List.length s140) : Int)) s140))))))
 (some (.inr (.inl s140)))) a0)
 (Sum.elim (fun (s138 : List UInt8) =>
 some s138) some)
def zyh (a0 : Int) : Option (Bool) :=
 some (!decide (bits BinOp.and IntKind.u8 a0 192 = 128))
def zu2 (a0 : List UInt8) : Option (Int × Int) :=
 cond (decide ((↑(List.length a0) : Int) < 1))
 (some ((65533, 0)))
 (zi a0 (0) fun _ =>
 none)
def zqu (a0 : List UInt8) : Option (Int × Int) :=
 cond (!decide (a0 = (ByteArray.mk #[]).data.toList))
 (zi a0 (0) fun x179 =>
 cond (decide ((↑(UInt8.toNat x179) : Int) < 128))
 (zi a0 (0) fun x181 =>
 zg (IntKind.wrap .i32 (↑(UInt8.toNat x181) : Int)) fun x182 =>
 some ((x182, 1)))
 ((zu2 a0).bind fun x185 =>
 some x185))
 ((zu2 a0).bind fun x186 =>
 some x186)
def zxs (a0 : List UInt8) : Option (Int × Int) :=
 cond (decide ((↑(List.length a0) : Int) = 0))
 (some ((65533, 0)))
 (zg (IntKind.wrap .i64 ((↑(List.length a0) : Int) - 1)) fun x158 =>
 zi a0 x158 fun x159 =>
 zg (IntKind.wrap .i32 (↑(UInt8.toNat x159) : Int)) fun x160 =>
 cond (decide (x160 < 128))
 (some ((x160, 1)))
 (zg (IntKind.wrap .i64 ((↑(List.length a0) : Int) - 4)) fun x162 =>
 zg (IntKind.wrap .i64 (x158 - 1)) fun x163 =>
 Option.bind (
 lpO (fun (s166 : Int) =>
 cond (decide (max x162 0 <= s166))
 (zi a0 s166 fun x173 =>
 (zyh ((↑(UInt8.toNat x173) : Int))).bind fun x174 =>
 cond x174
 (some (.inr (.inl s166)))
 (zg (IntKind.wrap .i64 (s166 - 1)) fun x176 =>
 some (.inl x176)))
 (some (.inr (.inl s166)))) x163)
 (Sum.elim (fun (s164 : Int) =>
 cond (decide (s164 < 0))
 (zk ((0 : Int) <= (0 : Int) /\ (0 : Int) <= (↑(List.length a0) : Int) /\ (↑(List.length a0) : Int) <= (↑(List.length a0) : Int)) (
 (zqu (List.drop (Int.toNat 0) (List.take (Int.toNat (↑(List.length a0) : Int)) a0))).bind fun x187 =>
 zg (IntKind.wrap .i64 (0 + x187.snd)) fun x188 =>
 cond (!decide (x188 = (↑(List.length a0) : Int)))
 (some ((65533, 1)))
 (some x187)))
 (zk (0 <= s164 /\ s164 <= (↑(List.length a0) : Int) /\ (↑(List.length a0) : Int) <= (↑(List.length a0) : Int)) (
 (zqu (List.drop (Int.toNat s164) (List.take (Int.toNat (↑(List.length a0) : Int)) a0))).bind fun x190 =>
 zg (IntKind.wrap .i64 (s164 + x190.snd)) fun x191 =>
 cond (!decide (x191 = (↑(List.length a0) : Int)))
 (some ((65533, 1)))
 (some x190)))) some)))
def zcb (a0 : List UInt8) (a1 : Int) : Option (Int) :=
 (qo a0 a1).bind fun x197 =>
 some x197
def uA (a0 : Int) : Option (Bool) :=
 cond (decide (0 <= a0))
 (cond (decide (a0 < 55296))
 (some (true))
 (cond (decide (57343 < a0))
 (cond (decide (a0 <= 1114111))
 (some (true))
 (some (false)))
 (some (false))))
 (cond (decide (57343 < a0))
 (cond (decide (a0 <= 1114111))
 (some (true))
 (some (false)))
 (some (false)))
def zg1 (a0 : List UInt8) (a1 : Int) : Option (Int) :=
 cond (decide (0 <= a1))
 (cond (decide (a1 < 128))
 (zg (IntKind.wrap .u8 a1) fun x196 =>
 (zcb a0 x196).bind fun x198 =>
 some x198)
 (cond (decide (a1 = 65533))
 (none)
 ((uA a1).bind fun x206 =>
 cond (!x206)
 (some ((-1 : Int)))
 (zg (IntKind.wrap .i64 ((↑(List.length (Utf8.encode a1).data.toList) : Int) - 1)) fun x208 =>
 Option.bind (
 lpO (fun (_ : Unit) =>
 cond (decide (x208 < (↑(List.length a0) : Int)))
 (zi a0 x208 fun x213 =>
 zi ((Utf8.encode a1).data.toList) x208 fun x214 =>
 cond (!decide ((↑(UInt8.toNat x213) : Int) = (↑(UInt8.toNat x214) : Int)))
 (zg (IntKind.wrap .i64 (x208 + 1)) fun x216 =>
 zk (0 <= x216 /\ x216 <= (↑(List.length a0) : Int)) (
 zi ((Utf8.encode a1).data.toList) x208 fun x217 =>
 (zcb (List.drop (Int.toNat x216) (List.take (Int.toNat (↑(List.length a0) : Int)) a0)) ((↑(UInt8.toNat x217) : Int))).bind fun x218 =>
 cond (decide (x218 < 0))
 (some (.inr (.inr ((-1 : Int)))))
 (zg (IntKind.wrap .i64 (x218 + 1)) fun x220 =>
 zg (IntKind.wrap .i64 (x208 + x220)) fun x221 =>
 Option.bind (
 lpO (fun (s224 : Int) =>
 cond (decide (s224 < (↑(List.length (Utf8.encode a1).data.toList) : Int)))
 (zg (IntKind.wrap .i64 (x221 - s224)) fun x232 =>
 zi a0 x232 fun x233 =>
 zg (IntKind.wrap .i64 (x208 - s224)) fun x234 =>
 zi ((Utf8.encode a1).data.toList) x234 fun x235 =>
 cond (!decide ((↑(UInt8.toNat x233) : Int) = (↑(UInt8.toNat x235) : Int)))
 (none)
 (zg (IntKind.wrap .i64 (s224 + 1)) fun x237 =>
 some (.inl x237)))
 (some (.inr (.inl ())))) (1))
 (Sum.elim (fun (_ : Unit) =>
 zg (IntKind.wrap .i64 (x221 - x208)) fun x238 =>
 some (.inr (.inr x238))) some))))
 (Option.bind (
 lpO (fun (s241 : Int) =>
 cond (decide (s241 < (↑(List.length (Utf8.encode a1).data.toList) : Int)))
 (zg (IntKind.wrap .i64 (x208 - s241)) fun x249 =>
 zi a0 x249 fun x250 =>
 zg (IntKind.wrap .i64 (x208 - s241)) fun x251 =>
 zi ((Utf8.encode a1).data.toList) x251 fun x252 =>
 cond (!decide ((↑(UInt8.toNat x250) : Int) = (↑(UInt8.toNat x252) : Int)))
 (none)
 (zg (IntKind.wrap .i64 (s241 + 1)) fun x254 =>
 some (.inl x254)))
 (some (.inr (.inl ())))) (1))
 (Sum.elim (fun (_ : Unit) =>
 zg (IntKind.wrap .i64 (x208 - x208)) fun x255 =>
 some (.inr (.inr x255))) some)))
 (some (.inr (.inl ())))) (()))
 (Sum.elim (fun (_ : Unit) =>
 some ((-1 : Int))) some)))))
 (cond (decide (a1 = 65533))
 (none)
 ((uA a1).bind fun x257 =>
 cond (!x257)
 (some ((-1 : Int)))
 (zg (IntKind.wrap .i64 ((↑(List.length (Utf8.encode a1).data.toList) : Int) - 1)) fun x259 =>
 Option.bind (
 lpO (fun (_ : Unit) =>
 cond (decide (x259 < (↑(List.length a0) : Int)))
 (zi a0 x259 fun x264 =>
 zi ((Utf8.encode a1).data.toList) x259 fun x265 =>
 cond (!decide ((↑(UInt8.toNat x264) : Int) = (↑(UInt8.toNat x265) : Int)))
 (zg (IntKind.wrap .i64 (x259 + 1)) fun x267 =>
 zk (0 <= x267 /\ x267 <= (↑(List.length a0) : Int)) (
 zi ((Utf8.encode a1).data.toList) x259 fun x268 =>
 (zcb (List.drop (Int.toNat x267) (List.take (Int.toNat (↑(List.length a0) : Int)) a0)) ((↑(UInt8.toNat x268) : Int))).bind fun x269 =>
 cond (decide (x269 < 0))
 (some (.inr (.inr ((-1 : Int)))))
 (zg (IntKind.wrap .i64 (x269 + 1)) fun x271 =>
 zg (IntKind.wrap .i64 (x259 + x271)) fun x272 =>
 Option.bind (
 lpO (fun (s275 : Int) =>
 cond (decide (s275 < (↑(List.length (Utf8.encode a1).data.toList) : Int)))
 (zg (IntKind.wrap .i64 (x272 - s275)) fun x283 =>
 zi a0 x283 fun x284 =>
 zg (IntKind.wrap .i64 (x259 - s275)) fun x285 =>
 zi ((Utf8.encode a1).data.toList) x285 fun x286 =>
 cond (!decide ((↑(UInt8.toNat x284) : Int) = (↑(UInt8.toNat x286) : Int)))
 (none)
 (zg (IntKind.wrap .i64 (s275 + 1)) fun x288 =>
 some (.inl x288)))
 (some (.inr (.inl ())))) (1))
 (Sum.elim (fun (_ : Unit) =>
 zg (IntKind.wrap .i64 (x272 - x259)) fun x289 =>
 some (.inr (.inr x289))) some))))
 (Option.bind (
 lpO (fun (s292 : Int) =>
 cond (decide (s292 < (↑(List.length (Utf8.encode a1).data.toList) : Int)))
 (zg (IntKind.wrap .i64 (x259 - s292)) fun x300 =>
 zi a0 x300 fun x301 =>
 zg (IntKind.wrap .i64 (x259 - s292)) fun x302 =>
 zi ((Utf8.encode a1).data.toList) x302 fun x303 =>
 cond (!decide ((↑(UInt8.toNat x301) : Int) = (↑(UInt8.toNat x303) : Int)))
 (none)
 (zg (IntKind.wrap .i64 (s292 + 1)) fun x305 =>
 some (.inl x305)))
 (some (.inr (.inl ())))) (1))
 (Sum.elim (fun (_ : Unit) =>
 zg (IntKind.wrap .i64 (x259 - x259)) fun x306 =>
 some (.inr (.inr x306))) some)))
 (some (.inr (.inl ())))) (()))
 (Sum.elim (fun (_ : Unit) =>
 some ((-1 : Int))) some))))
def xA (a0 : List UInt8) (a1 : Int) : Option (Bool) :=
 (zg1 a0 a1).bind fun x307 =>
 some (decide (0 <= x307))
def zuq (a0 : List UInt8) (a1 : List UInt8) : Option (List UInt8) :=
 Option.bind (
 lpO (fun (s152 : List UInt8) =>
 cond (decide (0 < (↑(List.length s152) : Int)))
 (zg (IntKind.wrap .i64 ((↑(List.length s152) : Int) - 1)) fun x166 =>
 zi s152 x166 fun x167 =>
 zg (IntKind.wrap .i32 (↑(UInt8.toNat x167) : Int)) fun x168 =>
 cond (decide (128 <= x168))
 ((zxs s152).bind fun x170 =>
 (xA a1 (x170.fst)).bind fun x171 =>
 cond (!x171)
 (some (.inr (.inl s152)))
 (zg (IntKind.wrap .i64 ((↑(List.length s152) : Int) - x170.snd)) fun x173 =>
 zk (0 <= x173 /\ x173 <= (↑(List.length s152) : Int)) (
 some (.inl (List.drop (Int.toNat 0) (List.take (Int.toNat x173) s152))))))
 ((xA a1 x168).bind fun x174 =>
 cond (!x174)
 (some (.inr (.inl s152)))
 (zg (IntKind.wrap .i64 ((↑(List.length s152) : Int) - 1)) fun x176 =>
 zk (0 <= x176 /\ x176 <= (↑(List.length s152) : Int)) (
 some (.inl (List.drop (Int.toNat 0) (List.take (Int.toNat x176) s152)))))))
 (some (.inr (.inl s152)))) a0)
 (Sum.elim (fun (s150 : List UInt8) =>
 some s150) some)
def zuh (a0 : List UInt8) (a1 : List UInt8) : Option (List UInt8) :=
 Option.bind (
 lpO (fun (s180 : List UInt8) =>
 cond (decide (0 < (↑(List.length s180) : Int)))
 ((zqu s180).bind fun x186 =>
 (xA a1 (x186.fst)).bind fun x187 =>
 cond (!x187)
 (some (.inr (.inl s180)))
 (zk (0 <= x186.snd /\ x186.snd <= (↑(List.length s180) : Int)) (
 some (.inl (List.drop (Int.toNat x186.snd) (List.take (Int.toNat (↑(List.length s180) : Int)) s180))))))
 (some (.inr (.inl s180)))) a0)
 (Sum.elim (fun (s178 : List UInt8) =>
 some s178) some)
def znq (a0 : List UInt8) (a1 : List UInt8) : Option (List UInt8) :=
 cond (decide (a0 = (ByteArray.mk #[]).data.toList))
 (some a0)
 (cond (decide (a1 = (ByteArray.mk #[]).data.toList))
 (some a0)
 (cond (decide ((↑(List.length a1) : Int) = 1))
 (zi a1 (0) fun x80 =>
 cond (decide ((↑(UInt8.toNat x80) : Int) < 128))
 (zi a1 (0) fun x82 =>
 (Fz5 a0 ((↑(UInt8.toNat x82) : Int))).bind fun x96 =>
 zi a1 (0) fun x97 =>
 (Fz6 x96 ((↑(UInt8.toNat x97) : Int))).bind fun x107 =>
 some x107)
 ((Fz7 a1).bind fun x120 =>
 cond (x120.snd)
 ((Fz9 a0 (x120.fst)).bind fun x137 =>
 (zkn x137 (x120.fst)).bind fun x149 =>
 some x149)
 ((zuq a0 a1).bind fun x177 =>
 (zuh x177 a1).bind fun x189 =>
 some x189)))
 ((Fz7 a1).bind fun x190 =>
 cond (x190.snd)
 ((Fz9 a0 (x190.fst)).bind fun x192 =>
 (zkn x192 (x190.fst)).bind fun x193 =>
 some x193)
 ((zuq a0 a1).bind fun x194 =>
 (zuh x194 a1).bind fun x195 =>
 some x195))))
def zpp (a0 : List UInt8) : Option (Bool) :=
 cond (decide (a0 = (ByteArray.mk #[]).data.toList))
 (some (false))
 (cond (decide (16 < (↑(List.length a0) : Int)))
 (some (false))
 (zi a0 (0) fun x73 =>
 cond (decide ((↑(UInt8.toNat x73) : Int) < 97))
 (some (false))
 (zi a0 (0) fun x75 =>
 cond (decide (122 < (↑(UInt8.toNat x75) : Int)))
 (some (false))
 ((znq a0 ((ByteArray.mk #[97, 98, 99, 100, 101, 102, 103, 104, 105, 106, 107, 108, 109, 110, 111, 112, 113, 114, 115, 116, 117, 118, 119, 120, 121, 122, 48, 49, 50, 51, 52, 53, 54, 55, 56, 57, 45]).data.toList)).bind fun x196 =>
 some (decide (x196 = (ByteArray.mk #[]).data.toList))))))
def zpo (a0 : List (List UInt8)) (a1 : List UInt8) : Option (Int) :=
 Option.bind (
 lpO (fun (s201 : Int) =>
 cond (decide (s201 < (↑(List.length (List.map SV.str a0)) : Int)))
 (zi a0 s201 fun x206 =>
 cond (decide (a1 = x206))
 (some (.inr (.inr s201)))
 (zg (IntKind.wrap .i64 (s201 + 1)) fun x208 =>
 some (.inl x208)))
 (some (.inr (.inl ())))) (0))
 (Sum.elim (fun (_ : Unit) =>
 some ((-1 : Int))) some)
def zne (a0 : List (List UInt8)) (a1 : List UInt8) : Option (Bool) :=
 (zpo a0 a1).bind fun x209 =>
 some (decide (0 <= x209))
def zhq (a0 : List (List UInt8)) : Option (Int × Int) :=
 cond (decide ((↑(List.length (List.map SV.str a0)) : Int) < 1))
 (some (((-1 : Int), 3)))
 (cond (decide (8 < (↑(List.length (List.map SV.str a0)) : Int)))
 (some (((-1 : Int), 3)))
 (Option.bind (
 lpO (fun (s69 : Int) =>
 cond (decide (s69 < (↑(List.length (List.map SV.str a0)) : Int)))
 (zi a0 s69 fun x77 =>
 (zpp x77).bind fun x78 =>
 cond (!x78)
 (some (.inr (.inr ((s69, 6)))))
 (zk (0 <= s69 /\ s69 <= (↑(List.length (List.map SV.str a0)) : Int)) (
 (zne (List.drop (Int.toNat 0) (List.take (Int.toNat s69) a0)) x77).bind fun x80 =>
 cond x80
 (some (.inr (.inr ((s69, 8)))))
 (zg (IntKind.wrap .i64 (s69 + 1)) fun x82 =>
 some (.inl x82)))))
 (some (.inr (.inl ())))) (0))
 (Sum.elim (fun (_ : Unit) =>
 some ((0, 0))) some)))
def zhh (a0 : Int) : Option (Int) :=
 zi ((ByteArray.mk (List.toArray (List.append (List.append [(0 : UInt8), 1, 2, 2, 3, 3, 3, 3, 4, 4, 4, 4, 4, 4, 4, 4, 5, 5, 5, 5, 5, 5, 5, 5, 5, 5, 5, 5, 5, 5, 5, 5, 6, 6, 6, 6, 6, 6, 6, 6, 6, 6, 6, 6, 6, 6, 6, 6, 6, 6, 6, 6, 6, 6, 6, 6, 6, 6, 6, 6, 6, 6, 6, 6] [(7 : UInt8), 7, 7, 7, 7, 7, 7, 7, 7, 7, 7, 7, 7, 7, 7, 7, 7, 7, 7, 7, 7, 7, 7, 7, 7, 7, 7, 7, 7, 7, 7, 7, 7, 7, 7, 7, 7, 7, 7, 7, 7, 7, 7, 7, 7, 7, 7, 7, 7, 7, 7, 7, 7, 7, 7, 7, 7, 7, 7, 7, 7, 7, 7, 7]) (List.append [(8 : UInt8), 8, 8, 8, 8, 8, 8, 8, 8, 8, 8, 8, 8, 8, 8, 8, 8, 8, 8, 8, 8, 8, 8, 8, 8, 8, 8, 8, 8, 8, 8, 8, 8, 8, 8, 8, 8, 8, 8, 8, 8, 8, 8, 8, 8, 8, 8, 8, 8, 8, 8, 8, 8, 8, 8, 8, 8, 8, 8, 8, 8, 8, 8, 8] [(8 : UInt8), 8, 8, 8, 8, 8, 8, 8, 8, 8, 8, 8, 8, 8, 8, 8, 8, 8, 8, 8, 8, 8, 8, 8, 8, 8, 8, 8, 8, 8, 8, 8, 8, 8, 8, 8, 8, 8, 8, 8, 8, 8, 8, 8, 8, 8, 8, 8, 8, 8, 8, 8, 8, 8, 8, 8, 8, 8, 8, 8, 8, 8, 8, 8])))).data.toList) a0 fun x92 =>
 zg (IntKind.wrap .i64 (↑(UInt8.toNat x92) : Int)) fun x93 =>
 some x93
def zdy (a0 : TL) : Option (Tlattice_order) :=
 Option.bind (
 lpO (fun (s165 : Int × List Int × List Int) =>
 cond (decide (s165.fst < (↑(List.length (List.map (SV.int .u8) a0.Up)) : Int)))
 (zi (a0.Up) (s165.fst) fun x179 =>
 zk (0 <= s165.fst /\ s165.fst < (↑(8 : Nat) : Int)) (
 zi (s165.snd.fst) ((↑(Int.toNat s165.fst) : Int)) fun _ =>
 Option.bind (
 lpO (fun (s183 : Int × List Int) =>
 cond (decide (s183.fst < (↑(List.length (List.map SV.str a0.Names)) : Int)))
 (zk (0 <= s183.fst /\ s183.fst < (↑(8 : Nat) : Int)) (
 zi (s183.snd) ((↑(Int.toNat s183.fst) : Int)) fun x189 =>
 zk (0 <= s183.fst) (
 zk (0 <= s165.fst) (
 zg (IntKind.wrap .u8 (bits BinOp.and IntKind.u8 (Int.fdiv x179 (2 ^ min (Int.toNat s183.fst) (IntKind.bits IntKind.u8))) 1 * 2 ^ min (Int.toNat s165.fst) (IntKind.bits IntKind.u8))) fun x190 =>
 zk (0 <= s183.fst /\ s183.fst < (↑(8 : Nat) : Int)) (
 zi (s183.snd) ((↑(Int.toNat s183.fst) : Int)) fun _ =>
 zg (IntKind.wrap .i64 (s183.fst + 1)) fun x192 =>
 some (.inl ((x192, List.set s183.snd (Int.toNat s183.fst) (bits BinOp.or IntKind.u8 x189 x190)))))))))
 (some (.inr (.inl (s183.snd))))) ((0, s165.snd.snd)))
 (Sum.elim (fun (s181 : List Int) =>
 zg (IntKind.wrap .i64 (s165.fst + 1)) fun x193 =>
 some (.inl ((x193, List.set s165.snd.fst (Int.toNat s165.fst) x179, s181)))) some)))
 (some (.inr (.inl (s165.snd))))) ((0, [0, 0, 0, 0, 0, 0, 0, 0], [0, 0, 0, 0, 0, 0, 0, 0])))
 (Sum.elim (fun (s163 : List Int × List Int) =>
 some (Tlattice_order.mk (↑(List.length (List.map SV.str a0.Names)) : Int) s163.fst s163.snd)) some)
def zg6 (a0 : List Int) (a1 : Int) (a2 : Int) (a3 : Int) : Option (Int) :=
 zk (0 <= a2 /\ a2 < (↑(8 : Nat) : Int)) (
 zi a0 ((↑(Int.toNat a2) : Int)) fun x200 =>
 zk (0 <= a3 /\ a3 < (↑(8 : Nat) : Int)) (
 zi a0 ((↑(Int.toNat a3) : Int)) fun x201 =>
 Option.bind (
 lpO (fun (s204 : Int) =>
 cond (decide (s204 < a1))
 (zk (0 <= s204) (
 cond (decide (bits BinOp.and IntKind.u8 (Int.fdiv (bits BinOp.and IntKind.u8 x200 x201) (2 ^ min (Int.toNat s204) (IntKind.bits IntKind.u8))) 1 = 1))
 (zk (0 <= s204 /\ s204 < (↑(8 : Nat) : Int)) (
 zi a0 ((↑(Int.toNat s204) : Int)) fun x211 =>
 cond (decide (x211 = bits BinOp.and IntKind.u8 x200 x201))
 (some (.inr (.inr s204)))
 (zg (IntKind.wrap .i64 (s204 + 1)) fun x213 =>
 some (.inl x213))))
 (zg (IntKind.wrap .i64 (s204 + 1)) fun x214 =>
 some (.inl x214))))
 (some (.inr (.inl ())))) (0))
 (Sum.elim (fun (_ : Unit) =>
 some ((-1 : Int))) some)))
def zm5 (a0 : List Int) (a1 : Int) (a2 : Int) (a3 : Int) : Option (Int) :=
 zk (0 <= a2 /\ a2 < (↑(8 : Nat) : Int)) (
 zi a0 ((↑(Int.toNat a2) : Int)) fun x217 =>
 zk (0 <= a3 /\ a3 < (↑(8 : Nat) : Int)) (
 zi a0 ((↑(Int.toNat a3) : Int)) fun x218 =>
 Option.bind (
 lpO (fun (s221 : Int) =>
 cond (decide (s221 < a1))
 (zk (0 <= s221) (
 cond (decide (bits BinOp.and IntKind.u8 (Int.fdiv (bits BinOp.and IntKind.u8 x217 x218) (2 ^ min (Int.toNat s221) (IntKind.bits IntKind.u8))) 1 = 1))
 (zk (0 <= s221 /\ s221 < (↑(8 : Nat) : Int)) (
 zi a0 ((↑(Int.toNat s221) : Int)) fun x228 =>
 cond (decide (x228 = bits BinOp.and IntKind.u8 x217 x218))
 (some (.inr (.inr s221)))
 (zg (IntKind.wrap .i64 (s221 + 1)) fun x230 =>
 some (.inl x230))))
 (zg (IntKind.wrap .i64 (s221 + 1)) fun x231 =>
 some (.inl x231))))
 (some (.inr (.inl ())))) (0))
 (Sum.elim (fun (_ : Unit) =>
 some ((-1 : Int))) some)))
def uy (a0 : TL) : Option (Int × Int) :=
 (zhq (a0.Names)).bind fun x83 =>
 cond (!decide (x83.snd = 0))
 (some x83)
 (cond (!decide ((↑(List.length (List.map (SV.int .u8) a0.Up)) : Int) = (↑(List.length (List.map SV.str a0.Names)) : Int)))
 (some (((-1 : Int), 6)))
 (zk ((0 : Int) <= (↑(List.length (List.map SV.str a0.Names)) : Int)) (
 zg (IntKind.wrap .u8 (1 * 2 ^ min (Int.toNat (↑(List.length (List.map SV.str a0.Names)) : Int)) (IntKind.bits IntKind.u8))) fun x86 =>
 zg (IntKind.wrap .u8 (x86 - 1)) fun x87 =>
 Option.bind (
 lpO (fun (s90 : Int) =>
 cond (decide (s90 < (↑(List.length (List.map (SV.int .u8) a0.Up)) : Int)))
 (zi (a0.Up) s90 fun x120 =>
 (zhh x120).bind fun x121 =>
 cond (decide ((↑(List.length (List.map SV.str a0.Names)) : Int) < x121))
 (some (.inr (.inr ((s90, 6)))))
 (zk (0 <= s90) (
 cond (decide (bits BinOp.and IntKind.u8 (Int.fdiv x120 (2 ^ min (Int.toNat s90) (IntKind.bits IntKind.u8))) 1 = 0))
 (some (.inr (.inr ((s90, 6)))))
 (Option.bind (
 lpO (fun (s126 : Int) =>
 cond (decide (s126 < (↑(List.length (List.map (SV.int .u8) a0.Up)) : Int)))
 (zi (a0.Up) s126 fun x144 =>
 zk (0 <= s126) (
 cond (decide (bits BinOp.and IntKind.u8 (Int.fdiv x120 (2 ^ min (Int.toNat s126) (IntKind.bits IntKind.u8))) 1 = 0))
 (zg (IntKind.wrap .i64 ((↑(List.length (List.map SV.str a0.Names)) : Int) - 1)) fun x146 =>
 cond (decide (s126 = x146))
 (zg (IntKind.wrap .i64 (s90 + 1)) fun x148 =>
 some (.inr (.inr (.inl x148))))
 (zg (IntKind.wrap .i64 (s126 + 1)) fun x149 =>
 some (.inl x149)))
 (cond (!decide (s126 = s90))
 (zk (0 <= s90) (
 cond (decide (bits BinOp.and IntKind.u8 (Int.fdiv x144 (2 ^ min (Int.toNat s90) (IntKind.bits IntKind.u8))) 1 = 1))
 (some (.inr (.inr (.inr (.inr ((s90, 6)))))))
 (cond (!decide (bits BinOp.andNot IntKind.u8 (bits BinOp.and IntKind.u8 x144 x87) x120 = 0))
 (some (.inr (.inr (.inr (.inr ((s90, 6)))))))
 (zg (IntKind.wrap .i64 ((↑(List.length (List.map SV.str a0.Names)) : Int) - 1)) fun x153 =>
 cond (decide (s126 = x153))
 (zg (IntKind.wrap .i64 (s90 + 1)) fun x155 =>
 some (.inr (.inr (.inl x155))))
 (zg (IntKind.wrap .i64 (s126 + 1)) fun x156 =>
 some (.inl x156))))))
 (cond (!decide (bits BinOp.andNot IntKind.u8 (bits BinOp.and IntKind.u8 x144 x87) x120 = 0))
 (some (.inr (.inr (.inr (.inr ((s90, 6)))))))
 (zg (IntKind.wrap .i64 ((↑(List.length (List.map SV.str a0.Names)) : Int) - 1)) fun x158 =>
 cond (decide (s126 = x158))
 (zg (IntKind.wrap .i64 (s90 + 1)) fun x160 =>
 some (.inr (.inr (.inl x160))))
 (zg (IntKind.wrap .i64 (s126 + 1)) fun x161 =>
 some (.inl x161)))))))
 (some (.inr (.inl ())))) (0))
 (Sum.elim (fun (_ : Unit) =>
 zg (IntKind.wrap .i64 (s90 + 1)) fun x162 =>
 some (.inl x162)) some)))))
 (some (.inr (.inl ())))) (0))
 (Sum.elim (fun (_ : Unit) =>
 (zdy a0).bind fun x194 =>
 Option.bind (
 lpO (fun (s197 : Int) =>
 cond (decide (s197 < (↑(List.length (List.map SV.str a0.Names)) : Int)))
 (Option.bind (
 lpO (fun (s215 : Int) =>
 cond (decide (s215 < (↑(List.length (List.map SV.str a0.Names)) : Int)))
 ((zg6 (x194.up_) ((↑(List.length (List.map SV.str a0.Names)) : Int)) s197 s215).bind fun x222 =>
 cond (decide (x222 < 0))
 (some (.inr (.inr (.inr (.inr ((s197, 4)))))))
 ((zm5 (x194.down_) ((↑(List.length (List.map SV.str a0.Names)) : Int)) s197 s215).bind fun x224 =>
 cond (decide (x224 < 0))
 (some (.inr (.inr (.inr (.inr ((s197, 4)))))))
 (zg (IntKind.wrap .i64 (s215 + 1)) fun x226 =>
 some (.inl x226))))
 (some (.inr (.inl ())))) (0))
 (Sum.elim (fun (_ : Unit) =>
 zg (IntKind.wrap .i64 (s197 + 1)) fun x227 =>
 some (.inl x227)) some))
 (some (.inr (.inl ())))) (0))
 (Sum.elim (fun (_ : Unit) =>
 some ((0, 0))) some)) some))))
def zt9 (a0 : TP) : Option (Int × Int) :=
 (uy (a0.Lattice)).bind fun x228 =>
 some x228
def zk6 (a0 : List UInt8) : Option (Int × Int) :=
 Option.bind (
 cond (decide ([(110 : UInt8), (101 : UInt8), (103 : UInt8)] = a0))
 (some (.inr ((1, 0))))
 (cond (decide ([(97 : UInt8), (98 : UInt8), (115 : UInt8)] = a0))
 (some (.inr ((2, 0))))
 (cond (decide ([(110 : UInt8), (111 : UInt8), (116 : UInt8)] = a0))
 (some (.inr ((3, 0))))
 (cond (decide ([(115 : UInt8), (104 : UInt8), (97 : UInt8), (112 : UInt8), (101 : UInt8)] = a0))
 (some (.inr ((4, 0))))
 (cond (decide ([(114 : UInt8), (97 : UInt8), (118 : UInt8), (101 : UInt8), (108 : UInt8)] = a0))
 (some (.inr ((5, 0))))
 (cond (decide ([(114 : UInt8), (101 : UInt8), (118 : UInt8), (101 : UInt8), (114 : UInt8), (115 : UInt8), (101 : UInt8)] = a0))
 (some (.inr ((6, 0))))
 (cond (decide ([(102 : UInt8), (108 : UInt8), (105 : UInt8), (112 : UInt8)] = a0))
 (some (.inr ((7, 0))))
 (cond (decide ([(105 : UInt8), (111 : UInt8), (116 : UInt8), (97 : UInt8)] = a0))
 (some (.inr ((8, 0))))
 (cond (decide ([(115 : UInt8), (117 : UInt8), (109 : UInt8)] = a0))
 (some (.inr ((9, 0))))
 (cond (decide ([(108 : UInt8), (101 : UInt8), (97 : UInt8), (115 : UInt8), (116 : UInt8)] = a0))
 (some (.inr ((10, 0))))
 (cond (decide ([(109 : UInt8), (111 : UInt8), (115 : UInt8), (116 : UInt8)] = a0))
 (some (.inr ((11, 0))))
 (cond (decide ([(99 : UInt8), (111 : UInt8), (117 : UInt8), (110 : UInt8), (116 : UInt8)] = a0))
 (some (.inr ((12, 0))))
 (cond (decide ([(115 : UInt8), (99 : UInt8), (97 : UInt8), (110 : UInt8)] = a0))
 (some (.inr ((13, 0))))
 (cond (decide ([(103 : UInt8), (114 : UInt8), (97 : UInt8), (100 : UInt8), (101 : UInt8)] = a0))
 (some (.inr ((14, 0))))
 (cond (decide ([(97 : UInt8), (100 : UInt8), (100 : UInt8)] = a0))
 (some (.inr ((15, 0))))
 (cond (decide ([(115 : UInt8), (117 : UInt8), (98 : UInt8)] = a0))
 (some (.inr ((16, 0))))
 (cond (decide ([(109 : UInt8), (117 : UInt8), (108 : UInt8)] = a0))
 (some (.inr ((17, 0))))
 (cond (decide ([(100 : UInt8), (105 : UInt8), (118 : UInt8)] = a0))
 (some (.inr ((18, 0))))
 (cond (decide ([(109 : UInt8), (111 : UInt8), (100 : UInt8)] = a0))
 (some (.inr ((19, 0))))
 (cond (decide ([(112 : UInt8), (108 : UInt8), (117 : UInt8), (115 : UInt8)] = a0))
 (some (.inr ((20, 0))))
 (cond (decide ([(109 : UInt8), (105 : UInt8), (110 : UInt8), (117 : UInt8), (115 : UInt8)] = a0))
 (some (.inr ((21, 0))))
 (cond (decide ([(116 : UInt8), (105 : UInt8), (109 : UInt8), (101 : UInt8), (115 : UInt8)] = a0))
 (some (.inr ((22, 0))))
 (cond (decide ([(101 : UInt8), (113 : UInt8)] = a0))
 (some (.inr ((23, 0))))
 (cond (decide ([(110 : UInt8), (101 : UInt8)] = a0))
 (some (.inr ((24, 0))))
 (cond (decide ([(108 : UInt8), (116 : UInt8)] = a0))
 (some (.inr ((25, 0))))
 (cond (decide ([(108 : UInt8), (101 : UInt8)] = a0))
 (some (.inr ((26, 0))))
 (cond (decide ([(103 : UInt8), (116 : UInt8)] = a0))
 (some (.inr ((27, 0))))
 (cond (decide ([(103 : UInt8), (101 : UInt8)] = a0))
 (some (.inr ((28, 0))))
 (cond (decide ([(97 : UInt8), (110 : UInt8), (100 : UInt8)] = a0))
 (some (.inr ((29, 0))))
 (cond (decide ([(111 : UInt8), (114 : UInt8)] = a0))
 (some (.inr ((30, 0))))
 (cond (decide ([(109 : UInt8), (105 : UInt8), (110 : UInt8)] = a0))
 (some (.inr ((31, 0))))
 (cond (decide ([(109 : UInt8), (97 : UInt8), (120 : UInt8)] = a0))
 (some (.inr ((32, 0))))
 (cond (decide ([(116 : UInt8), (97 : UInt8), (107 : UInt8), (101 : UInt8)] = a0))
 (some (.inr ((33, 0))))
 (cond (decide ([(100 : UInt8), (114 : UInt8), (111 : UInt8), (112 : UInt8)] = a0))
 (some (.inr ((34, 0))))
 (cond (decide ([(102 : UInt8), (105 : UInt8), (108 : UInt8), (108 : UInt8)] = a0))
 (some (.inr ((35, 0))))
 (cond (decide ([(103 : UInt8), (114 : UInt8), (105 : UInt8), (100 : UInt8)] = a0))
 (some (.inr ((36, 0))))
 (cond (decide ([(99 : UInt8), (97 : UInt8), (116 : UInt8)] = a0))
 (some (.inr ((37, 0))))
 (cond (decide ([(97 : UInt8), (116 : UInt8)] = a0))
 (some (.inr ((38, 0))))
 (cond (decide ([(105 : UInt8), (110 : UInt8)] = a0))
 (some (.inr ((39, 0))))
 (cond (decide ([(112 : UInt8), (105 : UInt8), (99 : UInt8), (107 : UInt8)] = a0))
 (some (.inr ((40, 0))))
 (some (.inl ()))))))))))))))))))))))))))))))))))))))))))
 (Sum.elim (fun (_ : Unit) =>
 some ((0, 4))) some)
def znr (a0 : Int) : Option (Bool) :=
 zg (IntKind.wrap .i32 a0) fun x306 =>
 zg (IntKind.wrap .i64 x306) fun x307 =>
 cond (decide (a0 = x307))
 (zg (IntKind.wrap .i32 a0) fun x309 =>
 (uA x309).bind fun x310 =>
 some x310)
 (some (false))
def zgy : Option (List (List UInt8)) :=
 some ([[], (ByteArray.mk #[32]).data.toList, (ByteArray.mk #[10]).data.toList, (ByteArray.mk #[40, 91]).data.toList, (ByteArray.mk #[41, 93]).data.toList, (ByteArray.mk #[34]).data.toList, [], (ByteArray.mk #[45]).data.toList, [], (ByteArray.mk #[60, 61]).data.toList])
def zcv (a0 : Int) : Option (Int × Int) :=
 (znr a0).bind fun x311 =>
 cond (!x311)
 (some ((0, 7)))
 (cond (decide (48 <= a0))
 (cond (decide (a0 <= 57))
 (some ((6, 0)))
 (cond (decide (97 <= a0))
 (cond (decide (a0 <= 122))
 (some ((8, 0)))
 ((zgy).bind fun x317 =>
 Option.bind (
 lpO (fun (s320 : Int) =>
 cond (decide (s320 < 10))
 (zi x317 s320 fun x326 =>
 zg (IntKind.wrap .i32 a0) fun x327 =>
 (xA x326 x327).bind fun x328 =>
 cond x328
 (some (.inr (.inr ((s320, 0)))))
 (zg (IntKind.wrap .i64 (s320 + 1)) fun x330 =>
 some (.inl x330)))
 (some (.inr (.inl ())))) (0))
 (Sum.elim (fun (_ : Unit) =>
 some ((10, 0))) some)))
 ((zgy).bind fun x331 =>
 Option.bind (
 lpO (fun (s334 : Int) =>
 cond (decide (s334 < 10))
 (zi x331 s334 fun x340 =>
 zg (IntKind.wrap .i32 a0) fun x341 =>
 (xA x340 x341).bind fun x342 =>
 cond x342
 (some (.inr (.inr ((s334, 0)))))
 (zg (IntKind.wrap .i64 (s334 + 1)) fun x344 =>
 some (.inl x344)))
 (some (.inr (.inl ())))) (0))
 (Sum.elim (fun (_ : Unit) =>
 some ((10, 0))) some))))
 (cond (decide (97 <= a0))
 (cond (decide (a0 <= 122))
 (some ((8, 0)))
 ((zgy).bind fun x347 =>
 Option.bind (
 lpO (fun (s350 : Int) =>
 cond (decide (s350 < 10))
 (zi x347 s350 fun x356 =>
 zg (IntKind.wrap .i32 a0) fun x357 =>
 (xA x356 x357).bind fun x358 =>
 cond x358
 (some (.inr (.inr ((s350, 0)))))
 (zg (IntKind.wrap .i64 (s350 + 1)) fun x360 =>
 some (.inl x360)))
 (some (.inr (.inl ())))) (0))
 (Sum.elim (fun (_ : Unit) =>
 some ((10, 0))) some)))
 ((zgy).bind fun x361 =>
 Option.bind (
 lpO (fun (s364 : Int) =>
 cond (decide (s364 < 10))
 (zi x361 s364 fun x370 =>
 zg (IntKind.wrap .i32 a0) fun x371 =>
 (xA x370 x371).bind fun x372 =>
 cond x372
 (some (.inr (.inr ((s364, 0)))))
 (zg (IntKind.wrap .i64 (s364 + 1)) fun x374 =>
 some (.inl x374)))
 (some (.inr (.inl ())))) (0))
 (Sum.elim (fun (_ : Unit) =>
 some ((10, 0))) some))))
def zb3 (a0 : List UInt8) : Option (Int) :=
 zi a0 (0) fun x419 =>
 zg (IntKind.wrap .u64 (↑(UInt8.toNat x419) : Int)) fun x420 =>
 zi a0 (1) fun x421 =>
 zg (IntKind.wrap .u64 (↑(UInt8.toNat x421) : Int)) fun x422 =>
 zg (IntKind.wrap .u64 (x422 * 2 ^ min (Int.toNat 8) (IntKind.bits IntKind.u64))) fun x423 =>
 zi a0 (2) fun x424 =>
 zg (IntKind.wrap .u64 (↑(UInt8.toNat x424) : Int)) fun x425 =>
 zg (IntKind.wrap .u64 (x425 * 2 ^ min (Int.toNat 16) (IntKind.bits IntKind.u64))) fun x426 =>
 zi a0 (3) fun x427 =>
 zg (IntKind.wrap .u64 (↑(UInt8.toNat x427) : Int)) fun x428 =>
 zg (IntKind.wrap .u64 (x428 * 2 ^ min (Int.toNat 24) (IntKind.bits IntKind.u64))) fun x429 =>
 zi a0 (4) fun x430 =>
 zg (IntKind.wrap .u64 (↑(UInt8.toNat x430) : Int)) fun x431 =>
 zg (IntKind.wrap .u64 (x431 * 2 ^ min (Int.toNat 32) (IntKind.bits IntKind.u64))) fun x432 =>
 zi a0 (5) fun x433 =>
 zg (IntKind.wrap .u64 (↑(UInt8.toNat x433) : Int)) fun x434 =>
 zg (IntKind.wrap .u64 (x434 * 2 ^ min (Int.toNat 40) (IntKind.bits IntKind.u64))) fun x435 =>
 zi a0 (6) fun x436 =>
 zg (IntKind.wrap .u64 (↑(UInt8.toNat x436) : Int)) fun x437 =>
 zg (IntKind.wrap .u64 (x437 * 2 ^ min (Int.toNat 48) (IntKind.bits IntKind.u64))) fun x438 =>
 zi a0 (7) fun x439 =>
 zg (IntKind.wrap .u64 (↑(UInt8.toNat x439) : Int)) fun x440 =>
 zg (IntKind.wrap .u64 (x440 * 2 ^ min (Int.toNat 56) (IntKind.bits IntKind.u64))) fun x441 =>
 some (bits BinOp.or IntKind.u64 (bits BinOp.or IntKind.u64 (bits BinOp.or IntKind.u64 (bits BinOp.or IntKind.u64 (bits BinOp.or IntKind.u64 (bits BinOp.or IntKind.u64 (bits BinOp.or IntKind.u64 x420 x423) x426) x429) x432) x435) x438) x441)
def zx6 (a0 : List UInt8) : Option (Bool) :=
 Option.bind (
 lpO (fun (s415 : List UInt8) =>
 cond (decide (0 < (↑(List.length s415) : Int)))
 (zi s415 (0) fun x442 =>
 cond (decide ((↑(UInt8.toNat x442) : Int) < 128))
 (zk ((0 : Int) <= (1 : Int) /\ (1 : Int) <= (↑(List.length s415) : Int)) (
 cond (decide (8 < (↑(List.length (List.drop (Int.toNat 1) (List.take (Int.toNat (↑(List.length s415) : Int)) s415))) : Int)))
 ((zb3 (List.drop (Int.toNat 1) (List.take (Int.toNat (↑(List.length s415) : Int)) s415))).bind fun x445 =>
 cond (decide (bits BinOp.and IntKind.u64 x445 9259542123273814144 = 0))
 (zk ((0 : Int) <= (8 : Int) /\ (8 : Int) <= (↑(List.length (List.drop (Int.toNat (1 : Int)) (List.take (Int.toNat (↑(List.length s415) : Int)) s415))) : Int)) (
 cond (decide (16 < (↑(List.length (List.drop (Int.toNat 8) (List.take (Int.toNat (↑(List.length (List.drop (Int.toNat 1) (List.take (Int.toNat (↑(List.length s415) : Int)) s415))) : Int)) (List.drop (Int.toNat 1) (List.take (Int.toNat (↑(List.length s415) : Int)) s415))))) : Int)))
 ((zb3 (List.drop (Int.toNat 8) (List.take (Int.toNat (↑(List.length (List.drop (Int.toNat 1) (List.take (Int.toNat (↑(List.length s415) : Int)) s415))) : Int)) (List.drop (Int.toNat 1) (List.take (Int.toNat (↑(List.length s415) : Int)) s415))))).bind fun x448 =>
 zk ((0 : Int) <= (8 : Int) /\ (8 : Int) <= (↑(List.length (List.drop (Int.toNat (8 : Int)) (List.take (Int.toNat (↑(List.length (List.drop (Int.toNat (1 : Int)) (List.take (Int.toNat (↑(List.length s415) : Int)) s415))) : Int)) (List.drop (Int.toNat (1 : Int)) (List.take (Int.toNat (↑(List.length s415) : Int)) s415))))) : Int)) (
 (zb3 (List.drop (Int.toNat 8) (List.take (Int.toNat (↑(List.length (List.drop (Int.toNat 8) (List.take (Int.toNat (↑(List.length (List.drop (Int.toNat 1) (List.take (Int.toNat (↑(List.length s415) : Int)) s415))) : Int)) (List.drop (Int.toNat 1) (List.take (Int.toNat (↑(List.length s415) : Int)) s415))))) : Int)) (List.drop (Int.toNat 8) (List.take (Int.toNat (↑(List.length (List.drop (Int.toNat 1) (List.take (Int.toNat (↑(List.length s415) : Int)) s415))) : Int)) (List.drop (Int.toNat 1) (List.take (Int.toNat (↑(List.length s415) : Int)) s415))))))).bind fun x449 =>
 cond (decide (bits BinOp.and IntKind.u64 (bits BinOp.or IntKind.u64 x448 x449) 9259542123273814144 = 0))
 (zk ((0 : Int) <= (16 : Int) /\ (16 : Int) <= (↑(List.length (List.drop (Int.toNat (8 : Int)) (List.take (Int.toNat (↑(List.length (List.drop (Int.toNat (1 : Int)) (List.take (Int.toNat (↑(List.length s415) : Int)) s415))) : Int)) (List.drop (Int.toNat (1 : Int)) (List.take (Int.toNat (↑(List.length s415) : Int)) s415))))) : Int)) (
 Option.bind (
 lpO (fun (s453 : List UInt8) =>
 cond (decide (32 < (↑(List.length s453) : Int)))
 ((zb3 s453).bind fun x461 =>
 zk ((0 : Int) <= (8 : Int) /\ (8 : Int) <= (↑(List.length s453) : Int)) (
 (zb3 (List.drop (Int.toNat 8) (List.take (Int.toNat (↑(List.length s453) : Int)) s453))).bind fun x462 =>
 zk ((0 : Int) <= (16 : Int) /\ (16 : Int) <= (↑(List.length s453) : Int)) (
 (zb3 (List.drop (Int.toNat 16) (List.take (Int.toNat (↑(List.length s453) : Int)) s453))).bind fun x463 =>
 zk ((0 : Int) <= (24 : Int) /\ (24 : Int) <= (↑(List.length s453) : Int)) (
 (zb3 (List.drop (Int.toNat 24) (List.take (Int.toNat (↑(List.length s453) : Int)) s453))).bind fun x464 =>
 cond (decide (bits BinOp.and IntKind.u64 (bits BinOp.or IntKind.u64 (bits BinOp.or IntKind.u64 x461 x462) (bits BinOp.or IntKind.u64 x463 x464)) 9259542123273814144 = 0))
 (zk ((0 : Int) <= (32 : Int) /\ (32 : Int) <= (↑(List.length s453) : Int)) (
 some (.inl (List.drop (Int.toNat 32) (List.take (Int.toNat (↑(List.length s453) : Int)) s453)))))
 (some (.inr (.inl s453)))))))
 (some (.inr (.inl s453)))) (List.drop (Int.toNat 16) (List.take (Int.toNat (↑(List.length (List.drop (Int.toNat 8) (List.take (Int.toNat (↑(List.length (List.drop (Int.toNat 1) (List.take (Int.toNat (↑(List.length s415) : Int)) s415))) : Int)) (List.drop (Int.toNat 1) (List.take (Int.toNat (↑(List.length s415) : Int)) s415))))) : Int)) (List.drop (Int.toNat 8) (List.take (Int.toNat (↑(List.length (List.drop (Int.toNat 1) (List.take (Int.toNat (↑(List.length s415) : Int)) s415))) : Int)) (List.drop (Int.toNat 1) (List.take (Int.toNat (↑(List.length s415) : Int)) s415)))))))
 (Sum.elim (fun (s451 : List UInt8) =>
 some (.inl s451)) some)))
 (some (.inl (List.drop (Int.toNat 8) (List.take (Int.toNat (↑(List.length (List.drop (Int.toNat 1) (List.take (Int.toNat (↑(List.length s415) : Int)) s415))) : Int)) (List.drop (Int.toNat 1) (List.take (Int.toNat (↑(List.length s415) : Int)) s415))))))))
 (some (.inl (List.drop (Int.toNat 8) (List.take (Int.toNat (↑(List.length (List.drop (Int.toNat 1) (List.take (Int.toNat (↑(List.length s415) : Int)) s415))) : Int)) (List.drop (Int.toNat 1) (List.take (Int.toNat (↑(List.length s415) : Int)) s415))))))))
 (some (.inl (List.drop (Int.toNat 1) (List.take (Int.toNat (↑(List.length s415) : Int)) s415)))))
 (some (.inl (List.drop (Int.toNat 1) (List.take (Int.toNat (↑(List.length s415) : Int)) s415))))))
 (none))
 (some (.inr (.inl ())))) a0)
 (Sum.elim (fun (_ : Unit) =>
 some (true)) some)
def zpy (a0 : TK) : Option (Int) :=
 Option.bind (
 cond (decide (a0.Kind = 1))
 (some (.inl ((0, a0.S))))
 (cond (decide (a0.Kind = 3))
 (some (.inl ((0, a0.S))))
 (cond (decide (a0.Kind = 2))
 (some (.inl ((a0.N, []))))
 (some (.inl ((0, [])))))))
 (Sum.elim (fun (s292 : Int × List UInt8) =>
 cond (decide (a0.Kind < 1))
 (some (2))
 (cond (decide (9 < a0.Kind))
 (some (2))
 (cond (!(decide (a0.Kind = a0.Kind) && (decide (a0.From = a0.From) && (decide (a0.To = a0.To) && (decide (a0.N = s292.fst) && (decide (a0.S = s292.snd) && true))))))
 (some (2))
 (Option.bind (
 cond (decide (a0.Kind = 1))
 (cond (decide ((↑(List.length a0.S) : Int) <= 0))
 (some (.inr (6)))
 (zi (a0.S) (0) fun x305 =>
 zg (IntKind.wrap .i64 (↑(UInt8.toNat x305) : Int)) fun x306 =>
 (zcv x306).bind fun x307 =>
 cond (!decide (x307.fst = 8))
 (some (.inr (6)))
 (zi (a0.S) (0) fun x311 =>
 zg (IntKind.wrap .i64 (↑(UInt8.toNat x311) : Int)) fun x312 =>
 (zcv x312).bind fun x313 =>
 Option.bind (
 lpO (fun (s316 : Int × Int) =>
 cond (decide (s316.fst = 8))
 (zg (IntKind.wrap .i64 (s316.snd + 1)) fun x330 =>
 cond (decide ((↑(List.length a0.S) : Int) <= x330))
 (some (.inl ((10, x330))))
 (zi (a0.S) x330 fun x333 =>
 zg (IntKind.wrap .i64 (↑(UInt8.toNat x333) : Int)) fun x334 =>
 (zcv x334).bind fun x335 =>
 some (.inl ((x335.fst, x330)))))
 (cond (decide (s316.fst = 6))
 (zg (IntKind.wrap .i64 (s316.snd + 1)) fun x337 =>
 cond (decide ((↑(List.length a0.S) : Int) <= x337))
 (some (.inl ((10, x337))))
 (zi (a0.S) x337 fun x340 =>
 zg (IntKind.wrap .i64 (↑(UInt8.toNat x340) : Int)) fun x341 =>
 (zcv x341).bind fun x342 =>
 some (.inl ((x342.fst, x337)))))
 (some (.inr (.inl ((decide (s316.fst = 6), s316))))))) ((x313.fst, 0)))
 (Sum.elim (fun (s314 : Bool × Int × Int) =>
 zk ((0 : Int) <= (0 : Int) /\ 0 <= s314.snd.snd /\ s314.snd.snd <= (↑(List.length a0.S) : Int)) (
 cond (!decide (List.drop (Int.toNat 0) (List.take (Int.toNat s314.snd.snd) a0.S) = a0.S))
 (some (.inr (6)))
 (some (.inl (16))))) some))))
 (cond (decide (a0.Kind = 3))
 ((zx6 (a0.S)).bind fun x345 =>
 cond (!x345)
 (some (.inr (6)))
 (some (.inl (2000))))
 (some (.inl (0)))))
 (Sum.elim (fun (s300 : Int) =>
 cond (decide (s300 < (↑(List.length a0.S) : Int)))
 (some (3))
 (some (0))) some))))) some)
def zhr (a0 : List UInt8) : Option (Bool) :=
 cond (decide (a0 = (ByteArray.mk #[118, 97, 114]).data.toList))
 (some (false))
 (cond (decide (a0 = (ByteArray.mk #[100, 101, 102]).data.toList))
 (some (false))
 (cond (decide (a0 = (ByteArray.mk #[111, 117, 116]).data.toList))
 (some (false))
 (cond (decide (a0 = (ByteArray.mk #[105, 102]).data.toList))
 (some (false))
 (cond (decide (a0 = (ByteArray.mk #[101, 108, 115, 101]).data.toList))
 (some (false))
 (cond (decide (a0 = (ByteArray.mk #[119, 104, 105, 108, 101]).data.toList))
 (some (false))
 (cond (decide (a0 = (ByteArray.mk #[101, 110, 100]).data.toList))
 (some (false))
 (cond (decide (a0 = (ByteArray.mk #[114, 101, 108, 101, 97, 115, 101]).data.toList))
 (some (false))
 (cond (decide (a0 = (ByteArray.mk #[105, 110, 116]).data.toList))
 (some (false))
 (cond (decide (a0 = (ByteArray.mk #[99, 104, 97, 114]).data.toList))
 (some (false))
 ((zk6 a0).bind fun x290 =>
 cond (decide (x290.snd = 0))
 (some (false))
 ((zpy (TK.mk 1 0 0 0 a0)).bind fun x348 =>
 some (decide (x348 = 0)))))))))))))
def xB (a0 : TL) (a1 : Int) : Option (Bool) :=
 cond (decide (0 <= a1))
 (some (decide (a1 < (↑(List.length (List.map SV.str a0.Names)) : Int))))
 (some (false))
def zpm (a0 : TP) : Option (Int × Int) :=
 cond (decide (16 < (↑(List.length (List.map zZ a0.Channels)) : Int)))
 (some (((-1 : Int), 3)))
 (Option.bind (
 lpO (fun (s234 : Int × List (List UInt8)) =>
 cond (decide (s234.fst < (↑(List.length (List.map zZ a0.Channels)) : Int)))
 (zi (a0.Channels) (s234.fst) fun x243 =>
 (zhr (x243.s_)).bind fun x245 =>
 cond (!x245)
 (some (.inr (.inr ((s234.fst, 24)))))
 (cond (inL (x243.s_) (s234.snd))
 (some (.inr (.inr ((s234.fst, 8)))))
 (cond (inL (x243.s_) (s234.snd))
 ((xB (a0.Lattice) (x243.at_)).bind fun x253 =>
 cond (!x253)
 (some (.inr (.inr ((s234.fst, 7)))))
 (zg (IntKind.wrap .i64 (s234.fst + 1)) fun x255 =>
 some (.inl ((x255, s234.snd)))))
 ((xB (a0.Lattice) (x243.at_)).bind fun x256 =>
 cond (!x256)
 (some (.inr (.inr ((s234.fst, 7)))))
 (zg (IntKind.wrap .i64 (s234.fst + 1)) fun x258 =>
 some (.inl ((x258, s234.snd ++ [x243.s_]))))))))
 (some (.inr (.inl ())))) ((0, [])))
 (Sum.elim (fun (_ : Unit) =>
 some ((0, 0))) some))
def zo3 (a0 : TL) (a1 : List Int) : Option (Int) :=
 (uy a0).bind fun x269 =>
 cond (!decide (x269.snd = 0))
 (some (x269.snd))
 (Option.bind (
 lpO (fun (s273 : Int) =>
 cond (decide (s273 < (↑(List.length (List.map (SV.int .i64) a1)) : Int)))
 (zi a1 s273 fun x279 =>
 cond (decide (x279 < 0))
 (some (.inr (.inr (7))))
 (cond (decide ((↑(List.length (List.map SV.str a0.Names)) : Int) <= x279))
 (some (.inr (.inr (7))))
 (zg (IntKind.wrap .i64 (s273 + 1)) fun x282 =>
 some (.inl x282))))
 (some (.inr (.inl ())))) (0))
 (Sum.elim (fun (_ : Unit) =>
 some (0)) some))
def zk4 (a0 : Int) : Option (Int) :=
 zi ((ByteArray.mk (List.toArray (List.append (List.append [(0 : UInt8), 1, 1, 2, 1, 2, 2, 3, 1, 2, 2, 3, 2, 3, 3, 4, 1, 2, 2, 3, 2, 3, 3, 4, 2, 3, 3, 4, 3, 4, 4, 5, 1, 2, 2, 3, 2, 3, 3, 4, 2, 3, 3, 4, 3, 4, 4, 5, 2, 3, 3, 4, 3, 4, 4, 5, 3, 4, 4, 5, 4, 5, 5, 6] [(1 : UInt8), 2, 2, 3, 2, 3, 3, 4, 2, 3, 3, 4, 3, 4, 4, 5, 2, 3, 3, 4, 3, 4, 4, 5, 3, 4, 4, 5, 4, 5, 5, 6, 2, 3, 3, 4, 3, 4, 4, 5, 3, 4, 4, 5, 4, 5, 5, 6, 3, 4, 4, 5, 4, 5, 5, 6, 4, 5, 5, 6, 5, 6, 6, 7]) (List.append [(1 : UInt8), 2, 2, 3, 2, 3, 3, 4, 2, 3, 3, 4, 3, 4, 4, 5, 2, 3, 3, 4, 3, 4, 4, 5, 3, 4, 4, 5, 4, 5, 5, 6, 2, 3, 3, 4, 3, 4, 4, 5, 3, 4, 4, 5, 4, 5, 5, 6, 3, 4, 4, 5, 4, 5, 5, 6, 4, 5, 5, 6, 5, 6, 6, 7] [(2 : UInt8), 3, 3, 4, 3, 4, 4, 5, 3, 4, 4, 5, 4, 5, 5, 6, 3, 4, 4, 5, 4, 5, 5, 6, 4, 5, 5, 6, 5, 6, 6, 7, 3, 4, 4, 5, 4, 5, 5, 6, 4, 5, 5, 6, 5, 6, 6, 7, 4, 5, 5, 6, 5, 6, 6, 7, 5, 6, 6, 7, 6, 7, 7, 8])))).data.toList) a0 fun x291 =>
 zg (IntKind.wrap .i64 (↑(UInt8.toNat x291) : Int)) fun x292 =>
 some x292
def zm9 (a0 : List Int) (a1 : Int) : Option (Int) :=
 Option.bind (
 lpO (fun (s288 : Int) =>
 zg (IntKind.wrap .i64 (a1 - 1)) fun x294 =>
 cond (decide (s288 < x294))
 (zk (0 <= s288 /\ s288 < (↑(8 : Nat) : Int)) (
 zi a0 ((↑(Int.toNat s288) : Int)) fun x296 =>
 (zk4 x296).bind fun x297 =>
 cond (decide (x297 < a1))
 (zg (IntKind.wrap .i64 (s288 + 1)) fun x299 =>
 some (.inl x299))
 (some (.inr (.inl s288)))))
 (some (.inr (.inl s288)))) (0))
 (Sum.elim (fun (s286 : Int) =>
 some s286) some)
def zk5 (a0 : TL) : Option (Int × Int) :=
 (zo3 a0 ([])).bind fun x283 =>
 cond (!decide (x283 = 0))
 (some ((0, x283)))
 ((zdy a0).bind fun x285 =>
 (zm9 (x285.up_) (x285.n_)).bind fun x300 =>
 some ((x300, 0)))
def zn0 (a0 : TL) (a1 : List Int) : Option (Int × Int) :=
 (uy a0).bind fun x323 =>
 cond (!decide (x323.snd = 0))
 (some (((-1 : Int), x323.snd)))
 (cond (decide (64 < (↑(List.length (List.map (SV.int .i64) a1)) : Int)))
 (some (((-1 : Int), 3)))
 (Option.bind (
 lpO (fun (s328 : Int) =>
 cond (decide (s328 < (↑(List.length (List.map (SV.int .i64) a1)) : Int)))
 (zi a1 s328 fun x334 =>
 cond (decide (x334 < 0))
 (some (.inr (.inr ((s328, 7)))))
 (cond (decide ((↑(List.length (List.map SV.str a0.Names)) : Int) <= x334))
 (some (.inr (.inr ((s328, 7)))))
 (zg (IntKind.wrap .i64 (s328 + 1)) fun x337 =>
 some (.inl x337))))
 (some (.inr (.inl ())))) (0))
 (Sum.elim (fun (_ : Unit) =>
 some ((0, 0))) some)))
def zj1 (a0 : TL) (a1 : Int) (a2 : Int) : Option (Bool) :=
 zi (a0.Up) a1 fun x346 =>
 zk (0 <= a2) (
 some (decide (bits BinOp.and IntKind.u8 (Int.fdiv x346 (2 ^ min (Int.toNat a2) (IntKind.bits IntKind.u8))) 1 = 1)))
def zuu (a0 : Int) (a1 : TL) (a2 : Int) : Option (Bool) :=
 (zj1 a1 a0 a2).bind fun x347 =>
 some (!x347)
def zoj (a0 : List Int) (a1 : TL × Int) : Option (Int) :=
 Option.bind (
 lpO (fun (s344 : Int) =>
 cond (decide (s344 < (↑(List.length (List.map (SV.int .i64) a0)) : Int)))
 (zi a0 s344 fun x350 =>
 (zuu x350 (a1.fst) (a1.snd)).bind fun x351 =>
 cond x351
 (some (.inr (.inr s344)))
 (zg (IntKind.wrap .i64 (s344 + 1)) fun x353 =>
 some (.inl x353)))
 (some (.inr (.inl ())))) (0))
 (Sum.elim (fun (_ : Unit) =>
 some ((-1 : Int))) some)
def zg7 (a0 : TL) (a1 : List Int) (a2 : Int) : Option (Int × Int) :=
 (zn0 a0 a1).bind fun x338 =>
 cond (!decide (x338.snd = 0))
 (some x338)
 (cond (decide (a2 < 0))
 (some (((-1 : Int), 7)))
 (cond (decide ((↑(List.length (List.map SV.str a0.Names)) : Int) <= a2))
 (some (((-1 : Int), 7)))
 ((zoj a1 ((a0, a2))).bind fun x354 =>
 cond (decide (0 <= x354))
 (some ((x354, 25)))
 (some ((0, 0))))))
def zgo (a0 : TL) (a1 : TY) : Option (Int) :=
 (zk5 a0).bind fun x301 =>
 cond (!decide (x301.snd = 0))
 (some (x301.snd))
 (cond (!decide (a1.Kind = 1))
 (cond (!decide (a1.Kind = 2))
 (some (7))
 (cond (decide (a1.Rank < 0))
 (some (7))
 (cond (decide (2 < a1.Rank))
 (some (7))
 ((xB a0 (a1.Axes.fst)).bind fun x307 =>
 cond (!x307)
 (some (7))
 ((xB a0 (a1.Axes.snd)).bind fun x309 =>
 cond (!x309)
 (some (7))
 ((xB a0 (a1.Data)).bind fun x311 =>
 cond (!x311)
 (some (7))
 (zk (0 <= a1.Rank /\ a1.Rank <= (↑(2 : Nat) : Int)) (
 Option.bind (
 lpO (fun (s315 : Int) =>
 cond (decide (s315 < (↑(List.length (List.drop (Int.toNat a1.Rank) (List.take (Int.toNat (↑(2 : Nat) : Int)) [SV.int .i64 a1.Axes.fst, SV.int .i64 a1.Axes.snd]))) : Int)))
 (zi (List.drop (Int.toNat a1.Rank) (List.take (Int.toNat (↑(2 : Nat) : Int)) [a1.Axes.fst, a1.Axes.snd])) s315 fun x320 =>
 cond (!decide (x320 = x301.fst))
 (some (.inr (.inr (6))))
 (zg (IntKind.wrap .i64 (s315 + 1)) fun x322 =>
 some (.inl x322)))
 (some (.inr (.inl ())))) (0))
 (Sum.elim (fun (_ : Unit) =>
 zk (0 <= a1.Rank /\ a1.Rank <= (↑(2 : Nat) : Int)) (
 (zg7 a0 (List.drop (Int.toNat 0) (List.take (Int.toNat a1.Rank) [a1.Axes.fst, a1.Axes.snd])) (a1.Data)).bind fun x356 =>
 cond (!decide (x356.snd = 0))
 (some (x356.snd))
 (some (0)))) some)))))))))
 (cond (decide (a1.Rank < 0))
 (some (7))
 (cond (decide (2 < a1.Rank))
 (some (7))
 ((xB a0 (a1.Axes.fst)).bind fun x360 =>
 cond (!x360)
 (some (7))
 ((xB a0 (a1.Axes.snd)).bind fun x362 =>
 cond (!x362)
 (some (7))
 ((xB a0 (a1.Data)).bind fun x364 =>
 cond (!x364)
 (some (7))
 (zk (0 <= a1.Rank /\ a1.Rank <= (↑(2 : Nat) : Int)) (
 Option.bind (
 lpO (fun (s368 : Int) =>
 cond (decide (s368 < (↑(List.length (List.drop (Int.toNat a1.Rank) (List.take (Int.toNat (↑(2 : Nat) : Int)) [SV.int .i64 a1.Axes.fst, SV.int .i64 a1.Axes.snd]))) : Int)))
 (zi (List.drop (Int.toNat a1.Rank) (List.take (Int.toNat (↑(2 : Nat) : Int)) [a1.Axes.fst, a1.Axes.snd])) s368 fun x373 =>
 cond (!decide (x373 = x301.fst))
 (some (.inr (.inr (6))))
 (zg (IntKind.wrap .i64 (s368 + 1)) fun x375 =>
 some (.inl x375)))
 (some (.inr (.inl ())))) (0))
 (Sum.elim (fun (_ : Unit) =>
 zk (0 <= a1.Rank /\ a1.Rank <= (↑(2 : Nat) : Int)) (
 (zg7 a0 (List.drop (Int.toNat 0) (List.take (Int.toNat a1.Rank) [a1.Axes.fst, a1.Axes.snd])) (a1.Data)).bind fun x376 =>
 cond (!decide (x376.snd = 0))
 (some (x376.snd))
 (some (0)))) some)))))))))
def zom (a0 : TP) : Option (Int × Int) :=
 cond (decide (32 < (↑(List.length (List.map zS a0.Vars)) : Int)))
 (some (((-1 : Int), 3)))
 (Option.bind (
 lpO (fun (s264 : Int × List (List UInt8)) =>
 cond (decide (s264.fst < (↑(List.length (List.map zS a0.Vars)) : Int)))
 (zi (a0.Vars) (s264.fst) fun x273 =>
 (zhr (x273.Name)).bind fun x275 =>
 cond (!x275)
 (some (.inr (.inr ((s264.fst, 24)))))
 (cond (inL (x273.Name) (s264.snd))
 (some (.inr (.inr ((s264.fst, 8)))))
 (cond (inL (x273.Name) (s264.snd))
 ((zgo (a0.Lattice) (x273.Type_)).bind fun x283 =>
 cond (!decide (x283 = 0))
 (some (.inr (.inr ((s264.fst, x283)))))
 (zg (IntKind.wrap .i64 (s264.fst + 1)) fun x285 =>
 some (.inl ((x285, s264.snd)))))
 ((zgo (a0.Lattice) (x273.Type_)).bind fun x286 =>
 cond (!decide (x286 = 0))
 (some (.inr (.inr ((s264.fst, x286)))))
 (zg (IntKind.wrap .i64 (s264.fst + 1)) fun x288 =>
 some (.inl ((x288, s264.snd ++ [x273.Name]))))))))
 (some (.inr (.inl ())))) ((0, [])))
 (Sum.elim (fun (_ : Unit) =>
 some ((0, 0))) some))
def zoc (a0 : TP) : Option (Int × Int) :=
 cond (decide (64 < (↑(List.length (List.map wK a0.Rules)) : Int)))
 (some (((-1 : Int), 3)))
 (Option.bind (
 lpO (fun (s294 : Int × List (Int × Int)) =>
 cond (decide (s294.fst < (↑(List.length (List.map wK a0.Rules)) : Int)))
 (zi (a0.Rules) (s294.fst) fun x307 =>
 (xB (a0.Lattice) (x307.From)).bind fun x308 =>
 cond (!x308)
 (some (.inr (.inr ((s294.fst, 7)))))
 ((xB (a0.Lattice) (x307.Goal)).bind fun x310 =>
 cond (!x310)
 (some (.inr (.inr ((s294.fst, 7)))))
 (cond (decide (x307.From = x307.Goal))
 (some (.inr (.inr ((s294.fst, 25)))))
 (zi (a0.Lattice.Up) (x307.Goal) fun x313 =>
 zk (0 <= x307.From) (
 cond (decide (bits BinOp.and IntKind.u8 (Int.fdiv x313 (2 ^ min (Int.toNat x307.From) (IntKind.bits IntKind.u8))) 1 = 0))
 (some (.inr (.inr ((s294.fst, 25)))))
 (cond (inL ((x307.From, x307.Goal)) (s294.snd))
 (some (.inr (.inr ((s294.fst, 8)))))
 (cond (decide (x307.K < 2))
 (some (.inr (.inr ((s294.fst, 3)))))
 (cond (decide (400 < x307.K))
 (some (.inr (.inr ((s294.fst, 3)))))
 (cond (inL ((x307.From, x307.Goal)) (s294.snd))
 (zg (IntKind.wrap .i64 (s294.fst + 1)) fun x323 =>
 some (.inl ((x323, s294.snd))))
 (zg (IntKind.wrap .i64 (s294.fst + 1)) fun x324 =>
 some (.inl ((x324, s294.snd ++ [(x307.From, x307.Goal)])))))))))))))
 (some (.inr (.inl ())))) ((0, [])))
 (Sum.elim (fun (_ : Unit) =>
 some ((0, 0))) some))
def zki (a0 : TP) : Option (Int × Int × Int) :=
 Option.bind (
 (zt9 a0).bind fun x66 =>
 cond (!decide (x66.snd = 0))
 (some (.inl ((1, x66.snd, x66.fst))))
 ((zpm a0).bind fun x68 =>
 cond (!decide (x68.snd = 0))
 (some (.inl ((2, x68.snd, x68.fst))))
 ((zom a0).bind fun x70 =>
 cond (!decide (x70.snd = 0))
 (some (.inl ((3, x70.snd, x70.fst))))
 ((zoc a0).bind fun x72 =>
 cond (!decide (x72.snd = 0))
 (some (.inl ((4, x72.snd, x72.fst))))
 (some (.inl ((0, x72.snd, x72.fst))))))))
 (Sum.elim (fun (s63 : Int × Int × Int) =>
 some ((s63.fst, s63.snd.snd, s63.snd.fst))) some)
def zt3 (a0 : Int) : Option (Bool) :=
 some (decide (a0 < 0))
def ztf (a0 : List Int) : Option (Int) :=
 Option.bind (
 lpO (fun (s94 : Int) =>
 cond (decide (s94 < (↑(List.length (List.map (SV.int .i64) a0)) : Int)))
 (zi a0 s94 fun x100 =>
 (zt3 x100).bind fun x101 =>
 cond x101
 (some (.inr (.inr s94)))
 (zg (IntKind.wrap .i64 (s94 + 1)) fun x103 =>
 some (.inl x103)))
 (some (.inr (.inl ())))) (0))
 (Sum.elim (fun (_ : Unit) =>
 some ((-1 : Int))) some)
def znb (a0 : List Int) : Option (Bool) :=
 (ztf a0).bind fun x104 =>
 some (decide (0 <= x104))
def zum (a0 : Int) : Option (Bool) :=
 some (!decide (a0 = 0))
def zt4 (a0 : List Int) : Option (Int) :=
 Option.bind (
 lpO (fun (s109 : Int) =>
 cond (decide (s109 < (↑(List.length (List.map (SV.int .i64) a0)) : Int)))
 (zi a0 s109 fun x115 =>
 (zum x115).bind fun x116 =>
 cond x116
 (some (.inr (.inr s109)))
 (zg (IntKind.wrap .i64 (s109 + 1)) fun x118 =>
 some (.inl x118)))
 (some (.inr (.inl ())))) (0))
 (Sum.elim (fun (_ : Unit) =>
 some ((-1 : Int))) some)
def zp0 (a0 : List Int) : Option (Bool) :=
 (zt4 a0).bind fun x119 =>
 some (decide (0 <= x119))
def zte (a0 : Int) : Option (Bool) :=
 some (decide (400 < a0))
def zs6 (a0 : List Int) : Option (Int) :=
 Option.bind (
 lpO (fun (s124 : Int) =>
 cond (decide (s124 < (↑(List.length (List.map (SV.int .i64) a0)) : Int)))
 (zi a0 s124 fun x130 =>
 (zte x130).bind fun x131 =>
 cond x131
 (some (.inr (.inr s124)))
 (zg (IntKind.wrap .i64 (s124 + 1)) fun x133 =>
 some (.inl x133)))
 (some (.inr (.inl ())))) (0))
 (Sum.elim (fun (_ : Unit) =>
 some ((-1 : Int))) some)
def zok (a0 : List Int) : Option (Bool) :=
 (zs6 a0).bind fun x134 =>
 some (decide (0 <= x134))
def zcg (a0 : Int) (a1 : Int × Int) : Option (Int) :=
 cond (decide (a0 = 2))
 (zg (IntKind.wrap .i64 (1 * a1.snd)) fun x138 =>
 zg (IntKind.wrap .i64 (x138 * a1.fst)) fun x139 =>
 some x139)
 (cond (decide (a0 = 1))
 (zg (IntKind.wrap .i64 (1 * a1.fst)) fun x141 =>
 some x141)
 (some (1)))
def zqt (a0 : Int) (a1 : Int × Int) : Option (Int) :=
 cond (decide (a0 < 0))
 (some (7))
 (cond (decide (2 < a0))
 (some (7))
 (zk (0 <= a0 /\ a0 <= (↑(2 : Nat) : Int)) (
 zk (0 <= a0 /\ a0 <= (↑(2 : Nat) : Int)) (
 (znb (List.drop (Int.toNat 0) (List.take (Int.toNat a0) [a1.fst, a1.snd]))).bind fun x105 =>
 cond x105
 (some (7))
 ((zp0 (List.drop (Int.toNat a0) (List.take (Int.toNat (↑(2 : Nat) : Int)) [a1.fst, a1.snd]))).bind fun x120 =>
 cond x120
 (some (6))
 ((zok (List.drop (Int.toNat 0) (List.take (Int.toNat a0) [a1.fst, a1.snd]))).bind fun x135 =>
 cond x135
 (some (15))
 ((zcg a0 a1).bind fun x142 =>
 cond (decide (400 < x142))
 (some (15))
 (some (0)))))))))
def zkj (a0 : Int) (a1 : Int × Int) : Option (Int × Int) :=
 (zqt a0 a1).bind fun x144 =>
 cond (!decide (x144 = 0))
 (some ((0, x144)))
 ((zcg a0 a1).bind fun x146 =>
 some ((x146, 0)))
def zo2 (a0 : Int) (a1 : Int) : Option (Bool) :=
 cond (decide (a0 = 1))
 (some (true))
 (cond (decide (0 <= a1))
 (cond (decide (a1 <= 1114111))
 (zg (IntKind.wrap .i32 a1) fun x157 =>
 (uA x157).bind fun x158 =>
 some x158)
 (some (false)))
 (some (false)))
def zu6 (a0 : Int) (a1 : TA) : Option (Bool) :=
 (zo2 (a1.Kind) a0).bind fun x159 =>
 some (!x159)
def zsw (a0 : List Int) (a1 : TA) : Option (Int) :=
 Option.bind (
 lpO (fun (s152 : Int) =>
 cond (decide (s152 < (↑(List.length (List.map (SV.int .i64) a0)) : Int)))
 (zi a0 s152 fun x158 =>
 (zu6 x158 a1).bind fun x159 =>
 cond x159
 (some (.inr (.inr s152)))
 (zg (IntKind.wrap .i64 (s152 + 1)) fun x161 =>
 some (.inl x161)))
 (some (.inr (.inl ())))) (0))
 (Sum.elim (fun (_ : Unit) =>
 some ((-1 : Int))) some)
def zj9 (a0 : List Int) (a1 : TA) : Option (Bool) :=
 (zsw a0 a1).bind fun x162 =>
 some (decide (0 <= x162))
def zgl (a0 : TA) : Option (Int) :=
 cond (!decide (a0.Kind = 1))
 (cond (!decide (a0.Kind = 2))
 (some (2))
 ((zkj (a0.Rank) (a0.Lens)).bind fun x147 =>
 cond (!decide (x147.snd = 0))
 (some (x147.snd))
 (cond (!decide ((↑(List.length (List.map (SV.int .i64) a0.Cells)) : Int) = x147.fst))
 (some (6))
 ((zj9 (a0.Cells) a0).bind fun x163 =>
 cond x163
 (some (7))
 (some (0))))))
 ((zkj (a0.Rank) (a0.Lens)).bind fun x165 =>
 cond (!decide (x165.snd = 0))
 (some (x165.snd))
 (cond (!decide ((↑(List.length (List.map (SV.int .i64) a0.Cells)) : Int) = x165.fst))
 (some (6))
 ((zj9 (a0.Cells) a0).bind fun x168 =>
 cond x168
 (some (7))
 (some (0)))))
def zpe (a0 : TP) (a1 : List TW) : Option (Int × Int) :=
 (zki a0).bind fun x80 =>
 cond (!decide (x80.snd.snd = 0))
 (some (((-1 : Int), x80.snd.snd)))
 (cond (!decide ((↑(List.length (List.map zj a1)) : Int) = (↑(List.length (List.map zS a0.Vars)) : Int)))
 (some (((-1 : Int), 3)))
 (Option.bind (
 lpO (fun (s85 : Int) =>
 cond (decide (s85 < (↑(List.length (List.map zj a1)) : Int)))
 (zi a1 s85 fun x96 =>
 zi (a0.Vars) s85 fun x97 =>
 (zgl (x96.Value)).bind fun x98 =>
 zi (a0.Vars) s85 fun x99 =>
 cond (!decide (x96.Name = x99.Name))
 (some (.inr (.inr ((s85, 24)))))
 (cond (!decide (x98 = 0))
 (some (.inr (.inr ((s85, x98)))))
 (cond (!decide (x96.Value.Kind = x97.Type_.Kind))
 (some (.inr (.inr ((s85, 21)))))
 (cond (!decide (x96.Value.Rank = x97.Type_.Rank))
 (some (.inr (.inr ((s85, 22)))))
 (zg (IntKind.wrap .i64 (s85 + 1)) fun x104 =>
 some (.inl x104))))))
 (some (.inr (.inl ())))) (0))
 (Sum.elim (fun (_ : Unit) =>
 some ((0, 0))) some)))
def zdq (a0 : TP) (a1 : List (List TW)) : Option (Int) :=
 (zki a0).bind fun x74 =>
 cond (!decide (x74.snd.snd = 0))
 (some (x74.snd.snd))
 (Option.bind (
 lpO (fun (s78 : Int) =>
 cond (decide (s78 < (↑(List.length (List.map (zf 6 zj) a1)) : Int)))
 (zi a1 s78 fun x84 =>
 (zpe a0 x84).bind fun x85 =>
 cond (!decide (x85.snd = 0))
 (some (.inr (.inr (x85.snd))))
 (zg (IntKind.wrap .i64 (s78 + 1)) fun x87 =>
 some (.inl x87)))
 (some (.inr (.inl ())))) (0))
 (Sum.elim (fun (_ : Unit) =>
 some (0)) some))
def zqn (a0 : TL) : Option (TG × Int) :=
 (uy a0).bind fun x96 =>
 cond (!decide (x96.snd = 0))
 (some ((TG.mk (TL.mk [] []) 0, x96.snd)))
 ((zk5 a0).bind fun x98 =>
 some ((TG.mk a0 x98.fst, x98.snd)))
def zab (a0 : TG) (a1 : Int) : Option (Bool) :=
 cond (decide (0 <= a1))
 (some (decide (a1 < (↑(List.length (List.map SV.str a0.Lattice.Names)) : Int))))
 (some (false))
def zg5 (a0 : TG) (a1 : Int) (a2 : Int) : Option (Bool) :=
 zi (a0.Lattice.Up) a1 fun x126 =>
 zk (0 <= a2) (
 some (decide (bits BinOp.and IntKind.u8 (Int.fdiv x126 (2 ^ min (Int.toNat a2) (IntKind.bits IntKind.u8))) 1 = 1)))
def zm7 (a0 : Int) (a1 : TG) (a2 : TY) : Option (Bool) :=
 (zg5 a1 a0 (a2.Data)).bind fun x127 =>
 some (!x127)
def zud (a0 : List Int) (a1 : TG × TY) : Option (Int) :=
 Option.bind (
 lpO (fun (s124 : Int) =>
 cond (decide (s124 < (↑(List.length (List.map (SV.int .i64) a0)) : Int)))
 (zi a0 s124 fun x130 =>
 (zm7 x130 (a1.fst) (a1.snd)).bind fun x131 =>
 cond x131
 (some (.inr (.inr s124)))
 (zg (IntKind.wrap .i64 (s124 + 1)) fun x133 =>
 some (.inl x133)))
 (some (.inr (.inl ())))) (0))
 (Sum.elim (fun (_ : Unit) =>
 some ((-1 : Int))) some)
def zat (a0 : List Int) (a1 : TG × TY) : Option (Bool) :=
 (zud a0 a1).bind fun x134 =>
 some (decide (0 <= x134))
def zp6 (a0 : TG) (a1 : TY) : Option (Int) :=
 Option.bind (
 cond (!decide (a1.Kind = 1))
 (cond (!decide (a1.Kind = 2))
 (some (.inr (7)))
 (cond (decide (a1.Rank < 0))
 (some (.inr (7)))
 (cond (decide (2 < a1.Rank))
 (some (.inr (7)))
 ((zab a0 (a1.Axes.fst)).bind fun x107 =>
 cond (!x107)
 (some (.inr (7)))
 ((zab a0 (a1.Axes.snd)).bind fun x109 =>
 cond (!x109)
 (some (.inr (7)))
 ((zab a0 (a1.Data)).bind fun x111 =>
 cond (!x111)
 (some (.inr (7)))
 (some (.inl ()))))))))
 (cond (decide (a1.Rank < 0))
 (some (.inr (7)))
 (cond (decide (2 < a1.Rank))
 (some (.inr (7)))
 ((zab a0 (a1.Axes.fst)).bind fun x115 =>
 cond (!x115)
 (some (.inr (7)))
 ((zab a0 (a1.Axes.snd)).bind fun x117 =>
 cond (!x117)
 (some (.inr (7)))
 ((zab a0 (a1.Data)).bind fun x119 =>
 cond (!x119)
 (some (.inr (7)))
 (some (.inl ()))))))))
 (Sum.elim (fun (_ : Unit) =>
 zcx (a1.Rank) [
 cond (!(decide (a0.bottom_ = a1.Axes.fst) && (decide (a0.bottom_ = a1.Axes.snd) && true)))
 (some (6))
 (zk (0 <= a1.Rank /\ a1.Rank <= (↑(2 : Nat) : Int)) (
 (zat (List.drop (Int.toNat 0) (List.take (Int.toNat a1.Rank) [a1.Axes.fst, a1.Axes.snd])) ((a0, a1))).bind fun x135 =>
 cond x135
 (some (25))
 (some (0)))),
 cond (!(decide (a1.Axes.fst = a1.Axes.fst) && (decide (a0.bottom_ = a1.Axes.snd) && true)))
 (some (6))
 (zk (0 <= a1.Rank /\ a1.Rank <= (↑(2 : Nat) : Int)) (
 (zat (List.drop (Int.toNat 0) (List.take (Int.toNat a1.Rank) [a1.Axes.fst, a1.Axes.snd])) ((a0, a1))).bind fun x138 =>
 cond x138
 (some (25))
 (some (0)))),
 cond (!(decide (a1.Axes.fst = a1.Axes.fst) && (decide (a1.Axes.snd = a1.Axes.snd) && true)))
 (some (6))
 (zk (0 <= a1.Rank /\ a1.Rank <= (↑(2 : Nat) : Int)) (
 (zat (List.drop (Int.toNat 0) (List.take (Int.toNat a1.Rank) [a1.Axes.fst, a1.Axes.snd])) ((a0, a1))).bind fun x141 =>
 cond x141
 (some (25))
 (some (0))))]) some)
def zkm (a0 : TL) (a1 : TY) (a2 : Int) : Option ((Bool × Bool) × Bool × Int) :=
 (zqn a0).bind fun x99 =>
 cond (!decide (x99.snd = 0))
 (some (((false, false), false, x99.snd)))
 ((zp6 (x99.fst) a1).bind fun x143 =>
 cond (!decide (x143 = 0))
 (some (((false, false), false, x143)))
 ((zab (x99.fst) a2).bind fun x145 =>
 cond (!x145)
 (some (((false, false), false, 7)))
 (Option.bind (
 lpO (fun (s149 : Int × Bool × Bool) =>
 cond (decide (s149.fst < a1.Rank))
 (zk (0 <= s149.fst /\ s149.fst < (↑(2 : Nat) : Int)) (
 zi ([a1.Axes.fst, a1.Axes.snd]) ((↑(Int.toNat s149.fst) : Int)) fun x153 =>
 (zg5 (x99.fst) x153 a2).bind fun x154 =>
 zk (0 <= s149.fst /\ s149.fst < (↑(2 : Nat) : Int)) (
 zi ([s149.snd.fst, s149.snd.snd]) ((↑(Int.toNat s149.fst) : Int)) fun _ =>
 zg (IntKind.wrap .i64 (s149.fst + 1)) fun x156 =>
 some (.inl ((x156, yK s149.snd (Int.toNat s149.fst) x154))))))
 (some (.inr (.inl (s149.snd))))) ((0, false, false)))
 (Sum.elim (fun (s147 : Bool × Bool) =>
 (zg5 (x99.fst) (a1.Data) a2).bind fun x157 =>
 some ((s147, x157, 0))) some))))
def zs1 (a0 : Int) (a1 : (Bool × Bool) × Bool) : Option ((Bool × Bool) × Bool) :=
 some a1
def ztp (a0 : TP) (a1 : Int) : Option (List ((Bool × Bool) × Bool) × Int) :=
 cond (decide (a1 < 0))
 (some (([], 7)))
 (cond (decide ((↑(List.length (List.map SV.str a0.Lattice.Names)) : Int) <= a1))
 (some (([], 7)))
 (Option.bind (
 lpO (fun (s94 : Int × List ((Bool × Bool) × Bool)) =>
 cond (decide (s94.fst < (↑(List.length (List.map zS a0.Vars)) : Int)))
 (zi (a0.Vars) (s94.fst) fun x101 =>
 (zkm (a0.Lattice) (x101.Type_) a1).bind fun x102 =>
 cond (!decide (x102.snd.snd = 0))
 (some (.inr (.inr (([], x102.snd.snd)))))
 ((zs1 (s94.fst) ((x102.fst, x102.snd.fst))).bind fun x104 =>
 zk ((List.length (List.map (fun (x : (Bool × Bool) × Bool) => SV.agg [zO (1 : Nat) SV.bool x.fst, .bool x.snd]) s94.snd) + (1 : Nat)) * (3 : Nat) <= (70368744177664 : Nat)) (
 zg (IntKind.wrap .i64 (s94.fst + 1)) fun x105 =>
 some (.inl ((x105, s94.snd ++ [x104]))))))
 (some (.inr (.inl (s94.snd))))) ((0, [])))
 (Sum.elim (fun (s92 : List ((Bool × Bool) × Bool)) =>
 some ((s92, 0))) some)))
def zo8 (a0 : TP) (a1 : Int) : Option (List ((Bool × Bool) × Bool) × Int) :=
 (zdq a0 ([])).bind fun x88 =>
 cond (!decide (x88 = 0))
 (some (([], x88)))
 ((ztp a0 a1).bind fun x106 =>
 some x106)
def zjz (a0 : Int) : Option (Bool) :=
 cond (decide (97 <= a0))
 (some (decide (a0 <= 122)))
 (some (false))
def zni (a0 : Int) : Option (Bool) :=
 cond (decide (48 <= a0))
 (some (decide (a0 <= 57)))
 (some (false))
def zm8 (a0 : List UInt8) : Option (Bool) :=
 cond (decide ((↑(List.length a0) : Int) < 1))
 (some (false))
 (cond (decide (16 < (↑(List.length a0) : Int)))
 (some (false))
 (zi a0 (0) fun x116 =>
 (zjz ((↑(UInt8.toNat x116) : Int))).bind fun x118 =>
 cond (!x118)
 (some (false))
 (Option.bind (
 lpO (fun (s122 : Int) =>
 cond (decide (s122 < (↑(List.length a0) : Int)))
 (zi a0 s122 fun x133 =>
 (zjz ((↑(UInt8.toNat x133) : Int))).bind fun x134 =>
 cond (!x134)
 (zi a0 s122 fun x136 =>
 (zni ((↑(UInt8.toNat x136) : Int))).bind fun x137 =>
 cond (!x137)
 (zi a0 s122 fun x139 =>
 cond (!decide ((↑(UInt8.toNat x139) : Int) = 45))
 (some (.inr (.inr (false))))
 (zg (IntKind.wrap .i64 (s122 + 1)) fun x141 =>
 some (.inl x141)))
 (zg (IntKind.wrap .i64 (s122 + 1)) fun x142 =>
 some (.inl x142)))
 (zg (IntKind.wrap .i64 (s122 + 1)) fun x143 =>
 some (.inl x143)))
 (some (.inr (.inl ())))) (0))
 (Sum.elim (fun (_ : Unit) =>
 some (true)) some))))
def zpk (a0 : List (List UInt8)) : Option (Int × Int) :=
 cond (decide ((↑(List.length (List.map SV.str a0)) : Int) < 1))
 (some (((-1 : Int), 3)))
 (cond (decide (8 < (↑(List.length (List.map SV.str a0)) : Int)))
 (some (((-1 : Int), 3)))
 (Option.bind (
 lpO (fun (s112 : Int) =>
 cond (decide (s112 < (↑(List.length (List.map SV.str a0)) : Int)))
 (zi a0 s112 fun x121 =>
 (zm8 x121).bind fun x122 =>
 cond (!x122)
 (some (.inr (.inr ((s112, 6)))))
 (Option.bind (
 lpO (fun (s126 : Int) =>
 cond (decide (s126 < s112))
 (zi a0 s126 fun x132 =>
 zi a0 s112 fun x133 =>
 cond (decide (x132 = x133))
 (some (.inr (.inr (.inr (.inr ((s112, 8)))))))
 (zg (IntKind.wrap .i64 (s126 + 1)) fun x135 =>
 some (.inl x135)))
 (some (.inr (.inl ())))) (0))
 (Sum.elim (fun (_ : Unit) =>
 zg (IntKind.wrap .i64 (s112 + 1)) fun x136 =>
 some (.inl x136)) some)))
 (some (.inr (.inl ())))) (0))
 (Sum.elim (fun (_ : Unit) =>
 some ((0, 0))) some)))
def jy (a0 : TL) (a1 : Int) (a2 : Int) : Option (Bool) :=
 cond (decide (0 <= a1))
 (cond (decide (a1 < (↑(List.length (List.map (SV.int .u8) a0.Up)) : Int)))
 (cond (decide (0 <= a2))
 (zi (a0.Up) a1 fun x149 =>
 zk (0 <= a2) (
 some (decide (Int.tmod (Int.fdiv x149 (2 ^ min (Int.toNat a2) (IntKind.bits IntKind.u8))) 2 = 1))))
 (some (false)))
 (some (false)))
 (some (false))
def zol (a0 : TL) (a1 : Int) : Option (Bool) :=
 zi (a0.Up) a1 fun x143 =>
 zg (IntKind.wrap .i64 x143) fun x144 =>
 zk ((0 : Int) <= (↑(List.length (List.map SV.str a0.Names)) : Int)) (
 cond (decide (0 < Int.fdiv x144 (2 ^ min (Int.toNat (↑(List.length (List.map SV.str a0.Names)) : Int)) (IntKind.bits IntKind.i64))))
 (some (false))
 ((jy a0 a1 a1).bind fun x150 =>
 cond (!x150)
 (some (false))
 (Option.bind (
 lpO (fun (s154 : Int) =>
 cond (decide (s154 < (↑(List.length (List.map SV.str a0.Names)) : Int)))
 ((jy a0 a1 s154).bind fun x168 =>
 cond (!x168)
 (zg (IntKind.wrap .i64 (s154 + 1)) fun x170 =>
 some (.inl x170))
 (zi (a0.Up) s154 fun x171 =>
 zg (IntKind.wrap .i64 x171) fun x172 =>
 zk ((0 : Int) <= (↑(List.length (List.map SV.str a0.Names)) : Int)) (
 zg (IntKind.wrap .i64 (1 * 2 ^ min (Int.toNat (↑(List.length (List.map SV.str a0.Names)) : Int)) (IntKind.bits IntKind.i64))) fun x173 =>
 zg (IntKind.wrap .i64 (x173 - 1)) fun x174 =>
 cond (!decide (s154 = a1))
 ((jy a0 s154 a1).bind fun x176 =>
 cond x176
 (some (.inr (.inr (false))))
 (cond (!decide (bits BinOp.and IntKind.i64 (bits BinOp.and IntKind.i64 x172 x174) x144 = bits BinOp.and IntKind.i64 x172 x174))
 (some (.inr (.inr (false))))
 (zg (IntKind.wrap .i64 (s154 + 1)) fun x179 =>
 some (.inl x179))))
 (cond (!decide (bits BinOp.and IntKind.i64 (bits BinOp.and IntKind.i64 x172 x174) x144 = bits BinOp.and IntKind.i64 x172 x174))
 (some (.inr (.inr (false))))
 (zg (IntKind.wrap .i64 (s154 + 1)) fun x181 =>
 some (.inl x181))))))
 (some (.inr (.inl ())))) (0))
 (Sum.elim (fun (_ : Unit) =>
 some (true)) some))))
def zkl (a0 : TL) : Option (List Int) :=
 zk ((0 : Int) <= (↑(List.length (List.map SV.str a0.Names)) : Int) /\ (↑(List.length (List.map SV.str a0.Names)) : Int) = (↑(List.length (List.map SV.str a0.Names)) : Int) /\ (↑(List.length (List.map SV.str a0.Names)) : Int) <= (70368744177664 : Int) /\ (↑(List.length (List.map SV.str a0.Names)) : Int) * (↑(1 : Nat) : Int) <= (70368744177664 : Int)) (
 Option.bind (
 lpO (fun (s152 : Int × List Int) =>
 cond (decide (s152.fst < (↑(List.length (List.map SV.str a0.Names)) : Int)))
 (Option.bind (
 lpO (fun (s171 : Int × List Int) =>
 cond (decide (s171.fst < (↑(List.length (List.map SV.str a0.Names)) : Int)))
 ((jy a0 (s152.fst) (s171.fst)).bind fun x179 =>
 cond x179
 (zk (0 <= s171.fst /\ s171.fst < (↑(List.length (List.map (SV.int .u8) s171.snd)) : Int)) (
 zi (s171.snd) ((↑(Int.toNat s171.fst) : Int)) fun x181 =>
 zk (0 <= s152.fst) (
 zg (IntKind.wrap .u8 (1 * 2 ^ min (Int.toNat s152.fst) (IntKind.bits IntKind.u8))) fun x182 =>
 zk (0 <= s171.fst /\ s171.fst < (↑(List.length (List.map (SV.int .u8) s171.snd)) : Int)) (
 zi (s171.snd) ((↑(Int.toNat s171.fst) : Int)) fun _ =>
 zg (IntKind.wrap .i64 (s171.fst + 1)) fun x184 =>
 some (.inl ((x184, List.set s171.snd (Int.toNat s171.fst) (bits BinOp.or IntKind.u8 x181 x182))))))))
 (zg (IntKind.wrap .i64 (s171.fst + 1)) fun x185 =>
 some (.inl ((x185, s171.snd)))))
 (some (.inr (.inl (s171.snd))))) ((0, s152.snd)))
 (Sum.elim (fun (s169 : List Int) =>
 zg (IntKind.wrap .i64 (s152.fst + 1)) fun x186 =>
 some (.inl ((x186, s169)))) some))
 (some (.inr (.inl (s152.snd))))) ((0, List.replicate (Int.toNat (↑(List.length (List.map SV.str a0.Names)) : Int)) 0)))
 (Sum.elim (fun (s150 : List Int) =>
 some s150) some))
def zgh (a0 : List Int) (a1 : Int) (a2 : Int) : Option (Int) :=
 zi a0 a1 fun x193 =>
 zi a0 a2 fun x194 =>
 Option.bind (
 lpO (fun (s197 : Int) =>
 cond (decide (s197 < (↑(List.length (List.map (SV.int .u8) a0)) : Int)))
 (zi a0 s197 fun x202 =>
 cond (decide (x202 = bits BinOp.and IntKind.u8 x193 x194))
 (some (.inr (.inr s197)))
 (zg (IntKind.wrap .i64 (s197 + 1)) fun x204 =>
 some (.inl x204)))
 (some (.inr (.inl ())))) (0))
 (Sum.elim (fun (_ : Unit) =>
 some ((-1 : Int))) some)
def zgp (a0 : TL) : Option (Int × Int) :=
 (zpk (a0.Names)).bind fun x137 =>
 cond (!decide (x137.snd = 0))
 (some x137)
 (cond (!decide ((↑(List.length (List.map (SV.int .u8) a0.Up)) : Int) = (↑(List.length (List.map SV.str a0.Names)) : Int)))
 (some (((-1 : Int), 6)))
 (Option.bind (
 lpO (fun (s142 : Int) =>
 cond (decide (s142 < (↑(List.length (List.map SV.str a0.Names)) : Int)))
 ((zol a0 s142).bind fun x147 =>
 cond (!x147)
 (some (.inr (.inr ((s142, 6)))))
 (zg (IntKind.wrap .i64 (s142 + 1)) fun x149 =>
 some (.inl x149)))
 (some (.inr (.inl ())))) (0))
 (Sum.elim (fun (_ : Unit) =>
 (zkl a0).bind fun x187 =>
 Option.bind (
 lpO (fun (s190 : Int) =>
 cond (decide (s190 < (↑(List.length (List.map SV.str a0.Names)) : Int)))
 (Option.bind (
 lpO (fun (s208 : Int) =>
 cond (decide (s208 < (↑(List.length (List.map SV.str a0.Names)) : Int)))
 ((zgh (a0.Up) s190 s208).bind fun x215 =>
 cond (decide (x215 < 0))
 (some (.inr (.inr (.inr (.inr ((s190, 4)))))))
 ((zgh x187 s190 s208).bind fun x217 =>
 cond (decide (x217 < 0))
 (some (.inr (.inr (.inr (.inr ((s190, 4)))))))
 (zg (IntKind.wrap .i64 (s208 + 1)) fun x219 =>
 some (.inl x219))))
 (some (.inr (.inl ())))) (0))
 (Sum.elim (fun (_ : Unit) =>
 zg (IntKind.wrap .i64 (s190 + 1)) fun x220 =>
 some (.inl x220)) some))
 (some (.inr (.inl ())))) (0))
 (Sum.elim (fun (_ : Unit) =>
 some ((0, 0))) some)) some)))
def zta : Option (List (List UInt8)) :=
 some ([(ByteArray.mk #[110, 101, 103]).data.toList, (ByteArray.mk #[97, 98, 115]).data.toList, (ByteArray.mk #[110, 111, 116]).data.toList, (ByteArray.mk #[115, 104, 97, 112, 101]).data.toList, (ByteArray.mk #[114, 97, 118, 101, 108]).data.toList, (ByteArray.mk #[114, 101, 118, 101, 114, 115, 101]).data.toList, (ByteArray.mk #[102, 108, 105, 112]).data.toList, (ByteArray.mk #[105, 111, 116, 97]).data.toList, (ByteArray.mk #[115, 117, 109]).data.toList, (ByteArray.mk #[108, 101, 97, 115, 116]).data.toList, (ByteArray.mk #[109, 111, 115, 116]).data.toList, (ByteArray.mk #[99, 111, 117, 110, 116]).data.toList, (ByteArray.mk #[115, 99, 97, 110]).data.toList, (ByteArray.mk #[103, 114, 97, 100, 101]).data.toList, (ByteArray.mk #[97, 100, 100]).data.toList, (ByteArray.mk #[115, 117, 98]).data.toList, (ByteArray.mk #[109, 117, 108]).data.toList, (ByteArray.mk #[100, 105, 118]).data.toList, (ByteArray.mk #[109, 111, 100]).data.toList, (ByteArray.mk #[112, 108, 117, 115]).data.toList, (ByteArray.mk #[109, 105, 110, 117, 115]).data.toList, (ByteArray.mk #[116, 105, 109, 101, 115]).data.toList, (ByteArray.mk #[101, 113]).data.toList, (ByteArray.mk #[110, 101]).data.toList, (ByteArray.mk #[108, 116]).data.toList, (ByteArray.mk #[108, 101]).data.toList, (ByteArray.mk #[103, 116]).data.toList, (ByteArray.mk #[103, 101]).data.toList, (ByteArray.mk #[97, 110, 100]).data.toList, (ByteArray.mk #[111, 114]).data.toList, (ByteArray.mk #[109, 105, 110]).data.toList, (ByteArray.mk #[109, 97, 120]).data.toList, (ByteArray.mk #[116, 97, 107, 101]).data.toList, (ByteArray.mk #[100, 114, 111, 112]).data.toList, (ByteArray.mk #[102, 105, 108, 108]).data.toList, (ByteArray.mk #[103, 114, 105, 100]).data.toList, (ByteArray.mk #[99, 97, 116]).data.toList, (ByteArray.mk #[97, 116]).data.toList, (ByteArray.mk #[105, 110]).data.toList, (ByteArray.mk #[112, 105, 99, 107]).data.toList])
def zpg (a0 : List UInt8) : Option (Int × Int) :=
 (zta).bind fun x228 =>
 Option.bind (
 lpO (fun (s231 : Int) =>
 cond (decide (s231 < (↑(List.length (List.map SV.str x228)) : Int)))
 (zi x228 s231 fun x236 =>
 cond (decide (x236 = a0))
 (zg (IntKind.wrap .i64 (s231 + 1)) fun x238 =>
 some (.inr (.inr ((x238, 0)))))
 (zg (IntKind.wrap .i64 (s231 + 1)) fun x239 =>
 some (.inl x239)))
 (some (.inr (.inl ())))) (0))
 (Sum.elim (fun (_ : Unit) =>
 some ((0, 4))) some)
def zks (a0 : Int) : Option (Bool) :=
 cond (decide (97 <= a0))
 (some (decide (a0 <= 122)))
 (some (false))
def zng (a0 : Int) : Option (Bool) :=
 cond (decide (48 <= a0))
 (some (decide (a0 <= 57)))
 (some (false))
def zbn (a0 : List UInt8) : Option (Bool) :=
 cond (decide (a0 = (ByteArray.mk #[]).data.toList))
 (some (false))
 (zi a0 (0) fun x250 =>
 (zks ((↑(UInt8.toNat x250) : Int))).bind fun x252 =>
 cond (!x252)
 (some (false))
 (Option.bind (
 lpO (fun (s256 : Int) =>
 cond (decide (s256 < (↑(List.length a0) : Int)))
 (zi a0 s256 fun x265 =>
 (zks ((↑(UInt8.toNat x265) : Int))).bind fun x266 =>
 cond (!x266)
 (zi a0 s256 fun x268 =>
 (zng ((↑(UInt8.toNat x268) : Int))).bind fun x269 =>
 cond (!x269)
 (some (.inr (.inr (false))))
 (zg (IntKind.wrap .i64 (s256 + 1)) fun x271 =>
 some (.inl x271)))
 (zg (IntKind.wrap .i64 (s256 + 1)) fun x272 =>
 some (.inl x272)))
 (some (.inr (.inl ())))) (0))
 (Sum.elim (fun (_ : Unit) =>
 some (true)) some)))
def zeu (a0 : List UInt8) : Option (List Int × Bool) :=
 Option.bind (
 lpO (fun (_ : Unit) =>
 cond (decide (0 < (↑(List.length a0) : Int)))
 (none)
 (some (.inr (.inl ())))) (()))
 (Sum.elim (fun (_ : Unit) =>
 some (([], true))) some)
def zi5 (a0 : TK) : Option (Int) :=
 cond (decide (a0.Kind < 1))
 (some (2))
 (cond (decide (9 < a0.Kind))
 (some (2))
 (cond (!decide (a0.Kind = 2))
 (cond (!decide (a0.N = 0))
 (some (2))
 (cond (!decide (a0.Kind = 1))
 (cond (!decide (a0.Kind = 3))
 (cond (!decide (a0.S = (ByteArray.mk #[]).data.toList))
 (some (2))
 (cond (decide (a0.Kind = 1))
 ((zbn (a0.S)).bind fun x273 =>
 cond (!x273)
 (some (6))
 (cond (decide (16 < (↑(List.length a0.S) : Int)))
 (some (3))
 (some (0))))
 (cond (decide (a0.Kind = 3))
 ((zeu (a0.S)).bind fun x281 =>
 cond (!x281.snd)
 (some (6))
 (cond (decide (2000 < (↑(List.length a0.S) : Int)))
 (some (3))
 (some (0))))
 (some (0)))))
 (cond (decide (a0.Kind = 1))
 ((zbn (a0.S)).bind fun x285 =>
 cond (!x285)
 (some (6))
 (cond (decide (16 < (↑(List.length a0.S) : Int)))
 (some (3))
 (some (0))))
 (cond (decide (a0.Kind = 3))
 ((zeu (a0.S)).bind fun x289 =>
 cond (!x289.snd)
 (some (6))
 (cond (decide (2000 < (↑(List.length a0.S) : Int)))
 (some (3))
 (some (0))))
 (some (0)))))
 (cond (decide (a0.Kind = 1))
 ((zbn (a0.S)).bind fun x293 =>
 cond (!x293)
 (some (6))
 (cond (decide (16 < (↑(List.length a0.S) : Int)))
 (some (3))
 (some (0))))
 (cond (decide (a0.Kind = 3))
 ((zeu (a0.S)).bind fun x297 =>
 cond (!x297.snd)
 (some (6))
 (cond (decide (2000 < (↑(List.length a0.S) : Int)))
 (some (3))
 (some (0))))
 (some (0))))))
 (cond (!decide (a0.Kind = 1))
 (cond (!decide (a0.Kind = 3))
 (cond (!decide (a0.S = (ByteArray.mk #[]).data.toList))
 (some (2))
 (cond (decide (a0.Kind = 1))
 ((zbn (a0.S)).bind fun x304 =>
 cond (!x304)
 (some (6))
 (cond (decide (16 < (↑(List.length a0.S) : Int)))
 (some (3))
 (some (0))))
 (cond (decide (a0.Kind = 3))
 ((zeu (a0.S)).bind fun x308 =>
 cond (!x308.snd)
 (some (6))
 (cond (decide (2000 < (↑(List.length a0.S) : Int)))
 (some (3))
 (some (0))))
 (some (0)))))
 (cond (decide (a0.Kind = 1))
 ((zbn (a0.S)).bind fun x312 =>
 cond (!x312)
 (some (6))
 (cond (decide (16 < (↑(List.length a0.S) : Int)))
 (some (3))
 (some (0))))
 (cond (decide (a0.Kind = 3))
 ((zeu (a0.S)).bind fun x316 =>
 cond (!x316.snd)
 (some (6))
 (cond (decide (2000 < (↑(List.length a0.S) : Int)))
 (some (3))
 (some (0))))
 (some (0)))))
 (cond (decide (a0.Kind = 1))
 ((zbn (a0.S)).bind fun x320 =>
 cond (!x320)
 (some (6))
 (cond (decide (16 < (↑(List.length a0.S) : Int)))
 (some (3))
 (some (0))))
 (cond (decide (a0.Kind = 3))
 ((zeu (a0.S)).bind fun x324 =>
 cond (!x324.snd)
 (some (6))
 (cond (decide (2000 < (↑(List.length a0.S) : Int)))
 (some (3))
 (some (0))))
 (some (0)))))))
def zhy (a0 : List UInt8) : Option (Bool) :=
 Option.bind (
 lpO (fun (s332 : Int) =>
 cond (decide (s332 < (↑(10 : Nat) : Int)))
 (zk (0 <= s332 /\ s332 < (↑(10 : Nat) : Int)) (
 zi ([(ByteArray.mk #[118, 97, 114]).data.toList, (ByteArray.mk #[100, 101, 102]).data.toList, (ByteArray.mk #[111, 117, 116]).data.toList, (ByteArray.mk #[105, 102]).data.toList, (ByteArray.mk #[101, 108, 115, 101]).data.toList, (ByteArray.mk #[119, 104, 105, 108, 101]).data.toList, (ByteArray.mk #[101, 110, 100]).data.toList, (ByteArray.mk #[114, 101, 108, 101, 97, 115, 101]).data.toList, (ByteArray.mk #[105, 110, 116]).data.toList, (ByteArray.mk #[99, 104, 97, 114]).data.toList]) ((↑(Int.toNat s332) : Int)) fun x335 =>
 cond (decide (x335 = a0))
 (some (.inr (.inr (true))))
 (zg (IntKind.wrap .i64 (s332 + 1)) fun x337 =>
 some (.inl x337))))
 (some (.inr (.inl ())))) (0))
 (Sum.elim (fun (_ : Unit) =>
 some (false)) some)
def zht (a0 : List UInt8) : Option (Bool) :=
 (zpg a0).bind fun x240 =>
 (zi5 (TK.mk 1 0 0 0 a0)).bind fun x327 =>
 cond (decide (x327 = 0))
 (cond (!decide (x240.snd = 0))
 ((zhy a0).bind fun x338 =>
 some (!x338))
 (some (false)))
 (some (false))
def zfp (a0 : List UInt8) (a1 : List (List UInt8)) : Option (Int) :=
 (zht a0).bind fun x339 =>
 cond (!x339)
 (some (24))
 (Option.bind (
 lpO (fun (s343 : Int) =>
 cond (decide (s343 < (↑(List.length (List.map SV.str a1)) : Int)))
 (zi a1 s343 fun x348 =>
 cond (decide (x348 = a0))
 (some (.inr (.inr (8))))
 (zg (IntKind.wrap .i64 (s343 + 1)) fun x350 =>
 some (.inl x350)))
 (some (.inr (.inl ())))) (0))
 (Sum.elim (fun (_ : Unit) =>
 some (0)) some))
def jt (a0 : TL) (a1 : Int) : Option (Bool) :=
 cond (decide (0 <= a1))
 (some (decide (a1 < (↑(List.length (List.map SV.str a0.Names)) : Int))))
 (some (false))
def zib (a0 : TP) : Option (Int × Int) :=
 cond (decide (16 < (↑(List.length (List.map zZ a0.Channels)) : Int)))
 (some (((-1 : Int), 3)))
 (Option.bind (
 lpO (fun (s226 : Int × List (List UInt8)) =>
 cond (decide (s226.fst < (↑(List.length (List.map zZ a0.Channels)) : Int)))
 (zi (a0.Channels) (s226.fst) fun x239 =>
 (zfp (x239.s_) (s226.snd)).bind fun x240 =>
 cond (decide (x240 = 0))
 (zi (a0.Channels) (s226.fst) fun x242 =>
 (jt (a0.Lattice) (x242.at_)).bind fun x243 =>
 cond (!x243)
 (some (.inr (.inr ((s226.fst, 7)))))
 (cond (!decide (x240 = 0))
 (some (.inr (.inr ((s226.fst, x240)))))
 (zi (a0.Channels) (s226.fst) fun x246 =>
 zk ((List.length (List.map SV.str s226.snd) + (1 : Nat)) * (16 : Nat) <= (70368744177664 : Nat)) (
 zg (IntKind.wrap .i64 (s226.fst + 1)) fun x247 =>
 some (.inl ((x247, s226.snd ++ [x246.s_])))))))
 (cond (!decide (x240 = 0))
 (some (.inr (.inr ((s226.fst, x240)))))
 (zi (a0.Channels) (s226.fst) fun x249 =>
 zk ((List.length (List.map SV.str s226.snd) + (1 : Nat)) * (16 : Nat) <= (70368744177664 : Nat)) (
 zg (IntKind.wrap .i64 (s226.fst + 1)) fun x250 =>
 some (.inl ((x250, s226.snd ++ [x249.s_])))))))
 (some (.inr (.inl ())))) ((0, [])))
 (Sum.elim (fun (_ : Unit) =>
 some ((0, 0))) some))
def zjk (a0 : TL) (a1 : Int) (a2 : Int) : Option (Int) :=
 (zgp a0).bind fun x273 =>
 cond (decide (x273.snd = 0))
 (cond (decide (a1 < 0))
 (some (7))
 (cond (decide ((↑(List.length (List.map SV.str a0.Names)) : Int) <= a1))
 (some (7))
 (cond (decide (a2 < 0))
 (some (7))
 (cond (decide ((↑(List.length (List.map SV.str a0.Names)) : Int) <= a2))
 (some (7))
 (some (x273.snd))))))
 (some (x273.snd))
def zfm (a0 : TL) : Option (Int × Int) :=
 (zjk a0 (0) (0)).bind fun x279 =>
 cond (!decide (x279 = 0))
 (some ((0, x279)))
 ((zkl a0).bind fun x281 =>
 Option.bind (
 lpO (fun (s284 : Int × Int) =>
 cond (decide (s284.fst < (↑(List.length (List.map SV.str a0.Names)) : Int)))
 ((zgh x281 (s284.fst) (s284.snd)).bind fun x288 =>
 zg (IntKind.wrap .i64 (s284.fst + 1)) fun x289 =>
 some (.inl ((x289, x288))))
 (some (.inr (.inl (s284.snd))))) ((0, 0)))
 (Sum.elim (fun (s282 : Int) =>
 some ((s282, 0))) some))
def zfo (a0 : TL) (a1 : TY) : Option (Int) :=
 (zgp a0).bind fun x261 =>
 cond (!decide (x261.snd = 0))
 (some (x261.snd))
 (cond (!decide (a1.Kind = 1))
 (cond (!decide (a1.Kind = 2))
 (some (7))
 (cond (decide (a1.Rank < 0))
 (some (7))
 (cond (decide (2 < a1.Rank))
 (some (7))
 ((jt a0 (a1.Axes.fst)).bind fun x267 =>
 cond (!x267)
 (some (7))
 ((jt a0 (a1.Axes.snd)).bind fun x269 =>
 cond (!x269)
 (some (7))
 ((jt a0 (a1.Data)).bind fun x271 =>
 cond (!x271)
 (some (7))
 ((zfm a0).bind fun x290 =>
 Option.bind (
 lpO (fun (s293 : Int) =>
 cond (decide (s293 < 2))
 (zk (0 <= s293 /\ s293 < (↑(2 : Nat) : Int)) (
 zi ([a1.Axes.fst, a1.Axes.snd]) ((↑(Int.toNat s293) : Int)) fun x299 =>
 cond (!decide (x299 = x290.fst))
 (some (.inr (.inr (6))))
 (zg (IntKind.wrap .i64 (s293 + 1)) fun x301 =>
 some (.inl x301))))
 (some (.inr (.inl ())))) (a1.Rank))
 (Sum.elim (fun (_ : Unit) =>
 Option.bind (
 lpO (fun (s304 : Int) =>
 cond (decide (s304 < a1.Rank))
 (zk (0 <= s304 /\ s304 < (↑(2 : Nat) : Int)) (
 zi ([a1.Axes.fst, a1.Axes.snd]) ((↑(Int.toNat s304) : Int)) fun x309 =>
 (jy a0 x309 (a1.Data)).bind fun x310 =>
 cond (!x310)
 (some (.inr (.inr (25))))
 (zg (IntKind.wrap .i64 (s304 + 1)) fun x312 =>
 some (.inl x312))))
 (some (.inr (.inl ())))) (0))
 (Sum.elim (fun (_ : Unit) =>
 some (0)) some)) some))))))))
 (cond (decide (a1.Rank < 0))
 (some (7))
 (cond (decide (2 < a1.Rank))
 (some (7))
 ((jt a0 (a1.Axes.fst)).bind fun x315 =>
 cond (!x315)
 (some (7))
 ((jt a0 (a1.Axes.snd)).bind fun x317 =>
 cond (!x317)
 (some (7))
 ((jt a0 (a1.Data)).bind fun x319 =>
 cond (!x319)
 (some (7))
 ((zfm a0).bind fun x321 =>
 Option.bind (
 lpO (fun (s324 : Int) =>
 cond (decide (s324 < 2))
 (zk (0 <= s324 /\ s324 < (↑(2 : Nat) : Int)) (
 zi ([a1.Axes.fst, a1.Axes.snd]) ((↑(Int.toNat s324) : Int)) fun x330 =>
 cond (!decide (x330 = x321.fst))
 (some (.inr (.inr (6))))
 (zg (IntKind.wrap .i64 (s324 + 1)) fun x332 =>
 some (.inl x332))))
 (some (.inr (.inl ())))) (a1.Rank))
 (Sum.elim (fun (_ : Unit) =>
 Option.bind (
 lpO (fun (s335 : Int) =>
 cond (decide (s335 < a1.Rank))
 (zk (0 <= s335 /\ s335 < (↑(2 : Nat) : Int)) (
 zi ([a1.Axes.fst, a1.Axes.snd]) ((↑(Int.toNat s335) : Int)) fun x340 =>
 (jy a0 x340 (a1.Data)).bind fun x341 =>
 cond (!x341)
 (some (.inr (.inr (25))))
 (zg (IntKind.wrap .i64 (s335 + 1)) fun x343 =>
 some (.inl x343))))
 (some (.inr (.inl ())))) (0))
 (Sum.elim (fun (_ : Unit) =>
 some (0)) some)) some))))))))
def zi2 (a0 : TP) : Option (Int × Int) :=
 cond (decide (32 < (↑(List.length (List.map zS a0.Vars)) : Int)))
 (some (((-1 : Int), 3)))
 (Option.bind (
 lpO (fun (s256 : Int × List (List UInt8)) =>
 cond (decide (s256.fst < (↑(List.length (List.map zS a0.Vars)) : Int)))
 (zi (a0.Vars) (s256.fst) fun x268 =>
 (zfp (x268.Name) (s256.snd)).bind fun x269 =>
 cond (decide (x269 = 0))
 (zi (a0.Vars) (s256.fst) fun x271 =>
 (zfo (a0.Lattice) (x271.Type_)).bind fun x272 =>
 cond (!decide (x272 = 0))
 (some (.inr (.inr ((s256.fst, x272)))))
 (zi (a0.Vars) (s256.fst) fun x274 =>
 zk ((List.length (List.map SV.str s256.snd) + (1 : Nat)) * (16 : Nat) <= (70368744177664 : Nat)) (
 zg (IntKind.wrap .i64 (s256.fst + 1)) fun x275 =>
 some (.inl ((x275, s256.snd ++ [x274.Name]))))))
 (cond (!decide (x269 = 0))
 (some (.inr (.inr ((s256.fst, x269)))))
 (zi (a0.Vars) (s256.fst) fun x277 =>
 zk ((List.length (List.map SV.str s256.snd) + (1 : Nat)) * (16 : Nat) <= (70368744177664 : Nat)) (
 zg (IntKind.wrap .i64 (s256.fst + 1)) fun x278 =>
 some (.inl ((x278, s256.snd ++ [x277.Name])))))))
 (some (.inr (.inl ())))) ((0, [])))
 (Sum.elim (fun (_ : Unit) =>
 some ((0, 0))) some))
def zh4 (a0 : TP) : Option (Int × Int) :=
 cond (decide (64 < (↑(List.length (List.map wK a0.Rules)) : Int)))
 (some (((-1 : Int), 3)))
 (Option.bind (
 lpO (fun (s284 : Int) =>
 cond (decide (s284 < (↑(List.length (List.map wK a0.Rules)) : Int)))
 (zi (a0.Rules) s284 fun x300 =>
 (jt (a0.Lattice) (x300.From)).bind fun x301 =>
 cond (!x301)
 (some (.inr (.inr ((s284, 7)))))
 ((jt (a0.Lattice) (x300.Goal)).bind fun x303 =>
 cond (!x303)
 (some (.inr (.inr ((s284, 7)))))
 (cond (decide (x300.From = x300.Goal))
 (some (.inr (.inr ((s284, 25)))))
 ((jy (a0.Lattice) (x300.Goal) (x300.From)).bind fun x306 =>
 cond (!x306)
 (some (.inr (.inr ((s284, 25)))))
 (Option.bind (
 lpO (fun (s310 : Int) =>
 cond (decide (s310 < s284))
 (zi (a0.Rules) s310 fun x317 =>
 cond (decide (x317.From = x300.From))
 (zi (a0.Rules) s310 fun x319 =>
 cond (decide (x319.Goal = x300.Goal))
 (some (.inr (.inr (.inr (.inr ((s284, 8)))))))
 (zg (IntKind.wrap .i64 (s310 + 1)) fun x321 =>
 some (.inl x321)))
 (zg (IntKind.wrap .i64 (s310 + 1)) fun x322 =>
 some (.inl x322)))
 (some (.inr (.inl ())))) (0))
 (Sum.elim (fun (_ : Unit) =>
 cond (decide (x300.K < 2))
 (some (.inr (.inr ((s284, 3)))))
 (cond (decide (400 < x300.K))
 (some (.inr (.inr ((s284, 3)))))
 (zg (IntKind.wrap .i64 (s284 + 1)) fun x325 =>
 some (.inl x325)))) some))))))
 (some (.inr (.inl ())))) (0))
 (Sum.elim (fun (_ : Unit) =>
 some ((0, 0))) some))
def zfg (a0 : TP) : Option (Int × Int × Int) :=
 (zgp (a0.Lattice)).bind fun x221 =>
 cond (!decide (x221.snd = 0))
 (some ((1, x221)))
 ((zib a0).bind fun x251 =>
 cond (!decide (x251.snd = 0))
 (some ((2, x251)))
 ((zi2 a0).bind fun x279 =>
 cond (!decide (x279.snd = 0))
 (some ((3, x279)))
 ((zh4 a0).bind fun x326 =>
 cond (!decide (x326.snd = 0))
 (some ((4, x326)))
 (some ((0, 0, 0))))))
def zfe (a0 : TP) (a1 : Int) : Option (Int) :=
 (zfg a0).bind fun x328 =>
 cond (decide (x328.snd.snd = 0))
 (cond (decide (a1 < 0))
 (some (7))
 (cond (decide ((↑(List.length (List.map SV.str a0.Lattice.Names)) : Int) <= a1))
 (some (7))
 (some (x328.snd.snd))))
 (some (x328.snd.snd))
def za9 (a0 : TL) (a1 : TY) (a2 : Int) : Option ((Bool × Bool) × Bool) :=
 (jy a0 (a1.Data) a2).bind fun x338 =>
 Option.bind (
 lpO (fun (s341 : Int × (Bool × Bool) × Bool) =>
 cond (decide (s341.fst < a1.Rank))
 (zk (0 <= s341.fst /\ s341.fst < (↑(2 : Nat) : Int)) (
 zi ([a1.Axes.fst, a1.Axes.snd]) ((↑(Int.toNat s341.fst) : Int)) fun x346 =>
 (jy a0 x346 a2).bind fun x347 =>
 zk (0 <= s341.fst /\ s341.fst < (↑(2 : Nat) : Int)) (
 zi ([s341.snd.fst.fst, s341.snd.fst.snd]) ((↑(Int.toNat s341.fst) : Int)) fun _ =>
 cond (s341.snd.snd)
 (zk (0 <= s341.fst /\ s341.fst < (↑(2 : Nat) : Int)) (
 zi (List.set [s341.snd.fst.fst, s341.snd.fst.snd] (Int.toNat s341.fst) x347) ((↑(Int.toNat s341.fst) : Int)) fun x350 =>
 zg (IntKind.wrap .i64 (s341.fst + 1)) fun x351 =>
 some (.inl ((x351, yK s341.snd.fst (Int.toNat s341.fst) x347, x350)))))
 (zg (IntKind.wrap .i64 (s341.fst + 1)) fun x352 =>
 some (.inl ((x352, yK s341.snd.fst (Int.toNat s341.fst) x347, false)))))))
 (some (.inr (.inl (s341.snd))))) ((0, (false, false), x338)))
 (Sum.elim (fun (s339 : (Bool × Bool) × Bool) =>
 some s339) some)
def ziv (a0 : TP) (a1 : Int) : Option (List ((Bool × Bool) × Bool) × Int) :=
 (zfe a0 a1).bind fun x332 =>
 cond (!decide (x332 = 0))
 (some (([], x332)))
 (Option.bind (
 lpO (fun (s336 : Int × List ((Bool × Bool) × Bool)) =>
 cond (decide (s336.fst < (↑(List.length (List.map zS a0.Vars)) : Int)))
 (zi (a0.Vars) (s336.fst) fun x341 =>
 (za9 (a0.Lattice) (x341.Type_) a1).bind fun x342 =>
 zk ((List.length (List.map (fun (x : (Bool × Bool) × Bool) => SV.agg [zO (1 : Nat) SV.bool x.fst, .bool x.snd]) s336.snd) + (1 : Nat)) * (3 : Nat) <= (70368744177664 : Nat)) (
 zg (IntKind.wrap .i64 (s336.fst + 1)) fun x343 =>
 some (.inl ((x343, s336.snd ++ [x342])))))
 (some (.inr (.inl (s336.snd))))) ((0, [])))
 (Sum.elim (fun (s334 : List ((Bool × Bool) × Bool)) =>
 some ((s334, 0))) some))
def zmv (a0 : TA) (a1 : TA) : Option (Bool) :=
 cond (decide (a0.Kind = a1.Kind))
 (cond (decide (a0.Rank = a1.Rank))
 (some (decide (a0.Lens.fst = a1.Lens.fst) && (decide (a0.Lens.snd = a1.Lens.snd) && true)))
 (some (false)))
 (some (false))
def zmq (a0 : List Int) (a1 : List Int) : Option (Bool) :=
 cond (!decide ((↑(List.length (List.map (SV.int .i64) a0)) : Int) = (↑(List.length (List.map (SV.int .i64) a1)) : Int)))
 (some (false))
 (Option.bind (
 lpO (fun (s409 : Int) =>
 cond (decide (s409 < (↑(List.length (List.map (SV.int .i64) a0)) : Int)))
 (zi a0 s409 fun x415 =>
 zi a1 s409 fun x416 =>
 cond (!decide (x415 = x416))
 (some (.inr (.inr (false))))
 (zg (IntKind.wrap .i64 (s409 + 1)) fun x418 =>
 some (.inl x418)))
 (some (.inr (.inl ())))) (0))
 (Sum.elim (fun (_ : Unit) =>
 some (true)) some))
def ze7 (a0 : TA) (a1 : TA) : Option (Bool) :=
 (zmv a0 a1).bind fun x404 =>
 cond x404
 ((zmq (a0.Cells) (a1.Cells)).bind fun x419 =>
 some x419)
 (some (false))
def zic (a0 : (Bool × Bool) × Bool) (a1 : TA) (a2 : TA) : Option (Bool) :=
 cond (!a0.fst.fst && (!a0.fst.snd && true) && (!a0.snd && true))
 (some (true))
 (Option.bind (
 lpO (fun (s390 : Int) =>
 cond (decide (s390 < 2))
 (zi ([a0.fst.fst, a0.fst.snd]) s390 fun x394 =>
 cond x394
 (zk (0 <= s390 /\ s390 < (↑(2 : Nat) : Int)) (
 zi ([a1.Lens.fst, a1.Lens.snd]) ((↑(Int.toNat s390) : Int)) fun x396 =>
 zk (0 <= s390 /\ s390 < (↑(2 : Nat) : Int)) (
 zi ([a2.Lens.fst, a2.Lens.snd]) ((↑(Int.toNat s390) : Int)) fun x397 =>
 cond (!decide (x396 = x397))
 (some (.inr (.inr (false))))
 (zg (IntKind.wrap .i64 (s390 + 1)) fun x399 =>
 some (.inl x399)))))
 (zg (IntKind.wrap .i64 (s390 + 1)) fun x400 =>
 some (.inl x400)))
 (some (.inr (.inl ())))) (0))
 (Sum.elim (fun (_ : Unit) =>
 cond (!a0.snd)
 (some (true))
 ((ze7 a1 a2).bind fun x420 =>
 some x420)) some))
def ziy (a0 : Int) (a1 : (Bool × Bool) × Bool) (a2 : List TW) (a3 : List TW) : Option (Int) :=
 zi a2 a0 fun x385 =>
 zi a3 a0 fun x386 =>
 (zic a1 (x385.Value) (x386.Value)).bind fun x421 =>
 cond x421
 (some ((-1 : Int)))
 (some a0)
def zcr (a0 : Int) : Option (Bool) :=
 some (decide (a0 < 0))
def zex (a0 : TP) (a1 : List TW) (a2 : List TW) (a3 : Int) : Option (List Int × Int) :=
 (zdq a0 ([a1, a2])).bind fun x359 =>
 cond (!decide (x359 = 0))
 (some (([], x359)))
 (cond (decide (a3 < 0))
 (Option.bind (
 lpO (fun (_ : Unit) =>
 some (.inr (.inl ()))) (()))
 (Sum.elim (fun (_ : Unit) =>
 some (([], 7))) some))
 (cond (decide ((↑(List.length (List.map SV.str a0.Lattice.Names)) : Int) <= a3))
 (Option.bind (
 lpO (fun (_ : Unit) =>
 some (.inr (.inl ()))) (()))
 (Sum.elim (fun (_ : Unit) =>
 some (([], 7))) some))
 (Option.bind (
 lpO (fun (s376 : Int × List Int) =>
 cond (decide (s376.fst < (↑(List.length (List.map zS a0.Vars)) : Int)))
 (zi (a0.Vars) (s376.fst) fun x388 =>
 (zkm (a0.Lattice) (x388.Type_) a3).bind fun x389 =>
 cond (!decide (x389.snd.snd = 0))
 (Option.bind (
 lpO (fun (_ : Unit) =>
 some (.inr (.inl ()))) (()))
 (Sum.elim (fun (_ : Unit) =>
 some (.inr (.inr (([], x389.snd.snd))))) some))
 ((ziy (s376.fst) ((x389.fst, x389.snd.fst)) a1 a2).bind fun x396 =>
 zk ((List.length (List.map (SV.int .i64) s376.snd) + (1 : Nat)) * (8 : Nat) <= (70368744177664 : Nat)) (
 zg (IntKind.wrap .i64 (s376.fst + 1)) fun x397 =>
 some (.inl ((x397, s376.snd ++ [x396]))))))
 (some (.inr (.inl ((decide (s376.fst < (↑(List.length (List.map zS a0.Vars)) : Int)), s376)))))) ((0, [])))
 (Sum.elim (fun (s374 : Bool × Int × List Int) =>
 Option.bind (
 lpO (fun (s402 : Int) =>
 cond (decide (s402 < (↑(List.length (List.map (SV.int .i64) s374.snd.snd)) : Int)))
 (zk (0 <= s402 /\ s402 < (↑(List.length (List.map (SV.int .i64) s374.snd.snd)) : Int)) (
 zi (s374.snd.snd) ((↑(Int.toNat s402) : Int)) fun x424 =>
 (zcr x424).bind fun x425 =>
 cond x425
 (cond (decide (s402 = (-1 : Int)))
 (some (.inr (.inr ((s374.snd.snd, 0)))))
 (zg (IntKind.wrap .i64 (s402 + 1)) fun x428 =>
 Option.bind (
 lpO (fun (s431 : Int × Int × List Int) =>
 cond (decide (s431.fst < (↑(List.length (List.map (SV.int .i64) s431.snd.snd)) : Int)))
 (zk (0 <= s431.fst /\ s431.fst < (↑(List.length (List.map (SV.int .i64) s431.snd.snd)) : Int)) (
 zi (s431.snd.snd) ((↑(Int.toNat s431.fst) : Int)) fun x441 =>
 (zcr x441).bind fun x442 =>
 cond (!x442)
 (zk (0 <= s431.snd.fst /\ s431.snd.fst < (↑(List.length (List.map (SV.int .i64) s431.snd.snd)) : Int)) (
 zi (s431.snd.snd) ((↑(Int.toNat s431.snd.fst) : Int)) fun _ =>
 zg (IntKind.wrap .i64 (s431.snd.fst + 1)) fun x445 =>
 zg (IntKind.wrap .i64 (s431.fst + 1)) fun x446 =>
 some (.inl ((x446, x445, List.set s431.snd.snd (Int.toNat s431.snd.fst) x441)))))
 (zg (IntKind.wrap .i64 (s431.fst + 1)) fun x447 =>
 some (.inl ((x447, s431.snd))))))
 (some (.inr (.inl ((decide (s431.fst < (↑(List.length (List.map (SV.int .i64) s431.snd.snd)) : Int)), s431)))))) ((x428, s402, s374.snd.snd)))
 (Sum.elim (fun (s429 : Bool × Int × Int × List Int) =>
 zk (0 <= s429.snd.snd.fst /\ s429.snd.snd.fst < (↑(List.length (List.map (SV.int .i64) s429.snd.snd.snd)) : Int)) (
 zk ((1 : Nat) <= List.length (List.map (SV.int .i64) s429.snd.snd.snd) - Int.toNat s429.snd.snd.fst /\ Int.toNat s429.snd.snd.fst + (List.length (List.map (SV.int .i64) s429.snd.snd.snd) - Int.toNat s429.snd.snd.fst) <= List.length (List.map (SV.int .i64) s429.snd.snd.snd)) (
 zk (0 <= s429.snd.snd.fst /\ s429.snd.snd.fst <= (↑(List.length (List.take (Int.toNat s429.snd.snd.fst) (List.map (SV.int .i64) s429.snd.snd.snd) ++ (List.replicate (List.length (List.map (SV.int .i64) s429.snd.snd.snd) - Int.toNat s429.snd.snd.fst) (SV.int .i64 (0 : Int)) ++ List.drop (Int.toNat s429.snd.snd.fst + (List.length (List.map (SV.int .i64) s429.snd.snd.snd) - Int.toNat s429.snd.snd.fst)) (List.map (SV.int .i64) s429.snd.snd.snd)))) : Int)) (
 some (.inr (.inr ((List.drop (Int.toNat 0) (List.take (Int.toNat s429.snd.snd.fst) (List.take (Int.toNat s429.snd.snd.fst) s429.snd.snd.snd ++ (List.replicate (List.length (List.map (SV.int .i64) s429.snd.snd.snd) - Int.toNat s429.snd.snd.fst) 0 ++ List.drop (Int.toNat s429.snd.snd.fst + (List.length (List.map (SV.int .i64) s429.snd.snd.snd) - Int.toNat s429.snd.snd.fst)) s429.snd.snd.snd))), 0)))))))) some)))
 (zg (IntKind.wrap .i64 (s402 + 1)) fun x448 =>
 some (.inl x448))))
 (some (.inr (.inl ((decide (s402 < (↑(List.length (List.map (SV.int .i64) s374.snd.snd)) : Int)), s402)))))) (0))
 (Sum.elim (fun (_ : Bool × Int) =>
 some ((s374.snd.snd, 0))) some)) some))))
def ziu (a0 : TP) (a1 : List TW) (a2 : List TW) (a3 : Int) : Option (Bool × Int) :=
 (zex a0 a1 a2 a3).bind fun x449 =>
 cond (decide (x449.snd = 0))
 (some ((decide ((↑(List.length (List.map (SV.int .i64) x449.fst)) : Int) = 0), x449.snd)))
 (some ((false, x449.snd)))
def zfh (a0 : Int) (a1 : Int × Int) : Option (Int) :=
 Option.bind (
 lpO (fun (s491 : Int × Int) =>
 cond (decide (s491.fst < a0))
 (zk (0 <= s491.fst /\ s491.fst < (↑(2 : Nat) : Int)) (
 zi ([a1.fst, a1.snd]) ((↑(Int.toNat s491.fst) : Int)) fun x495 =>
 zg (IntKind.wrap .i64 (s491.snd * x495)) fun x496 =>
 zg (IntKind.wrap .i64 (s491.fst + 1)) fun x497 =>
 some (.inl ((x497, x496)))))
 (some (.inr (.inl (s491.snd))))) ((0, 1)))
 (Sum.elim (fun (s489 : Int) =>
 some s489) some)
def zhx (a0 : Int) (a1 : Int × Int) : Option (Int) :=
 cond (decide (a0 < 0))
 (some (7))
 (cond (decide (2 < a0))
 (some (7))
 (Option.bind (
 lpO (fun (s469 : Int) =>
 cond (decide (s469 < a0))
 (zk (0 <= s469 /\ s469 < (↑(2 : Nat) : Int)) (
 zi ([a1.fst, a1.snd]) ((↑(Int.toNat s469) : Int)) fun x473 =>
 cond (decide (x473 < 0))
 (some (.inr (.inr (7))))
 (zg (IntKind.wrap .i64 (s469 + 1)) fun x475 =>
 some (.inl x475))))
 (some (.inr (.inl ())))) (0))
 (Sum.elim (fun (_ : Unit) =>
 Option.bind (
 lpO (fun (s478 : Int) =>
 cond (decide (s478 < 2))
 (zk (0 <= s478 /\ s478 < (↑(2 : Nat) : Int)) (
 zi ([a1.fst, a1.snd]) ((↑(Int.toNat s478) : Int)) fun x484 =>
 cond (!decide (x484 = 0))
 (some (.inr (.inr (6))))
 (zg (IntKind.wrap .i64 (s478 + 1)) fun x486 =>
 some (.inl x486))))
 (some (.inr (.inl ())))) a0)
 (Sum.elim (fun (_ : Unit) =>
 cond (decide (400 < a1.fst))
 (some (15))
 (cond (decide (400 < a1.snd))
 (some (15))
 ((zfh a0 a1).bind fun x498 =>
 cond (decide (400 < x498))
 (some (15))
 (some (0))))) some)) some)))
def zff (a0 : Int) (a1 : Int × Int) : Option (Int × Int) :=
 (zhx a0 a1).bind fun x500 =>
 cond (!decide (x500 = 0))
 (some ((0, x500)))
 ((zfh a0 a1).bind fun x502 =>
 some ((x502, 0)))
def zc7 (a0 : Int) : Option (Bool) :=
 cond (decide (0 <= a0))
 (cond (decide (a0 <= 1114111))
 (cond (decide (a0 < 55296))
 (some (true))
 (some (decide (57343 < a0))))
 (some (false)))
 (some (false))
def za4 (a0 : TA) : Option (Int) :=
 cond (!decide (a0.Kind = 1))
 (cond (!decide (a0.Kind = 2))
 (some (2))
 ((zff (a0.Rank) (a0.Lens)).bind fun x503 =>
 cond (decide (x503.snd = 0))
 (cond (!decide ((↑(List.length (List.map (SV.int .i64) a0.Cells)) : Int) = x503.fst))
 (Option.bind (
 lpO (fun (_ : Unit) =>
 cond (decide (0 < (↑(List.length (List.map (SV.int .i64) a0.Cells)) : Int)))
 (some (.inr (.inl ())))
 (some (.inr (.inl ())))) (()))
 (Sum.elim (fun (_ : Unit) =>
 some (6)) some))
 (Option.bind (
 lpO (fun (s512 : Int × Int) =>
 cond (decide (s512.fst < (↑(List.length (List.map (SV.int .i64) a0.Cells)) : Int)))
 (cond (decide (s512.snd = 0))
 (cond (decide (a0.Kind = 2))
 (zi (a0.Cells) (s512.fst) fun x521 =>
 (zc7 x521).bind fun x522 =>
 cond (!x522)
 (zg (IntKind.wrap .i64 (s512.fst + 1)) fun x524 =>
 some (.inl ((x524, 7))))
 (zg (IntKind.wrap .i64 (s512.fst + 1)) fun x525 =>
 some (.inl ((x525, s512.snd)))))
 (zg (IntKind.wrap .i64 (s512.fst + 1)) fun x526 =>
 some (.inl ((x526, s512.snd)))))
 (some (.inr (.inl (s512.snd)))))
 (some (.inr (.inl (s512.snd))))) ((0, x503.snd)))
 (Sum.elim (fun (s510 : Int) =>
 some s510) some)))
 (Option.bind (
 lpO (fun (_ : Unit) =>
 cond (decide (0 < (↑(List.length (List.map (SV.int .i64) a0.Cells)) : Int)))
 (some (.inr (.inl ())))
 (some (.inr (.inl ())))) (()))
 (Sum.elim (fun (_ : Unit) =>
 some (x503.snd)) some))))
 ((zff (a0.Rank) (a0.Lens)).bind fun x531 =>
 cond (decide (x531.snd = 0))
 (cond (!decide ((↑(List.length (List.map (SV.int .i64) a0.Cells)) : Int) = x531.fst))
 (Option.bind (
 lpO (fun (_ : Unit) =>
 cond (decide (0 < (↑(List.length (List.map (SV.int .i64) a0.Cells)) : Int)))
 (some (.inr (.inl ())))
 (some (.inr (.inl ())))) (()))
 (Sum.elim (fun (_ : Unit) =>
 some (6)) some))
 (Option.bind (
 lpO (fun (s540 : Int × Int) =>
 cond (decide (s540.fst < (↑(List.length (List.map (SV.int .i64) a0.Cells)) : Int)))
 (cond (decide (s540.snd = 0))
 (cond (decide (a0.Kind = 2))
 (zi (a0.Cells) (s540.fst) fun x549 =>
 (zc7 x549).bind fun x550 =>
 cond (!x550)
 (zg (IntKind.wrap .i64 (s540.fst + 1)) fun x552 =>
 some (.inl ((x552, 7))))
 (zg (IntKind.wrap .i64 (s540.fst + 1)) fun x553 =>
 some (.inl ((x553, s540.snd)))))
 (zg (IntKind.wrap .i64 (s540.fst + 1)) fun x554 =>
 some (.inl ((x554, s540.snd)))))
 (some (.inr (.inl (s540.snd)))))
 (some (.inr (.inl (s540.snd))))) ((0, x531.snd)))
 (Sum.elim (fun (s538 : Int) =>
 some s538) some)))
 (Option.bind (
 lpO (fun (_ : Unit) =>
 cond (decide (0 < (↑(List.length (List.map (SV.int .i64) a0.Cells)) : Int)))
 (some (.inr (.inl ())))
 (some (.inr (.inl ())))) (()))
 (Sum.elim (fun (_ : Unit) =>
 some (x531.snd)) some)))
def zfa (a0 : TP) (a1 : List TW) : Option (Int × Int) :=
 (zfg a0).bind fun x452 =>
 cond (decide (x452.snd.snd = 0))
 (cond (!decide ((↑(List.length (List.map zj a1)) : Int) = (↑(List.length (List.map zS a0.Vars)) : Int)))
 (some (((-1 : Int), 3)))
 (cond (!decide (x452.snd.snd = 0))
 (some (((-1 : Int), x452.snd.snd)))
 (Option.bind (
 lpO (fun (s458 : Int) =>
 cond (decide (s458 < (↑(List.length (List.map zj a1)) : Int)))
 (zi a1 s458 fun x475 =>
 zi (a0.Vars) s458 fun x476 =>
 cond (!decide (x475.Name = x476.Name))
 (some (.inr (.inr ((s458, 24)))))
 (zi a1 s458 fun x478 =>
 (za4 (x478.Value)).bind fun x479 =>
 cond (decide (x479 = 0))
 (zi a1 s458 fun x481 =>
 zi (a0.Vars) s458 fun x482 =>
 cond (!decide (x481.Value.Kind = x482.Type_.Kind))
 (some (.inr (.inr ((s458, 21)))))
 (zi a1 s458 fun x484 =>
 zi (a0.Vars) s458 fun x485 =>
 cond (!decide (x484.Value.Rank = x485.Type_.Rank))
 (some (.inr (.inr ((s458, 22)))))
 (cond (!decide (x479 = 0))
 (some (.inr (.inr ((s458, x479)))))
 (zg (IntKind.wrap .i64 (s458 + 1)) fun x488 =>
 some (.inl x488)))))
 (cond (!decide (x479 = 0))
 (some (.inr (.inr ((s458, x479)))))
 (zg (IntKind.wrap .i64 (s458 + 1)) fun x490 =>
 some (.inl x490)))))
 (some (.inr (.inl ())))) (0))
 (Sum.elim (fun (_ : Unit) =>
 some ((0, 0))) some))))
 (cond (!decide (x452.snd.snd = 0))
 (some (((-1 : Int), x452.snd.snd)))
 (Option.bind (
 lpO (fun (s494 : Int) =>
 cond (decide (s494 < (↑(List.length (List.map zj a1)) : Int)))
 (zi a1 s494 fun x511 =>
 zi (a0.Vars) s494 fun x512 =>
 cond (!decide (x511.Name = x512.Name))
 (some (.inr (.inr ((s494, 24)))))
 (zi a1 s494 fun x514 =>
 (za4 (x514.Value)).bind fun x515 =>
 cond (decide (x515 = 0))
 (zi a1 s494 fun x517 =>
 zi (a0.Vars) s494 fun x518 =>
 cond (!decide (x517.Value.Kind = x518.Type_.Kind))
 (some (.inr (.inr ((s494, 21)))))
 (zi a1 s494 fun x520 =>
 zi (a0.Vars) s494 fun x521 =>
 cond (!decide (x520.Value.Rank = x521.Type_.Rank))
 (some (.inr (.inr ((s494, 22)))))
 (cond (!decide (x515 = 0))
 (some (.inr (.inr ((s494, x515)))))
 (zg (IntKind.wrap .i64 (s494 + 1)) fun x524 =>
 some (.inl x524)))))
 (cond (!decide (x515 = 0))
 (some (.inr (.inr ((s494, x515)))))
 (zg (IntKind.wrap .i64 (s494 + 1)) fun x526 =>
 some (.inl x526)))))
 (some (.inr (.inl ())))) (0))
 (Sum.elim (fun (_ : Unit) =>
 some ((0, 0))) some)))
def zio (a0 : TP) (a1 : List TW) (a2 : List TW) : Option (Int) :=
 (zfa a0 a1).bind fun x527 =>
 cond (decide (x527.snd = 0))
 ((zfa a0 a2).bind fun x529 =>
 some (x529.snd))
 (some (x527.snd))
def zm0 (a0 : TA) (a1 : TA) : Option (Bool) :=
 cond (decide (a0.Kind = a1.Kind))
 (cond (decide (a0.Rank = a1.Rank))
 (some (decide (a0.Lens.fst = a1.Lens.fst) && (decide (a0.Lens.snd = a1.Lens.snd) && true)))
 (some (false)))
 (some (false))
def zfi (a0 : TA) (a1 : TA) : Option (Bool) :=
 (zm0 a0 a1).bind fun x557 =>
 cond (!x557)
 (some (false))
 (cond (!decide ((↑(List.length (List.map (SV.int .i64) a0.Cells)) : Int) = (↑(List.length (List.map (SV.int .i64) a1.Cells)) : Int)))
 (some (false))
 (Option.bind (
 lpO (fun (s562 : Int) =>
 cond (decide (s562 < (↑(List.length (List.map (SV.int .i64) a0.Cells)) : Int)))
 (zi (a0.Cells) s562 fun x568 =>
 zi (a1.Cells) s562 fun x569 =>
 cond (!decide (x568 = x569))
 (some (.inr (.inr (false))))
 (zg (IntKind.wrap .i64 (s562 + 1)) fun x571 =>
 some (.inl x571)))
 (some (.inr (.inl ())))) (0))
 (Sum.elim (fun (_ : Unit) =>
 some (true)) some)))
def zda (a0 : (Bool × Bool) × Bool) (a1 : TA) (a2 : TA) : Option (Bool) :=
 Option.bind (
 lpO (fun (s543 : Int) =>
 cond (decide (s543 < 2))
 (zk (0 <= s543 /\ s543 < (↑(2 : Nat) : Int)) (
 zi ([a0.fst.fst, a0.fst.snd]) ((↑(Int.toNat s543) : Int)) fun x547 =>
 cond x547
 (zk (0 <= s543 /\ s543 < (↑(2 : Nat) : Int)) (
 zi ([a1.Lens.fst, a1.Lens.snd]) ((↑(Int.toNat s543) : Int)) fun x549 =>
 zk (0 <= s543 /\ s543 < (↑(2 : Nat) : Int)) (
 zi ([a2.Lens.fst, a2.Lens.snd]) ((↑(Int.toNat s543) : Int)) fun x550 =>
 cond (!decide (x549 = x550))
 (some (.inr (.inr (false))))
 (zg (IntKind.wrap .i64 (s543 + 1)) fun x552 =>
 some (.inl x552)))))
 (zg (IntKind.wrap .i64 (s543 + 1)) fun x553 =>
 some (.inl x553))))
 (some (.inr (.inl ())))) (0))
 (Sum.elim (fun (_ : Unit) =>
 cond (!a0.snd)
 (some (true))
 ((zfi a1 a2).bind fun x572 =>
 some x572)) some)
def zev (a0 : TP) (a1 : List TW) (a2 : List TW) (a3 : Int) : Option (List Int × Int) :=
 (zio a0 a1 a2).bind fun x530 =>
 cond (decide (x530 = 0))
 ((zfe a0 a3).bind fun x532 =>
 cond (!decide (x532 = 0))
 (some (([], x532)))
 (Option.bind (
 lpO (fun (s536 : Int × List Int) =>
 cond (decide (s536.fst < (↑(List.length (List.map zj a1)) : Int)))
 (zi (a0.Vars) (s536.fst) fun x545 =>
 (za9 (a0.Lattice) (x545.Type_) a3).bind fun x546 =>
 zi a1 (s536.fst) fun x547 =>
 zi a2 (s536.fst) fun x548 =>
 (zda x546 (x547.Value) (x548.Value)).bind fun x549 =>
 cond (!x549)
 (zk ((List.length (List.map (SV.int .i64) s536.snd) + (1 : Nat)) * (8 : Nat) <= (70368744177664 : Nat)) (
 zg (IntKind.wrap .i64 (s536.fst + 1)) fun x551 =>
 some (.inl ((x551, s536.snd ++ [s536.fst])))))
 (zg (IntKind.wrap .i64 (s536.fst + 1)) fun x552 =>
 some (.inl ((x552, s536.snd)))))
 (some (.inr (.inl (s536.snd))))) ((0, [])))
 (Sum.elim (fun (s534 : List Int) =>
 some ((s534, 0))) some)))
 (cond (!decide (x530 = 0))
 (some (([], x530)))
 (Option.bind (
 lpO (fun (s556 : Int × List Int) =>
 cond (decide (s556.fst < (↑(List.length (List.map zj a1)) : Int)))
 (zi (a0.Vars) (s556.fst) fun x565 =>
 (za9 (a0.Lattice) (x565.Type_) a3).bind fun x566 =>
 zi a1 (s556.fst) fun x567 =>
 zi a2 (s556.fst) fun x568 =>
 (zda x566 (x567.Value) (x568.Value)).bind fun x569 =>
 cond (!x569)
 (zk ((List.length (List.map (SV.int .i64) s556.snd) + (1 : Nat)) * (8 : Nat) <= (70368744177664 : Nat)) (
 zg (IntKind.wrap .i64 (s556.fst + 1)) fun x571 =>
 some (.inl ((x571, s556.snd ++ [s556.fst])))))
 (zg (IntKind.wrap .i64 (s556.fst + 1)) fun x572 =>
 some (.inl ((x572, s556.snd)))))
 (some (.inr (.inl (s556.snd))))) ((0, [])))
 (Sum.elim (fun (s554 : List Int) =>
 some ((s554, 0))) some)))
def zh9 (a0 : TP) (a1 : List TW) (a2 : List TW) (a3 : Int) : Option (Bool × Int) :=
 (zev a0 a1 a2 a3).bind fun x573 =>
 cond (decide (x573.snd = 0))
 (some ((decide ((↑(List.length (List.map (SV.int .i64) x573.fst)) : Int) = 0), x573.snd)))
 (some ((false, x573.snd)))
def zh1 (a0 : List Int) (a1 : List Int) : Option (Bool) :=
 cond (!decide ((↑(List.length (List.map (SV.int .i64) a0)) : Int) = (↑(List.length (List.map (SV.int .i64) a1)) : Int)))
 (some (false))
 (Option.bind (
 lpO (fun (s583 : Int) =>
 cond (decide (s583 < (↑(List.length (List.map (SV.int .i64) a0)) : Int)))
 (zi a0 s583 fun x589 =>
 zi a1 s583 fun x590 =>
 cond (!decide (x589 = x590))
 (some (.inr (.inr (false))))
 (zg (IntKind.wrap .i64 (s583 + 1)) fun x592 =>
 some (.inl x592)))
 (some (.inr (.inl ())))) (0))
 (Sum.elim (fun (_ : Unit) =>
 some (true)) some))
def zm2 (a0 : TP) (a1 : List TW × List TW) (a2 : Int) : Option (Bool) :=
 (Fz4 a0 (a1.fst) (a1.snd)).bind fun x61 =>
 cond x61
 (some (true))
 ((zo8 a0 a2).bind fun x107 =>
 (ziv a0 a2).bind fun x344 =>
 cond (!decide ((↑(List.length (List.map (fun (x : (Bool × Bool) × Bool) => SV.agg [zO 1 SV.bool x.fst, .bool x.snd]) x107.fst)) : Int) = (↑(List.length (List.map (fun (x : (Bool × Bool) × Bool) => SV.agg [zO 1 SV.bool x.fst, .bool x.snd]) x344.fst)) : Int)))
 (some (false))
 (cond (!decide (x107.snd = x344.snd))
 (some (false))
 (Option.bind (
 lpO (fun (s349 : Int) =>
 cond (decide (s349 < (↑(List.length (List.map (fun (x : (Bool × Bool) × Bool) => SV.agg [zO 1 SV.bool x.fst, .bool x.snd]) x107.fst)) : Int)))
 (zi (x107.fst) s349 fun x355 =>
 zi (x344.fst) s349 fun x356 =>
 cond (!(x355.fst.fst == x356.fst.fst && (x355.fst.snd == x356.fst.snd && true) && (x355.snd == x356.snd && true)))
 (some (.inr (.inr (false))))
 (zg (IntKind.wrap .i64 (s349 + 1)) fun x358 =>
 some (.inl x358)))
 (some (.inr (.inl ())))) (0))
 (Sum.elim (fun (_ : Unit) =>
 (ziu a0 (a1.fst) (a1.snd) a2).bind fun x451 =>
 (zh9 a0 (a1.fst) (a1.snd) a2).bind fun x575 =>
 (zex a0 (a1.fst) (a1.snd) a2).bind fun x576 =>
 (zev a0 (a1.fst) (a1.snd) a2).bind fun x577 =>
 cond (x451.fst == x575.fst)
 (cond (decide (x451.snd = x575.snd))
 ((zh1 (x576.fst) (x577.fst)).bind fun x593 =>
 cond x593
 (cond (decide (x576.snd = x577.snd))
 (some (true))
 (some (false)))
 (some (false)))
 (some (false)))
 (some (false))) some))))
end Go.Sx.O
end
namespace Go.Sx.O
open Go
theorem zlp {α τ : Type} {l : List α} (p : α -> Bool) {step : Int -> Option (Int ⊕ τ)} {d : τ} {g : Int -> τ}
 (h1 : ∀ (k : Nat) x, l[k]? = some x -> step (k : Int) = if p x then some (.inr (g k)) else some (.inl ((k : Int) + 1)))
 (h2 : step (l.length : Int) = some (.inr d)) :
 lpO step 0 = (match l.findIdx? p with | some i => some (g i) | none => some d) := by
 have key : ∀ j k, j + k = l.length -> lpO step (k : Int) = (match (l.drop k).findIdx? p with | some i => some (g ((k + i : Nat) : Int)) | none => some d) := by
  intro j
  induction j with
  | zero =>
    intro k hk
    rw [qD]
    have : k = l.length := by omega
    subst this
    rw [h2]
    simp
  | succ j ih =>
    intro k hk
    have hlt : k < l.length := by omega
    rw [qD, h1 k _ (List.getElem?_eq_getElem hlt), List.drop_eq_getElem_cons hlt, List.findIdx?_cons]
    split
    . simp
    . have := ih (k + 1) (by omega)
      simp only [Option.bind_some, Sum.elim_inl]
      push_cast at this
      rw [this]
      cases (l.drop (k + 1)).findIdx? p with
      | none => rfl
      | some i => simp; congr 1; omega
 have := key l.length 0 (by omega)
 simpa using this
end Go.Sx.O
namespace Go.Sx.O
open Go
theorem dropWhile_nil {α : Type} {p : α -> Bool} : ∀ {l : List α}, l.dropWhile p = [] ↔ ∀ x ∈ l, p x = true
 | [] => by simp
 | a :: l => by
   rw [List.dropWhile_cons]
   cases h : p a with
   | true => simp [h, dropWhile_nil (l := l)]
   | false => simp [h]
theorem zei (l : List (List UInt8)) (s : List UInt8) (hl : l.length <= 1000000000) :
 zpo l s = some (match l.findIdx? (fun x => decide (s = x)) with | some i => (i : Int) | none => -1) := by
 unfold zpo
 rw [zlp (l := l) (fun x => decide (s = x)) (d := .inl ()) (g := .inr) ?_ ?_]
 . cases l.findIdx? (fun x => decide (s = x)) <;> rfl
 . intro k x hx
   have hlt : k < l.length := by
    by_cases h : k < l.length
    . exact h
    . rw [List.getElem?_eq_none (by omega)] at hx; cases hx
   simp only [List.length_map, Int.ofNat_lt, hlt, decide_true, cond_true, zi, Int.toNat_natCast, hx, Option.bind_some, zg, Int.natCast_nonneg, if_true]
   rw [w64 (by omega) (by omega)]
   cases decide (s = x) <;> rfl
 . simp
theorem xf (l : List (List UInt8)) (s : List UInt8) (hl : l.length <= 1000000000) :
 zne l s = some (decide (s ∈ l)) := by
 unfold zne
 rw [zei l s hl]
 cases h : l.findIdx? (fun x => decide (s = x)) with
 | none =>
   have := List.findIdx?_eq_none_iff.1 h
   simp only [Option.bind_some]
   congr 1
   have hn : s ∉ l := fun hm => by have := this s hm; simp at this
   simp [hn]
 | some i =>
   have := List.findIdx?_eq_some_iff_getElem.1 h
   obtain ⟨hi, h1, _⟩ := this
   have hm : s ∈ l := by
    have e : s = l[i] := by simpa using h1
    rw [e]; exact List.getElem_mem hi
   simp [hm]
def yQ (set : List Bool) (c : UInt8) : Bool := set.getD c.toNat false
theorem zdg (set : List Bool) (c : UInt8) (h : set.length = 256) : Fz8 set (c.toNat : Int) = some (yQ set c) := by
 unfold Fz8
 have hc : c.toNat < 256 := c.toNat_lt
 have h2 : set[c.toNat]? = some (set[c.toNat]'(by omega)) := List.getElem?_eq_getElem _
 have h3 : (c.toNat : Int) < 256 := by omega
 simp [zk, zi, yQ, h2, h3]
def xU (p : UInt8 -> Bool) (s : List UInt8) : List UInt8 := (s.reverse.dropWhile p).reverse
theorem zwu {p : UInt8 -> Bool} {s : List UInt8} : (xU p s).dropWhile p = [] ↔ ∀ c ∈ s, p c = true := by
 unfold xU
 constructor
 . intro h c hc
   have h1 : ∀ c ∈ (s.reverse.dropWhile p).reverse, p c = true := dropWhile_nil.1 h
   have h2 : s.reverse.dropWhile p = [] := by
    cases e : s.reverse.dropWhile p with
    | nil => rfl
    | cons a r =>
      have := List.head?_dropWhile_not p s.reverse
      rw [e] at this
      simp at this
      rw [e] at h1
      rw [h1 a (by simp)] at this
      cases this
   exact dropWhile_nil.1 h2 c (by simpa using hc)
 . intro h
   have : s.reverse.dropWhile p = [] := dropWhile_nil.2 fun c hc => h c (by simpa using hc)
   rw [this]; rfl
theorem zdj (s : List UInt8) (set : List Bool) (h : set.length = 256) (hs : s.length <= 1000000000) : Fz9 s set = some (xU (yQ set) s) := by
 unfold Fz9
 apply Tot.eq
 simp only [zv]
 refine Tot.loop (fun s => s.length) (fun r => r.length <= 1000000000 /\ xU (yQ set) r = xU (yQ set) s) ?_ ⟨hs, rfl⟩
 rintro r ⟨hr, he⟩
 simp only [zq, zG, qb, qq, qK, zv, Sum.elim_inl, Sum.elim_inr, decide_eq_true_eq, decide_eq_false_iff_not]
 refine ⟨fun h1 => ?_, fun h1 => ?_⟩
 . have h0 : r ≠ [] := by rintro rfl; simp at h1
   rw [w64 (by omega) (by omega)]
   have e1 : ((r.length : Int) - 1).toNat = r.length - 1 := by omega
   rw [e1]
   refine ⟨by omega, _, List.getElem?_eq_getElem (by omega), ?_⟩
   rw [zdg set _ h]
   simp only [zq, Bool.not_eq_true', Bool.not_eq_false']
   have hr2 : r = r.dropLast ++ [r[r.length - 1]'(by omega)] := by
    rw [<- List.getLast_eq_getElem h0]; exact (List.dropLast_concat_getLast h0).symm
   refine ⟨fun h2 => ?_, fun h2 => ⟨⟨by omega, by omega⟩, ⟨by simp; omega, ?_⟩, by simp; omega⟩⟩
   . rw [<- he]
     unfold xU
     rw [hr2]
     simp [h2]
   . rw [<- he]
     simp only [Int.toNat_zero, List.drop_zero]
     rw [<- List.dropLast_eq_take]
     conv => rhs; rw [hr2]
     unfold xU
     simp [h2]
 . have h0 : r = [] := List.length_eq_zero_iff.1 (by omega)
   rw [<- he, h0]; rfl
theorem zer (s : List UInt8) (set : List Bool) (h : set.length = 256) (hs : s.length <= 1000000000) : zkn s set = some (s.dropWhile (yQ set)) := by
 unfold zkn
 apply Tot.eq
 simp only [zv]
 refine Tot.loop (fun s => s.length) (fun r => r.length <= 1000000000 /\ r.dropWhile (yQ set) = s.dropWhile (yQ set)) ?_ ⟨hs, rfl⟩
 rintro r ⟨hr, he⟩
 simp only [zq, zG, qb, qq, qK, zv, Sum.elim_inl, Sum.elim_inr, decide_eq_true_eq, decide_eq_false_iff_not]
 cases r with
 | nil => simp [<- he]
 | cons a r =>
   refine ⟨fun h1 => ⟨by omega, a, rfl, ?_⟩, fun h1 => absurd h1 (by simp)⟩
   rw [zdg set _ h]
   simp only [zq, Bool.not_eq_true', Bool.not_eq_false']
   refine ⟨fun h2 => ?_, fun h2 => ⟨by simp; omega, ⟨?_, ?_⟩, ?_⟩⟩
   . rw [<- he]; simp [h2]
   . simp at hr ⊢; omega
   . rw [<- he]; simp [h2]
   . simp
end Go.Sx.O
namespace Go.Sx.O
open Go
theorem zu8 {set : List Bool} {c d : UInt8} (h : set.length = 256) : yQ (set.set c.toNat true) d = (decide (d = c) || yQ set d) := by
 have hc : c.toNat < 256 := c.toNat_lt
 unfold yQ
 rw [List.getD_eq_getElem?_getD, List.getD_eq_getElem?_getD, List.getElem?_set]
 by_cases e : c.toNat = d.toNat
 . have : d = c := (UInt8.toNat_inj.1 e).symm
   subst this
   simp [h, hc]
 . have : d ≠ c := fun e' => e (by rw [e'])
   simp [e, this]
theorem zfx (cs : List UInt8) (h : ∀ c ∈ cs, c.toNat < 128) (hs : cs.length <= 1000000000) : Tot (Fz7 cs) fun r => r.2 = true /\ r.1.length = 256 /\ ∀ d, yQ r.1 d = decide (d ∈ cs) := by
 unfold Fz7
 simp only [zv]
 refine Tot.count cs.length (fun k s => s.1 = (k : Int) /\ s.2.length = 256 /\ ∀ d, yQ s.2 d = decide (d ∈ cs.take k)) ?_ ⟨rfl, List.length_replicate, fun d => ?_⟩
 . rintro k ⟨i, set⟩ hk ⟨h0, h1, h2⟩
   simp only at h0 h1 h2
   subst h0
   simp only [zq, zG, qb, qq, qK, Sum.elim_inl, Sum.elim_inr, decide_eq_true_eq, decide_eq_false_iff_not, Int.toNat_natCast]
   refine ⟨fun hlt => ⟨by omega, _, List.getElem?_eq_getElem (by omega), fun h3 => ?_, fun h3 => ?_⟩, fun hlt => ?_⟩
   . have := h cs[k] (List.getElem_mem _)
     omega
   . have hc : cs[k].toNat < 256 := (cs[k]'(by omega)).toNat_lt
     refine ⟨⟨by omega, by omega⟩, by omega, _, List.getElem?_eq_getElem (by omega), ?_⟩
     rw [w64 (by omega) (by omega)]
     refine ⟨by omega, by omega, by simpa using h1, fun d => ?_⟩
     have hm : d ∈ cs.take (k + 1) ↔ d ∈ cs.take k \/ d = cs[k] := by
      rw [List.take_add_one, List.getElem?_eq_getElem (by omega), List.mem_append]
      simp
     rw [zu8 h1, h2, Bool.eq_iff_iff]
     simp only [Bool.or_eq_true, decide_eq_true_eq, hm]
     exact or_comm
   . refine ⟨trivial, h1, fun d => ?_⟩
     rw [h2, List.take_of_length_le (by omega)]
 . unfold yQ
   rw [List.getD_eq_getElem?_getD, List.getElem?_replicate]
   split <;> simp
theorem zww (s cs : List UInt8) (h : ∀ c ∈ cs, c.toNat < 128) (h1 : 2 <= cs.length) (hs : cs.length <= 1000000000) (hl : s.length <= 1000000000) :
 znq s cs = some ((xU (fun c => decide (c ∈ cs)) s).dropWhile (fun c => decide (c ∈ cs))) := by
 unfold znq
 have e0 : (ByteArray.mk #[]).data.toList = [] := rfl
 simp only [e0]
 cases s with
 | nil => simp [xU]
 | cons a r =>
   have e1 : decide (a :: r = []) = false := by simp
   have e2 : decide (cs = []) = false := by cases cs <;> simp at h1 ⊢
   have e3 : decide ((cs.length : Int) = 1) = false := by simp; omega
   simp only [e1, e2, e3, cond_false]
   obtain ⟨x, hx, hx1, hx2, hx3⟩ := zfx cs h hs
   have e4 : yQ x.1 = fun c => decide (c ∈ cs) := funext hx3
   rw [hx]
   simp only [Option.bind_some, hx1, cond_true]
   rw [zdj _ _ hx2 hl]
   simp only [Option.bind_some]
   rw [zer _ _ hx2 (by
    refine Nat.le_trans ?_ hl
    unfold xU
    rw [List.length_reverse]
    refine Nat.le_trans (List.dropWhile_sublist _).length_le (by simp))]
   rw [e4]
   rfl
def ju : List UInt8 := [97, 98, 99, 100, 101, 102, 103, 104, 105, 106, 107, 108, 109, 110, 111, 112, 113, 114, 115, 116, 117, 118, 119, 120, 121, 122, 48, 49, 50, 51, 52, 53, 54, 55, 56, 57, 45]
def zcy (s : List UInt8) : Bool := decide (s.length <= 16) && (match s with | [] => false | c :: _ => decide (97 <= c.toNat) && decide (c.toNat <= 122)) && s.all fun c => decide (c ∈ ju)
theorem zlc (s : List UInt8) (hl : s.length <= 1000000000) : zpp s = some (zcy s) := by
 unfold zpp
 have e0 : (ByteArray.mk #[]).data.toList = [] := rfl
 simp only [e0]
 rw [zww s _ (by decide) (by decide) (by decide) hl]
 cases s with
 | nil => rfl
 | cons a r =>
   have e1 : decide (a :: r = []) = false := by simp
   simp only [e1, cond_false, Option.bind_some]
   have e5 : zi (a :: r) 0 = fun f => (f a : Option Bool) := rfl
   simp only [e5]
   unfold zcy
   by_cases h1 : (16 : Int) < ((a :: r).length : Int)
   . have : ¬ (a :: r).length <= 16 := by omega
     simp only [h1, decide_true, cond_true, this, decide_false, Bool.false_and]
   . have h1' : (a :: r).length <= 16 := by omega
     simp only [h1, decide_false, cond_false, h1', decide_true, Bool.true_and]
     by_cases h2 : (a.toNat : Int) < 97
     . have : ¬ 97 <= a.toNat := by omega
       simp only [h2, decide_true, cond_true, this, decide_false, Bool.false_and]
     . have h2' : 97 <= a.toNat := by omega
       simp only [h2, decide_false, cond_false, h2', decide_true, Bool.true_and]
       by_cases h3 : (122 : Int) < (a.toNat : Int)
       . have : ¬ a.toNat <= 122 := by omega
         simp only [h3, decide_true, cond_true, this, decide_false, Bool.false_and]
       . have h3' : a.toNat <= 122 := by omega
         simp only [h3, decide_false, cond_false, h3', decide_true, Bool.true_and]
         congr 1
         rw [Bool.eq_iff_iff, decide_eq_true_eq, zwu, List.all_eq_true]
         rfl
end Go.Sx.O
namespace Go.Sx.O
open Go
theorem zB9 : ∀ u : Fin 256, ∀ b : Fin 9, bits .and .u8 (Int.fdiv (u.val : Int) (2 ^ min b.val (IntKind.bits .u8))) 1 = if Nat.testBit u b then 1 else 0 := by decide +kernel
theorem zb6 {u : Int} {b : Nat} (h0 : 0 <= u) (h1 : u < 256) (hb : b <= 8) : bits .and .u8 (Int.fdiv u (2 ^ min b (IntKind.bits .u8))) 1 = if u.toNat.testBit b then 1 else 0 := by
 have := zB9 ⟨u.toNat, by omega⟩ ⟨b, by omega⟩
 simp only at this
 rw [Int.toNat_of_nonneg h0] at this
 exact this
theorem xN {u : Int} (h0 : 0 <= u) : BitVec.ofInt 8 u = BitVec.ofNat 8 u.toNat := by
 conv => lhs; rw [<- Int.toNat_of_nonneg h0]
 exact BitVec.ofInt_natCast 8 u.toNat
theorem zkz {n : Nat} (h : n < 256) : IntKind.wrap .u8 (n : Int) = n := by
 simp only [IntKind.wrap, IntKind.signed, IntKind.bits, Bool.false_and]
 have h3 : (2 : Int) ^ 8 = 256 := by decide
 simp only [h3]
 have : (n : Int) % 256 = n := by omega
 simp [this]
theorem zc1 {a b : Int} (ha : 0 <= a) (ha' : a < 256) (hb : 0 <= b) (hb' : b < 256) : bits .and .u8 a b = ((a.toNat &&& b.toNat : Nat) : Int) := by
 have e : bits .and .u8 a b = IntKind.wrap .u8 ((BitVec.ofInt 8 a &&& BitVec.ofInt 8 b).toNat : Int) := rfl
 rw [e, xN ha, xN hb]
 rw [zkz (BitVec.isLt _)]
 rw [BitVec.toNat_and, BitVec.toNat_ofNat, BitVec.toNat_ofNat, Nat.mod_eq_of_lt (by omega), Nat.mod_eq_of_lt (by omega)]
theorem zsr {a b : Int} (ha : 0 <= a) (ha' : a < 256) (hb : 0 <= b) (hb' : b < 256) : bits .or .u8 a b = ((a.toNat ||| b.toNat : Nat) : Int) := by
 have e : bits .or .u8 a b = IntKind.wrap .u8 ((BitVec.ofInt 8 a ||| BitVec.ofInt 8 b).toNat : Int) := rfl
 rw [e, xN ha, xN hb]
 rw [zkz (BitVec.isLt _)]
 rw [BitVec.toNat_or, BitVec.toNat_ofNat, BitVec.toNat_ofNat, Nat.mod_eq_of_lt (by omega), Nat.mod_eq_of_lt (by omega)]
theorem zbi {a b : Int} (ha : 0 <= a) (ha' : a < 256) (hb : 0 <= b) (hb' : b < 256) : bits .andNot .u8 a b = 0 ↔ ∀ i, a.toNat.testBit i = true -> b.toNat.testBit i = true := by
 have e : bits .andNot .u8 a b = IntKind.wrap .u8 ((BitVec.ofInt 8 a &&& ~~~BitVec.ofInt 8 b).toNat : Int) := rfl
 rw [e, xN ha, xN hb]
 rw [zkz (BitVec.isLt _)]
 have hbit : ∀ i, (BitVec.ofNat 8 a.toNat &&& ~~~BitVec.ofNat 8 b.toNat).getLsbD i = (decide (i < 8) && a.toNat.testBit i && !(b.toNat.testBit i)) := by
  intro i
  rw [BitVec.getLsbD_and, BitVec.getLsbD_not, BitVec.getLsbD_ofNat, BitVec.getLsbD_ofNat]
  cases decide (i < 8) <;> simp
 have h8 : ∀ i, a.toNat.testBit i = true -> i < 8 := by
  intro i hi
  rcases Nat.lt_or_ge i 8 with g | g
  . exact g
  . rw [Nat.testBit_lt_two_pow (Nat.lt_of_lt_of_le (show a.toNat < 2 ^ 8 by omega) (Nat.pow_le_pow_right (by omega) g))] at hi
    cases hi
 constructor
 . intro h i hi
   have h0 : (BitVec.ofNat 8 a.toNat &&& ~~~BitVec.ofNat 8 b.toNat).toNat = 0 := Int.ofNat_eq_zero.1 h
   have h1 := hbit i
   rw [<- BitVec.testBit_toNat, h0, Nat.zero_testBit] at h1
   have := h8 i hi
   simp [this, hi] at h1
   exact h1
 . intro h
   have h1 : (BitVec.ofNat 8 a.toNat &&& ~~~BitVec.ofNat 8 b.toNat).toNat = 0 := by
    apply Nat.eq_of_testBit_eq
    intro i
    rw [BitVec.testBit_toNat, hbit i, Nat.zero_testBit]
    cases hi : a.toNat.testBit i with
    | false => simp
    | true => simp [h i hi]
   rw [h1]; rfl
theorem zdp {a b : Nat} (h : a < 256) : a &&& b < 256 := Nat.lt_of_le_of_lt Nat.and_le_left h
theorem zEh {a b : Nat} (h : a < 256) (k : b < 256) : a ||| b < 256 := Nat.or_lt_two_pow (n := 8) h k
theorem zq4 (ns : List (List UInt8)) (h : ns.length <= 20) (hn : ∀ s ∈ ns, s.length <= 1000) : Tot (zhq ns) fun r => r.2 = 0 -> 1 <= ns.length /\ ns.length <= 8 := by
 unfold zhq
 simp only [zG, zq, zv, List.length_map, decide_eq_true_eq, decide_eq_false_iff_not]
 refine ⟨fun _ h => absurd h (by decide), fun h1 => ⟨fun _ h => absurd h (by decide), fun h2 => ?_⟩⟩
 refine Tot.count ns.length (fun k s => s = (k : Int)) ?_ rfl
 rintro k _ hk rfl
 simp only [zq, zG, qb, qq, qK, zv, Sum.elim_inl, Sum.elim_inr, decide_eq_true_eq, decide_eq_false_iff_not, Int.toNat_natCast]
 refine ⟨fun hlt => ⟨by omega, _, List.getElem?_eq_getElem (by omega), ?_⟩, fun hlt => fun _ => by omega⟩
 rw [zlc _ (by have := hn ns[k] (List.getElem_mem _); omega), zq]
 refine ⟨fun _ h => absurd h (by decide), fun _ => ⟨⟨by omega, by omega⟩, ?_⟩⟩
 rw [xf _ _ (by simp; omega), zq]
 refine ⟨fun _ h => absurd h (by decide), fun _ => ?_⟩
 rw [w64 (by omega) (by omega)]
 exact ⟨by omega, by omega⟩
end Go.Sx.O
namespace Go.Sx.O
open Go
def U8s (l : List Int) : Prop := ∀ x ∈ l, 0 <= x /\ x < 256
theorem U8s.get {l : List Int} (h : U8s l) {i : Nat} {x : Int} (hx : l[i]? = some x) : 0 <= x /\ x < 256 := h x (List.mem_of_getElem? hx)
theorem U8s.set {l : List Int} (h : U8s l) {i : Nat} {x : Int} (h0 : 0 <= x) (h1 : x < 256) : U8s (l.set i x) := by
 intro y hy
 rcases List.mem_or_eq_of_mem_set hy with g | g
 . exact h y g
 . subst g; exact ⟨h0, h1⟩
theorem zm4 {e : Int} : 0 <= IntKind.wrap .u8 e /\ IntKind.wrap .u8 e < 256 := by
 simp only [IntKind.wrap, IntKind.signed, IntKind.bits, Bool.false_and]
 have h3 : (2 : Int) ^ 8 = 256 := by decide
 simp only [h3]
 refine ⟨?_, ?_⟩ <;> simp <;> omega
theorem orU {a b : Int} (ha : 0 <= a) (ha' : a < 256) (hb : 0 <= b) (hb' : b < 256) : 0 <= bits .or .u8 a b /\ bits .or .u8 a b < 256 := by
 rw [zsr ha ha' hb hb']
 have := zEh (a := a.toNat) (b := b.toNat) (by omega) (by omega)
 omega
theorem zx {α : Type} {l : List α} {i : Nat} (h : i < l.length) : ∃ x, l[i]? = some x := ⟨_, List.getElem?_eq_getElem h⟩
theorem zw3 (l : TL) (hu : U8s l.Up) (hn : l.Names.length <= 8) (hl : l.Up.length <= 8) :
 Tot (zdy l) fun o => o.n_ = l.Names.length /\ o.up_.length = 8 /\ o.down_.length = 8 /\ U8s o.up_ /\ U8s o.down_ := by
 unfold zdy
 simp only [zv, List.length_map]
 refine Tot.count l.Up.length (fun k s => s.1 = (k : Int) /\ s.2.1.length = 8 /\ s.2.2.length = 8 /\ U8s s.2.1 /\ U8s s.2.2) ?_ ⟨rfl, rfl, rfl, by intro x hx; simp at hx; omega, by intro x hx; simp at hx; omega⟩
 rintro k ⟨i, up, down⟩ hk ⟨h0, h1, h2, h3, h4⟩
 simp only at h0 h1 h2 h3 h4
 subst h0
 simp only [zq, zG, qb, qq, qK, zv, Sum.elim_inl, Sum.elim_inr, decide_eq_true_eq, decide_eq_false_iff_not, Int.toNat_natCast]
 refine ⟨fun hlt => ?_, fun hlt => ⟨trivial, h1, h2, h3, h4⟩⟩
 obtain ⟨x, hx⟩ := zx (l := l.Up) (i := k) (by omega)
 obtain ⟨y, hy⟩ := zx (l := up) (i := k) (by omega)
 refine ⟨by omega, x, hx, ⟨by omega, by omega⟩, by omega, y, hy, ?_⟩
 have hx' := hu.get hx
 refine Tot.count l.Names.length (fun j s => s.1 = (j : Int) /\ s.2.length = 8 /\ U8s s.2) ?_ ⟨rfl, h2, h4⟩
 rintro j ⟨i', d⟩ hj ⟨g0, g1, g2⟩
 simp only at g0 g1 g2
 subst g0
 simp only [zq, zG, qb, qq, qK, zv, Sum.elim_inl, Sum.elim_inr, decide_eq_true_eq, decide_eq_false_iff_not, Int.toNat_natCast]
 refine ⟨fun hlt' => ?_, fun _ => ?_⟩
 . obtain ⟨z, hz⟩ := zx (l := d) (i := j) (by omega)
   have hz' := g2.get hz
   rw [w64 (by omega) (by omega)]
   refine ⟨⟨by omega, by omega⟩, by omega, z, hz, by omega, by omega, ⟨by omega, by omega⟩, by omega, z, hz, by omega, by omega, by simpa using g1, ?_⟩
   have hw := zm4 (e := bits .and .u8 (Int.fdiv x (2 ^ min j (IntKind.bits .u8))) 1 * 2 ^ min k (IntKind.bits .u8))
   have ho := orU hz'.1 hz'.2 hw.1 hw.2
   exact g2.set ho.1 ho.2
 . rw [w64 (by omega) (by omega)]
   exact ⟨by omega, by omega, by simpa using h1, g1, h3.set hx'.1 hx'.2, g2⟩
theorem zbg (m : List Int) (n : Nat) (a b : Nat) (hm : m.length = 8) (hu : U8s m) (hn : n <= 8) (ha : a < n) (hb : b < n) : Tot (zg6 m n a b) fun _ => True := by
 unfold zg6
 obtain ⟨x, hx⟩ := zx (l := m) (i := a) (by omega)
 obtain ⟨y, hy⟩ := zx (l := m) (i := b) (by omega)
 simp only [zq, zG, qb, qq, qK, zv, Int.toNat_natCast]
 refine ⟨⟨by omega, by omega⟩, by omega, x, hx, ⟨by omega, by omega⟩, by omega, y, hy, ?_⟩
 refine Tot.count n (fun k s => s = (k : Int)) ?_ rfl
 rintro k _ hk rfl
 simp only [zq, zG, qb, qq, qK, zv, Sum.elim_inl, Sum.elim_inr, decide_eq_true_eq, decide_eq_false_iff_not, Int.toNat_natCast]
 refine ⟨fun hlt => ⟨by omega, fun _ => ?_, fun _ => ?_⟩, fun _ => trivial⟩
 . obtain ⟨z, hz⟩ := zx (l := m) (i := k) (by omega)
   rw [w64 (by omega) (by omega)]
   exact ⟨⟨by omega, by omega⟩, by omega, z, hz, fun _ => trivial, fun _ => ⟨by omega, by omega⟩⟩
 . rw [w64 (by omega) (by omega)]
   exact ⟨by omega, by omega⟩
theorem zft (m : List Int) (n : Nat) (a b : Nat) (hm : m.length = 8) (hu : U8s m) (hn : n <= 8) (ha : a < n) (hb : b < n) : Tot (zm5 m n a b) fun _ => True := zbg m n a b hm hu hn ha hb
theorem zs7 (x : Int) (h0 : 0 <= x) (h1 : x < 256) : Tot (zhh x) fun _ => True := by
 unfold zhh
 rw [qq]
 refine ⟨h0, ?_⟩
 have key : ∀ l : List UInt8, l.length = 256 -> ∃ y, l[x.toNat]? = some y /\ Tot (zg (IntKind.wrap .i64 (y.toNat : Int)) fun z => some z) fun _ => True := by
  intro l hl
  obtain ⟨y, hy⟩ := zx (l := l) (i := x.toNat) (by omega)
  exact ⟨y, hy, .mk trivial⟩
 exact key _ (by decide +kernel)
def up (l : TL) (a b : Nat) : Bool := (l.Up.getD a 0).toNat.testBit b
def xY (l : TL) (a b : Nat) : Prop := up l a b = true -> (b ≠ a -> up l b a = false) /\ ∀ i, i < l.Names.length -> up l b i = true -> up l a i = true
structure LatOK (l : TL) : Prop where
 pos : 1 <= l.Names.length
 le : l.Names.length <= 8
 len : l.Up.length = l.Names.length
 u8 : U8s l.Up
 self : ∀ a, a < l.Names.length -> up l a a = true
 row : ∀ a, a < l.Names.length -> ∀ b, b < l.Names.length -> xY l a b
theorem jR {l : TL} {a : Nat} {x : Int} (h : l.Up[a]? = some x) (b : Nat) : up l a b = x.toNat.testBit b := by
 unfold up; rw [List.getD_eq_getElem?_getD, h]; rfl
theorem zop (n : Nat) (h : n <= 8) (i : Nat) : (IntKind.wrap .u8 (IntKind.wrap .u8 (1 * 2 ^ min n (IntKind.bits .u8)) - 1)).toNat.testBit i = decide (i < n) := by
 have key : ∀ n : Fin 9, (IntKind.wrap .u8 (IntKind.wrap .u8 (1 * 2 ^ min n.val (IntKind.bits .u8)) - 1)).toNat = 2 ^ n.val - 1 := by decide +kernel
 rw [key ⟨n, by omega⟩]
 exact Nat.testBit_two_pow_sub_one n i
theorem zli (l : TL) (hu : U8s l.Up) (hn : l.Names.length <= 20) (hs : ∀ s ∈ l.Names, s.length <= 1000) : Tot (uy l) fun r => r.2 = 0 -> LatOK l := by
 unfold uy
 simp only [zv, List.length_map]
 refine (zq4 l.Names hn hs).mono fun x53 h53 => ?_
 simp only [zG, zq, Bool.not_eq_true', Bool.not_eq_false', decide_eq_true_eq, decide_eq_false_iff_not]
 refine ⟨fun h h' => absurd h' h, fun h => ⟨fun _ h' => absurd h' (by decide), fun hlen => ?_⟩⟩
 obtain ⟨p1, p8⟩ := h53 h
 have hlen' : l.Up.length = l.Names.length := by omega
 rw [qK, qb, qb, zv]
 refine ⟨by omega, ?_⟩
 rw [Int.toNat_natCast]
 have hmask := zop l.Names.length p8
 have hm0 := zm4 (e := IntKind.wrap .u8 (1 * 2 ^ min l.Names.length (IntKind.bits .u8)) - 1)
 revert hmask hm0
 generalize IntKind.wrap .u8 (IntKind.wrap .u8 (1 * 2 ^ min l.Names.length (IntKind.bits .u8)) - 1) = mask
 intro hmask hm0
 refine Tot.count l.Names.length (fun k s => s = (k : Int) /\ (∀ a, a < k -> up l a a = true) /\ ∀ a, a < k -> ∀ b, b < l.Names.length -> xY l a b) ?_ ⟨rfl, fun a ha => absurd ha (by omega), fun a ha => absurd ha (by omega)⟩
 rintro k _ hk ⟨rfl, hself, hrow⟩
 simp only [zG, zq, qb, Sum.elim_inl, Sum.elim_inr, decide_eq_true_eq, decide_eq_false_iff_not]
 refine ⟨fun hlt => ?_, fun hlt => ?_⟩
 . -- a round
   simp only [qq, Int.toNat_natCast]
   obtain ⟨x, hx⟩ := zx (l := l.Up) (i := k) (by omega)
   have hx' := hu.get hx
   refine ⟨by omega, x, hx, ?_⟩
   rw [zv]
   refine (zs7 x hx'.1 hx'.2).mono fun x91 _ => ?_
   simp only [zG, zq, qK, Sum.elim_inl, Sum.elim_inr, decide_eq_true_eq, decide_eq_false_iff_not, Int.toNat_natCast]
   refine ⟨fun _ h' => absurd h' (by decide), fun _ => ⟨by omega, fun _ h' => absurd h' (by decide), fun hs => ?_⟩⟩
   rw [zb6 hx'.1 hx'.2 (by omega), <- jR hx] at hs
   have hkk : up l k k = true := by
    cases e : up l k k with
    | true => rfl
    | false => rw [e] at hs; simp at hs
   rw [zv]
   refine Tot.count l.Names.length (fun j s => s = (j : Int) /\ ∀ b, b < j -> xY l k b) ?_ ⟨rfl, fun b hb => absurd hb (by omega)⟩
   rintro j _ hj ⟨rfl, hr⟩
   have fin : (∀ b, b < l.Names.length -> xY l k b) -> k < l.Names.length /\ IntKind.wrap .i64 ((k : Int) + 1) = ((k + 1 : Nat) : Int) /\ (∀ a, a < k + 1 -> up l a a = true) /\ ∀ a, a < k + 1 -> ∀ b, b < l.Names.length -> xY l a b := by
    intro hall
    rw [w64 (by omega) (by omega)]
    refine ⟨by omega, by omega, fun a ha => ?_, fun a ha => ?_⟩
    . rcases Nat.lt_or_ge a k with g | g
      . exact hself a g
      . have : a = k := by omega
        subst this; exact hkk
    . rcases Nat.lt_or_ge a k with g | g
      . exact hrow a g
      . have : a = k := by omega
        subst this; exact hall
   have ext : ∀ {b}, xY l k j -> b < j + 1 -> xY l k b := by
    intro b h hb
    rcases Nat.lt_or_ge b j with g | g
    . exact hr b g
    . have : b = j := by omega
      subst this; exact h
   simp only [zG, zq, qb, qK, Sum.elim_inl, Sum.elim_inr, decide_eq_true_eq, decide_eq_false_iff_not, Bool.not_eq_true', Bool.not_eq_false', Int.toNat_natCast]
   refine ⟨fun hjl => ?_, fun hjl => ?_⟩
   . simp only [qq, Int.toNat_natCast]
     obtain ⟨y, hy⟩ := zx (l := l.Up) (i := j) (by omega)
     have hy' := hu.get hy
     refine ⟨by omega, y, hy, ?_⟩
     simp only [zG, zq, qb, qK, Sum.elim_inl, Sum.elim_inr, decide_eq_true_eq, decide_eq_false_iff_not, Bool.not_eq_true', Bool.not_eq_false', Int.toNat_natCast]
     rw [zb6 hx'.1 hx'.2 (by omega), <- jR hx]
     rw [w64 (e := (l.Names.length : Int) - 1) (by omega) (by omega)]
     have stay : xY l k j -> ((j : Int) = (l.Names.length : Int) - 1 -> k < l.Names.length /\ IntKind.wrap .i64 ((k : Int) + 1) = ((k + 1 : Nat) : Int) /\ (∀ a, a < k + 1 -> up l a a = true) /\ ∀ a, a < k + 1 -> ∀ b, b < l.Names.length -> xY l a b) /\ (¬ (j : Int) = (l.Names.length : Int) - 1 -> j < l.Names.length /\ IntKind.wrap .i64 ((j : Int) + 1) = ((j + 1 : Nat) : Int) /\ ∀ b, b < j + 1 -> xY l k b) := by
      intro hrow'
      refine ⟨fun e => fin fun b hb => ext hrow' (by omega), fun e => ?_⟩
      rw [w64 (by omega) (by omega)]
      exact ⟨by omega, by omega, fun b hb => ext hrow' hb⟩
     refine ⟨by omega, fun hb => ?_, fun hb => ⟨fun hne => ⟨by omega, fun _ h' => absurd h' (by decide), fun hba => ⟨fun _ h' => absurd h' (by decide), fun han => ?_⟩⟩, fun heq => ⟨fun _ h' => absurd h' (by decide), fun han => ?_⟩⟩⟩
     . refine stay fun hup => ?_
       rw [hup] at hb; simp at hb
     . refine stay fun _ => ⟨fun _ => ?_, fun i hi hyi => ?_⟩
       . rw [zb6 hy'.1 hy'.2 (by omega), <- jR hy] at hba
         cases e : up l j k with
         | false => rfl
         | true => rw [e] at hba; simp at hba
       . rw [zc1 hy'.1 hy'.2 hm0.1 hm0.2] at han
         have hand := zdp (a := y.toNat) (b := mask.toNat) (by omega)
         have := (zbi (by omega) (by omega) hx'.1 hx'.2).1 han i (by
          rw [Int.toNat_natCast, Nat.testBit_and, hmask, <- jR hy, hyi]; simp [hi])
         rw [jR hx]; exact this
     . refine stay fun _ => ⟨fun hne => absurd (by omega) hne, fun i hi hyi => ?_⟩
       rw [zc1 hy'.1 hy'.2 hm0.1 hm0.2] at han
       have hand := zdp (a := y.toNat) (b := mask.toNat) (by omega)
       have := (zbi (by omega) (by omega) hx'.1 hx'.2).1 han i (by
        rw [Int.toNat_natCast, Nat.testBit_and, hmask, <- jR hy, hyi]; simp [hi])
       rw [jR hx]; exact this
   . exact fin fun b hb => hr b (by omega)
 . -- the end
   have hk' : k = l.Names.length := by omega
   subst hk'
   have good : LatOK l := ⟨p1, p8, hlen', hu, hself, hrow⟩
   rw [zv]
   refine (zw3 l hu p8 (by omega)).mono fun o ho => ?_
   obtain ⟨_, o1, o2, o3, o4⟩ := ho
   rw [zv]
   refine Tot.count l.Names.length (fun j s => s = (j : Int)) ?_ rfl
   rintro j _ hj rfl
   simp only [zG, zq, qb, zv, Sum.elim_inl, Sum.elim_inr, decide_eq_true_eq, decide_eq_false_iff_not]
   refine ⟨fun hlt => ?_, fun _ _ => good⟩
   refine Tot.count l.Names.length (fun i s => s = (i : Int)) ?_ rfl
   rintro i _ hi rfl
   simp only [zG, zq, qb, zv, Sum.elim_inl, Sum.elim_inr, decide_eq_true_eq, decide_eq_false_iff_not]
   refine ⟨fun hlt' => ?_, fun _ => ?_⟩
   . refine (zbg _ _ _ _ o1 o3 p8 (by omega) (by omega)).mono fun b1 _ => ⟨fun _ h' => absurd h' (by decide), fun _ => ?_⟩
     refine (zft _ _ _ _ o2 o4 p8 (by omega) (by omega)).mono fun b2 _ => ⟨fun _ h' => absurd h' (by decide), fun _ => ?_⟩
     rw [w64 (by omega) (by omega)]
     exact ⟨by omega, by omega⟩
   . rw [w64 (by omega) (by omega)]
     exact ⟨by omega, by omega⟩
end Go.Sx.O
noncomputable section
namespace Go.Sx.O
open Go
structure LatIn (l : TL) : Prop where
 u8 : U8s l.Up
 names : l.Names.length <= 20
 name : ∀ s ∈ l.Names, s.length <= 1000
def qQ (l : TL) : Int × Int := (uy l).getD (0, 0)
theorem uW {l : TL} (h : LatIn l) : uy l = some (qQ l) := by
 obtain ⟨r, e, _⟩ := zli l h.u8 h.names h.name
 unfold qQ; rw [e]; rfl
theorem jo {l : TL} (h : LatIn l) (k : (qQ l).2 = 0) : LatOK l := by
 obtain ⟨r, e, q⟩ := zli l h.u8 h.names h.name
 have := uW h
 rw [e] at this; cases this
 exact q k
def wC (l : TL) (a : Int) : Bool := decide (0 <= a) && decide (a < (l.Names.length : Int))
def zc5 (l : TL) (xs : List Int) : Int := if (qQ l).2 = 0 then (if xs.all (wC l) then 0 else 7) else (qQ l).2
theorem zqw {l : TL} (h : LatIn l) (xs : List Int) (hx : xs.length <= 1000000000) : zo3 l xs = some (zc5 l xs) := by
 unfold zo3 zc5
 rw [uW h]
 simp only [Option.bind_some]
 by_cases h0 : (qQ l).2 = 0
 . simp only [h0, decide_true, Bool.not_true, cond_false, if_true]
   apply Tot.eq
   simp only [zv, List.length_map]
   refine Tot.count xs.length (fun k s => s = (k : Int) /\ (xs.take k).all (wC l) = true) ?_ ⟨rfl, by simp⟩
   rintro k _ hk ⟨rfl, hall⟩
   simp only [zG, zq, qb, qq, Sum.elim_inl, Sum.elim_inr, decide_eq_true_eq, decide_eq_false_iff_not, Int.toNat_natCast]
   refine ⟨fun hlt => ?_, fun hlt => ?_⟩
   . obtain ⟨x, hx'⟩ := zx (l := xs) (i := k) (by omega)
     have hm := List.mem_of_getElem? hx'
     have bad : wC l x = false -> (7 : Int) = if xs.all (wC l) = true then 0 else 7 := by
      intro e
      have : xs.all (wC l) = false := by
       rw [List.all_eq_false]; exact ⟨x, hm, by simp [e]⟩
      simp [this]
     refine ⟨by omega, x, hx', fun g => bad (by unfold wC; simp; omega), fun g1 => ⟨fun g => bad (by unfold wC; simp; omega), fun g2 => ?_⟩⟩
     rw [w64 (by omega) (by omega)]
     refine ⟨by omega, by omega, ?_⟩
     rw [List.take_add_one, hx', List.all_append, hall]
     simp [wC]; omega
   . rw [List.take_of_length_le (by omega)] at hall
     simp [hall]
 . simp only [h0, decide_false, Bool.not_false, cond_true, if_false]
def zuw (l : TL) (a o : Int) : Bool := decide ((qQ l).2 = 0) && wC l a && wC l o && up l a.toNat o.toNat
end Go.Sx.O
end
namespace Go.Sx.O
open Go
theorem zcq {α : Type} {l : List α} (p : α -> Bool) {ε : Type} {step : Int -> Option (Int ⊕ (ε ⊕ Int))} {e : ε} {G : Option Int}
 (hG : G = (lpO step 0).bind (Sum.elim (fun _ => some (-1)) some))
 (h1 : ∀ (k : Nat) x, l[k]? = some x -> k < l.length -> step (k : Int) = if p x then some (.inr (.inr (k : Int))) else some (.inl ((k : Int) + 1)))
 (h2 : step (l.length : Int) = some (.inr (.inl e))) : G.bind (fun x => some (decide (0 <= x))) = some (l.any p) := by
 rw [hG, zlp (l := l) p (d := .inl e) (g := .inr) (fun k x hx => h1 k x hx (by
  rcases Nat.lt_or_ge k l.length with g | g
  . exact g
  . rw [List.getElem?_eq_none g] at hx; cases hx)) h2]
 cases h : l.findIdx? p with
 | none =>
   have := List.findIdx?_eq_none_iff.1 h
   simp only [Option.bind_some, Sum.elim_inl]
   have hn : l.any p = false := by rw [List.any_eq_false]; intro x hx; simp [this x hx]
   rw [hn]; rfl
 | some i =>
   obtain ⟨hi, hp, _⟩ := List.findIdx?_eq_some_iff_getElem.1 h
   have hy : l.any p = true := List.any_eq_true.2 ⟨_, List.getElem_mem hi, hp⟩
   simp [hy]
theorem zl3 (l : List Int) (h : l.length <= 1000000000) : znb l = some (l.any fun x => decide (x < 0)) := by
 unfold znb ztf
 refine zcq (l := l) (fun x => decide (x < 0)) (e := ()) rfl (fun k x hx hlt => ?_) (by simp)
 simp only [List.length_map, Int.ofNat_lt, hlt, decide_true, cond_true, zi, Int.toNat_natCast, hx, Option.bind_some, zg, Int.natCast_nonneg, if_true, zt3]
 rw [w64 (by omega) (by omega)]
 cases decide (x < 0) <;> rfl
theorem zl7 (l : List Int) (h : l.length <= 1000000000) : zp0 l = some (l.any fun x => !decide (x = 0)) := by
 unfold zp0 zt4
 refine zcq (l := l) (fun x => !decide (x = 0)) (e := ()) rfl (fun k x hx hlt => ?_) (by simp)
 simp only [List.length_map, Int.ofNat_lt, hlt, decide_true, cond_true, zi, Int.toNat_natCast, hx, Option.bind_some, zg, Int.natCast_nonneg, if_true, zum]
 rw [w64 (by omega) (by omega)]
 cases decide (x = 0) <;> rfl
theorem zmf (l : List Int) (h : l.length <= 1000000000) : zok l = some (l.any fun x => decide (400 < x)) := by
 unfold zok zs6
 refine zcq (l := l) (fun x => decide (400 < x)) (e := ()) rfl (fun k x hx hlt => ?_) (by simp)
 simp only [List.length_map, Int.ofNat_lt, hlt, decide_true, cond_true, zi, Int.toNat_natCast, hx, Option.bind_some, zg, Int.natCast_nonneg, if_true, zte]
 rw [w64 (by omega) (by omega)]
 cases decide (400 < x) <;> rfl
theorem za5 (x : Int) : Tot (uA x) fun _ => True := by
 unfold uA
 simp only [zG, zq, implies_true, and_self]
theorem zn4 {α β : Type} {l : List α} {m : List β} (n : Nat) (p : α -> β -> Bool) {τ ε : Type} {step : Int -> Option (Int ⊕ (ε ⊕ τ))} {bad : Int -> τ} {e : ε} {Q : ε ⊕ τ -> Prop}
 (hn : n <= l.length) (hm : n <= m.length)
 (h1 : ∀ (k : Nat) x y, l[k]? = some x -> m[k]? = some y -> k < n -> step (k : Int) = if p x y then some (.inl ((k : Int) + 1)) else some (.inr (.inr (bad k))))
 (h2 : step (n : Int) = some (.inr (.inl e)))
 (q1 : (∀ (k : Nat) x y, l[k]? = some x -> m[k]? = some y -> k < n -> p x y = true) -> Q (.inl e))
 (q2 : ∀ (k : Nat) x y, l[k]? = some x -> m[k]? = some y -> k < n -> p x y = false -> (∀ (j : Nat) x y, l[j]? = some x -> m[j]? = some y -> j < k -> p x y = true) -> Q (.inr (bad k))) : Tot (lpO step 0) Q := by
 refine Tot.count n (fun k s => s = (k : Int) /\ ∀ (j : Nat) x y, l[j]? = some x -> m[j]? = some y -> j < k -> p x y = true) ?_ ⟨rfl, fun j _ _ _ _ hj => absurd hj (by omega)⟩
 rintro k _ hk ⟨rfl, hall⟩
 rcases Nat.lt_or_ge k n with g | g
 . obtain ⟨x, hx⟩ := zx (l := l) (i := k) (by omega)
   obtain ⟨y, hy⟩ := zx (l := m) (i := k) (by omega)
   rw [h1 k x y hx hy g]
   cases e : p x y with
   | true =>
     simp only [if_true, zq, Sum.elim_inl]
     refine ⟨g, by omega, fun j x' y' hx' hy' hj => ?_⟩
     rcases Nat.lt_or_ge j k with g' | g'
     . exact hall j x' y' hx' hy' g'
     . have : j = k := by omega
       subst this
       rw [hx] at hx'; rw [hy] at hy'
       cases hx'; cases hy'; exact e
   | false =>
     simp only [Bool.false_eq_true, if_false, zq, Sum.elim_inr]
     exact q2 k x y hx hy g e hall
 . have : k = n := by omega
   subst this
   rw [h2]
   simp only [zq, Sum.elim_inr]
   exact q1 fun j x y hx hy hj => hall j x y hx hy hj
theorem zdv {α : Type} : ∀ {l m : List α}, l.length = m.length -> (∀ (k : Nat) x y, l[k]? = some x -> m[k]? = some y -> k < l.length -> x = y) -> l = m
 | [], [], _, _ => rfl
 | a :: l, b :: m, h, k => by
   have h0 := k 0 a b rfl rfl (by simp)
   subst h0
   rw [zdv (l := l) (m := m) (by simpa using h) fun j x y hx hy hj => k (j + 1) x y (by simpa using hx) (by simpa using hy) (by simp; omega)]
 | [], _ :: _, h, _ => by simp at h
 | _ :: _, [], h, _ => by simp at h
end Go.Sx.O
namespace Go.Sx.O
open Go
theorem zku {l : List UInt8} {c : UInt8} (h : c ∉ l) : Lib.indexByte l c = -1 := by
 induction l with
 | nil => rfl
 | cons a l ih =>
   simp only [List.mem_cons, not_or] at h
   have : (a == c) = false := by simp; exact fun e => h.1 e.symm
   simp [Lib.indexByte, this, ih h.2]
theorem zwi {r : Int} (h0 : 128 <= r) (h1 : r < 256) : ∃ x y, (Utf8.encode r).data.toList = [x, y] /\ 128 <= y.toNat := by
 refine ⟨UInt8.ofNat (0xC0 + r.toNat / 64), UInt8.ofNat (0x80 + r.toNat % 64), ?_, ?_⟩
 . have hv : Utf8.valid r = true := by unfold Utf8.valid; simp; omega
   unfold Utf8.encode
   simp only [hv, if_true]
   rw [if_neg (by omega), if_pos (by omega)]
 . rw [UInt8.toNat_ofNat']; omega
theorem zil (s : List UInt8) (r : Int) (hs : ∀ c ∈ s, c.toNat < 128) (hl : s.length <= 1000) (h0 : 0 <= r) (h1 : r < 256) : Tot (zg1 s r) fun _ => True := by
 unfold zg1
 have e0 : decide (0 <= r) = true := by simp [h0]
 simp only [e0, cond_true]
 rw [zG]
 refine ⟨fun _ => ?_, fun h2 => ?_⟩
 . rw [qb, zv]
   unfold zcb qo
   simp only [Option.bind_some, zq]
 . simp only [decide_eq_false_iff_not] at h2
   obtain ⟨x, y, exy, hy⟩ := zwi (r := r) (by omega) h1
   have e1 : decide (r = 65533) = false := by simp; omega
   simp only [e1, cond_false, exy]
   rw [zv]
   refine (za5 r).mono fun v _ => ?_
   rw [zG]
   refine ⟨fun _ => .mk trivial, fun _ => ?_⟩
   rw [qb]
   have e2 : IntKind.wrap .i64 (((List.length [x, y] : Nat) : Int) - 1) = 1 := rfl
   rw [e2, zv]
   refine Tot.loop (fun _ => 0) (fun _ => True) (fun _ _ => ?_) trivial
   rw [zG]
   refine ⟨fun h3 => ?_, fun _ => ?_⟩
   . simp only [decide_eq_true_eq] at h3
     obtain ⟨c, hc⟩ := zx (l := s) (i := 1) (by omega)
     have hc' := hs c (List.mem_of_getElem? hc)
     have e3 : (1 : Int).toNat = 1 := rfl
     simp only [qq, e3]
     refine ⟨by omega, c, hc, by omega, y, rfl, ?_⟩
     have e4 : decide ((c.toNat : Int) = (y.toNat : Int)) = false := by simp; omega
     simp only [e4, Bool.not_false, cond_true]
     rw [qb]
     have e5 : IntKind.wrap .i64 (1 + 1) = 2 := rfl
     rw [e5, qK]
     refine ⟨by omega, ?_⟩
     simp only [qq, e3]
     refine ⟨by omega, y, rfl, ?_⟩
     unfold zcb qo
     simp only [Option.bind_some]
     have hn : ((y.toNat : Int).toNat.toUInt8) = y := by simp
     rw [hn, zku (fun hm => by
      have := hs y (List.mem_of_mem_take (List.mem_of_mem_drop hm))
      omega)]
     have e6 : decide ((-1 : Int) < 0) = true := rfl
     simp only [e6, cond_true, zq, Sum.elim_inr]
   . simp only [zq, Sum.elim_inr, Sum.elim_inl]
theorem zef (s : List UInt8) (r : Int) (hs : ∀ c ∈ s, c.toNat < 128) (hl : s.length <= 1000) (h0 : 0 <= r) (h1 : r < 256) : Tot (xA s r) fun _ => True := by
 unfold xA
 rw [zv]
 exact (zil s r hs hl h0 h1).mono fun _ _ => .mk trivial
theorem zp8 {r : Int} (h0 : 0 <= r) (h1 : r < 256) : IntKind.wrap .i32 r = r := by
 simp only [IntKind.wrap, IntKind.signed, IntKind.bits]
 have h3 : (2 : Int) ^ 32 = 4294967296 := by decide
 have h4 : (2 : Int) ^ (32 - 1) = 2147483648 := by decide
 simp only [h3, h4, Bool.true_and, decide_eq_true_eq, ge_iff_le]
 split <;> omega
end Go.Sx.O
