/-
  An own text of this claim.
-/
import Derived.Test.YtpblckfedfcdkaaGreatDoorA7
import Derived.Lib.Bytealg
namespace Go.Sx.O
structure TR where
 s_ : List UInt8
 at_ : Int
def qd (x : TR) : SV := .agg [SV.str x.s_, (SV.int .i64) x.at_]
theorem zy5 {p : Nat -> Prop} (x : TR) : (qd x).nmd p := ⟨trivial, trivial, trivial⟩
structure TF where
 low_ : Int
 high_ : Int
def zyf (x : TF) : SV := .agg [(SV.int .i64) x.low_, (SV.int .i64) x.high_]
theorem zBm {p : Nat -> Prop} (x : TF) : (zyf x).nmd p := ⟨trivial, trivial, trivial⟩
structure TL where
 Names : List (List UInt8)
 Up : List (Int)
def qk (x : TL) : SV := .agg [(zm 1 SV.str) x.Names, (zm 1 (SV.int .u8)) x.Up]
theorem zq8 {p : Nat -> Prop} (x : TL) : (qk x).nmd p := ⟨(wW fun _ => trivial), (wW fun _ => trivial), trivial⟩
structure TU where
 From : Int
 Goal : Int
 K : Int
def wo (x : TU) : SV := .agg [(SV.int .i64) x.From, (SV.int .i64) x.Goal, (SV.int .i64) x.K]
theorem zx8 {p : Nat -> Prop} (x : TU) : (wo x).nmd p := ⟨trivial, trivial, trivial, trivial⟩
structure TG where
 Lattice : TL
 bottom_ : Int
def zx3 (x : TG) : SV := .agg [qk x.Lattice, (SV.int .i64) x.bottom_]
theorem zBk {p : Nat -> Prop} (x : TG) : (zx3 x).nmd p := ⟨(zq8 _), trivial, trivial⟩
structure TK where
 Kind : Int
 From : Int
 To : Int
 N : Int
 S : List UInt8
def zS (x : TK) : SV := .agg [(SV.int .i64) x.Kind, (SV.int .i64) x.From, (SV.int .i64) x.To, (SV.int .i64) x.N, SV.str x.S]
theorem zBj {p : Nat -> Prop} (x : TK) : (zS x).nmd p := ⟨trivial, trivial, trivial, trivial, trivial, trivial⟩
structure Tlattice_order where
 n_ : Int
 up_ : List (Int)
 down_ : List (Int)
def qh (x : Tlattice_order) : SV := .agg [(SV.int .i64) x.n_, (zK 8 1 (SV.int .u8)) x.up_, (zK 8 1 (SV.int .u8)) x.down_]
theorem zr8 {p : Nat -> Prop} (x : Tlattice_order) : (qh x).nmd p := ⟨trivial, (wW fun _ => trivial), (wW fun _ => trivial), trivial⟩
structure TY where
 Kind : Int
 Rank : Int
 Axes : (Int) × (Int)
 Data : Int
def jw (x : TY) : SV := .agg [(SV.int .i64) x.Kind, (SV.int .i64) x.Rank, (xe 1 (SV.int .i64)) x.Axes, (SV.int .i64) x.Data]
theorem zk4 {p : Nat -> Prop} (x : TY) : (jw x).nmd p := ⟨trivial, trivial, ⟨trivial, trivial, trivial⟩, trivial, trivial⟩
structure TA where
 Kind : Int
 Rank : Int
 Lens : (Int) × (Int)
 Cells : List (Int)
def zmz (x : TA) : SV := .agg [(SV.int .i64) x.Kind, (SV.int .i64) x.Rank, (xe 1 (SV.int .i64)) x.Lens, (zm 1 (SV.int .i64)) x.Cells]
theorem zrl {p : Nat -> Prop} (x : TA) : (zmz x).nmd p := ⟨trivial, trivial, ⟨trivial, trivial, trivial⟩, (wW fun _ => trivial), trivial⟩
structure TV where
 Name : List UInt8
 Type_ : TY
def yt (x : TV) : SV := .agg [SV.str x.Name, jw x.Type_]
theorem zxr {p : Nat -> Prop} (x : TV) : (yt x).nmd p := ⟨trivial, (zk4 _), trivial⟩
structure TW where
 Name : List UInt8
 Value : TA
def zrd (x : TW) : SV := .agg [SV.str x.Name, zmz x.Value]
theorem zxz {p : Nat -> Prop} (x : TW) : (zrd x).nmd p := ⟨trivial, (zrl _), trivial⟩
structure TE where
 Site : Int
 Fold : Int
 From : Int
 Goal : Int
 Cells : Int
 Value : (Int) × (Int)
def zrz (x : TE) : SV := .agg [(SV.int .i64) x.Site, (SV.int .i64) x.Fold, (SV.int .i64) x.From, (SV.int .i64) x.Goal, (SV.int .i64) x.Cells, (xe 1 (SV.int .i64)) x.Value]
theorem zxn {p : Nat -> Prop} (x : TE) : (zrz x).nmd p := ⟨trivial, trivial, trivial, trivial, trivial, ⟨trivial, trivial, trivial⟩, trivial⟩
structure TEvEvent where
 Kind : Int
 Site : Int
 Steps : Int
 Label : Int
 Channel : List UInt8
 Value : TA
 E : Int
def zdo (x : TEvEvent) : SV := .agg [(SV.int .i64) x.Kind, (SV.int .i64) x.Site, (SV.int .i64) x.Steps, (SV.int .i64) x.Label, SV.str x.Channel, zmz x.Value, (SV.int .i64) x.E]
theorem zmj {p : Nat -> Prop} (x : TEvEvent) : (zdo x).nmd p := ⟨trivial, trivial, trivial, trivial, trivial, (zrl _), trivial, trivial⟩
structure TP where
 Lattice : TL
 Channels : List (TR)
 Vars : List (TV)
 Rules : List (TU)
def qo (x : TP) : SV := .agg [qk x.Lattice, (zm 2 qd) x.Channels, (zm 6 yt) x.Vars, (zm 3 wo) x.Rules]
theorem zBi {p : Nat -> Prop} (x : TP) : (qo x).nmd p := ⟨(zq8 _), (wW fun _ => (zy5 _)), (wW fun _ => (zxr _)), (wW fun _ => (zx8 _)), trivial⟩
structure Tinvigilatorlaw28_Types where
 V : TY
 Y : TY
 From : Int
 Goal : Int
 PC : Int
 EC : Int
 Lower : Int
 Top : Int
def xU (x : Tinvigilatorlaw28_Types) : SV := .agg [jw x.V, jw x.Y, (SV.int .i64) x.From, (SV.int .i64) x.Goal, (SV.int .i64) x.PC, (SV.int .i64) x.EC, (SV.int .i64) x.Lower, (SV.int .i64) x.Top]
theorem zi1 {p : Nat -> Prop} (x : Tinvigilatorlaw28_Types) : (xU x).nmd p := ⟨(zk4 _), (zk4 _), trivial, trivial, trivial, trivial, trivial, trivial, trivial⟩
structure TC where
 Events : List (TEvEvent)
 Log : List (TE)
 Vars : List (TW)
 Steps : Int
def zxw (x : TC) : SV := .agg [(zm 11 zdo) x.Events, (zm 7 zrz) x.Log, (zm 6 zrd) x.Vars, (SV.int .i64) x.Steps]
theorem zBl {p : Nat -> Prop} (x : TC) : (zxw x).nmd p := ⟨(wW fun _ => (zmj _)), (wW fun _ => (zxn _)), (wW fun _ => (zxz _)), trivial, trivial⟩
end Go.Sx.O
noncomputable section
namespace Go.Sx.O
def qe (a0 : List UInt8) (a1 : Int) : Option Int := some (Go.Lib.indexByte a0 a1.toNat.toUInt8)
def zt6 : List Int := [0, 1, 2, 2, 3, 3, 3, 3, 4, 4, 4, 4, 4]
def yj (a0 : Int) : Option Int := if 0 <= a0 then zt6[a0.toNat]? else none
end Go.Sx.O
end
namespace Go.Sx.O
open Go
def inK (k : IntKind) (n : Int) : Prop := k.min <= n /\ n <= k.max
def jC {α : Type} (W : α -> Prop) (l : List α) : Prop := ∀ x ∈ l, W x
def w2 {α : Type} (W : α -> Prop) (p : α × α) : Prop := W p.1 /\ W p.2
def w3 {α : Type} (W : α -> Prop) (p : α × α × α) : Prop := W p.1 /\ W p.2.1 /\ W p.2.2
def wN {α : Type} (n : Nat) (W : α -> Prop) (l : List α) : Prop := l.length = n /\ ∀ x ∈ l, W x
structure W_TR (x : TR) : Prop where
 s_ : (fun _ => True) x.s_
 at_ : (inK .i64) x.at_
structure W_TF (x : TF) : Prop where
 low_ : (inK .i64) x.low_
 high_ : (inK .i64) x.high_
structure W_TL (x : TL) : Prop where
 Names : (jC (fun _ => True)) x.Names
 Up : (jC (inK .u8)) x.Up
structure W_TU (x : TU) : Prop where
 From : (inK .i64) x.From
 Goal : (inK .i64) x.Goal
 K : (inK .i64) x.K
structure W_TG (x : TG) : Prop where
 Lattice : W_TL x.Lattice
 bottom_ : (inK .i64) x.bottom_
structure W_TK (x : TK) : Prop where
 Kind : (inK .i64) x.Kind
 From : (inK .i64) x.From
 To : (inK .i64) x.To
 N : (inK .i64) x.N
 S : (fun _ => True) x.S
structure W_Tlattice_order (x : Tlattice_order) : Prop where
 n_ : (inK .i64) x.n_
 up_ : (wN 8 (inK .u8)) x.up_
 down_ : (wN 8 (inK .u8)) x.down_
structure W_TY (x : TY) : Prop where
 Kind : (inK .i64) x.Kind
 Rank : (inK .i64) x.Rank
 Axes : (w2 (inK .i64)) x.Axes
 Data : (inK .i64) x.Data
structure W_TA (x : TA) : Prop where
 Kind : (inK .i64) x.Kind
 Rank : (inK .i64) x.Rank
 Lens : (w2 (inK .i64)) x.Lens
 Cells : (jC (inK .i64)) x.Cells
structure W_TV (x : TV) : Prop where
 Name : (fun _ => True) x.Name
 Type_ : W_TY x.Type_
structure W_TW (x : TW) : Prop where
 Name : (fun _ => True) x.Name
 Value : W_TA x.Value
structure W_TE (x : TE) : Prop where
 Site : (inK .i64) x.Site
 Fold : (inK .i64) x.Fold
 From : (inK .i64) x.From
 Goal : (inK .i64) x.Goal
 Cells : (inK .i64) x.Cells
 Value : (w2 (inK .i64)) x.Value
structure W_TEvEvent (x : TEvEvent) : Prop where
 Kind : (inK .i64) x.Kind
 Site : (inK .i64) x.Site
 Steps : (inK .i64) x.Steps
 Label : (inK .i64) x.Label
 Channel : (fun _ => True) x.Channel
 Value : W_TA x.Value
 E : (inK .i64) x.E
structure W_TP (x : TP) : Prop where
 Lattice : W_TL x.Lattice
 Channels : (jC W_TR) x.Channels
 Vars : (jC W_TV) x.Vars
 Rules : (jC W_TU) x.Rules
structure W_Tinvigilatorlaw28_Types (x : Tinvigilatorlaw28_Types) : Prop where
 V : W_TY x.V
 Y : W_TY x.Y
 From : (inK .i64) x.From
 Goal : (inK .i64) x.Goal
 PC : (inK .i64) x.PC
 EC : (inK .i64) x.EC
 Lower : (inK .i64) x.Lower
 Top : (inK .i64) x.Top
structure W_TC (x : TC) : Prop where
 Events : (jC W_TEvEvent) x.Events
 Log : (jC W_TE) x.Log
 Vars : (jC W_TW) x.Vars
 Steps : (inK .i64) x.Steps
end Go.Sx.O
noncomputable section
namespace Go.Sx.O
def Fz0 (a0 : List (List UInt8)) : Option (Bool) :=
 Option.bind (
 lpO (fun (s25 : Int) =>
 cond (decide (s25 < (↑(List.length (List.map SV.str a0)) : Int)))
 (cond (decide (s25 < 20))
 (zi a0 s25 fun x31 =>
 cond (decide (100 < (↑(List.length x31) : Int)))
 (some (.inr (.inr (true))))
 (zg (IntKind.wrap .i64 (s25 + 1)) fun x33 =>
 some (.inl x33)))
 (some (.inr (.inl ()))))
 (some (.inr (.inl ())))) (0))
 (Sum.elim (fun (_ : Unit) =>
 some (decide (12 < (↑(List.length (List.map SV.str a0)) : Int)))) some)
def Fz1 (a0 : TL) : Option (Bool) :=
 (Fz0 (a0.Names)).bind fun x34 =>
 cond x34
 (some (true))
 (some (decide (12 < (↑(List.length (List.map (SV.int .u8) a0.Up)) : Int))))
def Fz2 (a0 : TP) : Option (Bool) :=
 Option.bind (
 lpO (fun (s3 : Int) =>
 cond (decide (s3 < (↑(List.length (List.map qd a0.Channels)) : Int)))
 (cond (decide (s3 < 25))
 (zi (a0.Channels) s3 fun x9 =>
 cond (decide (100 < (↑(List.length x9.s_) : Int)))
 (some (.inr (.inr (true))))
 (zg (IntKind.wrap .i64 (s3 + 1)) fun x11 =>
 some (.inl x11)))
 (some (.inr (.inl ()))))
 (some (.inr (.inl ())))) (0))
 (Sum.elim (fun (_ : Unit) =>
 Option.bind (
 lpO (fun (s14 : Int) =>
 cond (decide (s14 < (↑(List.length (List.map yt a0.Vars)) : Int)))
 (cond (decide (s14 < 45))
 (zi (a0.Vars) s14 fun x20 =>
 cond (decide (100 < (↑(List.length x20.Name) : Int)))
 (some (.inr (.inr (true))))
 (zg (IntKind.wrap .i64 (s14 + 1)) fun x22 =>
 some (.inl x22)))
 (some (.inr (.inl ()))))
 (some (.inr (.inl ())))) (0))
 (Sum.elim (fun (_ : Unit) =>
 (Fz1 (a0.Lattice)).bind fun x36 =>
 cond x36
 (some (true))
 (cond (decide (20 < (↑(List.length (List.map qd a0.Channels)) : Int)))
 (some (true))
 (cond (decide (40 < (↑(List.length (List.map yt a0.Vars)) : Int)))
 (some (true))
 (some (decide (70 < (↑(List.length (List.map wo a0.Rules)) : Int))))))) some)) some)
def Fz3 (a0 : List UInt8) (a1 : Int) : Option (List UInt8) :=
 Option.bind (
 lpO (fun (s64 : List UInt8) =>
 cond (decide (0 < (↑(List.length s64) : Int)))
 (zg (IntKind.wrap .i64 ((↑(List.length s64) : Int) - 1)) fun x71 =>
 zi s64 x71 fun x72 =>
 cond (decide ((↑(UInt8.toNat x72) : Int) = a1))
 (zg (IntKind.wrap .i64 ((↑(List.length s64) : Int) - 1)) fun x74 =>
 zk (0 <= x74 /\ x74 <= (↑(List.length s64) : Int)) (
 some (.inl (List.drop (Int.toNat 0) (List.take (Int.toNat x74) s64)))))
 (some (.inr (.inl s64))))
 (some (.inr (.inl s64)))) a0)
 (Sum.elim (fun (s62 : List UInt8) =>
 some s62) some)
def Fz4 (a0 : List UInt8) (a1 : Int) : Option (List UInt8) :=
 Option.bind (
 lpO (fun (s79 : List UInt8) =>
 cond (decide (0 < (↑(List.length s79) : Int)))
 (zi s79 (0) fun x84 =>
 cond (decide ((↑(UInt8.toNat x84) : Int) = a1))
 (zk ((0 : Int) <= (1 : Int) /\ (1 : Int) <= (↑(List.length s79) : Int)) (
 some (.inl (List.drop (Int.toNat 1) (List.take (Int.toNat (↑(List.length s79) : Int)) s79)))))
 (some (.inr (.inl s79))))
 (some (.inr (.inl s79)))) a0)
 (Sum.elim (fun (s77 : List UInt8) =>
 some s77) some)
def Fz5 (a0 : List UInt8) : Option (List Bool × Bool) :=
 Option.bind (
 lpO (fun (s89 : Int × List Bool) =>
 cond (decide (s89.fst < (↑(List.length a0) : Int)))
 (zi a0 (s89.fst) fun x95 =>
 cond (decide (128 <= (↑(UInt8.toNat x95) : Int)))
 (some (.inr (.inr ((s89.snd, false)))))
 (zk ((0 : Int) <= (↑(UInt8.toNat x95) : Int) /\ (↑(UInt8.toNat x95) : Int) < (↑(256 : Nat) : Int)) (
 zi (s89.snd) ((↑(Int.toNat (↑(UInt8.toNat x95) : Int)) : Int)) fun _ =>
 zg (IntKind.wrap .i64 (s89.fst + 1)) fun x98 =>
 some (.inl ((x98, List.set s89.snd (Int.toNat (↑(UInt8.toNat x95) : Int)) true))))))
 (some (.inr (.inl (s89.snd))))) ((0, List.replicate 256 false)))
 (Sum.elim (fun (s87 : List Bool) =>
 some ((s87, true))) some)
def Fz6 (a0 : List Bool) (a1 : Int) : Option (Bool) :=
 zk (0 <= a1 /\ a1 < (↑(256 : Nat) : Int)) (
 zi a0 ((↑(Int.toNat a1) : Int)) fun x106 =>
 some x106)
def Fz7 (a0 : List UInt8) (a1 : List Bool) : Option (List UInt8) :=
 Option.bind (
 lpO (fun (s103 : List UInt8) =>
 cond (decide (0 < (↑(List.length s103) : Int)))
 (zg (IntKind.wrap .i64 ((↑(List.length s103) : Int) - 1)) fun x111 =>
 zi s103 x111 fun x112 =>
 (Fz6 a1 ((↑(UInt8.toNat x112) : Int))).bind fun x113 =>
 cond (!x113)
 (some (.inr (.inl s103)))
 (zg (IntKind.wrap .i64 ((↑(List.length s103) : Int) - 1)) fun x115 =>
 zk (0 <= x115 /\ x115 <= (↑(List.length s103) : Int)) (
 some (.inl (List.drop (Int.toNat 0) (List.take (Int.toNat x115) s103))))))
 (some (.inr (.inl s103)))) a0)
 (Sum.elim (fun (s101 : List UInt8) =>
 some s101) some)
def Fz8 (a0 : List UInt8) (a1 : List Bool) : Option (List UInt8) :=
 Option.bind (
 lpO (fun (s119 : List UInt8) =>
 cond (decide (0 < (↑(List.length s119) : Int)))
 (zi s119 (0) fun x125 =>
 (Fz6 a1 ((↑(UInt8.toNat x125) : Int))).bind fun x126 =>
 cond (!x126)
 (some (.inr (.inl s119)))
 (zk ((0 : Int) <= (1 : Int) /\ (1 : Int) <= (↑(List.length s119) : Int)) (
 some (.inl (List.drop (Int.toNat 1) (List.take (Int.toNat (↑(List.length s119) : Int)) s119))))))
 (some (.inr (.inl s119)))) a0)
 (Sum.elim (fun (s117 : List UInt8) =>
 some s117) some)
def Fz9 (a0 : Int) : Option (Bool) :=
 some (!decide (bits BinOp.and IntKind.u8 a0 192 = 128))
def zqm (a0 : List UInt8) : Option (Int × Int) :=
 cond (decide ((↑(List.length a0) : Int) < 1))
 (some ((65533, 0)))
 (zi a0 (0) fun _ =>
 none)
def zk9 (a0 : List UInt8) : Option (Int × Int) :=
 cond (!decide (a0 = (ByteArray.mk #[]).data.toList))
 (zi a0 (0) fun x158 =>
 cond (decide ((↑(UInt8.toNat x158) : Int) < 128))
 (zi a0 (0) fun x160 =>
 zg (IntKind.wrap .i32 (↑(UInt8.toNat x160) : Int)) fun x161 =>
 some ((x161, 1)))
 ((zqm a0).bind fun x164 =>
 some x164))
 ((zqm a0).bind fun x165 =>
 some x165)
def zu9 (a0 : List UInt8) : Option (Int × Int) :=
 cond (decide ((↑(List.length a0) : Int) = 0))
 (some ((65533, 0)))
 (zg (IntKind.wrap .i64 ((↑(List.length a0) : Int) - 1)) fun x137 =>
 zi a0 x137 fun x138 =>
 zg (IntKind.wrap .i32 (↑(UInt8.toNat x138) : Int)) fun x139 =>
 cond (decide (x139 < 128))
 (some ((x139, 1)))
 (zg (IntKind.wrap .i64 ((↑(List.length a0) : Int) - 4)) fun x141 =>
 zg (IntKind.wrap .i64 (x137 - 1)) fun x142 =>
 Option.bind (
 lpO (fun (s145 : Int) =>
 cond (decide (max x141 0 <= s145))
 (zi a0 s145 fun x152 =>
 (Fz9 ((↑(UInt8.toNat x152) : Int))).bind fun x153 =>
 cond x153
 (some (.inr (.inl s145)))
 (zg (IntKind.wrap .i64 (s145 - 1)) fun x155 =>
 some (.inl x155)))
 (some (.inr (.inl s145)))) x142)
 (Sum.elim (fun (s143 : Int) =>
 cond (decide (s143 < 0))
 (zk ((0 : Int) <= (0 : Int) /\ (0 : Int) <= (↑(List.length a0) : Int) /\ (↑(List.length a0) : Int) <= (↑(List.length a0) : Int)) (
 (zk9 (List.drop (Int.toNat 0) (List.take (Int.toNat (↑(List.length a0) : Int)) a0))).bind fun x166 =>
 zg (IntKind.wrap .i64 (0 + x166.snd)) fun x167 =>
 cond (!decide (x167 = (↑(List.length a0) : Int)))
 (some ((65533, 1)))
 (some x166)))
 (zk (0 <= s143 /\ s143 <= (↑(List.length a0) : Int) /\ (↑(List.length a0) : Int) <= (↑(List.length a0) : Int)) (
 (zk9 (List.drop (Int.toNat s143) (List.take (Int.toNat (↑(List.length a0) : Int)) a0))).bind fun x169 =>
 zg (IntKind.wrap .i64 (s143 + x169.snd)) fun x170 =>
 cond (!decide (x170 = (↑(List.length a0) : Int)))
 (some ((65533, 1)))
 (some x169)))) some)))
def zbh (a0 : List UInt8) (a1 : Int) : Option (Int) :=
 (qe a0 a1).bind fun x176 =>
 some x176
def zbw (a0 : Int) : Option (Bool) :=
 cond (decide (0 <= a0))
 (cond (decide (a0 < 55296))
 (some (true))
 (cond (decide (57343 < a0))
 (cond (decide (a0 <= 1114111))
 (some (true))
 (some (false)))
 (some (false))))
 (cond (decide (57343 < a0))
 (cond (decide (a0 <= 1114111))
 (some (true))
 (some (false)))
 (some (false)))
def ze7 (a0 : List UInt8) (a1 : Int) : Option (Int) :=
 cond (decide (0 <= a1))
 (cond (decide (a1 < 128))
 (zg (IntKind.wrap .u8 a1) fun x175 =>
 (zbh a0 x175).bind fun x177 =>
 some x177)
 (cond (decide (a1 = 65533))
 (none)
 ((zbw a1).bind fun x185 =>
 cond (!x185)
 (some ((-1 : Int)))
 (zg (IntKind.wrap .i64 ((↑(List.length (Utf8.encode a1).data.toList) : Int) - 1)) fun x187 =>
 Option.bind (
 lpO (fun (_ : Unit) =>
 cond (decide (x187 < (↑(List.length a0) : Int)))
 (zi a0 x187 fun x192 =>
 zi ((Utf8.encode a1).data.toList) x187 fun x193 =>
 cond (!decide ((↑(UInt8.toNat x192) : Int) = (↑(UInt8.toNat x193) : Int)))
 (zg (IntKind.wrap .i64 (x187 + 1)) fun x195 =>
 zk (0 <= x195 /\ x195 <= (↑(List.length a0) : Int)) (
 zi ((Utf8.encode a1).data.toList) x187 fun x196 =>
 (zbh (List.drop (Int.toNat x195) (List.take (Int.toNat (↑(List.length a0) : Int)) a0)) ((↑(UInt8.toNat x196) : Int))).bind fun x197 =>
 cond (decide (x197 < 0))
 (some (.inr (.inr ((-1 : Int)))))
 (zg (IntKind.wrap .i64 (x197 + 1)) fun x199 =>
 zg (IntKind.wrap .i64 (x187 + x199)) fun x200 =>
 Option.bind (
 lpO (fun (s203 : Int) =>
 cond (decide (s203 < (↑(List.length (Utf8.encode a1).data.toList) : Int)))
 (zg (IntKind.wrap .i64 (x200 - s203)) fun x211 =>
 zi a0 x211 fun x212 =>
 zg (IntKind.wrap .i64 (x187 - s203)) fun x213 =>
 zi ((Utf8.encode a1).data.toList) x213 fun x214 =>
 cond (!decide ((↑(UInt8.toNat x212) : Int) = (↑(UInt8.toNat x214) : Int)))
 (none)
 (zg (IntKind.wrap .i64 (s203 + 1)) fun x216 =>
 some (.inl x216)))
 (some (.inr (.inl ())))) (1))
 (Sum.elim (fun (_ : Unit) =>
 zg (IntKind.wrap .i64 (x200 - x187)) fun x217 =>
 some (.inr (.inr x217))) some))))
 (Option.bind (
 lpO (fun (s220 : Int) =>
 cond (decide (s220 < (↑(List.length (Utf8.encode a1).data.toList) : Int)))
 (zg (IntKind.wrap .i64 (x187 - s220)) fun x228 =>
 zi a0 x228 fun x229 =>
 zg (IntKind.wrap .i64 (x187 - s220)) fun x230 =>
 zi ((Utf8.encode a1).data.toList) x230 fun x231 =>
 cond (!decide ((↑(UInt8.toNat x229) : Int) = (↑(UInt8.toNat x231) : Int)))
 (none)
 (zg (IntKind.wrap .i64 (s220 + 1)) fun x233 =>
 some (.inl x233)))
 (some (.inr (.inl ())))) (1))
 (Sum.elim (fun (_ : Unit) =>
 zg (IntKind.wrap .i64 (x187 - x187)) fun x234 =>
 some (.inr (.inr x234))) some)))
 (some (.inr (.inl ())))) (()))
 (Sum.elim (fun (_ : Unit) =>
 some ((-1 : Int))) some)))))
 (cond (decide (a1 = 65533))
 (none)
 ((zbw a1).bind fun x236 =>
 cond (!x236)
 (some ((-1 : Int)))
 (zg (IntKind.wrap .i64 ((↑(List.length (Utf8.encode a1).data.toList) : Int) - 1)) fun x238 =>
 Option.bind (
 lpO (fun (_ : Unit) =>
 cond (decide (x238 < (↑(List.length a0) : Int)))
 (zi a0 x238 fun x243 =>
 zi ((Utf8.encode a1).data.toList) x238 fun x244 =>
 cond (!decide ((↑(UInt8.toNat x243) : Int) = (↑(UInt8.toNat x244) : Int)))
 (zg (IntKind.wrap .i64 (x238 + 1)) fun x246 =>
 zk (0 <= x246 /\ x246 <= (↑(List.length a0) : Int)) (
 zi ((Utf8.encode a1).data.toList) x238 fun x247 =>
 (zbh (List.drop (Int.toNat x246) (List.take (Int.toNat (↑(List.length a0) : Int)) a0)) ((↑(UInt8.toNat x247) : Int))).bind fun x248 =>
 cond (decide (x248 < 0))
 (some (.inr (.inr ((-1 : Int)))))
 (zg (IntKind.wrap .i64 (x248 + 1)) fun x250 =>
 zg (IntKind.wrap .i64 (x238 + x250)) fun x251 =>
 Option.bind (
 lpO (fun (s254 : Int) =>
 cond (decide (s254 < (↑(List.length (Utf8.encode a1).data.toList) : Int)))
 (zg (IntKind.wrap .i64 (x251 - s254)) fun x262 =>
 zi a0 x262 fun x263 =>
 zg (IntKind.wrap .i64 (x238 - s254)) fun x264 =>
 zi ((Utf8.encode a1).data.toList) x264 fun x265 =>
 cond (!decide ((↑(UInt8.toNat x263) : Int) = (↑(UInt8.toNat x265) : Int)))
 (none)
 (zg (IntKind.wrap .i64 (s254 + 1)) fun x267 =>
 some (.inl x267)))
 (some (.inr (.inl ())))) (1))
 (Sum.elim (fun (_ : Unit) =>
 zg (IntKind.wrap .i64 (x251 - x238)) fun x268 =>
 some (.inr (.inr x268))) some))))
 (Option.bind (
 lpO (fun (s271 : Int) =>
 cond (decide (s271 < (↑(List.length (Utf8.encode a1).data.toList) : Int)))
 (zg (IntKind.wrap .i64 (x238 - s271)) fun x279 =>
 zi a0 x279 fun x280 =>
 zg (IntKind.wrap .i64 (x238 - s271)) fun x281 =>
 zi ((Utf8.encode a1).data.toList) x281 fun x282 =>
 cond (!decide ((↑(UInt8.toNat x280) : Int) = (↑(UInt8.toNat x282) : Int)))
 (none)
 (zg (IntKind.wrap .i64 (s271 + 1)) fun x284 =>
 some (.inl x284)))
 (some (.inr (.inl ())))) (1))
 (Sum.elim (fun (_ : Unit) =>
 zg (IntKind.wrap .i64 (x238 - x238)) fun x285 =>
 some (.inr (.inr x285))) some)))
 (some (.inr (.inl ())))) (()))
 (Sum.elim (fun (_ : Unit) =>
 some ((-1 : Int))) some))))
def xj (a0 : List UInt8) (a1 : Int) : Option (Bool) :=
 (ze7 a0 a1).bind fun x286 =>
 some (decide (0 <= x286))
def zo6 (a0 : List UInt8) (a1 : List UInt8) : Option (List UInt8) :=
 Option.bind (
 lpO (fun (s131 : List UInt8) =>
 cond (decide (0 < (↑(List.length s131) : Int)))
 (zg (IntKind.wrap .i64 ((↑(List.length s131) : Int) - 1)) fun x145 =>
 zi s131 x145 fun x146 =>
 zg (IntKind.wrap .i32 (↑(UInt8.toNat x146) : Int)) fun x147 =>
 cond (decide (128 <= x147))
 ((zu9 s131).bind fun x149 =>
 (xj a1 (x149.fst)).bind fun x150 =>
 cond (!x150)
 (some (.inr (.inl s131)))
 (zg (IntKind.wrap .i64 ((↑(List.length s131) : Int) - x149.snd)) fun x152 =>
 zk (0 <= x152 /\ x152 <= (↑(List.length s131) : Int)) (
 some (.inl (List.drop (Int.toNat 0) (List.take (Int.toNat x152) s131))))))
 ((xj a1 x147).bind fun x153 =>
 cond (!x153)
 (some (.inr (.inl s131)))
 (zg (IntKind.wrap .i64 ((↑(List.length s131) : Int) - 1)) fun x155 =>
 zk (0 <= x155 /\ x155 <= (↑(List.length s131) : Int)) (
 some (.inl (List.drop (Int.toNat 0) (List.take (Int.toNat x155) s131)))))))
 (some (.inr (.inl s131)))) a0)
 (Sum.elim (fun (s129 : List UInt8) =>
 some s129) some)
def zqa (a0 : List UInt8) (a1 : List UInt8) : Option (List UInt8) :=
 Option.bind (
 lpO (fun (s159 : List UInt8) =>
 cond (decide (0 < (↑(List.length s159) : Int)))
 ((zk9 s159).bind fun x165 =>
 (xj a1 (x165.fst)).bind fun x166 =>
 cond (!x166)
 (some (.inr (.inl s159)))
 (zk (0 <= x165.snd /\ x165.snd <= (↑(List.length s159) : Int)) (
 some (.inl (List.drop (Int.toNat x165.snd) (List.take (Int.toNat (↑(List.length s159) : Int)) s159))))))
 (some (.inr (.inl s159)))) a0)
 (Sum.elim (fun (s157 : List UInt8) =>
 some s157) some)
def zkc (a0 : List UInt8) (a1 : List UInt8) : Option (List UInt8) :=
 cond (decide (a0 = (ByteArray.mk #[]).data.toList))
 (some a0)
 (cond (decide (a1 = (ByteArray.mk #[]).data.toList))
 (some a0)
 (cond (decide ((↑(List.length a1) : Int) = 1))
 (zi a1 (0) fun x59 =>
 cond (decide ((↑(UInt8.toNat x59) : Int) < 128))
 (zi a1 (0) fun x61 =>
 (Fz3 a0 ((↑(UInt8.toNat x61) : Int))).bind fun x75 =>
 zi a1 (0) fun x76 =>
 (Fz4 x75 ((↑(UInt8.toNat x76) : Int))).bind fun x86 =>
 some x86)
 ((Fz5 a1).bind fun x99 =>
 cond (x99.snd)
 ((Fz7 a0 (x99.fst)).bind fun x116 =>
 (Fz8 x116 (x99.fst)).bind fun x128 =>
 some x128)
 ((zo6 a0 a1).bind fun x156 =>
 (zqa x156 a1).bind fun x168 =>
 some x168)))
 ((Fz5 a1).bind fun x169 =>
 cond (x169.snd)
 ((Fz7 a0 (x169.fst)).bind fun x171 =>
 (Fz8 x171 (x169.fst)).bind fun x172 =>
 some x172)
 ((zo6 a0 a1).bind fun x173 =>
 (zqa x173 a1).bind fun x174 =>
 some x174))))
def zmk (a0 : List UInt8) : Option (Bool) :=
 cond (decide (a0 = (ByteArray.mk #[]).data.toList))
 (some (false))
 (cond (decide (16 < (↑(List.length a0) : Int)))
 (some (false))
 (zi a0 (0) fun x52 =>
 cond (decide ((↑(UInt8.toNat x52) : Int) < 97))
 (some (false))
 (zi a0 (0) fun x54 =>
 cond (decide (122 < (↑(UInt8.toNat x54) : Int)))
 (some (false))
 ((zkc a0 ((ByteArray.mk #[97, 98, 99, 100, 101, 102, 103, 104, 105, 106, 107, 108, 109, 110, 111, 112, 113, 114, 115, 116, 117, 118, 119, 120, 121, 122, 48, 49, 50, 51, 52, 53, 54, 55, 56, 57, 45]).data.toList)).bind fun x175 =>
 some (decide (x175 = (ByteArray.mk #[]).data.toList))))))
def zmf (a0 : List (List UInt8)) (a1 : List UInt8) : Option (Int) :=
 Option.bind (
 lpO (fun (s180 : Int) =>
 cond (decide (s180 < (↑(List.length (List.map SV.str a0)) : Int)))
 (zi a0 s180 fun x185 =>
 cond (decide (a1 = x185))
 (some (.inr (.inr s180)))
 (zg (IntKind.wrap .i64 (s180 + 1)) fun x187 =>
 some (.inl x187)))
 (some (.inr (.inl ())))) (0))
 (Sum.elim (fun (_ : Unit) =>
 some ((-1 : Int))) some)
def zmu (a0 : List (List UInt8)) (a1 : List UInt8) : Option (Bool) :=
 (zmf a0 a1).bind fun x188 =>
 some (decide (0 <= x188))
def zfi (a0 : List (List UInt8)) : Option (Int × Int) :=
 cond (decide ((↑(List.length (List.map SV.str a0)) : Int) < 1))
 (some (((-1 : Int), 3)))
 (cond (decide (8 < (↑(List.length (List.map SV.str a0)) : Int)))
 (some (((-1 : Int), 3)))
 (Option.bind (
 lpO (fun (s48 : Int) =>
 cond (decide (s48 < (↑(List.length (List.map SV.str a0)) : Int)))
 (zi a0 s48 fun x56 =>
 (zmk x56).bind fun x57 =>
 cond (!x57)
 (some (.inr (.inr ((s48, 6)))))
 (zk (0 <= s48 /\ s48 <= (↑(List.length (List.map SV.str a0)) : Int)) (
 (zmu (List.drop (Int.toNat 0) (List.take (Int.toNat s48) a0)) x56).bind fun x59 =>
 cond x59
 (some (.inr (.inr ((s48, 8)))))
 (zg (IntKind.wrap .i64 (s48 + 1)) fun x61 =>
 some (.inl x61)))))
 (some (.inr (.inl ())))) (0))
 (Sum.elim (fun (_ : Unit) =>
 some ((0, 0))) some)))
def zfk (a0 : Int) : Option (Int) :=
 zi ((ByteArray.mk (List.toArray (List.append (List.append [(0 : UInt8), 1, 2, 2, 3, 3, 3, 3, 4, 4, 4, 4, 4, 4, 4, 4, 5, 5, 5, 5, 5, 5, 5, 5, 5, 5, 5, 5, 5, 5, 5, 5, 6, 6, 6, 6, 6, 6, 6, 6, 6, 6, 6, 6, 6, 6, 6, 6, 6, 6, 6, 6, 6, 6, 6, 6, 6, 6, 6, 6, 6, 6, 6, 6] [(7 : UInt8), 7, 7, 7, 7, 7, 7, 7, 7, 7, 7, 7, 7, 7, 7, 7, 7, 7, 7, 7, 7, 7, 7, 7, 7, 7, 7, 7, 7, 7, 7, 7, 7, 7, 7, 7, 7, 7, 7, 7, 7, 7, 7, 7, 7, 7, 7, 7, 7, 7, 7, 7, 7, 7, 7, 7, 7, 7, 7, 7, 7, 7, 7, 7]) (List.append [(8 : UInt8), 8, 8, 8, 8, 8, 8, 8, 8, 8, 8, 8, 8, 8, 8, 8, 8, 8, 8, 8, 8, 8, 8, 8, 8, 8, 8, 8, 8, 8, 8, 8, 8, 8, 8, 8, 8, 8, 8, 8, 8, 8, 8, 8, 8, 8, 8, 8, 8, 8, 8, 8, 8, 8, 8, 8, 8, 8, 8, 8, 8, 8, 8, 8] [(8 : UInt8), 8, 8, 8, 8, 8, 8, 8, 8, 8, 8, 8, 8, 8, 8, 8, 8, 8, 8, 8, 8, 8, 8, 8, 8, 8, 8, 8, 8, 8, 8, 8, 8, 8, 8, 8, 8, 8, 8, 8, 8, 8, 8, 8, 8, 8, 8, 8, 8, 8, 8, 8, 8, 8, 8, 8, 8, 8, 8, 8, 8, 8, 8, 8])))).data.toList) a0 fun x71 =>
 zg (IntKind.wrap .i64 (↑(UInt8.toNat x71) : Int)) fun x72 =>
 some x72
def zdn (a0 : TL) : Option (Tlattice_order) :=
 Option.bind (
 lpO (fun (s144 : Int × List Int × List Int) =>
 cond (decide (s144.fst < (↑(List.length (List.map (SV.int .u8) a0.Up)) : Int)))
 (zi (a0.Up) (s144.fst) fun x158 =>
 zk (0 <= s144.fst /\ s144.fst < (↑(8 : Nat) : Int)) (
 zi (s144.snd.fst) ((↑(Int.toNat s144.fst) : Int)) fun _ =>
 Option.bind (
 lpO (fun (s162 : Int × List Int) =>
 cond (decide (s162.fst < (↑(List.length (List.map SV.str a0.Names)) : Int)))
 (zk (0 <= s162.fst /\ s162.fst < (↑(8 : Nat) : Int)) (
 zi (s162.snd) ((↑(Int.toNat s162.fst) : Int)) fun x168 =>
 zk (0 <= s162.fst) (
 zk (0 <= s144.fst) (
 zg (IntKind.wrap .u8 (bits BinOp.and IntKind.u8 (Int.fdiv x158 (2 ^ min (Int.toNat s162.fst) (IntKind.bits IntKind.u8))) 1 * 2 ^ min (Int.toNat s144.fst) (IntKind.bits IntKind.u8))) fun x169 =>
 zk (0 <= s162.fst /\ s162.fst < (↑(8 : Nat) : Int)) (
 zi (s162.snd) ((↑(Int.toNat s162.fst) : Int)) fun _ =>
 zg (IntKind.wrap .i64 (s162.fst + 1)) fun x171 =>
 some (.inl ((x171, List.set s162.snd (Int.toNat s162.fst) (bits BinOp.or IntKind.u8 x168 x169)))))))))
 (some (.inr (.inl (s162.snd))))) ((0, s144.snd.snd)))
 (Sum.elim (fun (s160 : List Int) =>
 zg (IntKind.wrap .i64 (s144.fst + 1)) fun x172 =>
 some (.inl ((x172, List.set s144.snd.fst (Int.toNat s144.fst) x158, s160)))) some)))
 (some (.inr (.inl (s144.snd))))) ((0, [0, 0, 0, 0, 0, 0, 0, 0], [0, 0, 0, 0, 0, 0, 0, 0])))
 (Sum.elim (fun (s142 : List Int × List Int) =>
 some (Tlattice_order.mk (↑(List.length (List.map SV.str a0.Names)) : Int) s142.fst s142.snd)) some)
def zex (a0 : List Int) (a1 : Int) (a2 : Int) (a3 : Int) : Option (Int) :=
 zk (0 <= a2 /\ a2 < (↑(8 : Nat) : Int)) (
 zi a0 ((↑(Int.toNat a2) : Int)) fun x179 =>
 zk (0 <= a3 /\ a3 < (↑(8 : Nat) : Int)) (
 zi a0 ((↑(Int.toNat a3) : Int)) fun x180 =>
 Option.bind (
 lpO (fun (s183 : Int) =>
 cond (decide (s183 < a1))
 (zk (0 <= s183) (
 cond (decide (bits BinOp.and IntKind.u8 (Int.fdiv (bits BinOp.and IntKind.u8 x179 x180) (2 ^ min (Int.toNat s183) (IntKind.bits IntKind.u8))) 1 = 1))
 (zk (0 <= s183 /\ s183 < (↑(8 : Nat) : Int)) (
 zi a0 ((↑(Int.toNat s183) : Int)) fun x190 =>
 cond (decide (x190 = bits BinOp.and IntKind.u8 x179 x180))
 (some (.inr (.inr s183)))
 (zg (IntKind.wrap .i64 (s183 + 1)) fun x192 =>
 some (.inl x192))))
 (zg (IntKind.wrap .i64 (s183 + 1)) fun x193 =>
 some (.inl x193))))
 (some (.inr (.inl ())))) (0))
 (Sum.elim (fun (_ : Unit) =>
 some ((-1 : Int))) some)))
def zmi (a0 : List Int) (a1 : Int) (a2 : Int) (a3 : Int) : Option (Int) :=
 zk (0 <= a2 /\ a2 < (↑(8 : Nat) : Int)) (
 zi a0 ((↑(Int.toNat a2) : Int)) fun x196 =>
 zk (0 <= a3 /\ a3 < (↑(8 : Nat) : Int)) (
 zi a0 ((↑(Int.toNat a3) : Int)) fun x197 =>
 Option.bind (
 lpO (fun (s200 : Int) =>
 cond (decide (s200 < a1))
 (zk (0 <= s200) (
 cond (decide (bits BinOp.and IntKind.u8 (Int.fdiv (bits BinOp.and IntKind.u8 x196 x197) (2 ^ min (Int.toNat s200) (IntKind.bits IntKind.u8))) 1 = 1))
 (zk (0 <= s200 /\ s200 < (↑(8 : Nat) : Int)) (
 zi a0 ((↑(Int.toNat s200) : Int)) fun x207 =>
 cond (decide (x207 = bits BinOp.and IntKind.u8 x196 x197))
 (some (.inr (.inr s200)))
 (zg (IntKind.wrap .i64 (s200 + 1)) fun x209 =>
 some (.inl x209))))
 (zg (IntKind.wrap .i64 (s200 + 1)) fun x210 =>
 some (.inl x210))))
 (some (.inr (.inl ())))) (0))
 (Sum.elim (fun (_ : Unit) =>
 some ((-1 : Int))) some)))
def uF (a0 : TL) : Option (Int × Int) :=
 (zfi (a0.Names)).bind fun x62 =>
 cond (!decide (x62.snd = 0))
 (some x62)
 (cond (!decide ((↑(List.length (List.map (SV.int .u8) a0.Up)) : Int) = (↑(List.length (List.map SV.str a0.Names)) : Int)))
 (some (((-1 : Int), 6)))
 (zk ((0 : Int) <= (↑(List.length (List.map SV.str a0.Names)) : Int)) (
 zg (IntKind.wrap .u8 (1 * 2 ^ min (Int.toNat (↑(List.length (List.map SV.str a0.Names)) : Int)) (IntKind.bits IntKind.u8))) fun x65 =>
 zg (IntKind.wrap .u8 (x65 - 1)) fun x66 =>
 Option.bind (
 lpO (fun (s69 : Int) =>
 cond (decide (s69 < (↑(List.length (List.map (SV.int .u8) a0.Up)) : Int)))
 (zi (a0.Up) s69 fun x99 =>
 (zfk x99).bind fun x100 =>
 cond (decide ((↑(List.length (List.map SV.str a0.Names)) : Int) < x100))
 (some (.inr (.inr ((s69, 6)))))
 (zk (0 <= s69) (
 cond (decide (bits BinOp.and IntKind.u8 (Int.fdiv x99 (2 ^ min (Int.toNat s69) (IntKind.bits IntKind.u8))) 1 = 0))
 (some (.inr (.inr ((s69, 6)))))
 (Option.bind (
 lpO (fun (s105 : Int) =>
 cond (decide (s105 < (↑(List.length (List.map (SV.int .u8) a0.Up)) : Int)))
 (zi (a0.Up) s105 fun x123 =>
 zk (0 <= s105) (
 cond (decide (bits BinOp.and IntKind.u8 (Int.fdiv x99 (2 ^ min (Int.toNat s105) (IntKind.bits IntKind.u8))) 1 = 0))
 (zg (IntKind.wrap .i64 ((↑(List.length (List.map SV.str a0.Names)) : Int) - 1)) fun x125 =>
 cond (decide (s105 = x125))
 (zg (IntKind.wrap .i64 (s69 + 1)) fun x127 =>
 some (.inr (.inr (.inl x127))))
 (zg (IntKind.wrap .i64 (s105 + 1)) fun x128 =>
 some (.inl x128)))
 (cond (!decide (s105 = s69))
 (zk (0 <= s69) (
 cond (decide (bits BinOp.and IntKind.u8 (Int.fdiv x123 (2 ^ min (Int.toNat s69) (IntKind.bits IntKind.u8))) 1 = 1))
 (some (.inr (.inr (.inr (.inr ((s69, 6)))))))
 (cond (!decide (bits BinOp.andNot IntKind.u8 (bits BinOp.and IntKind.u8 x123 x66) x99 = 0))
 (some (.inr (.inr (.inr (.inr ((s69, 6)))))))
 (zg (IntKind.wrap .i64 ((↑(List.length (List.map SV.str a0.Names)) : Int) - 1)) fun x132 =>
 cond (decide (s105 = x132))
 (zg (IntKind.wrap .i64 (s69 + 1)) fun x134 =>
 some (.inr (.inr (.inl x134))))
 (zg (IntKind.wrap .i64 (s105 + 1)) fun x135 =>
 some (.inl x135))))))
 (cond (!decide (bits BinOp.andNot IntKind.u8 (bits BinOp.and IntKind.u8 x123 x66) x99 = 0))
 (some (.inr (.inr (.inr (.inr ((s69, 6)))))))
 (zg (IntKind.wrap .i64 ((↑(List.length (List.map SV.str a0.Names)) : Int) - 1)) fun x137 =>
 cond (decide (s105 = x137))
 (zg (IntKind.wrap .i64 (s69 + 1)) fun x139 =>
 some (.inr (.inr (.inl x139))))
 (zg (IntKind.wrap .i64 (s105 + 1)) fun x140 =>
 some (.inl x140)))))))
 (some (.inr (.inl ())))) (0))
 (Sum.elim (fun (_ : Unit) =>
 zg (IntKind.wrap .i64 (s69 + 1)) fun x141 =>
 some (.inl x141)) some)))))
 (some (.inr (.inl ())))) (0))
 (Sum.elim (fun (_ : Unit) =>
 (zdn a0).bind fun x173 =>
 Option.bind (
 lpO (fun (s176 : Int) =>
 cond (decide (s176 < (↑(List.length (List.map SV.str a0.Names)) : Int)))
 (Option.bind (
 lpO (fun (s194 : Int) =>
 cond (decide (s194 < (↑(List.length (List.map SV.str a0.Names)) : Int)))
 ((zex (x173.up_) ((↑(List.length (List.map SV.str a0.Names)) : Int)) s176 s194).bind fun x201 =>
 cond (decide (x201 < 0))
 (some (.inr (.inr (.inr (.inr ((s176, 4)))))))
 ((zmi (x173.down_) ((↑(List.length (List.map SV.str a0.Names)) : Int)) s176 s194).bind fun x203 =>
 cond (decide (x203 < 0))
 (some (.inr (.inr (.inr (.inr ((s176, 4)))))))
 (zg (IntKind.wrap .i64 (s194 + 1)) fun x205 =>
 some (.inl x205))))
 (some (.inr (.inl ())))) (0))
 (Sum.elim (fun (_ : Unit) =>
 zg (IntKind.wrap .i64 (s176 + 1)) fun x206 =>
 some (.inl x206)) some))
 (some (.inr (.inl ())))) (0))
 (Sum.elim (fun (_ : Unit) =>
 some ((0, 0))) some)) some))))
def zpp (a0 : TP) : Option (Int × Int) :=
 (uF (a0.Lattice)).bind fun x207 =>
 some x207
def zhc (a0 : List UInt8) : Option (Int × Int) :=
 Option.bind (
 cond (decide ([(110 : UInt8), (101 : UInt8), (103 : UInt8)] = a0))
 (some (.inr ((1, 0))))
 (cond (decide ([(97 : UInt8), (98 : UInt8), (115 : UInt8)] = a0))
 (some (.inr ((2, 0))))
 (cond (decide ([(110 : UInt8), (111 : UInt8), (116 : UInt8)] = a0))
 (some (.inr ((3, 0))))
 (cond (decide ([(115 : UInt8), (104 : UInt8), (97 : UInt8), (112 : UInt8), (101 : UInt8)] = a0))
 (some (.inr ((4, 0))))
 (cond (decide ([(114 : UInt8), (97 : UInt8), (118 : UInt8), (101 : UInt8), (108 : UInt8)] = a0))
 (some (.inr ((5, 0))))
 (cond (decide ([(114 : UInt8), (101 : UInt8), (118 : UInt8), (101 : UInt8), (114 : UInt8), (115 : UInt8), (101 : UInt8)] = a0))
 (some (.inr ((6, 0))))
 (cond (decide ([(102 : UInt8), (108 : UInt8), (105 : UInt8), (112 : UInt8)] = a0))
 (some (.inr ((7, 0))))
 (cond (decide ([(105 : UInt8), (111 : UInt8), (116 : UInt8), (97 : UInt8)] = a0))
 (some (.inr ((8, 0))))
 (cond (decide ([(115 : UInt8), (117 : UInt8), (109 : UInt8)] = a0))
 (some (.inr ((9, 0))))
 (cond (decide ([(108 : UInt8), (101 : UInt8), (97 : UInt8), (115 : UInt8), (116 : UInt8)] = a0))
 (some (.inr ((10, 0))))
 (cond (decide ([(109 : UInt8), (111 : UInt8), (115 : UInt8), (116 : UInt8)] = a0))
 (some (.inr ((11, 0))))
 (cond (decide ([(99 : UInt8), (111 : UInt8), (117 : UInt8), (110 : UInt8), (116 : UInt8)] = a0))
 (some (.inr ((12, 0))))
 (cond (decide ([(115 : UInt8), (99 : UInt8), (97 : UInt8), (110 : UInt8)] = a0))
 (some (.inr ((13, 0))))
 (cond (decide ([(103 : UInt8), (114 : UInt8), (97 : UInt8), (100 : UInt8), (101 : UInt8)] = a0))
 (some (.inr ((14, 0))))
 (cond (decide ([(97 : UInt8), (100 : UInt8), (100 : UInt8)] = a0))
 (some (.inr ((15, 0))))
 (cond (decide ([(115 : UInt8), (117 : UInt8), (98 : UInt8)] = a0))
 (some (.inr ((16, 0))))
 (cond (decide ([(109 : UInt8), (117 : UInt8), (108 : UInt8)] = a0))
 (some (.inr ((17, 0))))
 (cond (decide ([(100 : UInt8), (105 : UInt8), (118 : UInt8)] = a0))
 (some (.inr ((18, 0))))
 (cond (decide ([(109 : UInt8), (111 : UInt8), (100 : UInt8)] = a0))
 (some (.inr ((19, 0))))
 (cond (decide ([(112 : UInt8), (108 : UInt8), (117 : UInt8), (115 : UInt8)] = a0))
 (some (.inr ((20, 0))))
 (cond (decide ([(109 : UInt8), (105 : UInt8), (110 : UInt8), (117 : UInt8), (115 : UInt8)] = a0))
 (some (.inr ((21, 0))))
 (cond (decide ([(116 : UInt8), (105 : UInt8), (109 : UInt8), (101 : UInt8), (115 : UInt8)] = a0))
 (some (.inr ((22, 0))))
 (cond (decide ([(101 : UInt8), (113 : UInt8)] = a0))
 (some (.inr ((23, 0))))
 (cond (decide ([(110 : UInt8), (101 : UInt8)] = a0))
 (some (.inr ((24, 0))))
 (cond (decide ([(108 : UInt8), (116 : UInt8)] = a0))
 (some (.inr ((25, 0))))
 (cond (decide ([(108 : UInt8), (101 : UInt8)] = a0))
 (some (.inr ((26, 0))))
 (cond (decide ([(103 : UInt8), (116 : UInt8)] = a0))
 (some (.inr ((27, 0))))
 (cond (decide ([(103 : UInt8), (101 : UInt8)] = a0))
 (some (.inr ((28, 0))))
 (cond (decide ([(97 : UInt8), (110 : UInt8), (100 : UInt8)] = a0))
 (some (.inr ((29, 0))))
 (cond (decide ([(111 : UInt8), (114 : UInt8)] = a0))
 (some (.inr ((30, 0))))
 (cond (decide ([(109 : UInt8), (105 : UInt8), (110 : UInt8)] = a0))
 (some (.inr ((31, 0))))
 (cond (decide ([(109 : UInt8), (97 : UInt8), (120 : UInt8)] = a0))
 (some (.inr ((32, 0))))
 (cond (decide ([(116 : UInt8), (97 : UInt8), (107 : UInt8), (101 : UInt8)] = a0))
 (some (.inr ((33, 0))))
 (cond (decide ([(100 : UInt8), (114 : UInt8), (111 : UInt8), (112 : UInt8)] = a0))
 (some (.inr ((34, 0))))
 (cond (decide ([(102 : UInt8), (105 : UInt8), (108 : UInt8), (108 : UInt8)] = a0))
 (some (.inr ((35, 0))))
 (cond (decide ([(103 : UInt8), (114 : UInt8), (105 : UInt8), (100 : UInt8)] = a0))
 (some (.inr ((36, 0))))
 (cond (decide ([(99 : UInt8), (97 : UInt8), (116 : UInt8)] = a0))
 (some (.inr ((37, 0))))
 (cond (decide ([(97 : UInt8), (116 : UInt8)] = a0))
 (some (.inr ((38, 0))))
 (cond (decide ([(105 : UInt8), (110 : UInt8)] = a0))
 (some (.inr ((39, 0))))
 (cond (decide ([(112 : UInt8), (105 : UInt8), (99 : UInt8), (107 : UInt8)] = a0))
 (some (.inr ((40, 0))))
 (some (.inl ()))))))))))))))))))))))))))))))))))))))))))
 (Sum.elim (fun (_ : Unit) =>
 some ((0, 4))) some)
def zla (a0 : Int) : Option (Bool) :=
 zg (IntKind.wrap .i32 a0) fun x285 =>
 zg (IntKind.wrap .i64 x285) fun x286 =>
 cond (decide (a0 = x286))
 (zg (IntKind.wrap .i32 a0) fun x288 =>
 (zbw x288).bind fun x289 =>
 some x289)
 (some (false))
def ze3 : Option (List (List UInt8)) :=
 some ([[], (ByteArray.mk #[32]).data.toList, (ByteArray.mk #[10]).data.toList, (ByteArray.mk #[40, 91]).data.toList, (ByteArray.mk #[41, 93]).data.toList, (ByteArray.mk #[34]).data.toList, [], (ByteArray.mk #[45]).data.toList, [], (ByteArray.mk #[60, 61]).data.toList])
def zb4 (a0 : Int) : Option (Int × Int) :=
 (zla a0).bind fun x290 =>
 cond (!x290)
 (some ((0, 7)))
 (cond (decide (48 <= a0))
 (cond (decide (a0 <= 57))
 (some ((6, 0)))
 (cond (decide (97 <= a0))
 (cond (decide (a0 <= 122))
 (some ((8, 0)))
 ((ze3).bind fun x296 =>
 Option.bind (
 lpO (fun (s299 : Int) =>
 cond (decide (s299 < 10))
 (zi x296 s299 fun x305 =>
 zg (IntKind.wrap .i32 a0) fun x306 =>
 (xj x305 x306).bind fun x307 =>
 cond x307
 (some (.inr (.inr ((s299, 0)))))
 (zg (IntKind.wrap .i64 (s299 + 1)) fun x309 =>
 some (.inl x309)))
 (some (.inr (.inl ())))) (0))
 (Sum.elim (fun (_ : Unit) =>
 some ((10, 0))) some)))
 ((ze3).bind fun x310 =>
 Option.bind (
 lpO (fun (s313 : Int) =>
 cond (decide (s313 < 10))
 (zi x310 s313 fun x319 =>
 zg (IntKind.wrap .i32 a0) fun x320 =>
 (xj x319 x320).bind fun x321 =>
 cond x321
 (some (.inr (.inr ((s313, 0)))))
 (zg (IntKind.wrap .i64 (s313 + 1)) fun x323 =>
 some (.inl x323)))
 (some (.inr (.inl ())))) (0))
 (Sum.elim (fun (_ : Unit) =>
 some ((10, 0))) some))))
 (cond (decide (97 <= a0))
 (cond (decide (a0 <= 122))
 (some ((8, 0)))
 ((ze3).bind fun x326 =>
 Option.bind (
 lpO (fun (s329 : Int) =>
 cond (decide (s329 < 10))
 (zi x326 s329 fun x335 =>
 zg (IntKind.wrap .i32 a0) fun x336 =>
 (xj x335 x336).bind fun x337 =>
 cond x337
 (some (.inr (.inr ((s329, 0)))))
 (zg (IntKind.wrap .i64 (s329 + 1)) fun x339 =>
 some (.inl x339)))
 (some (.inr (.inl ())))) (0))
 (Sum.elim (fun (_ : Unit) =>
 some ((10, 0))) some)))
 ((ze3).bind fun x340 =>
 Option.bind (
 lpO (fun (s343 : Int) =>
 cond (decide (s343 < 10))
 (zi x340 s343 fun x349 =>
 zg (IntKind.wrap .i32 a0) fun x350 =>
 (xj x349 x350).bind fun x351 =>
 cond x351
 (some (.inr (.inr ((s343, 0)))))
 (zg (IntKind.wrap .i64 (s343 + 1)) fun x353 =>
 some (.inl x353)))
 (some (.inr (.inl ())))) (0))
 (Sum.elim (fun (_ : Unit) =>
 some ((10, 0))) some))))
def zbi (a0 : List UInt8) : Option (Int) :=
 zi a0 (0) fun x398 =>
 zg (IntKind.wrap .u64 (↑(UInt8.toNat x398) : Int)) fun x399 =>
 zi a0 (1) fun x400 =>
 zg (IntKind.wrap .u64 (↑(UInt8.toNat x400) : Int)) fun x401 =>
 zg (IntKind.wrap .u64 (x401 * 2 ^ min (Int.toNat 8) (IntKind.bits IntKind.u64))) fun x402 =>
 zi a0 (2) fun x403 =>
 zg (IntKind.wrap .u64 (↑(UInt8.toNat x403) : Int)) fun x404 =>
 zg (IntKind.wrap .u64 (x404 * 2 ^ min (Int.toNat 16) (IntKind.bits IntKind.u64))) fun x405 =>
 zi a0 (3) fun x406 =>
 zg (IntKind.wrap .u64 (↑(UInt8.toNat x406) : Int)) fun x407 =>
 zg (IntKind.wrap .u64 (x407 * 2 ^ min (Int.toNat 24) (IntKind.bits IntKind.u64))) fun x408 =>
 zi a0 (4) fun x409 =>
 zg (IntKind.wrap .u64 (↑(UInt8.toNat x409) : Int)) fun x410 =>
 zg (IntKind.wrap .u64 (x410 * 2 ^ min (Int.toNat 32) (IntKind.bits IntKind.u64))) fun x411 =>
 zi a0 (5) fun x412 =>
 zg (IntKind.wrap .u64 (↑(UInt8.toNat x412) : Int)) fun x413 =>
 zg (IntKind.wrap .u64 (x413 * 2 ^ min (Int.toNat 40) (IntKind.bits IntKind.u64))) fun x414 =>
 zi a0 (6) fun x415 =>
 zg (IntKind.wrap .u64 (↑(UInt8.toNat x415) : Int)) fun x416 =>
 zg (IntKind.wrap .u64 (x416 * 2 ^ min (Int.toNat 48) (IntKind.bits IntKind.u64))) fun x417 =>
 zi a0 (7) fun x418 =>
 zg (IntKind.wrap .u64 (↑(UInt8.toNat x418) : Int)) fun x419 =>
 zg (IntKind.wrap .u64 (x419 * 2 ^ min (Int.toNat 56) (IntKind.bits IntKind.u64))) fun x420 =>
 some (bits BinOp.or IntKind.u64 (bits BinOp.or IntKind.u64 (bits BinOp.or IntKind.u64 (bits BinOp.or IntKind.u64 (bits BinOp.or IntKind.u64 (bits BinOp.or IntKind.u64 (bits BinOp.or IntKind.u64 x399 x402) x405) x408) x411) x414) x417) x420)
def zum (a0 : List UInt8) : Option (Bool) :=
 Option.bind (
 lpO (fun (s394 : List UInt8) =>
 cond (decide (0 < (↑(List.length s394) : Int)))
 (zi s394 (0) fun x421 =>
 cond (decide ((↑(UInt8.toNat x421) : Int) < 128))
 (zk ((0 : Int) <= (1 : Int) /\ (1 : Int) <= (↑(List.length s394) : Int)) (
 cond (decide (8 < (↑(List.length (List.drop (Int.toNat 1) (List.take (Int.toNat (↑(List.length s394) : Int)) s394))) : Int)))
 ((zbi (List.drop (Int.toNat 1) (List.take (Int.toNat (↑(List.length s394) : Int)) s394))).bind fun x424 =>
 cond (decide (bits BinOp.and IntKind.u64 x424 9259542123273814144 = 0))
 (zk ((0 : Int) <= (8 : Int) /\ (8 : Int) <= (↑(List.length (List.drop (Int.toNat (1 : Int)) (List.take (Int.toNat (↑(List.length s394) : Int)) s394))) : Int)) (
 cond (decide (16 < (↑(List.length (List.drop (Int.toNat 8) (List.take (Int.toNat (↑(List.length (List.drop (Int.toNat 1) (List.take (Int.toNat (↑(List.length s394) : Int)) s394))) : Int)) (List.drop (Int.toNat 1) (List.take (Int.toNat (↑(List.length s394) : Int)) s394))))) : Int)))
 ((zbi (List.drop (Int.toNat 8) (List.take (Int.toNat (↑(List.length (List.drop (Int.toNat 1) (List.take (Int.toNat (↑(List.length s394) : Int)) s394))) : Int)) (List.drop (Int.toNat 1) (List.take (Int.toNat (↑(List.length s394) : Int)) s394))))).bind fun x427 =>
 zk ((0 : Int) <= (8 : Int) /\ (8 : Int) <= (↑(List.length (List.drop (Int.toNat (8 : Int)) (List.take (Int.toNat (↑(List.length (List.drop (Int.toNat (1 : Int)) (List.take (Int.toNat (↑(List.length s394) : Int)) s394))) : Int)) (List.drop (Int.toNat (1 : Int)) (List.take (Int.toNat (↑(List.length s394) : Int)) s394))))) : Int)) (
 (zbi (List.drop (Int.toNat 8) (List.take (Int.toNat (↑(List.length (List.drop (Int.toNat 8) (List.take (Int.toNat (↑(List.length (List.drop (Int.toNat 1) (List.take (Int.toNat (↑(List.length s394) : Int)) s394))) : Int)) (List.drop (Int.toNat 1) (List.take (Int.toNat (↑(List.length s394) : Int)) s394))))) : Int)) (List.drop (Int.toNat 8) (List.take (Int.toNat (↑(List.length (List.drop (Int.toNat 1) (List.take (Int.toNat (↑(List.length s394) : Int)) s394))) : Int)) (List.drop (Int.toNat 1) (List.take (Int.toNat (↑(List.length s394) : Int)) s394))))))).bind fun x428 =>
 cond (decide (bits BinOp.and IntKind.u64 (bits BinOp.or IntKind.u64 x427 x428) 9259542123273814144 = 0))
 (zk ((0 : Int) <= (16 : Int) /\ (16 : Int) <= (↑(List.length (List.drop (Int.toNat (8 : Int)) (List.take (Int.toNat (↑(List.length (List.drop (Int.toNat (1 : Int)) (List.take (Int.toNat (↑(List.length s394) : Int)) s394))) : Int)) (List.drop (Int.toNat (1 : Int)) (List.take (Int.toNat (↑(List.length s394) : Int)) s394))))) : Int)) (
 Option.bind (
 lpO (fun (s432 : List UInt8) =>
 cond (decide (32 < (↑(List.length s432) : Int)))
 ((zbi s432).bind fun x440 =>
 zk ((0 : Int) <= (8 : Int) /\ (8 : Int) <= (↑(List.length s432) : Int)) (
 (zbi (List.drop (Int.toNat 8) (List.take (Int.toNat (↑(List.length s432) : Int)) s432))).bind fun x441 =>
 zk ((0 : Int) <= (16 : Int) /\ (16 : Int) <= (↑(List.length s432) : Int)) (
 (zbi (List.drop (Int.toNat 16) (List.take (Int.toNat (↑(List.length s432) : Int)) s432))).bind fun x442 =>
 zk ((0 : Int) <= (24 : Int) /\ (24 : Int) <= (↑(List.length s432) : Int)) (
 (zbi (List.drop (Int.toNat 24) (List.take (Int.toNat (↑(List.length s432) : Int)) s432))).bind fun x443 =>
 cond (decide (bits BinOp.and IntKind.u64 (bits BinOp.or IntKind.u64 (bits BinOp.or IntKind.u64 x440 x441) (bits BinOp.or IntKind.u64 x442 x443)) 9259542123273814144 = 0))
 (zk ((0 : Int) <= (32 : Int) /\ (32 : Int) <= (↑(List.length s432) : Int)) (
 some (.inl (List.drop (Int.toNat 32) (List.take (Int.toNat (↑(List.length s432) : Int)) s432)))))
 (some (.inr (.inl s432)))))))
 (some (.inr (.inl s432)))) (List.drop (Int.toNat 16) (List.take (Int.toNat (↑(List.length (List.drop (Int.toNat 8) (List.take (Int.toNat (↑(List.length (List.drop (Int.toNat 1) (List.take (Int.toNat (↑(List.length s394) : Int)) s394))) : Int)) (List.drop (Int.toNat 1) (List.take (Int.toNat (↑(List.length s394) : Int)) s394))))) : Int)) (List.drop (Int.toNat 8) (List.take (Int.toNat (↑(List.length (List.drop (Int.toNat 1) (List.take (Int.toNat (↑(List.length s394) : Int)) s394))) : Int)) (List.drop (Int.toNat 1) (List.take (Int.toNat (↑(List.length s394) : Int)) s394)))))))
 (Sum.elim (fun (s430 : List UInt8) =>
 some (.inl s430)) some)))
 (some (.inl (List.drop (Int.toNat 8) (List.take (Int.toNat (↑(List.length (List.drop (Int.toNat 1) (List.take (Int.toNat (↑(List.length s394) : Int)) s394))) : Int)) (List.drop (Int.toNat 1) (List.take (Int.toNat (↑(List.length s394) : Int)) s394))))))))
 (some (.inl (List.drop (Int.toNat 8) (List.take (Int.toNat (↑(List.length (List.drop (Int.toNat 1) (List.take (Int.toNat (↑(List.length s394) : Int)) s394))) : Int)) (List.drop (Int.toNat 1) (List.take (Int.toNat (↑(List.length s394) : Int)) s394))))))))
 (some (.inl (List.drop (Int.toNat 1) (List.take (Int.toNat (↑(List.length s394) : Int)) s394)))))
 (some (.inl (List.drop (Int.toNat 1) (List.take (Int.toNat (↑(List.length s394) : Int)) s394))))))
 (none))
 (some (.inr (.inl ())))) a0)
 (Sum.elim (fun (_ : Unit) =>
 some (true)) some)
def zmv (a0 : TK) : Option (Int) :=
 Option.bind (
 cond (decide (a0.Kind = 1))
 (some (.inl ((0, a0.S))))
 (cond (decide (a0.Kind = 3))
 (some (.inl ((0, a0.S))))
 (cond (decide (a0.Kind = 2))
 (some (.inl ((a0.N, []))))
 (some (.inl ((0, [])))))))
 (Sum.elim (fun (s271 : Int × List UInt8) =>
 cond (decide (a0.Kind < 1))
 (some (2))
 (cond (decide (9 < a0.Kind))
 (some (2))
 (cond (!(decide (a0.Kind = a0.Kind) && (decide (a0.From = a0.From) && (decide (a0.To = a0.To) && (decide (a0.N = s271.fst) && (decide (a0.S = s271.snd) && true))))))
 (some (2))
 (Option.bind (
 cond (decide (a0.Kind = 1))
 (cond (decide ((↑(List.length a0.S) : Int) <= 0))
 (some (.inr (6)))
 (zi (a0.S) (0) fun x284 =>
 zg (IntKind.wrap .i64 (↑(UInt8.toNat x284) : Int)) fun x285 =>
 (zb4 x285).bind fun x286 =>
 cond (!decide (x286.fst = 8))
 (some (.inr (6)))
 (zi (a0.S) (0) fun x290 =>
 zg (IntKind.wrap .i64 (↑(UInt8.toNat x290) : Int)) fun x291 =>
 (zb4 x291).bind fun x292 =>
 Option.bind (
 lpO (fun (s295 : Int × Int) =>
 cond (decide (s295.fst = 8))
 (zg (IntKind.wrap .i64 (s295.snd + 1)) fun x309 =>
 cond (decide ((↑(List.length a0.S) : Int) <= x309))
 (some (.inl ((10, x309))))
 (zi (a0.S) x309 fun x312 =>
 zg (IntKind.wrap .i64 (↑(UInt8.toNat x312) : Int)) fun x313 =>
 (zb4 x313).bind fun x314 =>
 some (.inl ((x314.fst, x309)))))
 (cond (decide (s295.fst = 6))
 (zg (IntKind.wrap .i64 (s295.snd + 1)) fun x316 =>
 cond (decide ((↑(List.length a0.S) : Int) <= x316))
 (some (.inl ((10, x316))))
 (zi (a0.S) x316 fun x319 =>
 zg (IntKind.wrap .i64 (↑(UInt8.toNat x319) : Int)) fun x320 =>
 (zb4 x320).bind fun x321 =>
 some (.inl ((x321.fst, x316)))))
 (some (.inr (.inl ((decide (s295.fst = 6), s295))))))) ((x292.fst, 0)))
 (Sum.elim (fun (s293 : Bool × Int × Int) =>
 zk ((0 : Int) <= (0 : Int) /\ 0 <= s293.snd.snd /\ s293.snd.snd <= (↑(List.length a0.S) : Int)) (
 cond (!decide (List.drop (Int.toNat 0) (List.take (Int.toNat s293.snd.snd) a0.S) = a0.S))
 (some (.inr (6)))
 (some (.inl (16))))) some))))
 (cond (decide (a0.Kind = 3))
 ((zum (a0.S)).bind fun x324 =>
 cond (!x324)
 (some (.inr (6)))
 (some (.inl (2000))))
 (some (.inl (0)))))
 (Sum.elim (fun (s279 : Int) =>
 cond (decide (s279 < (↑(List.length a0.S) : Int)))
 (some (3))
 (some (0))) some))))) some)
def zf0 (a0 : List UInt8) : Option (Bool) :=
 cond (decide (a0 = (ByteArray.mk #[118, 97, 114]).data.toList))
 (some (false))
 (cond (decide (a0 = (ByteArray.mk #[100, 101, 102]).data.toList))
 (some (false))
 (cond (decide (a0 = (ByteArray.mk #[111, 117, 116]).data.toList))
 (some (false))
 (cond (decide (a0 = (ByteArray.mk #[105, 102]).data.toList))
 (some (false))
 (cond (decide (a0 = (ByteArray.mk #[101, 108, 115, 101]).data.toList))
 (some (false))
 (cond (decide (a0 = (ByteArray.mk #[119, 104, 105, 108, 101]).data.toList))
 (some (false))
 (cond (decide (a0 = (ByteArray.mk #[101, 110, 100]).data.toList))
 (some (false))
 (cond (decide (a0 = (ByteArray.mk #[114, 101, 108, 101, 97, 115, 101]).data.toList))
 (some (false))
 (cond (decide (a0 = (ByteArray.mk #[105, 110, 116]).data.toList))
 (some (false))
 (cond (decide (a0 = (ByteArray.mk #[99, 104, 97, 114]).data.toList))
 (some (false))
 ((zhc a0).bind fun x269 =>
 cond (decide (x269.snd = 0))
 (some (false))
 ((zmv (TK.mk 1 0 0 0 a0)).bind fun x327 =>
 some (decide (x327 = 0)))))))))))))
def yW (a0 : TL) (a1 : Int) : Option (Bool) :=
 cond (decide (0 <= a1))
 (some (decide (a1 < (↑(List.length (List.map SV.str a0.Names)) : Int))))
 (some (false))
def zke (a0 : TP) : Option (Int × Int) :=
 cond (decide (16 < (↑(List.length (List.map qd a0.Channels)) : Int)))
 (some (((-1 : Int), 3)))
 (Option.bind (
 lpO (fun (s213 : Int × List (List UInt8)) =>
 cond (decide (s213.fst < (↑(List.length (List.map qd a0.Channels)) : Int)))
 (zi (a0.Channels) (s213.fst) fun x222 =>
 (zf0 (x222.s_)).bind fun x224 =>
 cond (!x224)
 (some (.inr (.inr ((s213.fst, 24)))))
 (cond (inL (x222.s_) (s213.snd))
 (some (.inr (.inr ((s213.fst, 8)))))
 (cond (inL (x222.s_) (s213.snd))
 ((yW (a0.Lattice) (x222.at_)).bind fun x232 =>
 cond (!x232)
 (some (.inr (.inr ((s213.fst, 7)))))
 (zg (IntKind.wrap .i64 (s213.fst + 1)) fun x234 =>
 some (.inl ((x234, s213.snd)))))
 ((yW (a0.Lattice) (x222.at_)).bind fun x235 =>
 cond (!x235)
 (some (.inr (.inr ((s213.fst, 7)))))
 (zg (IntKind.wrap .i64 (s213.fst + 1)) fun x237 =>
 some (.inl ((x237, s213.snd ++ [x222.s_]))))))))
 (some (.inr (.inl ())))) ((0, [])))
 (Sum.elim (fun (_ : Unit) =>
 some ((0, 0))) some))
def zl1 (a0 : TL) (a1 : List Int) : Option (Int) :=
 (uF a0).bind fun x248 =>
 cond (!decide (x248.snd = 0))
 (some (x248.snd))
 (Option.bind (
 lpO (fun (s252 : Int) =>
 cond (decide (s252 < (↑(List.length (List.map (SV.int .i64) a1)) : Int)))
 (zi a1 s252 fun x258 =>
 cond (decide (x258 < 0))
 (some (.inr (.inr (7))))
 (cond (decide ((↑(List.length (List.map SV.str a0.Names)) : Int) <= x258))
 (some (.inr (.inr (7))))
 (zg (IntKind.wrap .i64 (s252 + 1)) fun x261 =>
 some (.inl x261))))
 (some (.inr (.inl ())))) (0))
 (Sum.elim (fun (_ : Unit) =>
 some (0)) some))
def zil (a0 : Int) : Option (Int) :=
 zi ((ByteArray.mk (List.toArray (List.append (List.append [(0 : UInt8), 1, 1, 2, 1, 2, 2, 3, 1, 2, 2, 3, 2, 3, 3, 4, 1, 2, 2, 3, 2, 3, 3, 4, 2, 3, 3, 4, 3, 4, 4, 5, 1, 2, 2, 3, 2, 3, 3, 4, 2, 3, 3, 4, 3, 4, 4, 5, 2, 3, 3, 4, 3, 4, 4, 5, 3, 4, 4, 5, 4, 5, 5, 6] [(1 : UInt8), 2, 2, 3, 2, 3, 3, 4, 2, 3, 3, 4, 3, 4, 4, 5, 2, 3, 3, 4, 3, 4, 4, 5, 3, 4, 4, 5, 4, 5, 5, 6, 2, 3, 3, 4, 3, 4, 4, 5, 3, 4, 4, 5, 4, 5, 5, 6, 3, 4, 4, 5, 4, 5, 5, 6, 4, 5, 5, 6, 5, 6, 6, 7]) (List.append [(1 : UInt8), 2, 2, 3, 2, 3, 3, 4, 2, 3, 3, 4, 3, 4, 4, 5, 2, 3, 3, 4, 3, 4, 4, 5, 3, 4, 4, 5, 4, 5, 5, 6, 2, 3, 3, 4, 3, 4, 4, 5, 3, 4, 4, 5, 4, 5, 5, 6, 3, 4, 4, 5, 4, 5, 5, 6, 4, 5, 5, 6, 5, 6, 6, 7] [(2 : UInt8), 3, 3, 4, 3, 4, 4, 5, 3, 4, 4, 5, 4, 5, 5, 6, 3, 4, 4, 5, 4, 5, 5, 6, 4, 5, 5, 6, 5, 6, 6, 7, 3, 4, 4, 5, 4, 5, 5, 6, 4, 5, 5, 6, 5, 6, 6, 7, 4, 5, 5, 6, 5, 6, 6, 7, 5, 6, 6, 7, 6, 7, 7, 8])))).data.toList) a0 fun x270 =>
 zg (IntKind.wrap .i64 (↑(UInt8.toNat x270) : Int)) fun x271 =>
 some x271
def zmb (a0 : List Int) (a1 : Int) : Option (Int) :=
 Option.bind (
 lpO (fun (s267 : Int) =>
 zg (IntKind.wrap .i64 (a1 - 1)) fun x273 =>
 cond (decide (s267 < x273))
 (zk (0 <= s267 /\ s267 < (↑(8 : Nat) : Int)) (
 zi a0 ((↑(Int.toNat s267) : Int)) fun x275 =>
 (zil x275).bind fun x276 =>
 cond (decide (x276 < a1))
 (zg (IntKind.wrap .i64 (s267 + 1)) fun x278 =>
 some (.inl x278))
 (some (.inr (.inl s267)))))
 (some (.inr (.inl s267)))) (0))
 (Sum.elim (fun (s265 : Int) =>
 some s265) some)
def zkb (a0 : TL) : Option (Int × Int) :=
 (zl1 a0 ([])).bind fun x262 =>
 cond (!decide (x262 = 0))
 (some ((0, x262)))
 ((zdn a0).bind fun x264 =>
 (zmb (x264.up_) (x264.n_)).bind fun x279 =>
 some ((x279, 0)))
def zh0 (a0 : TL) (a1 : List Int) : Option (Int × Int) :=
 (uF a0).bind fun x302 =>
 cond (!decide (x302.snd = 0))
 (some (((-1 : Int), x302.snd)))
 (cond (decide (64 < (↑(List.length (List.map (SV.int .i64) a1)) : Int)))
 (some (((-1 : Int), 3)))
 (Option.bind (
 lpO (fun (s307 : Int) =>
 cond (decide (s307 < (↑(List.length (List.map (SV.int .i64) a1)) : Int)))
 (zi a1 s307 fun x313 =>
 cond (decide (x313 < 0))
 (some (.inr (.inr ((s307, 7)))))
 (cond (decide ((↑(List.length (List.map SV.str a0.Names)) : Int) <= x313))
 (some (.inr (.inr ((s307, 7)))))
 (zg (IntKind.wrap .i64 (s307 + 1)) fun x316 =>
 some (.inl x316))))
 (some (.inr (.inl ())))) (0))
 (Sum.elim (fun (_ : Unit) =>
 some ((0, 0))) some)))
def zbu (a0 : TL) (a1 : Int) (a2 : Int) : Option (Bool) :=
 zi (a0.Up) a1 fun x325 =>
 zk (0 <= a2) (
 some (decide (bits BinOp.and IntKind.u8 (Int.fdiv x325 (2 ^ min (Int.toNat a2) (IntKind.bits IntKind.u8))) 1 = 1)))
def zpn (a0 : Int) (a1 : TL) (a2 : Int) : Option (Bool) :=
 (zbu a1 a0 a2).bind fun x326 =>
 some (!x326)
def zk8 (a0 : List Int) (a1 : TL × Int) : Option (Int) :=
 Option.bind (
 lpO (fun (s323 : Int) =>
 cond (decide (s323 < (↑(List.length (List.map (SV.int .i64) a0)) : Int)))
 (zi a0 s323 fun x329 =>
 (zpn x329 (a1.fst) (a1.snd)).bind fun x330 =>
 cond x330
 (some (.inr (.inr s323)))
 (zg (IntKind.wrap .i64 (s323 + 1)) fun x332 =>
 some (.inl x332)))
 (some (.inr (.inl ())))) (0))
 (Sum.elim (fun (_ : Unit) =>
 some ((-1 : Int))) some)
def zfp (a0 : TL) (a1 : List Int) (a2 : Int) : Option (Int × Int) :=
 (zh0 a0 a1).bind fun x317 =>
 cond (!decide (x317.snd = 0))
 (some x317)
 (cond (decide (a2 < 0))
 (some (((-1 : Int), 7)))
 (cond (decide ((↑(List.length (List.map SV.str a0.Names)) : Int) <= a2))
 (some (((-1 : Int), 7)))
 ((zk8 a1 ((a0, a2))).bind fun x333 =>
 cond (decide (0 <= x333))
 (some ((x333, 25)))
 (some ((0, 0))))))
def zfh (a0 : TL) (a1 : TY) : Option (Int) :=
 (zkb a0).bind fun x280 =>
 cond (!decide (x280.snd = 0))
 (some (x280.snd))
 (cond (!decide (a1.Kind = 1))
 (cond (!decide (a1.Kind = 2))
 (some (7))
 (cond (decide (a1.Rank < 0))
 (some (7))
 (cond (decide (2 < a1.Rank))
 (some (7))
 ((yW a0 (a1.Axes.fst)).bind fun x286 =>
 cond (!x286)
 (some (7))
 ((yW a0 (a1.Axes.snd)).bind fun x288 =>
 cond (!x288)
 (some (7))
 ((yW a0 (a1.Data)).bind fun x290 =>
 cond (!x290)
 (some (7))
 (zk (0 <= a1.Rank /\ a1.Rank <= (↑(2 : Nat) : Int)) (
 Option.bind (
 lpO (fun (s294 : Int) =>
 cond (decide (s294 < (↑(List.length (List.drop (Int.toNat a1.Rank) (List.take (Int.toNat (↑(2 : Nat) : Int)) [SV.int .i64 a1.Axes.fst, SV.int .i64 a1.Axes.snd]))) : Int)))
 (zi (List.drop (Int.toNat a1.Rank) (List.take (Int.toNat (↑(2 : Nat) : Int)) [a1.Axes.fst, a1.Axes.snd])) s294 fun x299 =>
 cond (!decide (x299 = x280.fst))
 (some (.inr (.inr (6))))
 (zg (IntKind.wrap .i64 (s294 + 1)) fun x301 =>
 some (.inl x301)))
 (some (.inr (.inl ())))) (0))
 (Sum.elim (fun (_ : Unit) =>
 zk (0 <= a1.Rank /\ a1.Rank <= (↑(2 : Nat) : Int)) (
 (zfp a0 (List.drop (Int.toNat 0) (List.take (Int.toNat a1.Rank) [a1.Axes.fst, a1.Axes.snd])) (a1.Data)).bind fun x335 =>
 cond (!decide (x335.snd = 0))
 (some (x335.snd))
 (some (0)))) some)))))))))
 (cond (decide (a1.Rank < 0))
 (some (7))
 (cond (decide (2 < a1.Rank))
 (some (7))
 ((yW a0 (a1.Axes.fst)).bind fun x339 =>
 cond (!x339)
 (some (7))
 ((yW a0 (a1.Axes.snd)).bind fun x341 =>
 cond (!x341)
 (some (7))
 ((yW a0 (a1.Data)).bind fun x343 =>
 cond (!x343)
 (some (7))
 (zk (0 <= a1.Rank /\ a1.Rank <= (↑(2 : Nat) : Int)) (
 Option.bind (
 lpO (fun (s347 : Int) =>
 cond (decide (s347 < (↑(List.length (List.drop (Int.toNat a1.Rank) (List.take (Int.toNat (↑(2 : Nat) : Int)) [SV.int .i64 a1.Axes.fst, SV.int .i64 a1.Axes.snd]))) : Int)))
 (zi (List.drop (Int.toNat a1.Rank) (List.take (Int.toNat (↑(2 : Nat) : Int)) [a1.Axes.fst, a1.Axes.snd])) s347 fun x352 =>
 cond (!decide (x352 = x280.fst))
 (some (.inr (.inr (6))))
 (zg (IntKind.wrap .i64 (s347 + 1)) fun x354 =>
 some (.inl x354)))
 (some (.inr (.inl ())))) (0))
 (Sum.elim (fun (_ : Unit) =>
 zk (0 <= a1.Rank /\ a1.Rank <= (↑(2 : Nat) : Int)) (
 (zfp a0 (List.drop (Int.toNat 0) (List.take (Int.toNat a1.Rank) [a1.Axes.fst, a1.Axes.snd])) (a1.Data)).bind fun x355 =>
 cond (!decide (x355.snd = 0))
 (some (x355.snd))
 (some (0)))) some)))))))))
def zl2 (a0 : TP) : Option (Int × Int) :=
 cond (decide (32 < (↑(List.length (List.map yt a0.Vars)) : Int)))
 (some (((-1 : Int), 3)))
 (Option.bind (
 lpO (fun (s243 : Int × List (List UInt8)) =>
 cond (decide (s243.fst < (↑(List.length (List.map yt a0.Vars)) : Int)))
 (zi (a0.Vars) (s243.fst) fun x252 =>
 (zf0 (x252.Name)).bind fun x254 =>
 cond (!x254)
 (some (.inr (.inr ((s243.fst, 24)))))
 (cond (inL (x252.Name) (s243.snd))
 (some (.inr (.inr ((s243.fst, 8)))))
 (cond (inL (x252.Name) (s243.snd))
 ((zfh (a0.Lattice) (x252.Type_)).bind fun x262 =>
 cond (!decide (x262 = 0))
 (some (.inr (.inr ((s243.fst, x262)))))
 (zg (IntKind.wrap .i64 (s243.fst + 1)) fun x264 =>
 some (.inl ((x264, s243.snd)))))
 ((zfh (a0.Lattice) (x252.Type_)).bind fun x265 =>
 cond (!decide (x265 = 0))
 (some (.inr (.inr ((s243.fst, x265)))))
 (zg (IntKind.wrap .i64 (s243.fst + 1)) fun x267 =>
 some (.inl ((x267, s243.snd ++ [x252.Name]))))))))
 (some (.inr (.inl ())))) ((0, [])))
 (Sum.elim (fun (_ : Unit) =>
 some ((0, 0))) some))
def zlv (a0 : TP) : Option (Int × Int) :=
 cond (decide (64 < (↑(List.length (List.map wo a0.Rules)) : Int)))
 (some (((-1 : Int), 3)))
 (Option.bind (
 lpO (fun (s273 : Int × List (Int × Int)) =>
 cond (decide (s273.fst < (↑(List.length (List.map wo a0.Rules)) : Int)))
 (zi (a0.Rules) (s273.fst) fun x286 =>
 (yW (a0.Lattice) (x286.From)).bind fun x287 =>
 cond (!x287)
 (some (.inr (.inr ((s273.fst, 7)))))
 ((yW (a0.Lattice) (x286.Goal)).bind fun x289 =>
 cond (!x289)
 (some (.inr (.inr ((s273.fst, 7)))))
 (cond (decide (x286.From = x286.Goal))
 (some (.inr (.inr ((s273.fst, 25)))))
 (zi (a0.Lattice.Up) (x286.Goal) fun x292 =>
 zk (0 <= x286.From) (
 cond (decide (bits BinOp.and IntKind.u8 (Int.fdiv x292 (2 ^ min (Int.toNat x286.From) (IntKind.bits IntKind.u8))) 1 = 0))
 (some (.inr (.inr ((s273.fst, 25)))))
 (cond (inL ((x286.From, x286.Goal)) (s273.snd))
 (some (.inr (.inr ((s273.fst, 8)))))
 (cond (decide (x286.K < 2))
 (some (.inr (.inr ((s273.fst, 3)))))
 (cond (decide (400 < x286.K))
 (some (.inr (.inr ((s273.fst, 3)))))
 (cond (inL ((x286.From, x286.Goal)) (s273.snd))
 (zg (IntKind.wrap .i64 (s273.fst + 1)) fun x302 =>
 some (.inl ((x302, s273.snd))))
 (zg (IntKind.wrap .i64 (s273.fst + 1)) fun x303 =>
 some (.inl ((x303, s273.snd ++ [(x286.From, x286.Goal)])))))))))))))
 (some (.inr (.inl ())))) ((0, [])))
 (Sum.elim (fun (_ : Unit) =>
 some ((0, 0))) some))
def zfz (a0 : TP) : Option (Int × Int × Int) :=
 Option.bind (
 (zpp a0).bind fun x45 =>
 cond (!decide (x45.snd = 0))
 (some (.inl ((1, x45.snd, x45.fst))))
 ((zke a0).bind fun x47 =>
 cond (!decide (x47.snd = 0))
 (some (.inl ((2, x47.snd, x47.fst))))
 ((zl2 a0).bind fun x49 =>
 cond (!decide (x49.snd = 0))
 (some (.inl ((3, x49.snd, x49.fst))))
 ((zlv a0).bind fun x51 =>
 cond (!decide (x51.snd = 0))
 (some (.inl ((4, x51.snd, x51.fst))))
 (some (.inl ((0, x51.snd, x51.fst))))))))
 (Sum.elim (fun (s42 : Int × Int × Int) =>
 some ((s42.fst, s42.snd.snd, s42.snd.fst))) some)
def zik (a0 : List Int) (a1 : Int) (a2 : Int) : Option (Bool) :=
 zi a0 a1 fun x131 =>
 zi a0 a2 fun x132 =>
 cond (!decide (x131 = x132))
 (zi a0 a1 fun x134 =>
 zi a0 a2 fun x135 =>
 some (decide (x134 < x135)))
 (some (decide (a1 < a2)))
def zkh (a0 : Int) (a1 : Int) (a2 : List Int) : Option (Int) :=
 (zik a2 a0 a1).bind fun x136 =>
 cond x136
 (some ((-1 : Int)))
 ((zik a2 a1 a0).bind fun x138 =>
 cond x138
 (some (1))
 (some (0)))
def zhu (a0 : TL) (a1 : List Int) : Option (List Int) :=
 zk ((0 : Int) <= (↑(List.length (List.map SV.str a0.Names)) : Int) /\ (↑(List.length (List.map SV.str a0.Names)) : Int) = (↑(List.length (List.map SV.str a0.Names)) : Int) /\ (↑(List.length (List.map SV.str a0.Names)) : Int) <= (70368744177664 : Int) /\ (↑(List.length (List.map SV.str a0.Names)) : Int) * (↑(8 : Nat) : Int) <= (70368744177664 : Int)) (
 Option.bind (
 lpO (fun (s77 : Int × List Int) =>
 cond (decide (s77.fst < (↑(List.length (List.map SV.str a0.Names)) : Int)))
 (Option.bind (
 lpO (fun (s98 : Int × List Int) =>
 cond (decide (s98.fst < (↑(List.length (List.map SV.str a0.Names)) : Int)))
 ((zbu a0 (s98.fst) (s77.fst)).bind fun x106 =>
 cond x106
 (zk (0 <= s77.fst /\ s77.fst < (↑(List.length (List.map (SV.int .i64) s98.snd)) : Int)) (
 zi (s98.snd) ((↑(Int.toNat s77.fst) : Int)) fun x108 =>
 zg (IntKind.wrap .i64 (x108 + 1)) fun x109 =>
 zk (0 <= s77.fst /\ s77.fst < (↑(List.length (List.map (SV.int .i64) s98.snd)) : Int)) (
 zi (s98.snd) ((↑(Int.toNat s77.fst) : Int)) fun _ =>
 zg (IntKind.wrap .i64 (s98.fst + 1)) fun x111 =>
 some (.inl ((x111, List.set s98.snd (Int.toNat s77.fst) x109))))))
 (zg (IntKind.wrap .i64 (s98.fst + 1)) fun x112 =>
 some (.inl ((x112, s98.snd)))))
 (some (.inr (.inl (s98.snd))))) ((0, s77.snd)))
 (Sum.elim (fun (s96 : List Int) =>
 zg (IntKind.wrap .i64 (s77.fst + 1)) fun x113 =>
 some (.inl ((x113, s96)))) some))
 (some (.inr (.inl (s77.snd))))) ((0, List.replicate (Int.toNat (↑(List.length (List.map SV.str a0.Names)) : Int)) 0)))
 (Sum.elim (fun (s75 : List Int) =>
 zk (List.length (List.map (SV.int .i64) a1) <= (100000 : Nat)) (
 zg (IntKind.wrap .u64 (↑(List.length (List.map (SV.int .i64) a1)) : Int)) fun x115 =>
 (yj x115).bind fun x116 =>
 Option.bind (
 lpO (fun (_ : Unit) =>
 zg (IntKind.wrap .i64 ((↑(List.length (List.map (SV.int .i64) a1)) : Int) - 0)) fun x121 =>
 cond (decide (x121 <= 12))
 (Option.bind (
 lpO (fun (s126 : Int × List Int) =>
 cond (decide (s126.fst < (↑(List.length (List.map (SV.int .i64) a1)) : Int)))
 (Option.bind (
 lpO (fun (s155 : Int × List Int) =>
 cond (decide (0 < s155.fst))
 (zk (0 <= s155.fst /\ s155.fst < (↑(List.length (List.map (SV.int .i64) s155.snd)) : Int)) (
 zi (s155.snd) ((↑(Int.toNat s155.fst) : Int)) fun x170 =>
 zg (IntKind.wrap .i64 (s155.fst - 1)) fun x171 =>
 zk (0 <= x171 /\ x171 < (↑(List.length (List.map (SV.int .i64) s155.snd)) : Int)) (
 zi (s155.snd) ((↑(Int.toNat x171) : Int)) fun x172 =>
 (zkh x170 x172 s75).bind fun x173 =>
 cond (decide (x173 < 0))
 (zg (IntKind.wrap .i64 (s155.fst - 1)) fun x175 =>
 zg (IntKind.wrap .i64 (s155.fst - 1)) fun x176 =>
 zk (0 <= x176 /\ x176 < (↑(List.length (List.map (SV.int .i64) s155.snd)) : Int)) (
 zi (s155.snd) ((↑(Int.toNat x176) : Int)) fun x177 =>
 zk (0 <= s155.fst /\ s155.fst < (↑(List.length (List.map (SV.int .i64) s155.snd)) : Int)) (
 zi (s155.snd) ((↑(Int.toNat s155.fst) : Int)) fun x178 =>
 zk (0 <= s155.fst /\ s155.fst < (↑(List.length (List.map (SV.int .i64) s155.snd)) : Int)) (
 zi (s155.snd) ((↑(Int.toNat s155.fst) : Int)) fun _ =>
 zk (0 <= x175 /\ x175 < (↑(List.length (List.set (List.map (SV.int .i64) s155.snd) (Int.toNat s155.fst) (SV.int .i64 x177))) : Int)) (
 zi (List.set s155.snd (Int.toNat s155.fst) x177) ((↑(Int.toNat x175) : Int)) fun _ =>
 zg (IntKind.wrap .i64 (s155.fst - 1)) fun x181 =>
 some (.inl ((x181, List.set (List.set s155.snd (Int.toNat s155.fst) x177) (Int.toNat x175) x178))))))))
 (some (.inr (.inl ((decide (x173 < 0), s155))))))))
 (some (.inr (.inl ((false, s155)))))) s126)
 (Sum.elim (fun (s153 : Bool × Int × List Int) =>
 zg (IntKind.wrap .i64 (s126.fst + 1)) fun x182 =>
 some (.inl ((x182, s153.snd.snd)))) some))
 (some (.inr (.inl ((decide (s126.fst < (↑(List.length (List.map (SV.int .i64) a1)) : Int)), s126)))))) ((1, a1)))
 (Sum.elim (fun (s124 : Bool × Int × List Int) =>
 cond (decide ((↑(List.length (List.map (SV.int .i64) s124.snd.snd)) : Int) < 2))
 (some (.inr (.inr (s124.snd.snd))))
 (Option.bind (
 lpO (fun (s187 : Int) =>
 cond (decide (s187 < (↑(List.length (List.map (SV.int .i64) s124.snd.snd)) : Int)))
 (zk (0 <= s187 /\ s187 < (↑(List.length (List.map (SV.int .i64) s124.snd.snd)) : Int)) (
 zi (s124.snd.snd) ((↑(Int.toNat s187) : Int)) fun x208 =>
 zg (IntKind.wrap .i64 (s187 - 1)) fun x209 =>
 zk (0 <= x209 /\ x209 < (↑(List.length (List.map (SV.int .i64) s124.snd.snd)) : Int)) (
 zi (s124.snd.snd) ((↑(Int.toNat x209) : Int)) fun x210 =>
 cond (decide (x208 = x210))
 (zk (0 <= s187 /\ s187 <= (↑(List.length (List.map (SV.int .i64) s124.snd.snd)) : Int)) (
 Option.bind (
 lpO (fun (s214 : Int) =>
 cond (decide (s214 < (↑(List.length (List.drop (Int.toNat s187) (List.take (Int.toNat (↑(List.length (List.map (SV.int .i64) s124.snd.snd)) : Int)) (List.map (SV.int .i64) s124.snd.snd)))) : Int)))
 (zi (List.drop (Int.toNat s187) (List.take (Int.toNat (↑(List.length (List.map (SV.int .i64) s124.snd.snd)) : Int)) s124.snd.snd)) s214 fun x221 =>
 zg (IntKind.wrap .i64 (s214 - 1)) fun x222 =>
 zi (List.drop (Int.toNat s187) (List.take (Int.toNat (↑(List.length (List.map (SV.int .i64) s124.snd.snd)) : Int)) s124.snd.snd)) x222 fun x223 =>
 cond (!decide (x221 = x223))
 (zi (List.drop (Int.toNat s187) (List.take (Int.toNat (↑(List.length (List.map (SV.int .i64) s124.snd.snd)) : Int)) s124.snd.snd)) s214 fun _ =>
 zk (0 <= s187 /\ s187 < (↑(List.length (List.map (SV.int .i64) s124.snd.snd)) : Int)) (
 none))
 (zg (IntKind.wrap .i64 (s214 + 1)) fun x226 =>
 some (.inl x226)))
 (some (.inr (.inl ((decide (s214 < (↑(List.length (List.drop (Int.toNat s187) (List.take (Int.toNat (↑(List.length (List.map (SV.int .i64) s124.snd.snd)) : Int)) (List.map (SV.int .i64) s124.snd.snd)))) : Int)), s214)))))) (1))
 (Sum.elim (fun (_ : Bool × Int) =>
 none) some)))
 (zg (IntKind.wrap .i64 (s187 + 1)) fun x227 =>
 some (.inl x227)))))
 (some (.inr (.inl ((decide (s187 < (↑(List.length (List.map (SV.int .i64) s124.snd.snd)) : Int)), s187)))))) (1))
 (Sum.elim (fun (_ : Bool × Int) =>
 some (.inr (.inr (s124.snd.snd)))) some))) some))
 (cond (decide (x116 = 0))
 (none)
 (none))) (()))
 (Sum.elim (fun (_ : Unit) =>
 none) some))) some))
def zka (a0 : TL) (a1 : List Int) : Option (List Int × Int) :=
 (zh0 a0 a1).bind fun x73 =>
 cond (!decide (x73.snd = 0))
 (some (([], x73.snd)))
 ((zhu a0 a1).bind fun x229 =>
 some ((x229, 0)))
def zkr (a0 : TP) (a1 : Int) : Option (List Int × Int) :=
 (zfz a0).bind fun x58 =>
 cond (!decide (x58.snd.snd = 0))
 (some (([], x58.snd.snd)))
 ((yW (a0.Lattice) a1).bind fun x60 =>
 cond (!x60)
 (some (([], 7)))
 (Option.bind (
 lpO (fun (s64 : Int × List Int) =>
 cond (decide (s64.fst < (↑(List.length (List.map wo a0.Rules)) : Int)))
 (zi (a0.Rules) (s64.fst) fun x69 =>
 cond (decide (x69.From = a1))
 (zk ((List.length (List.map (SV.int .i64) s64.snd) + (1 : Nat)) * (8 : Nat) <= (70368744177664 : Nat)) (
 zg (IntKind.wrap .i64 (s64.fst + 1)) fun x71 =>
 some (.inl ((x71, s64.snd ++ [x69.Goal])))))
 (zg (IntKind.wrap .i64 (s64.fst + 1)) fun x72 =>
 some (.inl ((x72, s64.snd)))))
 (some (.inr (.inl (s64.snd))))) ((0, [])))
 (Sum.elim (fun (s62 : List Int) =>
 (zka (a0.Lattice) s62).bind fun x230 =>
 some x230) some)))
def zid (a0 : TL) (a1 : Int) (a2 : Int) : Option (Bool) :=
 cond (decide (0 <= a1))
 (cond (decide (a1 < (↑(List.length (List.map (SV.int .u8) a0.Up)) : Int)))
 (cond (decide (0 <= a2))
 (zi (a0.Up) a1 fun x246 =>
 zk (0 <= a2) (
 some (decide (Int.tmod (Int.fdiv x246 (2 ^ min (Int.toNat a2) (IntKind.bits IntKind.u8))) 2 = 1))))
 (some (false)))
 (some (false)))
 (some (false))
def zkl (a0 : TP) (a1 : Int) (a2 : Int) : Option (Int × Int) :=
 (zfz a0).bind fun x272 =>
 cond (!decide (x272.snd.snd = 0))
 (some ((0, x272.snd.snd)))
 ((yW (a0.Lattice) a1).bind fun x274 =>
 cond (!x274)
 (some ((0, 7)))
 ((yW (a0.Lattice) a2).bind fun x276 =>
 cond (!x276)
 (some ((0, 7)))
 (Option.bind (
 lpO (fun (s280 : Int) =>
 cond (decide (s280 < (↑(List.length (List.map wo a0.Rules)) : Int)))
 (zi (a0.Rules) s280 fun x286 =>
 cond (decide (x286.From = a1))
 (cond (decide (x286.Goal = a2))
 (some (.inr (.inr ((x286.K, 0)))))
 (zg (IntKind.wrap .i64 (s280 + 1)) fun x289 =>
 some (.inl x289)))
 (zg (IntKind.wrap .i64 (s280 + 1)) fun x290 =>
 some (.inl x290)))
 (some (.inr (.inl ())))) (0))
 (Sum.elim (fun (_ : Unit) =>
 some ((0, 4))) some))))
def zpg (a0 : TP) : Option (Bool) :=
 (Fz2 a0).bind fun x40 =>
 cond x40
 (some (true))
 ((zfz a0).bind fun x53 =>
 cond (!decide (x53.snd.snd = 0))
 (some (true))
 (Option.bind (
 lpO (fun (s57 : Int × Int × List (List Bool)) =>
 cond (decide (s57.fst < (↑(List.length (List.map SV.str a0.Lattice.Names)) : Int)))
 ((zkr a0 (s57.fst)).bind fun x129 =>
 cond (!decide (x129.snd = 0))
 (some (.inr (.inr (false))))
 (Option.bind (
 lpO (fun (s133 : Int × Int × List (List Bool)) =>
 cond (decide (s133.fst < (↑(List.length (List.map (SV.int .i64) x129.fst)) : Int)))
 (zi (x129.fst) (s133.fst) fun x153 =>
 cond (decide (x153 < 0))
 (some (.inr (.inr (.inr (.inr (false))))))
 (zi (x129.fst) (s133.fst) fun x155 =>
 cond (decide ((↑(List.length (List.map SV.str a0.Lattice.Names)) : Int) <= x155))
 (some (.inr (.inr (.inr (.inr (false))))))
 (zi (x129.fst) (s133.fst) fun x157 =>
 cond (decide (x157 = s57.fst))
 (some (.inr (.inr (.inr (.inr (false))))))
 (zi (x129.fst) (s133.fst) fun x159 =>
 (zid (a0.Lattice) x159 (s57.fst)).bind fun x160 =>
 cond (!x160)
 (some (.inr (.inr (.inr (.inr (false))))))
 (zi (x129.fst) (s133.fst) fun x162 =>
 zk (0 <= s57.fst /\ s57.fst < (↑(8 : Nat) : Int)) (
 zk (0 <= x162 /\ x162 < (↑(8 : Nat) : Int)) (
 zi (s133.snd.snd) ((↑(Int.toNat s57.fst) : Int)) fun x163 =>
 zi x163 ((↑(Int.toNat x162) : Int)) fun x164 =>
 cond x164
 (some (.inr (.inr (.inr (.inr (false))))))
 (zi (x129.fst) (s133.fst) fun x166 =>
 zk (0 <= s57.fst /\ s57.fst < (↑(8 : Nat) : Int)) (
 zk (0 <= x166 /\ x166 < (↑(8 : Nat) : Int)) (
 zi (s133.snd.snd) ((↑(Int.toNat s57.fst) : Int)) fun x167 =>
 zi x167 ((↑(Int.toNat x166) : Int)) fun _ =>
 zg (IntKind.wrap .i64 (s133.snd.fst + 1)) fun x169 =>
 zg (IntKind.wrap .i64 (s133.fst + 1)) fun x170 =>
 some (.inl ((x170, x169, List.set s133.snd.snd (Int.toNat s57.fst) (List.set x167 (Int.toNat x166) true))))))))))))))
 (some (.inr (.inl (s133.snd))))) ((0, s57.snd)))
 (Sum.elim (fun (s131 : Int × List (List Bool)) =>
 Option.bind (
 lpO (fun (s173 : Int) =>
 cond (decide (s173 < (↑(List.length (List.map SV.str a0.Lattice.Names)) : Int)))
 ((zkl a0 (s57.fst) s173).bind fun x187 =>
 zk (0 <= s57.fst /\ s57.fst < (↑(8 : Nat) : Int)) (
 zk (0 <= s173 /\ s173 < (↑(8 : Nat) : Int)) (
 zi (s131.snd) ((↑(Int.toNat s57.fst) : Int)) fun x188 =>
 zi x188 ((↑(Int.toNat s173) : Int)) fun x189 =>
 cond (!decide (x187.snd = 0) == x189)
 (some (.inr (.inr (.inr (.inr (false))))))
 (cond (decide (x187.snd = 0))
 (cond (decide (x187.fst < 2))
 (some (.inr (.inr (.inr (.inr (false))))))
 (cond (decide (400 < x187.fst))
 (some (.inr (.inr (.inr (.inr (false))))))
 (cond (!decide (x187.snd = 0))
 (cond (!decide (x187.snd = 4))
 (some (.inr (.inr (.inr (.inr (false))))))
 (zg (IntKind.wrap .i64 (s173 + 1)) fun x196 =>
 some (.inl x196)))
 (zg (IntKind.wrap .i64 (s173 + 1)) fun x197 =>
 some (.inl x197)))))
 (cond (!decide (x187.snd = 0))
 (cond (!decide (x187.snd = 4))
 (some (.inr (.inr (.inr (.inr (false))))))
 (zg (IntKind.wrap .i64 (s173 + 1)) fun x200 =>
 some (.inl x200)))
 (zg (IntKind.wrap .i64 (s173 + 1)) fun x201 =>
 some (.inl x201)))))))
 (some (.inr (.inl ())))) (0))
 (Sum.elim (fun (_ : Unit) =>
 zg (IntKind.wrap .i64 (s57.fst + 1)) fun x202 =>
 some (.inl ((x202, s131)))) some)) some)))
 (some (.inr (.inl (s57.snd))))) ((0, 0, [[false, false, false, false, false, false, false, false], [false, false, false, false, false, false, false, false], [false, false, false, false, false, false, false, false], [false, false, false, false, false, false, false, false], [false, false, false, false, false, false, false, false], [false, false, false, false, false, false, false, false], [false, false, false, false, false, false, false, false], [false, false, false, false, false, false, false, false]])))
 (Sum.elim (fun (s55 : Int × List (List Bool)) =>
 Option.bind (
 lpO (fun (s205 : Int) =>
 cond (decide (s205 < (↑(List.length (List.map SV.str a0.Lattice.Names)) : Int)))
 (Option.bind (
 lpO (fun (s259 : Int) =>
 cond (decide (s259 < (↑(List.length (List.map SV.str a0.Lattice.Names)) : Int)))
 (Option.bind (
 lpO (fun (s289 : Int) =>
 cond (decide (s289 < (↑(List.length (List.map SV.str a0.Lattice.Names)) : Int)))
 (zk (0 <= s205 /\ s205 < (↑(8 : Nat) : Int)) (
 zk (0 <= s259 /\ s259 < (↑(8 : Nat) : Int)) (
 zi (s55.snd) ((↑(Int.toNat s205) : Int)) fun x301 =>
 zi x301 ((↑(Int.toNat s259) : Int)) fun x302 =>
 cond x302
 (zk (0 <= s259 /\ s259 < (↑(8 : Nat) : Int)) (
 zk (0 <= s289 /\ s289 < (↑(8 : Nat) : Int)) (
 zi (s55.snd) ((↑(Int.toNat s259) : Int)) fun x304 =>
 zi x304 ((↑(Int.toNat s289) : Int)) fun x305 =>
 cond x305
 (cond (decide (s289 = s205))
 (some (.inr (.inr (.inr (.inr (.inr (.inr (false))))))))
 ((zid (a0.Lattice) s289 s205).bind fun x308 =>
 cond (!x308)
 (some (.inr (.inr (.inr (.inr (.inr (.inr (false))))))))
 (zg (IntKind.wrap .i64 (s289 + 1)) fun x310 =>
 some (.inl x310))))
 (zg (IntKind.wrap .i64 (s289 + 1)) fun x311 =>
 some (.inl x311)))))
 (zg (IntKind.wrap .i64 (s289 + 1)) fun x312 =>
 some (.inl x312)))))
 (some (.inr (.inl ())))) (0))
 (Sum.elim (fun (_ : Unit) =>
 zg (IntKind.wrap .i64 (s259 + 1)) fun x313 =>
 some (.inl x313)) some))
 (some (.inr (.inl ())))) (0))
 (Sum.elim (fun (_ : Unit) =>
 zg (IntKind.wrap .i64 (s205 + 1)) fun x314 =>
 some (.inl x314)) some))
 (some (.inr (.inl ())))) (0))
 (Sum.elim (fun (_ : Unit) =>
 cond (decide (s55.fst = (↑(List.length (List.map wo a0.Rules)) : Int)))
 (some (true))
 (some (false))) some)) some)))
end Go.Sx.O
end
namespace Go.Sx.O
open Go
theorem zsp {α τ : Type} {l : List α} (p : α -> Bool) {step : Int -> Option (Int ⊕ τ)} {d : τ} {g : Int -> τ}
 (h1 : ∀ (k : Nat) x, l[k]? = some x -> step (k : Int) = if p x then some (.inr (g k)) else some (.inl ((k : Int) + 1)))
 (h2 : step (l.length : Int) = some (.inr d)) :
 lpO step 0 = (match l.findIdx? p with | some i => some (g i) | none => some d) := by
 have key : ∀ j k, j + k = l.length -> lpO step (k : Int) = (match (l.drop k).findIdx? p with | some i => some (g ((k + i : Nat) : Int)) | none => some d) := by
  intro j
  induction j with
  | zero =>
    intro k hk
    rw [jp]
    have : k = l.length := by omega
    subst this
    rw [h2]
    simp
  | succ j ih =>
    intro k hk
    have hlt : k < l.length := by omega
    rw [jp, h1 k _ (List.getElem?_eq_getElem hlt), List.drop_eq_getElem_cons hlt, List.findIdx?_cons]
    split
    . simp
    . have := ih (k + 1) (by omega)
      simp only [Option.bind_some, Sum.elim_inl]
      push_cast at this
      rw [this]
      cases (l.drop (k + 1)).findIdx? p with
      | none => rfl
      | some i => simp; congr 1; omega
 have := key l.length 0 (by omega)
 simpa using this
end Go.Sx.O
namespace Go.Sx.O
open Go
theorem dropWhile_nil {α : Type} {p : α -> Bool} : ∀ {l : List α}, l.dropWhile p = [] ↔ ∀ x ∈ l, p x = true
 | [] => by simp
 | a :: l => by
   rw [List.dropWhile_cons]
   cases h : p a with
   | true => simp [h, dropWhile_nil (l := l)]
   | false => simp [h]
theorem zct (l : List (List UInt8)) (s : List UInt8) (hl : l.length <= 1000000000) :
 zmf l s = some (match l.findIdx? (fun x => decide (s = x)) with | some i => (i : Int) | none => -1) := by
 unfold zmf
 rw [zsp (l := l) (fun x => decide (s = x)) (d := .inl ()) (g := .inr) ?_ ?_]
 . cases l.findIdx? (fun x => decide (s = x)) <;> rfl
 . intro k x hx
   have hlt : k < l.length := by
    by_cases h : k < l.length
    . exact h
    . rw [List.getElem?_eq_none (by omega)] at hx; cases hx
   simp only [List.length_map, Int.ofNat_lt, hlt, decide_true, cond_true, zi, Int.toNat_natCast, hx, Option.bind_some, zg, Int.natCast_nonneg, if_true]
   rw [w64 (by omega) (by omega)]
   cases decide (s = x) <;> rfl
 . simp
theorem jP (l : List (List UInt8)) (s : List UInt8) (hl : l.length <= 1000000000) :
 zmu l s = some (decide (s ∈ l)) := by
 unfold zmu
 rw [zct l s hl]
 cases h : l.findIdx? (fun x => decide (s = x)) with
 | none =>
   have := List.findIdx?_eq_none_iff.1 h
   simp only [Option.bind_some]
   congr 1
   have hn : s ∉ l := fun hm => by have := this s hm; simp at this
   simp [hn]
 | some i =>
   have := List.findIdx?_eq_some_iff_getElem.1 h
   obtain ⟨hi, h1, _⟩ := this
   have hm : s ∈ l := by
    have e : s = l[i] := by simpa using h1
    rw [e]; exact List.getElem_mem hi
   simp [hm]
def yv (set : List Bool) (c : UInt8) : Bool := set.getD c.toNat false
theorem zci (set : List Bool) (c : UInt8) (h : set.length = 256) : Fz6 set (c.toNat : Int) = some (yv set c) := by
 unfold Fz6
 have hc : c.toNat < 256 := c.toNat_lt
 have h2 : set[c.toNat]? = some (set[c.toNat]'(by omega)) := List.getElem?_eq_getElem _
 have h3 : (c.toNat : Int) < 256 := by omega
 simp [zk, zi, yv, h2, h3]
def xK (p : UInt8 -> Bool) (s : List UInt8) : List UInt8 := (s.reverse.dropWhile p).reverse
theorem zsv {p : UInt8 -> Bool} {s : List UInt8} : (xK p s).dropWhile p = [] ↔ ∀ c ∈ s, p c = true := by
 unfold xK
 constructor
 . intro h c hc
   have h1 : ∀ c ∈ (s.reverse.dropWhile p).reverse, p c = true := dropWhile_nil.1 h
   have h2 : s.reverse.dropWhile p = [] := by
    cases e : s.reverse.dropWhile p with
    | nil => rfl
    | cons a r =>
      have := List.head?_dropWhile_not p s.reverse
      rw [e] at this
      simp at this
      rw [e] at h1
      rw [h1 a (by simp)] at this
      cases this
   exact dropWhile_nil.1 h2 c (by simpa using hc)
 . intro h
   have : s.reverse.dropWhile p = [] := dropWhile_nil.2 fun c hc => h c (by simpa using hc)
   rw [this]; rfl
theorem zck (s : List UInt8) (set : List Bool) (h : set.length = 256) (hs : s.length <= 1000000000) : Fz7 s set = some (xK (yv set) s) := by
 unfold Fz7
 apply Tot.eq
 simp only [zy]
 refine Tot.loop (fun s => s.length) (fun r => r.length <= 1000000000 /\ xK (yv set) r = xK (yv set) s) ?_ ⟨hs, rfl⟩
 rintro r ⟨hr, he⟩
 simp only [tot_some, zI, qb, qD, qK, zy, Sum.elim_inl, Sum.elim_inr, decide_eq_true_eq, decide_eq_false_iff_not]
 refine ⟨fun h1 => ?_, fun h1 => ?_⟩
 . have h0 : r ≠ [] := by rintro rfl; simp at h1
   rw [w64 (by omega) (by omega)]
   have e1 : ((r.length : Int) - 1).toNat = r.length - 1 := by omega
   rw [e1]
   refine ⟨by omega, _, List.getElem?_eq_getElem (by omega), ?_⟩
   rw [zci set _ h]
   simp only [tot_some, Bool.not_eq_true', Bool.not_eq_false']
   have hr2 : r = r.dropLast ++ [r[r.length - 1]'(by omega)] := by
    rw [<- List.getLast_eq_getElem h0]; exact (List.dropLast_concat_getLast h0).symm
   refine ⟨fun h2 => ?_, fun h2 => ⟨⟨by omega, by omega⟩, ⟨by simp; omega, ?_⟩, by simp; omega⟩⟩
   . rw [<- he]
     unfold xK
     rw [hr2]
     simp [h2]
   . rw [<- he]
     simp only [Int.toNat_zero, List.drop_zero]
     rw [<- List.dropLast_eq_take]
     conv => rhs; rw [hr2]
     unfold xK
     simp [h2]
 . have h0 : r = [] := List.length_eq_zero_iff.1 (by omega)
   rw [<- he, h0]; rfl
theorem zc9 (s : List UInt8) (set : List Bool) (h : set.length = 256) (hs : s.length <= 1000000000) : Fz8 s set = some (s.dropWhile (yv set)) := by
 unfold Fz8
 apply Tot.eq
 simp only [zy]
 refine Tot.loop (fun s => s.length) (fun r => r.length <= 1000000000 /\ r.dropWhile (yv set) = s.dropWhile (yv set)) ?_ ⟨hs, rfl⟩
 rintro r ⟨hr, he⟩
 simp only [tot_some, zI, qb, qD, qK, zy, Sum.elim_inl, Sum.elim_inr, decide_eq_true_eq, decide_eq_false_iff_not]
 cases r with
 | nil => simp [<- he]
 | cons a r =>
   refine ⟨fun h1 => ⟨by omega, a, rfl, ?_⟩, fun h1 => absurd h1 (by simp)⟩
   rw [zci set _ h]
   simp only [tot_some, Bool.not_eq_true', Bool.not_eq_false']
   refine ⟨fun h2 => ?_, fun h2 => ⟨by simp; omega, ⟨?_, ?_⟩, ?_⟩⟩
   . rw [<- he]; simp [h2]
   . simp at hr ⊢; omega
   . rw [<- he]; simp [h2]
   . simp
end Go.Sx.O
namespace Go.Sx.O
open Go
theorem zst {set : List Bool} {c d : UInt8} (h : set.length = 256) : yv (set.set c.toNat true) d = (decide (d = c) || yv set d) := by
 have hc : c.toNat < 256 := c.toNat_lt
 unfold yv
 rw [List.getD_eq_getElem?_getD, List.getD_eq_getElem?_getD, List.getElem?_set]
 by_cases e : c.toNat = d.toNat
 . have : d = c := (UInt8.toNat_inj.1 e).symm
   subst this
   simp [h, hc]
 . have : d ≠ c := fun e' => e (by rw [e'])
   simp [e, this]
theorem zeb (cs : List UInt8) (h : ∀ c ∈ cs, c.toNat < 128) (hs : cs.length <= 1000000000) : Tot (Fz5 cs) fun r => r.2 = true /\ r.1.length = 256 /\ ∀ d, yv r.1 d = decide (d ∈ cs) := by
 unfold Fz5
 simp only [zy]
 refine Tot.count cs.length (fun k s => s.1 = (k : Int) /\ s.2.length = 256 /\ ∀ d, yv s.2 d = decide (d ∈ cs.take k)) ?_ ⟨rfl, List.length_replicate, fun d => ?_⟩
 . rintro k ⟨i, set⟩ hk ⟨h0, h1, h2⟩
   simp only at h0 h1 h2
   subst h0
   simp only [tot_some, zI, qb, qD, qK, Sum.elim_inl, Sum.elim_inr, decide_eq_true_eq, decide_eq_false_iff_not, Int.toNat_natCast]
   refine ⟨fun hlt => ⟨by omega, _, List.getElem?_eq_getElem (by omega), fun h3 => ?_, fun h3 => ?_⟩, fun hlt => ?_⟩
   . have := h cs[k] (List.getElem_mem _)
     omega
   . have hc : cs[k].toNat < 256 := (cs[k]'(by omega)).toNat_lt
     refine ⟨⟨by omega, by omega⟩, by omega, _, List.getElem?_eq_getElem (by omega), ?_⟩
     rw [w64 (by omega) (by omega)]
     refine ⟨by omega, by omega, by simpa using h1, fun d => ?_⟩
     have hm : d ∈ cs.take (k + 1) ↔ d ∈ cs.take k \/ d = cs[k] := by
      rw [List.take_add_one, List.getElem?_eq_getElem (by omega), List.mem_append]
      simp
     rw [zst h1, h2, Bool.eq_iff_iff]
     simp only [Bool.or_eq_true, decide_eq_true_eq, hm]
     exact or_comm
   . refine ⟨trivial, h1, fun d => ?_⟩
     rw [h2, List.take_of_length_le (by omega)]
 . unfold yv
   rw [List.getD_eq_getElem?_getD, List.getElem?_replicate]
   split <;> simp
theorem zrr (s cs : List UInt8) (h : ∀ c ∈ cs, c.toNat < 128) (h1 : 2 <= cs.length) (hs : cs.length <= 1000000000) (hl : s.length <= 1000000000) :
 zkc s cs = some ((xK (fun c => decide (c ∈ cs)) s).dropWhile (fun c => decide (c ∈ cs))) := by
 unfold zkc
 have e0 : (ByteArray.mk #[]).data.toList = [] := rfl
 simp only [e0]
 cases s with
 | nil => simp [xK]
 | cons a r =>
   have e1 : decide (a :: r = []) = false := by simp
   have e2 : decide (cs = []) = false := by cases cs <;> simp at h1 ⊢
   have e3 : decide ((cs.length : Int) = 1) = false := by simp; omega
   simp only [e1, e2, e3, cond_false]
   obtain ⟨x, hx, hx1, hx2, hx3⟩ := zeb cs h hs
   have e4 : yv x.1 = fun c => decide (c ∈ cs) := funext hx3
   rw [hx]
   simp only [Option.bind_some, hx1, cond_true]
   rw [zck _ _ hx2 hl]
   simp only [Option.bind_some]
   rw [zc9 _ _ hx2 (by
    refine Nat.le_trans ?_ hl
    unfold xK
    rw [List.length_reverse]
    refine Nat.le_trans (List.dropWhile_sublist _).length_le (by simp))]
   rw [e4]
   rfl
def zxb : List UInt8 := [97, 98, 99, 100, 101, 102, 103, 104, 105, 106, 107, 108, 109, 110, 111, 112, 113, 114, 115, 116, 117, 118, 119, 120, 121, 122, 48, 49, 50, 51, 52, 53, 54, 55, 56, 57, 45]
def zj1 (s : List UInt8) : Bool := decide (s.length <= 16) && (match s with | [] => false | c :: _ => decide (97 <= c.toNat) && decide (c.toNat <= 122)) && s.all fun c => decide (c ∈ zxb)
theorem zix (s : List UInt8) (hl : s.length <= 1000000000) : zmk s = some (zj1 s) := by
 unfold zmk
 have e0 : (ByteArray.mk #[]).data.toList = [] := rfl
 simp only [e0]
 rw [zrr s _ (by decide) (by decide) (by decide) hl]
 cases s with
 | nil => rfl
 | cons a r =>
   have e1 : decide (a :: r = []) = false := by simp
   simp only [e1, cond_false, Option.bind_some]
   have e5 : zi (a :: r) 0 = fun f => (f a : Option Bool) := rfl
   simp only [e5]
   unfold zj1
   by_cases h1 : (16 : Int) < ((a :: r).length : Int)
   . have : ¬ (a :: r).length <= 16 := by omega
     simp only [h1, decide_true, cond_true, this, decide_false, Bool.false_and]
   . have h1' : (a :: r).length <= 16 := by omega
     simp only [h1, decide_false, cond_false, h1', decide_true, Bool.true_and]
     by_cases h2 : (a.toNat : Int) < 97
     . have : ¬ 97 <= a.toNat := by omega
       simp only [h2, decide_true, cond_true, this, decide_false, Bool.false_and]
     . have h2' : 97 <= a.toNat := by omega
       simp only [h2, decide_false, cond_false, h2', decide_true, Bool.true_and]
       by_cases h3 : (122 : Int) < (a.toNat : Int)
       . have : ¬ a.toNat <= 122 := by omega
         simp only [h3, decide_true, cond_true, this, decide_false, Bool.false_and]
       . have h3' : a.toNat <= 122 := by omega
         simp only [h3, decide_false, cond_false, h3', decide_true, Bool.true_and]
         congr 1
         rw [Bool.eq_iff_iff, decide_eq_true_eq, zsv, List.all_eq_true]
         rfl
end Go.Sx.O
namespace Go.Sx.O
open Go
theorem zxu : ∀ u : Fin 256, ∀ b : Fin 9, bits .and .u8 (Int.fdiv (u.val : Int) (2 ^ min b.val (IntKind.bits .u8))) 1 = if Nat.testBit u b then 1 else 0 := by decide +kernel
theorem zbx {u : Int} {b : Nat} (h0 : 0 <= u) (h1 : u < 256) (hb : b <= 8) : bits .and .u8 (Int.fdiv u (2 ^ min b (IntKind.bits .u8))) 1 = if u.toNat.testBit b then 1 else 0 := by
 have := zxu ⟨u.toNat, by omega⟩ ⟨b, by omega⟩
 simp only at this
 rw [Int.toNat_of_nonneg h0] at this
 exact this
theorem xF {u : Int} (h0 : 0 <= u) : BitVec.ofInt 8 u = BitVec.ofNat 8 u.toNat := by
 conv => lhs; rw [<- Int.toNat_of_nonneg h0]
 exact BitVec.ofInt_natCast 8 u.toNat
theorem zh7 {n : Nat} (h : n < 256) : IntKind.wrap .u8 (n : Int) = n := by
 simp only [IntKind.wrap, IntKind.signed, IntKind.bits, Bool.false_and]
 have h3 : (2 : Int) ^ 8 = 256 := by decide
 simp only [h3]
 have : (n : Int) % 256 = n := by omega
 simp [this]
theorem zbr {a b : Int} (ha : 0 <= a) (ha' : a < 256) (hb : 0 <= b) (hb' : b < 256) : bits .and .u8 a b = ((a.toNat &&& b.toNat : Nat) : Int) := by
 have e : bits .and .u8 a b = IntKind.wrap .u8 ((BitVec.ofInt 8 a &&& BitVec.ofInt 8 b).toNat : Int) := rfl
 rw [e, xF ha, xF hb]
 rw [zh7 (BitVec.isLt _)]
 rw [BitVec.toNat_and, BitVec.toNat_ofNat, BitVec.toNat_ofNat, Nat.mod_eq_of_lt (by omega), Nat.mod_eq_of_lt (by omega)]
theorem zoz {a b : Int} (ha : 0 <= a) (ha' : a < 256) (hb : 0 <= b) (hb' : b < 256) : bits .or .u8 a b = ((a.toNat ||| b.toNat : Nat) : Int) := by
 have e : bits .or .u8 a b = IntKind.wrap .u8 ((BitVec.ofInt 8 a ||| BitVec.ofInt 8 b).toNat : Int) := rfl
 rw [e, xF ha, xF hb]
 rw [zh7 (BitVec.isLt _)]
 rw [BitVec.toNat_or, BitVec.toNat_ofNat, BitVec.toNat_ofNat, Nat.mod_eq_of_lt (by omega), Nat.mod_eq_of_lt (by omega)]
theorem zau {a b : Int} (ha : 0 <= a) (ha' : a < 256) (hb : 0 <= b) (hb' : b < 256) : bits .andNot .u8 a b = 0 ↔ ∀ i, a.toNat.testBit i = true -> b.toNat.testBit i = true := by
 have e : bits .andNot .u8 a b = IntKind.wrap .u8 ((BitVec.ofInt 8 a &&& ~~~BitVec.ofInt 8 b).toNat : Int) := rfl
 rw [e, xF ha, xF hb]
 rw [zh7 (BitVec.isLt _)]
 have hbit : ∀ i, (BitVec.ofNat 8 a.toNat &&& ~~~BitVec.ofNat 8 b.toNat).getLsbD i = (decide (i < 8) && a.toNat.testBit i && !(b.toNat.testBit i)) := by
  intro i
  rw [BitVec.getLsbD_and, BitVec.getLsbD_not, BitVec.getLsbD_ofNat, BitVec.getLsbD_ofNat]
  cases decide (i < 8) <;> simp
 have h8 : ∀ i, a.toNat.testBit i = true -> i < 8 := by
  intro i hi
  rcases Nat.lt_or_ge i 8 with g | g
  . exact g
  . rw [Nat.testBit_lt_two_pow (Nat.lt_of_lt_of_le (show a.toNat < 2 ^ 8 by omega) (Nat.pow_le_pow_right (by omega) g))] at hi
    cases hi
 constructor
 . intro h i hi
   have h0 : (BitVec.ofNat 8 a.toNat &&& ~~~BitVec.ofNat 8 b.toNat).toNat = 0 := Int.ofNat_eq_zero.1 h
   have h1 := hbit i
   rw [<- BitVec.testBit_toNat, h0, Nat.zero_testBit] at h1
   have := h8 i hi
   simp [this, hi] at h1
   exact h1
 . intro h
   have h1 : (BitVec.ofNat 8 a.toNat &&& ~~~BitVec.ofNat 8 b.toNat).toNat = 0 := by
    apply Nat.eq_of_testBit_eq
    intro i
    rw [BitVec.testBit_toNat, hbit i, Nat.zero_testBit]
    cases hi : a.toNat.testBit i with
    | false => simp
    | true => simp [h i hi]
   rw [h1]; rfl
theorem zgv {a b : Nat} (h : a < 256) : a &&& b < 256 := Nat.lt_of_le_of_lt Nat.and_le_left h
theorem zzc {a b : Nat} (h : a < 256) (k : b < 256) : a ||| b < 256 := Nat.or_lt_two_pow (n := 8) h k
theorem znb (ns : List (List UInt8)) (h : ns.length <= 20) (hn : ∀ s ∈ ns, s.length <= 1000) : Tot (zfi ns) fun r => r.2 = 0 -> 1 <= ns.length /\ ns.length <= 8 := by
 unfold zfi
 simp only [zI, tot_some, zy, List.length_map, decide_eq_true_eq, decide_eq_false_iff_not]
 refine ⟨fun _ h => absurd h (by decide), fun h1 => ⟨fun _ h => absurd h (by decide), fun h2 => ?_⟩⟩
 refine Tot.count ns.length (fun k s => s = (k : Int)) ?_ rfl
 rintro k _ hk rfl
 simp only [tot_some, zI, qb, qD, qK, zy, Sum.elim_inl, Sum.elim_inr, decide_eq_true_eq, decide_eq_false_iff_not, Int.toNat_natCast]
 refine ⟨fun hlt => ⟨by omega, _, List.getElem?_eq_getElem (by omega), ?_⟩, fun hlt => fun _ => by omega⟩
 rw [zix _ (by have := hn ns[k] (List.getElem_mem _); omega), tot_some]
 refine ⟨fun _ h => absurd h (by decide), fun _ => ⟨⟨by omega, by omega⟩, ?_⟩⟩
 rw [jP _ _ (by simp; omega), tot_some]
 refine ⟨fun _ h => absurd h (by decide), fun _ => ?_⟩
 rw [w64 (by omega) (by omega)]
 exact ⟨by omega, by omega⟩
end Go.Sx.O
namespace Go.Sx.O
open Go
def U8s (l : List Int) : Prop := ∀ x ∈ l, 0 <= x /\ x < 256
theorem U8s.get {l : List Int} (h : U8s l) {i : Nat} {x : Int} (hx : l[i]? = some x) : 0 <= x /\ x < 256 := h x (List.mem_of_getElem? hx)
theorem U8s.set {l : List Int} (h : U8s l) {i : Nat} {x : Int} (h0 : 0 <= x) (h1 : x < 256) : U8s (l.set i x) := by
 intro y hy
 rcases List.mem_or_eq_of_mem_set hy with g | g
 . exact h y g
 . subst g; exact ⟨h0, h1⟩
theorem zj5 {e : Int} : 0 <= IntKind.wrap .u8 e /\ IntKind.wrap .u8 e < 256 := by
 simp only [IntKind.wrap, IntKind.signed, IntKind.bits, Bool.false_and]
 have h3 : (2 : Int) ^ 8 = 256 := by decide
 simp only [h3]
 refine ⟨?_, ?_⟩ <;> simp <;> omega
theorem orU {a b : Int} (ha : 0 <= a) (ha' : a < 256) (hb : 0 <= b) (hb' : b < 256) : 0 <= bits .or .u8 a b /\ bits .or .u8 a b < 256 := by
 rw [zoz ha ha' hb hb']
 have := zzc (a := a.toNat) (b := b.toNat) (by omega) (by omega)
 omega
theorem zN {α : Type} {l : List α} {i : Nat} (h : i < l.length) : ∃ x, l[i]? = some x := ⟨_, List.getElem?_eq_getElem h⟩
theorem zs9 (l : TL) (hu : U8s l.Up) (hn : l.Names.length <= 8) (hl : l.Up.length <= 8) :
 Tot (zdn l) fun o => o.n_ = l.Names.length /\ o.up_.length = 8 /\ o.down_.length = 8 /\ U8s o.up_ /\ U8s o.down_ := by
 unfold zdn
 simp only [zy, List.length_map]
 refine Tot.count l.Up.length (fun k s => s.1 = (k : Int) /\ s.2.1.length = 8 /\ s.2.2.length = 8 /\ U8s s.2.1 /\ U8s s.2.2) ?_ ⟨rfl, rfl, rfl, by intro x hx; simp at hx; omega, by intro x hx; simp at hx; omega⟩
 rintro k ⟨i, up, down⟩ hk ⟨h0, h1, h2, h3, h4⟩
 simp only at h0 h1 h2 h3 h4
 subst h0
 simp only [tot_some, zI, qb, qD, qK, zy, Sum.elim_inl, Sum.elim_inr, decide_eq_true_eq, decide_eq_false_iff_not, Int.toNat_natCast]
 refine ⟨fun hlt => ?_, fun hlt => ⟨trivial, h1, h2, h3, h4⟩⟩
 obtain ⟨x, hx⟩ := zN (l := l.Up) (i := k) (by omega)
 obtain ⟨y, hy⟩ := zN (l := up) (i := k) (by omega)
 refine ⟨by omega, x, hx, ⟨by omega, by omega⟩, by omega, y, hy, ?_⟩
 have hx' := hu.get hx
 refine Tot.count l.Names.length (fun j s => s.1 = (j : Int) /\ s.2.length = 8 /\ U8s s.2) ?_ ⟨rfl, h2, h4⟩
 rintro j ⟨i', d⟩ hj ⟨g0, g1, g2⟩
 simp only at g0 g1 g2
 subst g0
 simp only [tot_some, zI, qb, qD, qK, zy, Sum.elim_inl, Sum.elim_inr, decide_eq_true_eq, decide_eq_false_iff_not, Int.toNat_natCast]
 refine ⟨fun hlt' => ?_, fun _ => ?_⟩
 . obtain ⟨z, hz⟩ := zN (l := d) (i := j) (by omega)
   have hz' := g2.get hz
   rw [w64 (by omega) (by omega)]
   refine ⟨⟨by omega, by omega⟩, by omega, z, hz, by omega, by omega, ⟨by omega, by omega⟩, by omega, z, hz, by omega, by omega, by simpa using g1, ?_⟩
   have hw := zj5 (e := bits .and .u8 (Int.fdiv x (2 ^ min j (IntKind.bits .u8))) 1 * 2 ^ min k (IntKind.bits .u8))
   have ho := orU hz'.1 hz'.2 hw.1 hw.2
   exact g2.set ho.1 ho.2
 . rw [w64 (by omega) (by omega)]
   exact ⟨by omega, by omega, by simpa using h1, g1, h3.set hx'.1 hx'.2, g2⟩
theorem zas (m : List Int) (n : Nat) (a b : Nat) (hm : m.length = 8) (hu : U8s m) (hn : n <= 8) (ha : a < n) (hb : b < n) : Tot (zex m n a b) fun _ => True := by
 unfold zex
 obtain ⟨x, hx⟩ := zN (l := m) (i := a) (by omega)
 obtain ⟨y, hy⟩ := zN (l := m) (i := b) (by omega)
 simp only [tot_some, zI, qb, qD, qK, zy, Int.toNat_natCast]
 refine ⟨⟨by omega, by omega⟩, by omega, x, hx, ⟨by omega, by omega⟩, by omega, y, hy, ?_⟩
 refine Tot.count n (fun k s => s = (k : Int)) ?_ rfl
 rintro k _ hk rfl
 simp only [tot_some, zI, qb, qD, qK, zy, Sum.elim_inl, Sum.elim_inr, decide_eq_true_eq, decide_eq_false_iff_not, Int.toNat_natCast]
 refine ⟨fun hlt => ⟨by omega, fun _ => ?_, fun _ => ?_⟩, fun _ => trivial⟩
 . obtain ⟨z, hz⟩ := zN (l := m) (i := k) (by omega)
   rw [w64 (by omega) (by omega)]
   exact ⟨⟨by omega, by omega⟩, by omega, z, hz, fun _ => trivial, fun _ => ⟨by omega, by omega⟩⟩
 . rw [w64 (by omega) (by omega)]
   exact ⟨by omega, by omega⟩
theorem zec (m : List Int) (n : Nat) (a b : Nat) (hm : m.length = 8) (hu : U8s m) (hn : n <= 8) (ha : a < n) (hb : b < n) : Tot (zmi m n a b) fun _ => True := zas m n a b hm hu hn ha hb
theorem zpf (x : Int) (h0 : 0 <= x) (h1 : x < 256) : Tot (zfk x) fun _ => True := by
 unfold zfk
 rw [qD]
 refine ⟨h0, ?_⟩
 have key : ∀ l : List UInt8, l.length = 256 -> ∃ y, l[x.toNat]? = some y /\ Tot (zg (IntKind.wrap .i64 (y.toNat : Int)) fun z => some z) fun _ => True := by
  intro l hl
  obtain ⟨y, hy⟩ := zN (l := l) (i := x.toNat) (by omega)
  exact ⟨y, hy, .mk trivial⟩
 exact key _ (by decide +kernel)
def up (l : TL) (a b : Nat) : Bool := (l.Up.getD a 0).toNat.testBit b
def xO (l : TL) (a b : Nat) : Prop := up l a b = true -> (b ≠ a -> up l b a = false) /\ ∀ i, i < l.Names.length -> up l b i = true -> up l a i = true
structure LatOK (l : TL) : Prop where
 pos : 1 <= l.Names.length
 le : l.Names.length <= 8
 len : l.Up.length = l.Names.length
 u8 : U8s l.Up
 self : ∀ a, a < l.Names.length -> up l a a = true
 row : ∀ a, a < l.Names.length -> ∀ b, b < l.Names.length -> xO l a b
theorem jx {l : TL} {a : Nat} {x : Int} (h : l.Up[a]? = some x) (b : Nat) : up l a b = x.toNat.testBit b := by
 unfold up; rw [List.getD_eq_getElem?_getD, h]; rfl
theorem zkq (n : Nat) (h : n <= 8) (i : Nat) : (IntKind.wrap .u8 (IntKind.wrap .u8 (1 * 2 ^ min n (IntKind.bits .u8)) - 1)).toNat.testBit i = decide (i < n) := by
 have key : ∀ n : Fin 9, (IntKind.wrap .u8 (IntKind.wrap .u8 (1 * 2 ^ min n.val (IntKind.bits .u8)) - 1)).toNat = 2 ^ n.val - 1 := by decide +kernel
 rw [key ⟨n, by omega⟩]
 exact Nat.testBit_two_pow_sub_one n i
theorem zin (l : TL) (hu : U8s l.Up) (hn : l.Names.length <= 20) (hs : ∀ s ∈ l.Names, s.length <= 1000) : Tot (uF l) fun r => r.2 = 0 -> LatOK l := by
 unfold uF
 simp only [zy, List.length_map]
 refine (znb l.Names hn hs).mono fun x53 h53 => ?_
 simp only [zI, tot_some, Bool.not_eq_true', Bool.not_eq_false', decide_eq_true_eq, decide_eq_false_iff_not]
 refine ⟨fun h h' => absurd h' h, fun h => ⟨fun _ h' => absurd h' (by decide), fun hlen => ?_⟩⟩
 obtain ⟨p1, p8⟩ := h53 h
 have hlen' : l.Up.length = l.Names.length := by omega
 rw [qK, qb, qb, zy]
 refine ⟨by omega, ?_⟩
 rw [Int.toNat_natCast]
 have hmask := zkq l.Names.length p8
 have hm0 := zj5 (e := IntKind.wrap .u8 (1 * 2 ^ min l.Names.length (IntKind.bits .u8)) - 1)
 revert hmask hm0
 generalize IntKind.wrap .u8 (IntKind.wrap .u8 (1 * 2 ^ min l.Names.length (IntKind.bits .u8)) - 1) = mask
 intro hmask hm0
 refine Tot.count l.Names.length (fun k s => s = (k : Int) /\ (∀ a, a < k -> up l a a = true) /\ ∀ a, a < k -> ∀ b, b < l.Names.length -> xO l a b) ?_ ⟨rfl, fun a ha => absurd ha (by omega), fun a ha => absurd ha (by omega)⟩
 rintro k _ hk ⟨rfl, hself, hrow⟩
 simp only [zI, tot_some, qb, Sum.elim_inl, Sum.elim_inr, decide_eq_true_eq, decide_eq_false_iff_not]
 refine ⟨fun hlt => ?_, fun hlt => ?_⟩
 . -- a round
   simp only [qD, Int.toNat_natCast]
   obtain ⟨x, hx⟩ := zN (l := l.Up) (i := k) (by omega)
   have hx' := hu.get hx
   refine ⟨by omega, x, hx, ?_⟩
   rw [zy]
   refine (zpf x hx'.1 hx'.2).mono fun x91 _ => ?_
   simp only [zI, tot_some, qK, Sum.elim_inl, Sum.elim_inr, decide_eq_true_eq, decide_eq_false_iff_not, Int.toNat_natCast]
   refine ⟨fun _ h' => absurd h' (by decide), fun _ => ⟨by omega, fun _ h' => absurd h' (by decide), fun hs => ?_⟩⟩
   rw [zbx hx'.1 hx'.2 (by omega), <- jx hx] at hs
   have hkk : up l k k = true := by
    cases e : up l k k with
    | true => rfl
    | false => rw [e] at hs; simp at hs
   rw [zy]
   refine Tot.count l.Names.length (fun j s => s = (j : Int) /\ ∀ b, b < j -> xO l k b) ?_ ⟨rfl, fun b hb => absurd hb (by omega)⟩
   rintro j _ hj ⟨rfl, hr⟩
   have fin : (∀ b, b < l.Names.length -> xO l k b) -> k < l.Names.length /\ IntKind.wrap .i64 ((k : Int) + 1) = ((k + 1 : Nat) : Int) /\ (∀ a, a < k + 1 -> up l a a = true) /\ ∀ a, a < k + 1 -> ∀ b, b < l.Names.length -> xO l a b := by
    intro hall
    rw [w64 (by omega) (by omega)]
    refine ⟨by omega, by omega, fun a ha => ?_, fun a ha => ?_⟩
    . rcases Nat.lt_or_ge a k with g | g
      . exact hself a g
      . have : a = k := by omega
        subst this; exact hkk
    . rcases Nat.lt_or_ge a k with g | g
      . exact hrow a g
      . have : a = k := by omega
        subst this; exact hall
   have ext : ∀ {b}, xO l k j -> b < j + 1 -> xO l k b := by
    intro b h hb
    rcases Nat.lt_or_ge b j with g | g
    . exact hr b g
    . have : b = j := by omega
      subst this; exact h
   simp only [zI, tot_some, qb, qK, Sum.elim_inl, Sum.elim_inr, decide_eq_true_eq, decide_eq_false_iff_not, Bool.not_eq_true', Bool.not_eq_false', Int.toNat_natCast]
   refine ⟨fun hjl => ?_, fun hjl => ?_⟩
   . simp only [qD, Int.toNat_natCast]
     obtain ⟨y, hy⟩ := zN (l := l.Up) (i := j) (by omega)
     have hy' := hu.get hy
     refine ⟨by omega, y, hy, ?_⟩
     simp only [zI, tot_some, qb, qK, Sum.elim_inl, Sum.elim_inr, decide_eq_true_eq, decide_eq_false_iff_not, Bool.not_eq_true', Bool.not_eq_false', Int.toNat_natCast]
     rw [zbx hx'.1 hx'.2 (by omega), <- jx hx]
     rw [w64 (e := (l.Names.length : Int) - 1) (by omega) (by omega)]
     have stay : xO l k j -> ((j : Int) = (l.Names.length : Int) - 1 -> k < l.Names.length /\ IntKind.wrap .i64 ((k : Int) + 1) = ((k + 1 : Nat) : Int) /\ (∀ a, a < k + 1 -> up l a a = true) /\ ∀ a, a < k + 1 -> ∀ b, b < l.Names.length -> xO l a b) /\ (¬ (j : Int) = (l.Names.length : Int) - 1 -> j < l.Names.length /\ IntKind.wrap .i64 ((j : Int) + 1) = ((j + 1 : Nat) : Int) /\ ∀ b, b < j + 1 -> xO l k b) := by
      intro hrow'
      refine ⟨fun e => fin fun b hb => ext hrow' (by omega), fun e => ?_⟩
      rw [w64 (by omega) (by omega)]
      exact ⟨by omega, by omega, fun b hb => ext hrow' hb⟩
     refine ⟨by omega, fun hb => ?_, fun hb => ⟨fun hne => ⟨by omega, fun _ h' => absurd h' (by decide), fun hba => ⟨fun _ h' => absurd h' (by decide), fun han => ?_⟩⟩, fun heq => ⟨fun _ h' => absurd h' (by decide), fun han => ?_⟩⟩⟩
     . refine stay fun hup => ?_
       rw [hup] at hb; simp at hb
     . refine stay fun _ => ⟨fun _ => ?_, fun i hi hyi => ?_⟩
       . rw [zbx hy'.1 hy'.2 (by omega), <- jx hy] at hba
         cases e : up l j k with
         | false => rfl
         | true => rw [e] at hba; simp at hba
       . rw [zbr hy'.1 hy'.2 hm0.1 hm0.2] at han
         have hand := zgv (a := y.toNat) (b := mask.toNat) (by omega)
         have := (zau (by omega) (by omega) hx'.1 hx'.2).1 han i (by
          rw [Int.toNat_natCast, Nat.testBit_and, hmask, <- jx hy, hyi]; simp [hi])
         rw [jx hx]; exact this
     . refine stay fun _ => ⟨fun hne => absurd (by omega) hne, fun i hi hyi => ?_⟩
       rw [zbr hy'.1 hy'.2 hm0.1 hm0.2] at han
       have hand := zgv (a := y.toNat) (b := mask.toNat) (by omega)
       have := (zau (by omega) (by omega) hx'.1 hx'.2).1 han i (by
        rw [Int.toNat_natCast, Nat.testBit_and, hmask, <- jx hy, hyi]; simp [hi])
       rw [jx hx]; exact this
   . exact fin fun b hb => hr b (by omega)
 . -- the end
   have hk' : k = l.Names.length := by omega
   subst hk'
   have good : LatOK l := ⟨p1, p8, hlen', hu, hself, hrow⟩
   rw [zy]
   refine (zs9 l hu p8 (by omega)).mono fun o ho => ?_
   obtain ⟨_, o1, o2, o3, o4⟩ := ho
   rw [zy]
   refine Tot.count l.Names.length (fun j s => s = (j : Int)) ?_ rfl
   rintro j _ hj rfl
   simp only [zI, tot_some, qb, zy, Sum.elim_inl, Sum.elim_inr, decide_eq_true_eq, decide_eq_false_iff_not]
   refine ⟨fun hlt => ?_, fun _ _ => good⟩
   refine Tot.count l.Names.length (fun i s => s = (i : Int)) ?_ rfl
   rintro i _ hi rfl
   simp only [zI, tot_some, qb, zy, Sum.elim_inl, Sum.elim_inr, decide_eq_true_eq, decide_eq_false_iff_not]
   refine ⟨fun hlt' => ?_, fun _ => ?_⟩
   . refine (zas _ _ _ _ o1 o3 p8 (by omega) (by omega)).mono fun b1 _ => ⟨fun _ h' => absurd h' (by decide), fun _ => ?_⟩
     refine (zec _ _ _ _ o2 o4 p8 (by omega) (by omega)).mono fun b2 _ => ⟨fun _ h' => absurd h' (by decide), fun _ => ?_⟩
     rw [w64 (by omega) (by omega)]
     exact ⟨by omega, by omega⟩
   . rw [w64 (by omega) (by omega)]
     exact ⟨by omega, by omega⟩
end Go.Sx.O
noncomputable section
namespace Go.Sx.O
open Go
structure LatIn (l : TL) : Prop where
 u8 : U8s l.Up
 names : l.Names.length <= 20
 name : ∀ s ∈ l.Names, s.length <= 1000
def qX (l : TL) : Int × Int := (uF l).getD (0, 0)
theorem za9 {l : TL} (h : LatIn l) : uF l = some (qX l) := by
 obtain ⟨r, e, _⟩ := zin l h.u8 h.names h.name
 unfold qX; rw [e]; rfl
theorem jv {l : TL} (h : LatIn l) (k : (qX l).2 = 0) : LatOK l := by
 obtain ⟨r, e, q⟩ := zin l h.u8 h.names h.name
 have := za9 h
 rw [e] at this; cases this
 exact q k
def yi (l : TL) (a : Int) : Bool := decide (0 <= a) && decide (a < (l.Names.length : Int))
def zs3 (l : TL) (xs : List Int) : Int := if (qX l).2 = 0 then (if xs.all (yi l) then 0 else 7) else (qX l).2
theorem znf {l : TL} (h : LatIn l) (xs : List Int) (hx : xs.length <= 1000000000) : zl1 l xs = some (zs3 l xs) := by
 unfold zl1 zs3
 rw [za9 h]
 simp only [Option.bind_some]
 by_cases h0 : (qX l).2 = 0
 . simp only [h0, decide_true, Bool.not_true, cond_false, if_true]
   apply Tot.eq
   simp only [zy, List.length_map]
   refine Tot.count xs.length (fun k s => s = (k : Int) /\ (xs.take k).all (yi l) = true) ?_ ⟨rfl, by simp⟩
   rintro k _ hk ⟨rfl, hall⟩
   simp only [zI, tot_some, qb, qD, Sum.elim_inl, Sum.elim_inr, decide_eq_true_eq, decide_eq_false_iff_not, Int.toNat_natCast]
   refine ⟨fun hlt => ?_, fun hlt => ?_⟩
   . obtain ⟨x, hx'⟩ := zN (l := xs) (i := k) (by omega)
     have hm := List.mem_of_getElem? hx'
     have bad : yi l x = false -> (7 : Int) = if xs.all (yi l) = true then 0 else 7 := by
      intro e
      have : xs.all (yi l) = false := by
       rw [List.all_eq_false]; exact ⟨x, hm, by simp [e]⟩
      simp [this]
     refine ⟨by omega, x, hx', fun g => bad (by unfold yi; simp; omega), fun g1 => ⟨fun g => bad (by unfold yi; simp; omega), fun g2 => ?_⟩⟩
     rw [w64 (by omega) (by omega)]
     refine ⟨by omega, by omega, ?_⟩
     rw [List.take_add_one, hx', List.all_append, hall]
     simp [yi]; omega
   . rw [List.take_of_length_le (by omega)] at hall
     simp [hall]
 . simp only [h0, decide_false, Bool.not_false, cond_true, if_false]
def zuo (l : TL) (a o : Int) : Bool := decide ((qX l).2 = 0) && yi l a && yi l o && up l a.toNat o.toNat
end Go.Sx.O
end
namespace Go.Sx.O
open Go
theorem zai (x : Int) : Tot (zbw x) fun _ => True := by
 unfold zbw
 simp only [zI, tot_some, implies_true, and_self]
end Go.Sx.O
namespace Go.Sx.O
open Go
theorem zig {l : List UInt8} {c : UInt8} (h : c ∉ l) : Lib.indexByte l c = -1 := by
 induction l with
 | nil => rfl
 | cons a l ih =>
   simp only [List.mem_cons, not_or] at h
   have : (a == c) = false := by simp; exact fun e => h.1 e.symm
   simp [Lib.indexByte, this, ih h.2]
theorem zre {r : Int} (h0 : 128 <= r) (h1 : r < 256) : ∃ x y, (Utf8.encode r).data.toList = [x, y] /\ 128 <= y.toNat := by
 refine ⟨UInt8.ofNat (0xC0 + r.toNat / 64), UInt8.ofNat (0x80 + r.toNat % 64), ?_, ?_⟩
 . have hv : Utf8.valid r = true := by unfold Utf8.valid; simp; omega
   unfold Utf8.encode
   simp only [hv, if_true]
   rw [if_neg (by omega), if_pos (by omega)]
 . rw [UInt8.toNat_ofNat']; omega
theorem zha (s : List UInt8) (r : Int) (hs : ∀ c ∈ s, c.toNat < 128) (hl : s.length <= 1000) (h0 : 0 <= r) (h1 : r < 256) : Tot (ze7 s r) fun _ => True := by
 unfold ze7
 have e0 : decide (0 <= r) = true := by simp [h0]
 simp only [e0, cond_true]
 rw [zI]
 refine ⟨fun _ => ?_, fun h2 => ?_⟩
 . rw [qb, zy]
   unfold zbh qe
   simp only [Option.bind_some, tot_some]
 . simp only [decide_eq_false_iff_not] at h2
   obtain ⟨x, y, exy, hy⟩ := zre (r := r) (by omega) h1
   have e1 : decide (r = 65533) = false := by simp; omega
   simp only [e1, cond_false, exy]
   rw [zy]
   refine (zai r).mono fun v _ => ?_
   rw [zI]
   refine ⟨fun _ => .mk trivial, fun _ => ?_⟩
   rw [qb]
   have e2 : IntKind.wrap .i64 (((List.length [x, y] : Nat) : Int) - 1) = 1 := rfl
   rw [e2, zy]
   refine Tot.loop (fun _ => 0) (fun _ => True) (fun _ _ => ?_) trivial
   rw [zI]
   refine ⟨fun h3 => ?_, fun _ => ?_⟩
   . simp only [decide_eq_true_eq] at h3
     obtain ⟨c, hc⟩ := zN (l := s) (i := 1) (by omega)
     have hc' := hs c (List.mem_of_getElem? hc)
     have e3 : (1 : Int).toNat = 1 := rfl
     simp only [qD, e3]
     refine ⟨by omega, c, hc, by omega, y, rfl, ?_⟩
     have e4 : decide ((c.toNat : Int) = (y.toNat : Int)) = false := by simp; omega
     simp only [e4, Bool.not_false, cond_true]
     rw [qb]
     have e5 : IntKind.wrap .i64 (1 + 1) = 2 := rfl
     rw [e5, qK]
     refine ⟨by omega, ?_⟩
     simp only [qD, e3]
     refine ⟨by omega, y, rfl, ?_⟩
     unfold zbh qe
     simp only [Option.bind_some]
     have hn : ((y.toNat : Int).toNat.toUInt8) = y := by simp
     rw [hn, zig (fun hm => by
      have := hs y (List.mem_of_mem_take (List.mem_of_mem_drop hm))
      omega)]
     have e6 : decide ((-1 : Int) < 0) = true := rfl
     simp only [e6, cond_true, tot_some, Sum.elim_inr]
   . simp only [tot_some, Sum.elim_inr, Sum.elim_inl]
theorem zc3 (s : List UInt8) (r : Int) (hs : ∀ c ∈ s, c.toNat < 128) (hl : s.length <= 1000) (h0 : 0 <= r) (h1 : r < 256) : Tot (xj s r) fun _ => True := by
 unfold xj
 rw [zy]
 exact (zha s r hs hl h0 h1).mono fun _ _ => .mk trivial
theorem zk2 {r : Int} (h0 : 0 <= r) (h1 : r < 256) : IntKind.wrap .i32 r = r := by
 simp only [IntKind.wrap, IntKind.signed, IntKind.bits]
 have h3 : (2 : Int) ^ 32 = 4294967296 := by decide
 have h4 : (2 : Int) ^ (32 - 1) = 2147483648 := by decide
 simp only [h3, h4, Bool.true_and, decide_eq_true_eq, ge_iff_le]
 split <;> omega
end Go.Sx.O
