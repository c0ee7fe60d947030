/-
  An own text of this claim.
-/
import Derived.Test.YteaennhfmipmgaaGreatDoorA6
import Derived.Lib.Bytealg
namespace Go.Sx.O
structure TR where
 s_ : List UInt8
 at_ : Int
def zX (x : TR) : SV := .agg [SV.str x.s_, (SV.int .i64) x.at_]
theorem zB8 {p : Nat -> Prop} (x : TR) : (zX x).nmd p := ⟨trivial, trivial, trivial⟩
structure TF where
 low_ : Int
 high_ : Int
def zCg (x : TF) : SV := .agg [(SV.int .i64) x.low_, (SV.int .i64) x.high_]
theorem zG5 {p : Nat -> Prop} (x : TF) : (zCg x).nmd p := ⟨trivial, trivial, trivial⟩
structure TL where
 Names : List (List UInt8)
 Up : List (Int)
def zI (x : TL) : SV := .agg [(ze 1 SV.str) x.Names, (ze 1 (SV.int .u8)) x.Up]
theorem zu9 {p : Nat -> Prop} (x : TL) : (zI x).nmd p := ⟨(yr fun _ => trivial), (yr fun _ => trivial), trivial⟩
structure TU where
 From : Int
 Goal : Int
 K : Int
def wL (x : TU) : SV := .agg [(SV.int .i64) x.From, (SV.int .i64) x.Goal, (SV.int .i64) x.K]
theorem zCk {p : Nat -> Prop} (x : TU) : (wL x).nmd p := ⟨trivial, trivial, trivial, trivial⟩
structure TG where
 Lattice : TL
 bottom_ : Int
def jc (x : TG) : SV := .agg [zI x.Lattice, (SV.int .i64) x.bottom_]
theorem zGz {p : Nat -> Prop} (x : TG) : (jc x).nmd p := ⟨(zu9 _), trivial, trivial⟩
structure TK where
 Kind : Int
 From : Int
 To : Int
 N : Int
 S : List UInt8
def zY (x : TK) : SV := .agg [(SV.int .i64) x.Kind, (SV.int .i64) x.From, (SV.int .i64) x.To, (SV.int .i64) x.N, SV.str x.S]
theorem zG4 {p : Nat -> Prop} (x : TK) : (zY x).nmd p := ⟨trivial, trivial, trivial, trivial, trivial, trivial⟩
structure Tlattice_order where
 n_ : Int
 up_ : List (Int)
 down_ : List (Int)
def qq (x : Tlattice_order) : SV := .agg [(SV.int .i64) x.n_, (zu 8 1 (SV.int .u8)) x.up_, (zu 8 1 (SV.int .u8)) x.down_]
theorem zv9 {p : Nat -> Prop} (x : Tlattice_order) : (qq x).nmd p := ⟨trivial, (yr fun _ => trivial), (yr fun _ => trivial), trivial⟩
structure TY where
 Kind : Int
 Rank : Int
 Axes : (Int) × (Int)
 Data : Int
def qP (x : TY) : SV := .agg [(SV.int .i64) x.Kind, (SV.int .i64) x.Rank, (qV 1 (SV.int .i64)) x.Axes, (SV.int .i64) x.Data]
theorem zm3 {p : Nat -> Prop} (x : TY) : (qP x).nmd p := ⟨trivial, trivial, ⟨trivial, trivial, trivial⟩, trivial, trivial⟩
structure TA where
 Kind : Int
 Rank : Int
 Lens : (Int) × (Int)
 Cells : List (Int)
def qO (x : TA) : SV := .agg [(SV.int .i64) x.Kind, (SV.int .i64) x.Rank, (qV 1 (SV.int .i64)) x.Lens, (ze 1 (SV.int .i64)) x.Cells]
theorem zwe {p : Nat -> Prop} (x : TA) : (qO x).nmd p := ⟨trivial, trivial, ⟨trivial, trivial, trivial⟩, (yr fun _ => trivial), trivial⟩
structure TV where
 Name : List UInt8
 Type_ : TY
def qk (x : TV) : SV := .agg [SV.str x.Name, qP x.Type_]
theorem zBc {p : Nat -> Prop} (x : TV) : (qk x).nmd p := ⟨trivial, (zm3 _), trivial⟩
structure TW where
 Name : List UInt8
 Value : TA
def zj (x : TW) : SV := .agg [SV.str x.Name, qO x.Value]
theorem zC4 {p : Nat -> Prop} (x : TW) : (zj x).nmd p := ⟨trivial, (zwe _), trivial⟩
structure TE where
 Site : Int
 Fold : Int
 From : Int
 Goal : Int
 Cells : Int
 Value : (Int) × (Int)
def zvw (x : TE) : SV := .agg [(SV.int .i64) x.Site, (SV.int .i64) x.Fold, (SV.int .i64) x.From, (SV.int .i64) x.Goal, (SV.int .i64) x.Cells, (qV 1 (SV.int .i64)) x.Value]
theorem zC8 {p : Nat -> Prop} (x : TE) : (zvw x).nmd p := ⟨trivial, trivial, trivial, trivial, trivial, ⟨trivial, trivial, trivial⟩, trivial⟩
structure TEvEvent where
 Kind : Int
 Site : Int
 Steps : Int
 Label : Int
 Channel : List UInt8
 Value : TA
 E : Int
def zet (x : TEvEvent) : SV := .agg [(SV.int .i64) x.Kind, (SV.int .i64) x.Site, (SV.int .i64) x.Steps, (SV.int .i64) x.Label, SV.str x.Channel, qO x.Value, (SV.int .i64) x.E]
theorem zm4 {p : Nat -> Prop} (x : TEvEvent) : (zet x).nmd p := ⟨trivial, trivial, trivial, trivial, trivial, (zwe _), trivial, trivial⟩
structure TP where
 Lattice : TL
 Channels : List (TR)
 Vars : List (TV)
 Rules : List (TU)
def zD (x : TP) : SV := .agg [zI x.Lattice, (ze 2 zX) x.Channels, (ze 6 qk) x.Vars, (ze 3 wL) x.Rules]
theorem zGy {p : Nat -> Prop} (x : TP) : (zD x).nmd p := ⟨(zu9 _), (yr fun _ => (zB8 _)), (yr fun _ => (zBc _)), (yr fun _ => (zCk _)), trivial⟩
structure Tinvigilatorlaw28_Types where
 V : TY
 Y : TY
 From : Int
 Goal : Int
 PC : Int
 EC : Int
 Lower : Int
 Top : Int
def uw (x : Tinvigilatorlaw28_Types) : SV := .agg [qP x.V, qP x.Y, (SV.int .i64) x.From, (SV.int .i64) x.Goal, (SV.int .i64) x.PC, (SV.int .i64) x.EC, (SV.int .i64) x.Lower, (SV.int .i64) x.Top]
theorem zlk {p : Nat -> Prop} (x : Tinvigilatorlaw28_Types) : (uw x).nmd p := ⟨(zm3 _), (zm3 _), trivial, trivial, trivial, trivial, trivial, trivial, trivial⟩
structure TC where
 Events : List (TEvEvent)
 Log : List (TE)
 Vars : List (TW)
 Steps : Int
def zB3 (x : TC) : SV := .agg [(ze 11 zet) x.Events, (ze 7 zvw) x.Log, (ze 6 zj) x.Vars, (SV.int .i64) x.Steps]
theorem zG0 {p : Nat -> Prop} (x : TC) : (zB3 x).nmd p := ⟨(yr fun _ => (zm4 _)), (yr fun _ => (zC8 _)), (yr fun _ => (zC4 _)), trivial, trivial⟩
end Go.Sx.O
noncomputable section
namespace Go.Sx.O
def ql (a0 : List UInt8) (a1 : Int) : Option Int := some (Go.Lib.indexByte a0 a1.toNat.toUInt8)
def zE0 : List Int := [0, 1, 2, 2, 3, 3, 3, 3, 4, 4, 4, 4, 4]
def zzn (a0 : Int) : Option Int := if 0 <= a0 then zE0[a0.toNat]? else none
end Go.Sx.O
end
namespace Go.Sx.O
open Go
def inK (k : IntKind) (n : Int) : Prop := k.min <= n /\ n <= k.max
def yJ {α : Type} (W : α -> Prop) (l : List α) : Prop := ∀ x ∈ l, W x
def w2 {α : Type} (W : α -> Prop) (p : α × α) : Prop := W p.1 /\ W p.2
def w3 {α : Type} (W : α -> Prop) (p : α × α × α) : Prop := W p.1 /\ W p.2.1 /\ W p.2.2
def wN {α : Type} (n : Nat) (W : α -> Prop) (l : List α) : Prop := l.length = n /\ ∀ x ∈ l, W x
structure W_TR (x : TR) : Prop where
 s_ : (fun _ => True) x.s_
 at_ : (inK .i64) x.at_
structure W_TF (x : TF) : Prop where
 low_ : (inK .i64) x.low_
 high_ : (inK .i64) x.high_
structure W_TL (x : TL) : Prop where
 Names : (yJ (fun _ => True)) x.Names
 Up : (yJ (inK .u8)) x.Up
structure W_TU (x : TU) : Prop where
 From : (inK .i64) x.From
 Goal : (inK .i64) x.Goal
 K : (inK .i64) x.K
structure W_TG (x : TG) : Prop where
 Lattice : W_TL x.Lattice
 bottom_ : (inK .i64) x.bottom_
structure W_TK (x : TK) : Prop where
 Kind : (inK .i64) x.Kind
 From : (inK .i64) x.From
 To : (inK .i64) x.To
 N : (inK .i64) x.N
 S : (fun _ => True) x.S
structure W_Tlattice_order (x : Tlattice_order) : Prop where
 n_ : (inK .i64) x.n_
 up_ : (wN 8 (inK .u8)) x.up_
 down_ : (wN 8 (inK .u8)) x.down_
structure W_TY (x : TY) : Prop where
 Kind : (inK .i64) x.Kind
 Rank : (inK .i64) x.Rank
 Axes : (w2 (inK .i64)) x.Axes
 Data : (inK .i64) x.Data
structure W_TA (x : TA) : Prop where
 Kind : (inK .i64) x.Kind
 Rank : (inK .i64) x.Rank
 Lens : (w2 (inK .i64)) x.Lens
 Cells : (yJ (inK .i64)) x.Cells
structure W_TV (x : TV) : Prop where
 Name : (fun _ => True) x.Name
 Type_ : W_TY x.Type_
structure W_TW (x : TW) : Prop where
 Name : (fun _ => True) x.Name
 Value : W_TA x.Value
structure W_TE (x : TE) : Prop where
 Site : (inK .i64) x.Site
 Fold : (inK .i64) x.Fold
 From : (inK .i64) x.From
 Goal : (inK .i64) x.Goal
 Cells : (inK .i64) x.Cells
 Value : (w2 (inK .i64)) x.Value
structure W_TEvEvent (x : TEvEvent) : Prop where
 Kind : (inK .i64) x.Kind
 Site : (inK .i64) x.Site
 Steps : (inK .i64) x.Steps
 Label : (inK .i64) x.Label
 Channel : (fun _ => True) x.Channel
 Value : W_TA x.Value
 E : (inK .i64) x.E
structure W_TP (x : TP) : Prop where
 Lattice : W_TL x.Lattice
 Channels : (yJ W_TR) x.Channels
 Vars : (yJ W_TV) x.Vars
 Rules : (yJ W_TU) x.Rules
structure W_Tinvigilatorlaw28_Types (x : Tinvigilatorlaw28_Types) : Prop where
 V : W_TY x.V
 Y : W_TY x.Y
 From : (inK .i64) x.From
 Goal : (inK .i64) x.Goal
 PC : (inK .i64) x.PC
 EC : (inK .i64) x.EC
 Lower : (inK .i64) x.Lower
 Top : (inK .i64) x.Top
structure W_TC (x : TC) : Prop where
 Events : (yJ W_TEvEvent) x.Events
 Log : (yJ W_TE) x.Log
 Vars : (yJ W_TW) x.Vars
 Steps : (inK .i64) x.Steps
end Go.Sx.O
noncomputable section
namespace Go.Sx.O
def Fz0 (a0 : List (List UInt8)) : Option (Bool) :=
 Option.bind (
 lpO (fun (s25 : Int) =>
 cond (decide (s25 < (↑(List.length (List.map SV.str a0)) : Int)))
 (cond (decide (s25 < 20))
 (zi a0 s25 fun x31 =>
 cond (decide (100 < (↑(List.length x31) : Int)))
 (some (.inr (.inr (true))))
 (zg (IntKind.wrap .i64 (s25 + 1)) fun x33 =>
 some (.inl x33)))
 (some (.inr (.inl ()))))
 (some (.inr (.inl ())))) (0))
 (Sum.elim (fun (_ : Unit) =>
 some (decide (12 < (↑(List.length (List.map SV.str a0)) : Int)))) some)
def Fz1 (a0 : TL) : Option (Bool) :=
 (Fz0 (a0.Names)).bind fun x34 =>
 cond x34
 (some (true))
 (some (decide (12 < (↑(List.length (List.map (SV.int .u8) a0.Up)) : Int))))
def Fz2 (a0 : TP) : Option (Bool) :=
 Option.bind (
 lpO (fun (s3 : Int) =>
 cond (decide (s3 < (↑(List.length (List.map zX a0.Channels)) : Int)))
 (cond (decide (s3 < 25))
 (zi (a0.Channels) s3 fun x9 =>
 cond (decide (100 < (↑(List.length x9.s_) : Int)))
 (some (.inr (.inr (true))))
 (zg (IntKind.wrap .i64 (s3 + 1)) fun x11 =>
 some (.inl x11)))
 (some (.inr (.inl ()))))
 (some (.inr (.inl ())))) (0))
 (Sum.elim (fun (_ : Unit) =>
 Option.bind (
 lpO (fun (s14 : Int) =>
 cond (decide (s14 < (↑(List.length (List.map qk a0.Vars)) : Int)))
 (cond (decide (s14 < 45))
 (zi (a0.Vars) s14 fun x20 =>
 cond (decide (100 < (↑(List.length x20.Name) : Int)))
 (some (.inr (.inr (true))))
 (zg (IntKind.wrap .i64 (s14 + 1)) fun x22 =>
 some (.inl x22)))
 (some (.inr (.inl ()))))
 (some (.inr (.inl ())))) (0))
 (Sum.elim (fun (_ : Unit) =>
 (Fz1 (a0.Lattice)).bind fun x36 =>
 cond x36
 (some (true))
 (cond (decide (20 < (↑(List.length (List.map zX a0.Channels)) : Int)))
 (some (true))
 (cond (decide (40 < (↑(List.length (List.map qk a0.Vars)) : Int)))
 (some (true))
 (some (decide (70 < (↑(List.length (List.map wL a0.Rules)) : Int))))))) some)) some)
def Fz3 (a0 : List TW) : Option (Bool) :=
 Option.bind (
 lpO (fun (s44 : Int × Int) =>
 cond (decide (s44.fst < (↑(List.length (List.map zj a0)) : Int)))
 (cond (decide (s44.fst < 50))
 (zi a0 (s44.fst) fun x52 =>
 zg (IntKind.wrap .i64 (s44.snd + (↑(List.length (List.map (SV.int .i64) x52.Value.Cells)) : Int))) fun x53 =>
 zi a0 (s44.fst) fun x54 =>
 cond (decide (100 < (↑(List.length x54.Name) : Int)))
 (some (.inr (.inr (true))))
 (zg (IntKind.wrap .i64 (s44.fst + 1)) fun x56 =>
 some (.inl ((x56, x53)))))
 (some (.inr (.inl (s44.snd)))))
 (some (.inr (.inl (s44.snd))))) ((0, 0)))
 (Sum.elim (fun (s42 : Int) =>
 cond (decide (1000 < s42))
 (some (true))
 (some (decide (40 < (↑(List.length (List.map zj a0)) : Int))))) some)
def Fz4 (a0 : TP) (a1 : List TW) (a2 : List TW) : Option (Bool) :=
 (Fz2 a0).bind fun x40 =>
 cond x40
 (some (true))
 ((Fz3 a1).bind fun x58 =>
 cond x58
 (some (true))
 ((Fz3 a2).bind fun x60 =>
 some x60))
def Fz5 (a0 : Int) : Option (Bool) :=
 cond (decide (97 <= a0))
 (some (decide (a0 <= 122)))
 (some (false))
def Fz6 (a0 : Int) : Option (Bool) :=
 cond (decide (48 <= a0))
 (some (decide (a0 <= 57)))
 (some (false))
def Fz7 (a0 : List UInt8) : Option (Bool) :=
 cond (decide ((↑(List.length a0) : Int) < 1))
 (some (false))
 (cond (decide (16 < (↑(List.length a0) : Int)))
 (some (false))
 (zi a0 (0) fun x75 =>
 (Fz5 ((↑(UInt8.toNat x75) : Int))).bind fun x77 =>
 cond (!x77)
 (some (false))
 (Option.bind (
 lpO (fun (s81 : Int) =>
 cond (decide (s81 < (↑(List.length a0) : Int)))
 (zi a0 s81 fun x92 =>
 (Fz5 ((↑(UInt8.toNat x92) : Int))).bind fun x93 =>
 cond (!x93)
 (zi a0 s81 fun x95 =>
 (Fz6 ((↑(UInt8.toNat x95) : Int))).bind fun x96 =>
 cond (!x96)
 (zi a0 s81 fun x98 =>
 cond (!decide ((↑(UInt8.toNat x98) : Int) = 45))
 (some (.inr (.inr (false))))
 (zg (IntKind.wrap .i64 (s81 + 1)) fun x100 =>
 some (.inl x100)))
 (zg (IntKind.wrap .i64 (s81 + 1)) fun x101 =>
 some (.inl x101)))
 (zg (IntKind.wrap .i64 (s81 + 1)) fun x102 =>
 some (.inl x102)))
 (some (.inr (.inl ())))) (0))
 (Sum.elim (fun (_ : Unit) =>
 some (true)) some))))
def Fz8 (a0 : List (List UInt8)) : Option (Int × Int) :=
 cond (decide ((↑(List.length (List.map SV.str a0)) : Int) < 1))
 (some (((-1 : Int), 3)))
 (cond (decide (8 < (↑(List.length (List.map SV.str a0)) : Int)))
 (some (((-1 : Int), 3)))
 (Option.bind (
 lpO (fun (s71 : Int) =>
 cond (decide (s71 < (↑(List.length (List.map SV.str a0)) : Int)))
 (zi a0 s71 fun x80 =>
 (Fz7 x80).bind fun x81 =>
 cond (!x81)
 (some (.inr (.inr ((s71, 6)))))
 (Option.bind (
 lpO (fun (s85 : Int) =>
 cond (decide (s85 < s71))
 (zi a0 s85 fun x91 =>
 zi a0 s71 fun x92 =>
 cond (decide (x91 = x92))
 (some (.inr (.inr (.inr (.inr ((s71, 8)))))))
 (zg (IntKind.wrap .i64 (s85 + 1)) fun x94 =>
 some (.inl x94)))
 (some (.inr (.inl ())))) (0))
 (Sum.elim (fun (_ : Unit) =>
 zg (IntKind.wrap .i64 (s71 + 1)) fun x95 =>
 some (.inl x95)) some)))
 (some (.inr (.inl ())))) (0))
 (Sum.elim (fun (_ : Unit) =>
 some ((0, 0))) some)))
def Fz9 (a0 : TL) (a1 : Int) (a2 : Int) : Option (Bool) :=
 cond (decide (0 <= a1))
 (cond (decide (a1 < (↑(List.length (List.map (SV.int .u8) a0.Up)) : Int)))
 (cond (decide (0 <= a2))
 (zi (a0.Up) a1 fun x108 =>
 zk (0 <= a2) (
 some (decide (Int.tmod (Int.fdiv x108 (2 ^ min (Int.toNat a2) (IntKind.bits IntKind.u8))) 2 = 1))))
 (some (false)))
 (some (false)))
 (some (false))
def zp0 (a0 : TL) (a1 : Int) : Option (Bool) :=
 zi (a0.Up) a1 fun x102 =>
 zg (IntKind.wrap .i64 x102) fun x103 =>
 zk ((0 : Int) <= (↑(List.length (List.map SV.str a0.Names)) : Int)) (
 cond (decide (0 < Int.fdiv x103 (2 ^ min (Int.toNat (↑(List.length (List.map SV.str a0.Names)) : Int)) (IntKind.bits IntKind.i64))))
 (some (false))
 ((Fz9 a0 a1 a1).bind fun x109 =>
 cond (!x109)
 (some (false))
 (Option.bind (
 lpO (fun (s113 : Int) =>
 cond (decide (s113 < (↑(List.length (List.map SV.str a0.Names)) : Int)))
 ((Fz9 a0 a1 s113).bind fun x127 =>
 cond (!x127)
 (zg (IntKind.wrap .i64 (s113 + 1)) fun x129 =>
 some (.inl x129))
 (zi (a0.Up) s113 fun x130 =>
 zg (IntKind.wrap .i64 x130) fun x131 =>
 zk ((0 : Int) <= (↑(List.length (List.map SV.str a0.Names)) : Int)) (
 zg (IntKind.wrap .i64 (1 * 2 ^ min (Int.toNat (↑(List.length (List.map SV.str a0.Names)) : Int)) (IntKind.bits IntKind.i64))) fun x132 =>
 zg (IntKind.wrap .i64 (x132 - 1)) fun x133 =>
 cond (!decide (s113 = a1))
 ((Fz9 a0 s113 a1).bind fun x135 =>
 cond x135
 (some (.inr (.inr (false))))
 (cond (!decide (bits BinOp.and IntKind.i64 (bits BinOp.and IntKind.i64 x131 x133) x103 = bits BinOp.and IntKind.i64 x131 x133))
 (some (.inr (.inr (false))))
 (zg (IntKind.wrap .i64 (s113 + 1)) fun x138 =>
 some (.inl x138))))
 (cond (!decide (bits BinOp.and IntKind.i64 (bits BinOp.and IntKind.i64 x131 x133) x103 = bits BinOp.and IntKind.i64 x131 x133))
 (some (.inr (.inr (false))))
 (zg (IntKind.wrap .i64 (s113 + 1)) fun x140 =>
 some (.inl x140))))))
 (some (.inr (.inl ())))) (0))
 (Sum.elim (fun (_ : Unit) =>
 some (true)) some))))
def zjw (a0 : TL) : Option (List Int) :=
 zk ((0 : Int) <= (↑(List.length (List.map SV.str a0.Names)) : Int) /\ (↑(List.length (List.map SV.str a0.Names)) : Int) = (↑(List.length (List.map SV.str a0.Names)) : Int) /\ (↑(List.length (List.map SV.str a0.Names)) : Int) <= (70368744177664 : Int) /\ (↑(List.length (List.map SV.str a0.Names)) : Int) * (↑(1 : Nat) : Int) <= (70368744177664 : Int)) (
 Option.bind (
 lpO (fun (s111 : Int × List Int) =>
 cond (decide (s111.fst < (↑(List.length (List.map SV.str a0.Names)) : Int)))
 (Option.bind (
 lpO (fun (s130 : Int × List Int) =>
 cond (decide (s130.fst < (↑(List.length (List.map SV.str a0.Names)) : Int)))
 ((Fz9 a0 (s111.fst) (s130.fst)).bind fun x138 =>
 cond x138
 (zk (0 <= s130.fst /\ s130.fst < (↑(List.length (List.map (SV.int .u8) s130.snd)) : Int)) (
 zi (s130.snd) ((↑(Int.toNat s130.fst) : Int)) fun x140 =>
 zk (0 <= s111.fst) (
 zg (IntKind.wrap .u8 (1 * 2 ^ min (Int.toNat s111.fst) (IntKind.bits IntKind.u8))) fun x141 =>
 zk (0 <= s130.fst /\ s130.fst < (↑(List.length (List.map (SV.int .u8) s130.snd)) : Int)) (
 zi (s130.snd) ((↑(Int.toNat s130.fst) : Int)) fun _ =>
 zg (IntKind.wrap .i64 (s130.fst + 1)) fun x143 =>
 some (.inl ((x143, List.set s130.snd (Int.toNat s130.fst) (bits BinOp.or IntKind.u8 x140 x141))))))))
 (zg (IntKind.wrap .i64 (s130.fst + 1)) fun x144 =>
 some (.inl ((x144, s130.snd)))))
 (some (.inr (.inl (s130.snd))))) ((0, s111.snd)))
 (Sum.elim (fun (s128 : List Int) =>
 zg (IntKind.wrap .i64 (s111.fst + 1)) fun x145 =>
 some (.inl ((x145, s128)))) some))
 (some (.inr (.inl (s111.snd))))) ((0, List.replicate (Int.toNat (↑(List.length (List.map SV.str a0.Names)) : Int)) 0)))
 (Sum.elim (fun (s109 : List Int) =>
 some s109) some))
def zd0 (a0 : List Int) (a1 : Int) (a2 : Int) : Option (Int) :=
 zi a0 a1 fun x152 =>
 zi a0 a2 fun x153 =>
 Option.bind (
 lpO (fun (s156 : Int) =>
 cond (decide (s156 < (↑(List.length (List.map (SV.int .u8) a0)) : Int)))
 (zi a0 s156 fun x161 =>
 cond (decide (x161 = bits BinOp.and IntKind.u8 x152 x153))
 (some (.inr (.inr s156)))
 (zg (IntKind.wrap .i64 (s156 + 1)) fun x163 =>
 some (.inl x163)))
 (some (.inr (.inl ())))) (0))
 (Sum.elim (fun (_ : Unit) =>
 some ((-1 : Int))) some)
def zhh (a0 : TL) : Option (Int × Int) :=
 (Fz8 (a0.Names)).bind fun x96 =>
 cond (!decide (x96.snd = 0))
 (some x96)
 (cond (!decide ((↑(List.length (List.map (SV.int .u8) a0.Up)) : Int) = (↑(List.length (List.map SV.str a0.Names)) : Int)))
 (some (((-1 : Int), 6)))
 (Option.bind (
 lpO (fun (s101 : Int) =>
 cond (decide (s101 < (↑(List.length (List.map SV.str a0.Names)) : Int)))
 ((zp0 a0 s101).bind fun x106 =>
 cond (!x106)
 (some (.inr (.inr ((s101, 6)))))
 (zg (IntKind.wrap .i64 (s101 + 1)) fun x108 =>
 some (.inl x108)))
 (some (.inr (.inl ())))) (0))
 (Sum.elim (fun (_ : Unit) =>
 (zjw a0).bind fun x146 =>
 Option.bind (
 lpO (fun (s149 : Int) =>
 cond (decide (s149 < (↑(List.length (List.map SV.str a0.Names)) : Int)))
 (Option.bind (
 lpO (fun (s167 : Int) =>
 cond (decide (s167 < (↑(List.length (List.map SV.str a0.Names)) : Int)))
 ((zd0 (a0.Up) s149 s167).bind fun x174 =>
 cond (decide (x174 < 0))
 (some (.inr (.inr (.inr (.inr ((s149, 4)))))))
 ((zd0 x146 s149 s167).bind fun x176 =>
 cond (decide (x176 < 0))
 (some (.inr (.inr (.inr (.inr ((s149, 4)))))))
 (zg (IntKind.wrap .i64 (s167 + 1)) fun x178 =>
 some (.inl x178))))
 (some (.inr (.inl ())))) (0))
 (Sum.elim (fun (_ : Unit) =>
 zg (IntKind.wrap .i64 (s149 + 1)) fun x179 =>
 some (.inl x179)) some))
 (some (.inr (.inl ())))) (0))
 (Sum.elim (fun (_ : Unit) =>
 some ((0, 0))) some)) some)))
def zug : Option (List (List UInt8)) :=
 some ([(ByteArray.mk #[110, 101, 103]).data.toList, (ByteArray.mk #[97, 98, 115]).data.toList, (ByteArray.mk #[110, 111, 116]).data.toList, (ByteArray.mk #[115, 104, 97, 112, 101]).data.toList, (ByteArray.mk #[114, 97, 118, 101, 108]).data.toList, (ByteArray.mk #[114, 101, 118, 101, 114, 115, 101]).data.toList, (ByteArray.mk #[102, 108, 105, 112]).data.toList, (ByteArray.mk #[105, 111, 116, 97]).data.toList, (ByteArray.mk #[115, 117, 109]).data.toList, (ByteArray.mk #[108, 101, 97, 115, 116]).data.toList, (ByteArray.mk #[109, 111, 115, 116]).data.toList, (ByteArray.mk #[99, 111, 117, 110, 116]).data.toList, (ByteArray.mk #[115, 99, 97, 110]).data.toList, (ByteArray.mk #[103, 114, 97, 100, 101]).data.toList, (ByteArray.mk #[97, 100, 100]).data.toList, (ByteArray.mk #[115, 117, 98]).data.toList, (ByteArray.mk #[109, 117, 108]).data.toList, (ByteArray.mk #[100, 105, 118]).data.toList, (ByteArray.mk #[109, 111, 100]).data.toList, (ByteArray.mk #[112, 108, 117, 115]).data.toList, (ByteArray.mk #[109, 105, 110, 117, 115]).data.toList, (ByteArray.mk #[116, 105, 109, 101, 115]).data.toList, (ByteArray.mk #[101, 113]).data.toList, (ByteArray.mk #[110, 101]).data.toList, (ByteArray.mk #[108, 116]).data.toList, (ByteArray.mk #[108, 101]).data.toList, (ByteArray.mk #[103, 116]).data.toList, (ByteArray.mk #[103, 101]).data.toList, (ByteArray.mk #[97, 110, 100]).data.toList, (ByteArray.mk #[111, 114]).data.toList, (ByteArray.mk #[109, 105, 110]).data.toList, (ByteArray.mk #[109, 97, 120]).data.toList, (ByteArray.mk #[116, 97, 107, 101]).data.toList, (ByteArray.mk #[100, 114, 111, 112]).data.toList, (ByteArray.mk #[102, 105, 108, 108]).data.toList, (ByteArray.mk #[103, 114, 105, 100]).data.toList, (ByteArray.mk #[99, 97, 116]).data.toList, (ByteArray.mk #[97, 116]).data.toList, (ByteArray.mk #[105, 110]).data.toList, (ByteArray.mk #[112, 105, 99, 107]).data.toList])
def zo9 (a0 : List UInt8) : Option (Int × Int) :=
 (zug).bind fun x187 =>
 Option.bind (
 lpO (fun (s190 : Int) =>
 cond (decide (s190 < (↑(List.length (List.map SV.str x187)) : Int)))
 (zi x187 s190 fun x195 =>
 cond (decide (x195 = a0))
 (zg (IntKind.wrap .i64 (s190 + 1)) fun x197 =>
 some (.inr (.inr ((x197, 0)))))
 (zg (IntKind.wrap .i64 (s190 + 1)) fun x198 =>
 some (.inl x198)))
 (some (.inr (.inl ())))) (0))
 (Sum.elim (fun (_ : Unit) =>
 some ((0, 4))) some)
def zjs (a0 : Int) : Option (Bool) :=
 cond (decide (97 <= a0))
 (some (decide (a0 <= 122)))
 (some (false))
def zpx (a0 : Int) : Option (Bool) :=
 cond (decide (48 <= a0))
 (some (decide (a0 <= 57)))
 (some (false))
def zbo (a0 : List UInt8) : Option (Bool) :=
 cond (decide (a0 = (ByteArray.mk #[]).data.toList))
 (some (false))
 (zi a0 (0) fun x209 =>
 (zjs ((↑(UInt8.toNat x209) : Int))).bind fun x211 =>
 cond (!x211)
 (some (false))
 (Option.bind (
 lpO (fun (s215 : Int) =>
 cond (decide (s215 < (↑(List.length a0) : Int)))
 (zi a0 s215 fun x224 =>
 (zjs ((↑(UInt8.toNat x224) : Int))).bind fun x225 =>
 cond (!x225)
 (zi a0 s215 fun x227 =>
 (zpx ((↑(UInt8.toNat x227) : Int))).bind fun x228 =>
 cond (!x228)
 (some (.inr (.inr (false))))
 (zg (IntKind.wrap .i64 (s215 + 1)) fun x230 =>
 some (.inl x230)))
 (zg (IntKind.wrap .i64 (s215 + 1)) fun x231 =>
 some (.inl x231)))
 (some (.inr (.inl ())))) (0))
 (Sum.elim (fun (_ : Unit) =>
 some (true)) some)))
def zdz (a0 : List UInt8) : Option (List Int × Bool) :=
 Option.bind (
 lpO (fun (_ : Unit) =>
 cond (decide (0 < (↑(List.length a0) : Int)))
 (none)
 (some (.inr (.inl ())))) (()))
 (Sum.elim (fun (_ : Unit) =>
 some (([], true))) some)
def zns (a0 : TK) : Option (Int) :=
 cond (decide (a0.Kind < 1))
 (some (2))
 (cond (decide (9 < a0.Kind))
 (some (2))
 (cond (!decide (a0.Kind = 2))
 (cond (!decide (a0.N = 0))
 (some (2))
 (cond (!decide (a0.Kind = 1))
 (cond (!decide (a0.Kind = 3))
 (cond (!decide (a0.S = (ByteArray.mk #[]).data.toList))
 (some (2))
 (cond (decide (a0.Kind = 1))
 ((zbo (a0.S)).bind fun x232 =>
 cond (!x232)
 (some (6))
 (cond (decide (16 < (↑(List.length a0.S) : Int)))
 (some (3))
 (some (0))))
 (cond (decide (a0.Kind = 3))
 ((zdz (a0.S)).bind fun x240 =>
 cond (!x240.snd)
 (some (6))
 (cond (decide (2000 < (↑(List.length a0.S) : Int)))
 (some (3))
 (some (0))))
 (some (0)))))
 (cond (decide (a0.Kind = 1))
 ((zbo (a0.S)).bind fun x244 =>
 cond (!x244)
 (some (6))
 (cond (decide (16 < (↑(List.length a0.S) : Int)))
 (some (3))
 (some (0))))
 (cond (decide (a0.Kind = 3))
 ((zdz (a0.S)).bind fun x248 =>
 cond (!x248.snd)
 (some (6))
 (cond (decide (2000 < (↑(List.length a0.S) : Int)))
 (some (3))
 (some (0))))
 (some (0)))))
 (cond (decide (a0.Kind = 1))
 ((zbo (a0.S)).bind fun x252 =>
 cond (!x252)
 (some (6))
 (cond (decide (16 < (↑(List.length a0.S) : Int)))
 (some (3))
 (some (0))))
 (cond (decide (a0.Kind = 3))
 ((zdz (a0.S)).bind fun x256 =>
 cond (!x256.snd)
 (some (6))
 (cond (decide (2000 < (↑(List.length a0.S) : Int)))
 (some (3))
 (some (0))))
 (some (0))))))
 (cond (!decide (a0.Kind = 1))
 (cond (!decide (a0.Kind = 3))
 (cond (!decide (a0.S = (ByteArray.mk #[]).data.toList))
 (some (2))
 (cond (decide (a0.Kind = 1))
 ((zbo (a0.S)).bind fun x263 =>
 cond (!x263)
 (some (6))
 (cond (decide (16 < (↑(List.length a0.S) : Int)))
 (some (3))
 (some (0))))
 (cond (decide (a0.Kind = 3))
 ((zdz (a0.S)).bind fun x267 =>
 cond (!x267.snd)
 (some (6))
 (cond (decide (2000 < (↑(List.length a0.S) : Int)))
 (some (3))
 (some (0))))
 (some (0)))))
 (cond (decide (a0.Kind = 1))
 ((zbo (a0.S)).bind fun x271 =>
 cond (!x271)
 (some (6))
 (cond (decide (16 < (↑(List.length a0.S) : Int)))
 (some (3))
 (some (0))))
 (cond (decide (a0.Kind = 3))
 ((zdz (a0.S)).bind fun x275 =>
 cond (!x275.snd)
 (some (6))
 (cond (decide (2000 < (↑(List.length a0.S) : Int)))
 (some (3))
 (some (0))))
 (some (0)))))
 (cond (decide (a0.Kind = 1))
 ((zbo (a0.S)).bind fun x279 =>
 cond (!x279)
 (some (6))
 (cond (decide (16 < (↑(List.length a0.S) : Int)))
 (some (3))
 (some (0))))
 (cond (decide (a0.Kind = 3))
 ((zdz (a0.S)).bind fun x283 =>
 cond (!x283.snd)
 (some (6))
 (cond (decide (2000 < (↑(List.length a0.S) : Int)))
 (some (3))
 (some (0))))
 (some (0)))))))
def zor (a0 : List UInt8) : Option (Bool) :=
 Option.bind (
 lpO (fun (s291 : Int) =>
 cond (decide (s291 < (↑(10 : Nat) : Int)))
 (zk (0 <= s291 /\ s291 < (↑(10 : Nat) : Int)) (
 zi ([(ByteArray.mk #[118, 97, 114]).data.toList, (ByteArray.mk #[100, 101, 102]).data.toList, (ByteArray.mk #[111, 117, 116]).data.toList, (ByteArray.mk #[105, 102]).data.toList, (ByteArray.mk #[101, 108, 115, 101]).data.toList, (ByteArray.mk #[119, 104, 105, 108, 101]).data.toList, (ByteArray.mk #[101, 110, 100]).data.toList, (ByteArray.mk #[114, 101, 108, 101, 97, 115, 101]).data.toList, (ByteArray.mk #[105, 110, 116]).data.toList, (ByteArray.mk #[99, 104, 97, 114]).data.toList]) ((↑(Int.toNat s291) : Int)) fun x294 =>
 cond (decide (x294 = a0))
 (some (.inr (.inr (true))))
 (zg (IntKind.wrap .i64 (s291 + 1)) fun x296 =>
 some (.inl x296))))
 (some (.inr (.inl ())))) (0))
 (Sum.elim (fun (_ : Unit) =>
 some (false)) some)
def zo4 (a0 : List UInt8) : Option (Bool) :=
 (zo9 a0).bind fun x199 =>
 (zns (TK.mk 1 0 0 0 a0)).bind fun x286 =>
 cond (decide (x286 = 0))
 (cond (!decide (x199.snd = 0))
 ((zor a0).bind fun x297 =>
 some (!x297))
 (some (false)))
 (some (false))
def zkz (a0 : List UInt8) (a1 : List (List UInt8)) : Option (Int) :=
 (zo4 a0).bind fun x298 =>
 cond (!x298)
 (some (24))
 (Option.bind (
 lpO (fun (s302 : Int) =>
 cond (decide (s302 < (↑(List.length (List.map SV.str a1)) : Int)))
 (zi a1 s302 fun x307 =>
 cond (decide (x307 = a0))
 (some (.inr (.inr (8))))
 (zg (IntKind.wrap .i64 (s302 + 1)) fun x309 =>
 some (.inl x309)))
 (some (.inr (.inl ())))) (0))
 (Sum.elim (fun (_ : Unit) =>
 some (0)) some))
def xY (a0 : TL) (a1 : Int) : Option (Bool) :=
 cond (decide (0 <= a1))
 (some (decide (a1 < (↑(List.length (List.map SV.str a0.Names)) : Int))))
 (some (false))
def zp7 (a0 : TP) : Option (Int × Int) :=
 cond (decide (16 < (↑(List.length (List.map zX a0.Channels)) : Int)))
 (some (((-1 : Int), 3)))
 (Option.bind (
 lpO (fun (s185 : Int × List (List UInt8)) =>
 cond (decide (s185.fst < (↑(List.length (List.map zX a0.Channels)) : Int)))
 (zi (a0.Channels) (s185.fst) fun x198 =>
 (zkz (x198.s_) (s185.snd)).bind fun x199 =>
 cond (decide (x199 = 0))
 (zi (a0.Channels) (s185.fst) fun x201 =>
 (xY (a0.Lattice) (x201.at_)).bind fun x202 =>
 cond (!x202)
 (some (.inr (.inr ((s185.fst, 7)))))
 (cond (!decide (x199 = 0))
 (some (.inr (.inr ((s185.fst, x199)))))
 (zi (a0.Channels) (s185.fst) fun x205 =>
 zk ((List.length (List.map SV.str s185.snd) + (1 : Nat)) * (16 : Nat) <= (70368744177664 : Nat)) (
 zg (IntKind.wrap .i64 (s185.fst + 1)) fun x206 =>
 some (.inl ((x206, s185.snd ++ [x205.s_])))))))
 (cond (!decide (x199 = 0))
 (some (.inr (.inr ((s185.fst, x199)))))
 (zi (a0.Channels) (s185.fst) fun x208 =>
 zk ((List.length (List.map SV.str s185.snd) + (1 : Nat)) * (16 : Nat) <= (70368744177664 : Nat)) (
 zg (IntKind.wrap .i64 (s185.fst + 1)) fun x209 =>
 some (.inl ((x209, s185.snd ++ [x208.s_])))))))
 (some (.inr (.inl ())))) ((0, [])))
 (Sum.elim (fun (_ : Unit) =>
 some ((0, 0))) some))
def zhb (a0 : TL) (a1 : Int) (a2 : Int) : Option (Int) :=
 (zhh a0).bind fun x232 =>
 cond (decide (x232.snd = 0))
 (cond (decide (a1 < 0))
 (some (7))
 (cond (decide ((↑(List.length (List.map SV.str a0.Names)) : Int) <= a1))
 (some (7))
 (cond (decide (a2 < 0))
 (some (7))
 (cond (decide ((↑(List.length (List.map SV.str a0.Names)) : Int) <= a2))
 (some (7))
 (some (x232.snd))))))
 (some (x232.snd))
def zkx (a0 : TL) : Option (Int × Int) :=
 (zhb a0 (0) (0)).bind fun x238 =>
 cond (!decide (x238 = 0))
 (some ((0, x238)))
 ((zjw a0).bind fun x240 =>
 Option.bind (
 lpO (fun (s243 : Int × Int) =>
 cond (decide (s243.fst < (↑(List.length (List.map SV.str a0.Names)) : Int)))
 ((zd0 x240 (s243.fst) (s243.snd)).bind fun x247 =>
 zg (IntKind.wrap .i64 (s243.fst + 1)) fun x248 =>
 some (.inl ((x248, x247))))
 (some (.inr (.inl (s243.snd))))) ((0, 0)))
 (Sum.elim (fun (s241 : Int) =>
 some ((s241, 0))) some))
def zj9 (a0 : TL) (a1 : TY) : Option (Int) :=
 (zhh a0).bind fun x220 =>
 cond (!decide (x220.snd = 0))
 (some (x220.snd))
 (cond (!decide (a1.Kind = 1))
 (cond (!decide (a1.Kind = 2))
 (some (7))
 (cond (decide (a1.Rank < 0))
 (some (7))
 (cond (decide (2 < a1.Rank))
 (some (7))
 ((xY a0 (a1.Axes.fst)).bind fun x226 =>
 cond (!x226)
 (some (7))
 ((xY a0 (a1.Axes.snd)).bind fun x228 =>
 cond (!x228)
 (some (7))
 ((xY a0 (a1.Data)).bind fun x230 =>
 cond (!x230)
 (some (7))
 ((zkx a0).bind fun x249 =>
 Option.bind (
 lpO (fun (s252 : Int) =>
 cond (decide (s252 < 2))
 (zk (0 <= s252 /\ s252 < (↑(2 : Nat) : Int)) (
 zi ([a1.Axes.fst, a1.Axes.snd]) ((↑(Int.toNat s252) : Int)) fun x258 =>
 cond (!decide (x258 = x249.fst))
 (some (.inr (.inr (6))))
 (zg (IntKind.wrap .i64 (s252 + 1)) fun x260 =>
 some (.inl x260))))
 (some (.inr (.inl ())))) (a1.Rank))
 (Sum.elim (fun (_ : Unit) =>
 Option.bind (
 lpO (fun (s263 : Int) =>
 cond (decide (s263 < a1.Rank))
 (zk (0 <= s263 /\ s263 < (↑(2 : Nat) : Int)) (
 zi ([a1.Axes.fst, a1.Axes.snd]) ((↑(Int.toNat s263) : Int)) fun x268 =>
 (Fz9 a0 x268 (a1.Data)).bind fun x269 =>
 cond (!x269)
 (some (.inr (.inr (25))))
 (zg (IntKind.wrap .i64 (s263 + 1)) fun x271 =>
 some (.inl x271))))
 (some (.inr (.inl ())))) (0))
 (Sum.elim (fun (_ : Unit) =>
 some (0)) some)) some))))))))
 (cond (decide (a1.Rank < 0))
 (some (7))
 (cond (decide (2 < a1.Rank))
 (some (7))
 ((xY a0 (a1.Axes.fst)).bind fun x274 =>
 cond (!x274)
 (some (7))
 ((xY a0 (a1.Axes.snd)).bind fun x276 =>
 cond (!x276)
 (some (7))
 ((xY a0 (a1.Data)).bind fun x278 =>
 cond (!x278)
 (some (7))
 ((zkx a0).bind fun x280 =>
 Option.bind (
 lpO (fun (s283 : Int) =>
 cond (decide (s283 < 2))
 (zk (0 <= s283 /\ s283 < (↑(2 : Nat) : Int)) (
 zi ([a1.Axes.fst, a1.Axes.snd]) ((↑(Int.toNat s283) : Int)) fun x289 =>
 cond (!decide (x289 = x280.fst))
 (some (.inr (.inr (6))))
 (zg (IntKind.wrap .i64 (s283 + 1)) fun x291 =>
 some (.inl x291))))
 (some (.inr (.inl ())))) (a1.Rank))
 (Sum.elim (fun (_ : Unit) =>
 Option.bind (
 lpO (fun (s294 : Int) =>
 cond (decide (s294 < a1.Rank))
 (zk (0 <= s294 /\ s294 < (↑(2 : Nat) : Int)) (
 zi ([a1.Axes.fst, a1.Axes.snd]) ((↑(Int.toNat s294) : Int)) fun x299 =>
 (Fz9 a0 x299 (a1.Data)).bind fun x300 =>
 cond (!x300)
 (some (.inr (.inr (25))))
 (zg (IntKind.wrap .i64 (s294 + 1)) fun x302 =>
 some (.inl x302))))
 (some (.inr (.inl ())))) (0))
 (Sum.elim (fun (_ : Unit) =>
 some (0)) some)) some))))))))
def zog (a0 : TP) : Option (Int × Int) :=
 cond (decide (32 < (↑(List.length (List.map qk a0.Vars)) : Int)))
 (some (((-1 : Int), 3)))
 (Option.bind (
 lpO (fun (s215 : Int × List (List UInt8)) =>
 cond (decide (s215.fst < (↑(List.length (List.map qk a0.Vars)) : Int)))
 (zi (a0.Vars) (s215.fst) fun x227 =>
 (zkz (x227.Name) (s215.snd)).bind fun x228 =>
 cond (decide (x228 = 0))
 (zi (a0.Vars) (s215.fst) fun x230 =>
 (zj9 (a0.Lattice) (x230.Type_)).bind fun x231 =>
 cond (!decide (x231 = 0))
 (some (.inr (.inr ((s215.fst, x231)))))
 (zi (a0.Vars) (s215.fst) fun x233 =>
 zk ((List.length (List.map SV.str s215.snd) + (1 : Nat)) * (16 : Nat) <= (70368744177664 : Nat)) (
 zg (IntKind.wrap .i64 (s215.fst + 1)) fun x234 =>
 some (.inl ((x234, s215.snd ++ [x233.Name]))))))
 (cond (!decide (x228 = 0))
 (some (.inr (.inr ((s215.fst, x228)))))
 (zi (a0.Vars) (s215.fst) fun x236 =>
 zk ((List.length (List.map SV.str s215.snd) + (1 : Nat)) * (16 : Nat) <= (70368744177664 : Nat)) (
 zg (IntKind.wrap .i64 (s215.fst + 1)) fun x237 =>
 some (.inl ((x237, s215.snd ++ [x236.Name])))))))
 (some (.inr (.inl ())))) ((0, [])))
 (Sum.elim (fun (_ : Unit) =>
 some ((0, 0))) some))
def zng (a0 : TP) : Option (Int × Int) :=
 cond (decide (64 < (↑(List.length (List.map wL a0.Rules)) : Int)))
 (some (((-1 : Int), 3)))
 (Option.bind (
 lpO (fun (s243 : Int) =>
 cond (decide (s243 < (↑(List.length (List.map wL a0.Rules)) : Int)))
 (zi (a0.Rules) s243 fun x259 =>
 (xY (a0.Lattice) (x259.From)).bind fun x260 =>
 cond (!x260)
 (some (.inr (.inr ((s243, 7)))))
 ((xY (a0.Lattice) (x259.Goal)).bind fun x262 =>
 cond (!x262)
 (some (.inr (.inr ((s243, 7)))))
 (cond (decide (x259.From = x259.Goal))
 (some (.inr (.inr ((s243, 25)))))
 ((Fz9 (a0.Lattice) (x259.Goal) (x259.From)).bind fun x265 =>
 cond (!x265)
 (some (.inr (.inr ((s243, 25)))))
 (Option.bind (
 lpO (fun (s269 : Int) =>
 cond (decide (s269 < s243))
 (zi (a0.Rules) s269 fun x276 =>
 cond (decide (x276.From = x259.From))
 (zi (a0.Rules) s269 fun x278 =>
 cond (decide (x278.Goal = x259.Goal))
 (some (.inr (.inr (.inr (.inr ((s243, 8)))))))
 (zg (IntKind.wrap .i64 (s269 + 1)) fun x280 =>
 some (.inl x280)))
 (zg (IntKind.wrap .i64 (s269 + 1)) fun x281 =>
 some (.inl x281)))
 (some (.inr (.inl ())))) (0))
 (Sum.elim (fun (_ : Unit) =>
 cond (decide (x259.K < 2))
 (some (.inr (.inr ((s243, 3)))))
 (cond (decide (400 < x259.K))
 (some (.inr (.inr ((s243, 3)))))
 (zg (IntKind.wrap .i64 (s243 + 1)) fun x284 =>
 some (.inl x284)))) some))))))
 (some (.inr (.inl ())))) (0))
 (Sum.elim (fun (_ : Unit) =>
 some ((0, 0))) some))
def zp5 (a0 : TP) : Option (Int × Int × Int) :=
 (zhh (a0.Lattice)).bind fun x180 =>
 cond (!decide (x180.snd = 0))
 (some ((1, x180)))
 ((zp7 a0).bind fun x210 =>
 cond (!decide (x210.snd = 0))
 (some ((2, x210)))
 ((zog a0).bind fun x238 =>
 cond (!decide (x238.snd = 0))
 (some ((3, x238)))
 ((zng a0).bind fun x285 =>
 cond (!decide (x285.snd = 0))
 (some ((4, x285)))
 (some ((0, 0, 0))))))
def zko (a0 : Int) (a1 : Int × Int) : Option (Int) :=
 Option.bind (
 lpO (fun (s326 : Int × Int) =>
 cond (decide (s326.fst < a0))
 (zk (0 <= s326.fst /\ s326.fst < (↑(2 : Nat) : Int)) (
 zi ([a1.fst, a1.snd]) ((↑(Int.toNat s326.fst) : Int)) fun x330 =>
 zg (IntKind.wrap .i64 (s326.snd * x330)) fun x331 =>
 zg (IntKind.wrap .i64 (s326.fst + 1)) fun x332 =>
 some (.inl ((x332, x331)))))
 (some (.inr (.inl (s326.snd))))) ((0, 1)))
 (Sum.elim (fun (s324 : Int) =>
 some s324) some)
def znv (a0 : Int) (a1 : Int × Int) : Option (Int) :=
 cond (decide (a0 < 0))
 (some (7))
 (cond (decide (2 < a0))
 (some (7))
 (Option.bind (
 lpO (fun (s304 : Int) =>
 cond (decide (s304 < a0))
 (zk (0 <= s304 /\ s304 < (↑(2 : Nat) : Int)) (
 zi ([a1.fst, a1.snd]) ((↑(Int.toNat s304) : Int)) fun x308 =>
 cond (decide (x308 < 0))
 (some (.inr (.inr (7))))
 (zg (IntKind.wrap .i64 (s304 + 1)) fun x310 =>
 some (.inl x310))))
 (some (.inr (.inl ())))) (0))
 (Sum.elim (fun (_ : Unit) =>
 Option.bind (
 lpO (fun (s313 : Int) =>
 cond (decide (s313 < 2))
 (zk (0 <= s313 /\ s313 < (↑(2 : Nat) : Int)) (
 zi ([a1.fst, a1.snd]) ((↑(Int.toNat s313) : Int)) fun x319 =>
 cond (!decide (x319 = 0))
 (some (.inr (.inr (6))))
 (zg (IntKind.wrap .i64 (s313 + 1)) fun x321 =>
 some (.inl x321))))
 (some (.inr (.inl ())))) a0)
 (Sum.elim (fun (_ : Unit) =>
 cond (decide (400 < a1.fst))
 (some (15))
 (cond (decide (400 < a1.snd))
 (some (15))
 ((zko a0 a1).bind fun x333 =>
 cond (decide (400 < x333))
 (some (15))
 (some (0))))) some)) some)))
def zj0 (a0 : Int) (a1 : Int × Int) : Option (Int × Int) :=
 (znv a0 a1).bind fun x335 =>
 cond (!decide (x335 = 0))
 (some ((0, x335)))
 ((zko a0 a1).bind fun x337 =>
 some ((x337, 0)))
def zha (a0 : Int) : Option (Bool) :=
 cond (decide (0 <= a0))
 (cond (decide (a0 <= 1114111))
 (cond (decide (a0 < 55296))
 (some (true))
 (some (decide (57343 < a0))))
 (some (false)))
 (some (false))
def zei (a0 : TA) : Option (Int) :=
 cond (!decide (a0.Kind = 1))
 (cond (!decide (a0.Kind = 2))
 (some (2))
 ((zj0 (a0.Rank) (a0.Lens)).bind fun x338 =>
 cond (decide (x338.snd = 0))
 (cond (!decide ((↑(List.length (List.map (SV.int .i64) a0.Cells)) : Int) = x338.fst))
 (Option.bind (
 lpO (fun (_ : Unit) =>
 cond (decide (0 < (↑(List.length (List.map (SV.int .i64) a0.Cells)) : Int)))
 (some (.inr (.inl ())))
 (some (.inr (.inl ())))) (()))
 (Sum.elim (fun (_ : Unit) =>
 some (6)) some))
 (Option.bind (
 lpO (fun (s347 : Int × Int) =>
 cond (decide (s347.fst < (↑(List.length (List.map (SV.int .i64) a0.Cells)) : Int)))
 (cond (decide (s347.snd = 0))
 (cond (decide (a0.Kind = 2))
 (zi (a0.Cells) (s347.fst) fun x356 =>
 (zha x356).bind fun x357 =>
 cond (!x357)
 (zg (IntKind.wrap .i64 (s347.fst + 1)) fun x359 =>
 some (.inl ((x359, 7))))
 (zg (IntKind.wrap .i64 (s347.fst + 1)) fun x360 =>
 some (.inl ((x360, s347.snd)))))
 (zg (IntKind.wrap .i64 (s347.fst + 1)) fun x361 =>
 some (.inl ((x361, s347.snd)))))
 (some (.inr (.inl (s347.snd)))))
 (some (.inr (.inl (s347.snd))))) ((0, x338.snd)))
 (Sum.elim (fun (s345 : Int) =>
 some s345) some)))
 (Option.bind (
 lpO (fun (_ : Unit) =>
 cond (decide (0 < (↑(List.length (List.map (SV.int .i64) a0.Cells)) : Int)))
 (some (.inr (.inl ())))
 (some (.inr (.inl ())))) (()))
 (Sum.elim (fun (_ : Unit) =>
 some (x338.snd)) some))))
 ((zj0 (a0.Rank) (a0.Lens)).bind fun x366 =>
 cond (decide (x366.snd = 0))
 (cond (!decide ((↑(List.length (List.map (SV.int .i64) a0.Cells)) : Int) = x366.fst))
 (Option.bind (
 lpO (fun (_ : Unit) =>
 cond (decide (0 < (↑(List.length (List.map (SV.int .i64) a0.Cells)) : Int)))
 (some (.inr (.inl ())))
 (some (.inr (.inl ())))) (()))
 (Sum.elim (fun (_ : Unit) =>
 some (6)) some))
 (Option.bind (
 lpO (fun (s375 : Int × Int) =>
 cond (decide (s375.fst < (↑(List.length (List.map (SV.int .i64) a0.Cells)) : Int)))
 (cond (decide (s375.snd = 0))
 (cond (decide (a0.Kind = 2))
 (zi (a0.Cells) (s375.fst) fun x384 =>
 (zha x384).bind fun x385 =>
 cond (!x385)
 (zg (IntKind.wrap .i64 (s375.fst + 1)) fun x387 =>
 some (.inl ((x387, 7))))
 (zg (IntKind.wrap .i64 (s375.fst + 1)) fun x388 =>
 some (.inl ((x388, s375.snd)))))
 (zg (IntKind.wrap .i64 (s375.fst + 1)) fun x389 =>
 some (.inl ((x389, s375.snd)))))
 (some (.inr (.inl (s375.snd)))))
 (some (.inr (.inl (s375.snd))))) ((0, x366.snd)))
 (Sum.elim (fun (s373 : Int) =>
 some s373) some)))
 (Option.bind (
 lpO (fun (_ : Unit) =>
 cond (decide (0 < (↑(List.length (List.map (SV.int .i64) a0.Cells)) : Int)))
 (some (.inr (.inl ())))
 (some (.inr (.inl ())))) (()))
 (Sum.elim (fun (_ : Unit) =>
 some (x366.snd)) some)))
def znj (a0 : TP) (a1 : List TW) : Option (Int × Int) :=
 (zp5 a0).bind fun x287 =>
 cond (decide (x287.snd.snd = 0))
 (cond (!decide ((↑(List.length (List.map zj a1)) : Int) = (↑(List.length (List.map qk a0.Vars)) : Int)))
 (some (((-1 : Int), 3)))
 (cond (!decide (x287.snd.snd = 0))
 (some (((-1 : Int), x287.snd.snd)))
 (Option.bind (
 lpO (fun (s293 : Int) =>
 cond (decide (s293 < (↑(List.length (List.map zj a1)) : Int)))
 (zi a1 s293 fun x310 =>
 zi (a0.Vars) s293 fun x311 =>
 cond (!decide (x310.Name = x311.Name))
 (some (.inr (.inr ((s293, 24)))))
 (zi a1 s293 fun x313 =>
 (zei (x313.Value)).bind fun x314 =>
 cond (decide (x314 = 0))
 (zi a1 s293 fun x316 =>
 zi (a0.Vars) s293 fun x317 =>
 cond (!decide (x316.Value.Kind = x317.Type_.Kind))
 (some (.inr (.inr ((s293, 21)))))
 (zi a1 s293 fun x319 =>
 zi (a0.Vars) s293 fun x320 =>
 cond (!decide (x319.Value.Rank = x320.Type_.Rank))
 (some (.inr (.inr ((s293, 22)))))
 (cond (!decide (x314 = 0))
 (some (.inr (.inr ((s293, x314)))))
 (zg (IntKind.wrap .i64 (s293 + 1)) fun x323 =>
 some (.inl x323)))))
 (cond (!decide (x314 = 0))
 (some (.inr (.inr ((s293, x314)))))
 (zg (IntKind.wrap .i64 (s293 + 1)) fun x325 =>
 some (.inl x325)))))
 (some (.inr (.inl ())))) (0))
 (Sum.elim (fun (_ : Unit) =>
 some ((0, 0))) some))))
 (cond (!decide (x287.snd.snd = 0))
 (some (((-1 : Int), x287.snd.snd)))
 (Option.bind (
 lpO (fun (s329 : Int) =>
 cond (decide (s329 < (↑(List.length (List.map zj a1)) : Int)))
 (zi a1 s329 fun x346 =>
 zi (a0.Vars) s329 fun x347 =>
 cond (!decide (x346.Name = x347.Name))
 (some (.inr (.inr ((s329, 24)))))
 (zi a1 s329 fun x349 =>
 (zei (x349.Value)).bind fun x350 =>
 cond (decide (x350 = 0))
 (zi a1 s329 fun x352 =>
 zi (a0.Vars) s329 fun x353 =>
 cond (!decide (x352.Value.Kind = x353.Type_.Kind))
 (some (.inr (.inr ((s329, 21)))))
 (zi a1 s329 fun x355 =>
 zi (a0.Vars) s329 fun x356 =>
 cond (!decide (x355.Value.Rank = x356.Type_.Rank))
 (some (.inr (.inr ((s329, 22)))))
 (cond (!decide (x350 = 0))
 (some (.inr (.inr ((s329, x350)))))
 (zg (IntKind.wrap .i64 (s329 + 1)) fun x359 =>
 some (.inl x359)))))
 (cond (!decide (x350 = 0))
 (some (.inr (.inr ((s329, x350)))))
 (zg (IntKind.wrap .i64 (s329 + 1)) fun x361 =>
 some (.inl x361)))))
 (some (.inr (.inl ())))) (0))
 (Sum.elim (fun (_ : Unit) =>
 some ((0, 0))) some)))
def zxl (a0 : List UInt8) (a1 : Int) : Option (List UInt8) :=
 Option.bind (
 lpO (fun (s100 : List UInt8) =>
 cond (decide (0 < (↑(List.length s100) : Int)))
 (zg (IntKind.wrap .i64 ((↑(List.length s100) : Int) - 1)) fun x107 =>
 zi s100 x107 fun x108 =>
 cond (decide ((↑(UInt8.toNat x108) : Int) = a1))
 (zg (IntKind.wrap .i64 ((↑(List.length s100) : Int) - 1)) fun x110 =>
 zk (0 <= x110 /\ x110 <= (↑(List.length s100) : Int)) (
 some (.inl (List.drop (Int.toNat 0) (List.take (Int.toNat x110) s100)))))
 (some (.inr (.inl s100))))
 (some (.inr (.inl s100)))) a0)
 (Sum.elim (fun (s98 : List UInt8) =>
 some s98) some)
def zxi (a0 : List UInt8) (a1 : Int) : Option (List UInt8) :=
 Option.bind (
 lpO (fun (s115 : List UInt8) =>
 cond (decide (0 < (↑(List.length s115) : Int)))
 (zi s115 (0) fun x120 =>
 cond (decide ((↑(UInt8.toNat x120) : Int) = a1))
 (zk ((0 : Int) <= (1 : Int) /\ (1 : Int) <= (↑(List.length s115) : Int)) (
 some (.inl (List.drop (Int.toNat 1) (List.take (Int.toNat (↑(List.length s115) : Int)) s115)))))
 (some (.inr (.inl s115))))
 (some (.inr (.inl s115)))) a0)
 (Sum.elim (fun (s113 : List UInt8) =>
 some s113) some)
def zjr (a0 : List UInt8) : Option (List Bool × Bool) :=
 Option.bind (
 lpO (fun (s125 : Int × List Bool) =>
 cond (decide (s125.fst < (↑(List.length a0) : Int)))
 (zi a0 (s125.fst) fun x131 =>
 cond (decide (128 <= (↑(UInt8.toNat x131) : Int)))
 (some (.inr (.inr ((s125.snd, false)))))
 (zk ((0 : Int) <= (↑(UInt8.toNat x131) : Int) /\ (↑(UInt8.toNat x131) : Int) < (↑(256 : Nat) : Int)) (
 zi (s125.snd) ((↑(Int.toNat (↑(UInt8.toNat x131) : Int)) : Int)) fun _ =>
 zg (IntKind.wrap .i64 (s125.fst + 1)) fun x134 =>
 some (.inl ((x134, List.set s125.snd (Int.toNat (↑(UInt8.toNat x131) : Int)) true))))))
 (some (.inr (.inl (s125.snd))))) ((0, List.replicate 256 false)))
 (Sum.elim (fun (s123 : List Bool) =>
 some ((s123, true))) some)
def zkh (a0 : List Bool) (a1 : Int) : Option (Bool) :=
 zk (0 <= a1 /\ a1 < (↑(256 : Nat) : Int)) (
 zi a0 ((↑(Int.toNat a1) : Int)) fun x142 =>
 some x142)
def zkf (a0 : List UInt8) (a1 : List Bool) : Option (List UInt8) :=
 Option.bind (
 lpO (fun (s139 : List UInt8) =>
 cond (decide (0 < (↑(List.length s139) : Int)))
 (zg (IntKind.wrap .i64 ((↑(List.length s139) : Int) - 1)) fun x147 =>
 zi s139 x147 fun x148 =>
 (zkh a1 ((↑(UInt8.toNat x148) : Int))).bind fun x149 =>
 cond (!x149)
 (some (.inr (.inl s139)))
 (zg (IntKind.wrap .i64 ((↑(List.length s139) : Int) - 1)) fun x151 =>
 zk (0 <= x151 /\ x151 <= (↑(List.length s139) : Int)) (
 some (.inl (List.drop (Int.toNat 0) (List.take (Int.toNat x151) s139))))))
 (some (.inr (.inl s139)))) a0)
 (Sum.elim (fun (s137 : List UInt8) =>
 some s137) some)
def zkc (a0 : List UInt8) (a1 : List Bool) : Option (List UInt8) :=
 Option.bind (
 lpO (fun (s155 : List UInt8) =>
 cond (decide (0 < (↑(List.length s155) : Int)))
 (zi s155 (0) fun x161 =>
 (zkh a1 ((↑(UInt8.toNat x161) : Int))).bind fun x162 =>
 cond (!x162)
 (some (.inr (.inl s155)))
 (zk ((0 : Int) <= (1 : Int) /\ (1 : Int) <= (↑(List.length s155) : Int)) (
 some (.inl (List.drop (Int.toNat 1) (List.take (Int.toNat (↑(List.length s155) : Int)) s155))))))
 (some (.inr (.inl s155)))) a0)
 (Sum.elim (fun (s153 : List UInt8) =>
 some s153) some)
def zxa (a0 : Int) : Option (Bool) :=
 some (!decide (bits BinOp.and IntKind.u8 a0 192 = 128))
def zte (a0 : List UInt8) : Option (Int × Int) :=
 cond (decide ((↑(List.length a0) : Int) < 1))
 (some ((65533, 0)))
 (zi a0 (0) fun _ =>
 none)
def zpk (a0 : List UInt8) : Option (Int × Int) :=
 cond (!decide (a0 = (ByteArray.mk #[]).data.toList))
 (zi a0 (0) fun x194 =>
 cond (decide ((↑(UInt8.toNat x194) : Int) < 128))
 (zi a0 (0) fun x196 =>
 zg (IntKind.wrap .i32 (↑(UInt8.toNat x196) : Int)) fun x197 =>
 some ((x197, 1)))
 ((zte a0).bind fun x200 =>
 some x200))
 ((zte a0).bind fun x201 =>
 some x201)
def zxx (a0 : List UInt8) : Option (Int × Int) :=
 cond (decide ((↑(List.length a0) : Int) = 0))
 (some ((65533, 0)))
 (zg (IntKind.wrap .i64 ((↑(List.length a0) : Int) - 1)) fun x173 =>
 zi a0 x173 fun x174 =>
 zg (IntKind.wrap .i32 (↑(UInt8.toNat x174) : Int)) fun x175 =>
 cond (decide (x175 < 128))
 (some ((x175, 1)))
 (zg (IntKind.wrap .i64 ((↑(List.length a0) : Int) - 4)) fun x177 =>
 zg (IntKind.wrap .i64 (x173 - 1)) fun x178 =>
 Option.bind (
 lpO (fun (s181 : Int) =>
 cond (decide (max x177 0 <= s181))
 (zi a0 s181 fun x188 =>
 (zxa ((↑(UInt8.toNat x188) : Int))).bind fun x189 =>
 cond x189
 (some (.inr (.inl s181)))
 (zg (IntKind.wrap .i64 (s181 - 1)) fun x191 =>
 some (.inl x191)))
 (some (.inr (.inl s181)))) x178)
 (Sum.elim (fun (s179 : Int) =>
 cond (decide (s179 < 0))
 (zk ((0 : Int) <= (0 : Int) /\ (0 : Int) <= (↑(List.length a0) : Int) /\ (↑(List.length a0) : Int) <= (↑(List.length a0) : Int)) (
 (zpk (List.drop (Int.toNat 0) (List.take (Int.toNat (↑(List.length a0) : Int)) a0))).bind fun x202 =>
 zg (IntKind.wrap .i64 (0 + x202.snd)) fun x203 =>
 cond (!decide (x203 = (↑(List.length a0) : Int)))
 (some ((65533, 1)))
 (some x202)))
 (zk (0 <= s179 /\ s179 <= (↑(List.length a0) : Int) /\ (↑(List.length a0) : Int) <= (↑(List.length a0) : Int)) (
 (zpk (List.drop (Int.toNat s179) (List.take (Int.toNat (↑(List.length a0) : Int)) a0))).bind fun x205 =>
 zg (IntKind.wrap .i64 (s179 + x205.snd)) fun x206 =>
 cond (!decide (x206 = (↑(List.length a0) : Int)))
 (some ((65533, 1)))
 (some x205)))) some)))
def zcp (a0 : List UInt8) (a1 : Int) : Option (Int) :=
 (ql a0 a1).bind fun x212 =>
 some x212
def uH (a0 : Int) : Option (Bool) :=
 cond (decide (0 <= a0))
 (cond (decide (a0 < 55296))
 (some (true))
 (cond (decide (57343 < a0))
 (cond (decide (a0 <= 1114111))
 (some (true))
 (some (false)))
 (some (false))))
 (cond (decide (57343 < a0))
 (cond (decide (a0 <= 1114111))
 (some (true))
 (some (false)))
 (some (false)))
def zf7 (a0 : List UInt8) (a1 : Int) : Option (Int) :=
 cond (decide (0 <= a1))
 (cond (decide (a1 < 128))
 (zg (IntKind.wrap .u8 a1) fun x211 =>
 (zcp a0 x211).bind fun x213 =>
 some x213)
 (cond (decide (a1 = 65533))
 (none)
 ((uH a1).bind fun x221 =>
 cond (!x221)
 (some ((-1 : Int)))
 (zg (IntKind.wrap .i64 ((↑(List.length (Utf8.encode a1).data.toList) : Int) - 1)) fun x223 =>
 Option.bind (
 lpO (fun (_ : Unit) =>
 cond (decide (x223 < (↑(List.length a0) : Int)))
 (zi a0 x223 fun x228 =>
 zi ((Utf8.encode a1).data.toList) x223 fun x229 =>
 cond (!decide ((↑(UInt8.toNat x228) : Int) = (↑(UInt8.toNat x229) : Int)))
 (zg (IntKind.wrap .i64 (x223 + 1)) fun x231 =>
 zk (0 <= x231 /\ x231 <= (↑(List.length a0) : Int)) (
 zi ((Utf8.encode a1).data.toList) x223 fun x232 =>
 (zcp (List.drop (Int.toNat x231) (List.take (Int.toNat (↑(List.length a0) : Int)) a0)) ((↑(UInt8.toNat x232) : Int))).bind fun x233 =>
 cond (decide (x233 < 0))
 (some (.inr (.inr ((-1 : Int)))))
 (zg (IntKind.wrap .i64 (x233 + 1)) fun x235 =>
 zg (IntKind.wrap .i64 (x223 + x235)) fun x236 =>
 Option.bind (
 lpO (fun (s239 : Int) =>
 cond (decide (s239 < (↑(List.length (Utf8.encode a1).data.toList) : Int)))
 (zg (IntKind.wrap .i64 (x236 - s239)) fun x247 =>
 zi a0 x247 fun x248 =>
 zg (IntKind.wrap .i64 (x223 - s239)) fun x249 =>
 zi ((Utf8.encode a1).data.toList) x249 fun x250 =>
 cond (!decide ((↑(UInt8.toNat x248) : Int) = (↑(UInt8.toNat x250) : Int)))
 (none)
 (zg (IntKind.wrap .i64 (s239 + 1)) fun x252 =>
 some (.inl x252)))
 (some (.inr (.inl ())))) (1))
 (Sum.elim (fun (_ : Unit) =>
 zg (IntKind.wrap .i64 (x236 - x223)) fun x253 =>
 some (.inr (.inr x253))) some))))
 (Option.bind (
 lpO (fun (s256 : Int) =>
 cond (decide (s256 < (↑(List.length (Utf8.encode a1).data.toList) : Int)))
 (zg (IntKind.wrap .i64 (x223 - s256)) fun x264 =>
 zi a0 x264 fun x265 =>
 zg (IntKind.wrap .i64 (x223 - s256)) fun x266 =>
 zi ((Utf8.encode a1).data.toList) x266 fun x267 =>
 cond (!decide ((↑(UInt8.toNat x265) : Int) = (↑(UInt8.toNat x267) : Int)))
 (none)
 (zg (IntKind.wrap .i64 (s256 + 1)) fun x269 =>
 some (.inl x269)))
 (some (.inr (.inl ())))) (1))
 (Sum.elim (fun (_ : Unit) =>
 zg (IntKind.wrap .i64 (x223 - x223)) fun x270 =>
 some (.inr (.inr x270))) some)))
 (some (.inr (.inl ())))) (()))
 (Sum.elim (fun (_ : Unit) =>
 some ((-1 : Int))) some)))))
 (cond (decide (a1 = 65533))
 (none)
 ((uH a1).bind fun x272 =>
 cond (!x272)
 (some ((-1 : Int)))
 (zg (IntKind.wrap .i64 ((↑(List.length (Utf8.encode a1).data.toList) : Int) - 1)) fun x274 =>
 Option.bind (
 lpO (fun (_ : Unit) =>
 cond (decide (x274 < (↑(List.length a0) : Int)))
 (zi a0 x274 fun x279 =>
 zi ((Utf8.encode a1).data.toList) x274 fun x280 =>
 cond (!decide ((↑(UInt8.toNat x279) : Int) = (↑(UInt8.toNat x280) : Int)))
 (zg (IntKind.wrap .i64 (x274 + 1)) fun x282 =>
 zk (0 <= x282 /\ x282 <= (↑(List.length a0) : Int)) (
 zi ((Utf8.encode a1).data.toList) x274 fun x283 =>
 (zcp (List.drop (Int.toNat x282) (List.take (Int.toNat (↑(List.length a0) : Int)) a0)) ((↑(UInt8.toNat x283) : Int))).bind fun x284 =>
 cond (decide (x284 < 0))
 (some (.inr (.inr ((-1 : Int)))))
 (zg (IntKind.wrap .i64 (x284 + 1)) fun x286 =>
 zg (IntKind.wrap .i64 (x274 + x286)) fun x287 =>
 Option.bind (
 lpO (fun (s290 : Int) =>
 cond (decide (s290 < (↑(List.length (Utf8.encode a1).data.toList) : Int)))
 (zg (IntKind.wrap .i64 (x287 - s290)) fun x298 =>
 zi a0 x298 fun x299 =>
 zg (IntKind.wrap .i64 (x274 - s290)) fun x300 =>
 zi ((Utf8.encode a1).data.toList) x300 fun x301 =>
 cond (!decide ((↑(UInt8.toNat x299) : Int) = (↑(UInt8.toNat x301) : Int)))
 (none)
 (zg (IntKind.wrap .i64 (s290 + 1)) fun x303 =>
 some (.inl x303)))
 (some (.inr (.inl ())))) (1))
 (Sum.elim (fun (_ : Unit) =>
 zg (IntKind.wrap .i64 (x287 - x274)) fun x304 =>
 some (.inr (.inr x304))) some))))
 (Option.bind (
 lpO (fun (s307 : Int) =>
 cond (decide (s307 < (↑(List.length (Utf8.encode a1).data.toList) : Int)))
 (zg (IntKind.wrap .i64 (x274 - s307)) fun x315 =>
 zi a0 x315 fun x316 =>
 zg (IntKind.wrap .i64 (x274 - s307)) fun x317 =>
 zi ((Utf8.encode a1).data.toList) x317 fun x318 =>
 cond (!decide ((↑(UInt8.toNat x316) : Int) = (↑(UInt8.toNat x318) : Int)))
 (none)
 (zg (IntKind.wrap .i64 (s307 + 1)) fun x320 =>
 some (.inl x320)))
 (some (.inr (.inl ())))) (1))
 (Sum.elim (fun (_ : Unit) =>
 zg (IntKind.wrap .i64 (x274 - x274)) fun x321 =>
 some (.inr (.inr x321))) some)))
 (some (.inr (.inl ())))) (()))
 (Sum.elim (fun (_ : Unit) =>
 some ((-1 : Int))) some))))
def xk (a0 : List UInt8) (a1 : Int) : Option (Bool) :=
 (zf7 a0 a1).bind fun x322 =>
 some (decide (0 <= x322))
def zut (a0 : List UInt8) (a1 : List UInt8) : Option (List UInt8) :=
 Option.bind (
 lpO (fun (s167 : List UInt8) =>
 cond (decide (0 < (↑(List.length s167) : Int)))
 (zg (IntKind.wrap .i64 ((↑(List.length s167) : Int) - 1)) fun x181 =>
 zi s167 x181 fun x182 =>
 zg (IntKind.wrap .i32 (↑(UInt8.toNat x182) : Int)) fun x183 =>
 cond (decide (128 <= x183))
 ((zxx s167).bind fun x185 =>
 (xk a1 (x185.fst)).bind fun x186 =>
 cond (!x186)
 (some (.inr (.inl s167)))
 (zg (IntKind.wrap .i64 ((↑(List.length s167) : Int) - x185.snd)) fun x188 =>
 zk (0 <= x188 /\ x188 <= (↑(List.length s167) : Int)) (
 some (.inl (List.drop (Int.toNat 0) (List.take (Int.toNat x188) s167))))))
 ((xk a1 x183).bind fun x189 =>
 cond (!x189)
 (some (.inr (.inl s167)))
 (zg (IntKind.wrap .i64 ((↑(List.length s167) : Int) - 1)) fun x191 =>
 zk (0 <= x191 /\ x191 <= (↑(List.length s167) : Int)) (
 some (.inl (List.drop (Int.toNat 0) (List.take (Int.toNat x191) s167)))))))
 (some (.inr (.inl s167)))) a0)
 (Sum.elim (fun (s165 : List UInt8) =>
 some s165) some)
def zud (a0 : List UInt8) (a1 : List UInt8) : Option (List UInt8) :=
 Option.bind (
 lpO (fun (s195 : List UInt8) =>
 cond (decide (0 < (↑(List.length s195) : Int)))
 ((zpk s195).bind fun x201 =>
 (xk a1 (x201.fst)).bind fun x202 =>
 cond (!x202)
 (some (.inr (.inl s195)))
 (zk (0 <= x201.snd /\ x201.snd <= (↑(List.length s195) : Int)) (
 some (.inl (List.drop (Int.toNat x201.snd) (List.take (Int.toNat (↑(List.length s195) : Int)) s195))))))
 (some (.inr (.inl s195)))) a0)
 (Sum.elim (fun (s193 : List UInt8) =>
 some s193) some)
def zny (a0 : List UInt8) (a1 : List UInt8) : Option (List UInt8) :=
 cond (decide (a0 = (ByteArray.mk #[]).data.toList))
 (some a0)
 (cond (decide (a1 = (ByteArray.mk #[]).data.toList))
 (some a0)
 (cond (decide ((↑(List.length a1) : Int) = 1))
 (zi a1 (0) fun x95 =>
 cond (decide ((↑(UInt8.toNat x95) : Int) < 128))
 (zi a1 (0) fun x97 =>
 (zxl a0 ((↑(UInt8.toNat x97) : Int))).bind fun x111 =>
 zi a1 (0) fun x112 =>
 (zxi x111 ((↑(UInt8.toNat x112) : Int))).bind fun x122 =>
 some x122)
 ((zjr a1).bind fun x135 =>
 cond (x135.snd)
 ((zkf a0 (x135.fst)).bind fun x152 =>
 (zkc x152 (x135.fst)).bind fun x164 =>
 some x164)
 ((zut a0 a1).bind fun x192 =>
 (zud x192 a1).bind fun x204 =>
 some x204)))
 ((zjr a1).bind fun x205 =>
 cond (x205.snd)
 ((zkf a0 (x205.fst)).bind fun x207 =>
 (zkc x207 (x205.fst)).bind fun x208 =>
 some x208)
 ((zut a0 a1).bind fun x209 =>
 (zud x209 a1).bind fun x210 =>
 some x210))))
def zn9 (a0 : List UInt8) : Option (Bool) :=
 cond (decide (a0 = (ByteArray.mk #[]).data.toList))
 (some (false))
 (cond (decide (16 < (↑(List.length a0) : Int)))
 (some (false))
 (zi a0 (0) fun x88 =>
 cond (decide ((↑(UInt8.toNat x88) : Int) < 97))
 (some (false))
 (zi a0 (0) fun x90 =>
 cond (decide (122 < (↑(UInt8.toNat x90) : Int)))
 (some (false))
 ((zny a0 ((ByteArray.mk #[97, 98, 99, 100, 101, 102, 103, 104, 105, 106, 107, 108, 109, 110, 111, 112, 113, 114, 115, 116, 117, 118, 119, 120, 121, 122, 48, 49, 50, 51, 52, 53, 54, 55, 56, 57, 45]).data.toList)).bind fun x211 =>
 some (decide (x211 = (ByteArray.mk #[]).data.toList))))))
def znp (a0 : List (List UInt8)) (a1 : List UInt8) : Option (Int) :=
 Option.bind (
 lpO (fun (s216 : Int) =>
 cond (decide (s216 < (↑(List.length (List.map SV.str a0)) : Int)))
 (zi a0 s216 fun x221 =>
 cond (decide (a1 = x221))
 (some (.inr (.inr s216)))
 (zg (IntKind.wrap .i64 (s216 + 1)) fun x223 =>
 some (.inl x223)))
 (some (.inr (.inl ())))) (0))
 (Sum.elim (fun (_ : Unit) =>
 some ((-1 : Int))) some)
def zpu (a0 : List (List UInt8)) (a1 : List UInt8) : Option (Bool) :=
 (znp a0 a1).bind fun x224 =>
 some (decide (0 <= x224))
def zgs (a0 : List (List UInt8)) : Option (Int × Int) :=
 cond (decide ((↑(List.length (List.map SV.str a0)) : Int) < 1))
 (some (((-1 : Int), 3)))
 (cond (decide (8 < (↑(List.length (List.map SV.str a0)) : Int)))
 (some (((-1 : Int), 3)))
 (Option.bind (
 lpO (fun (s84 : Int) =>
 cond (decide (s84 < (↑(List.length (List.map SV.str a0)) : Int)))
 (zi a0 s84 fun x92 =>
 (zn9 x92).bind fun x93 =>
 cond (!x93)
 (some (.inr (.inr ((s84, 6)))))
 (zk (0 <= s84 /\ s84 <= (↑(List.length (List.map SV.str a0)) : Int)) (
 (zpu (List.drop (Int.toNat 0) (List.take (Int.toNat s84) a0)) x92).bind fun x95 =>
 cond x95
 (some (.inr (.inr ((s84, 8)))))
 (zg (IntKind.wrap .i64 (s84 + 1)) fun x97 =>
 some (.inl x97)))))
 (some (.inr (.inl ())))) (0))
 (Sum.elim (fun (_ : Unit) =>
 some ((0, 0))) some)))
def zgp (a0 : Int) : Option (Int) :=
 zi ((ByteArray.mk (List.toArray (List.append (List.append [(0 : UInt8), 1, 2, 2, 3, 3, 3, 3, 4, 4, 4, 4, 4, 4, 4, 4, 5, 5, 5, 5, 5, 5, 5, 5, 5, 5, 5, 5, 5, 5, 5, 5, 6, 6, 6, 6, 6, 6, 6, 6, 6, 6, 6, 6, 6, 6, 6, 6, 6, 6, 6, 6, 6, 6, 6, 6, 6, 6, 6, 6, 6, 6, 6, 6] [(7 : UInt8), 7, 7, 7, 7, 7, 7, 7, 7, 7, 7, 7, 7, 7, 7, 7, 7, 7, 7, 7, 7, 7, 7, 7, 7, 7, 7, 7, 7, 7, 7, 7, 7, 7, 7, 7, 7, 7, 7, 7, 7, 7, 7, 7, 7, 7, 7, 7, 7, 7, 7, 7, 7, 7, 7, 7, 7, 7, 7, 7, 7, 7, 7, 7]) (List.append [(8 : UInt8), 8, 8, 8, 8, 8, 8, 8, 8, 8, 8, 8, 8, 8, 8, 8, 8, 8, 8, 8, 8, 8, 8, 8, 8, 8, 8, 8, 8, 8, 8, 8, 8, 8, 8, 8, 8, 8, 8, 8, 8, 8, 8, 8, 8, 8, 8, 8, 8, 8, 8, 8, 8, 8, 8, 8, 8, 8, 8, 8, 8, 8, 8, 8] [(8 : UInt8), 8, 8, 8, 8, 8, 8, 8, 8, 8, 8, 8, 8, 8, 8, 8, 8, 8, 8, 8, 8, 8, 8, 8, 8, 8, 8, 8, 8, 8, 8, 8, 8, 8, 8, 8, 8, 8, 8, 8, 8, 8, 8, 8, 8, 8, 8, 8, 8, 8, 8, 8, 8, 8, 8, 8, 8, 8, 8, 8, 8, 8, 8, 8])))).data.toList) a0 fun x107 =>
 zg (IntKind.wrap .i64 (↑(UInt8.toNat x107) : Int)) fun x108 =>
 some x108
def zdt (a0 : TL) : Option (Tlattice_order) :=
 Option.bind (
 lpO (fun (s180 : Int × List Int × List Int) =>
 cond (decide (s180.fst < (↑(List.length (List.map (SV.int .u8) a0.Up)) : Int)))
 (zi (a0.Up) (s180.fst) fun x194 =>
 zk (0 <= s180.fst /\ s180.fst < (↑(8 : Nat) : Int)) (
 zi (s180.snd.fst) ((↑(Int.toNat s180.fst) : Int)) fun _ =>
 Option.bind (
 lpO (fun (s198 : Int × List Int) =>
 cond (decide (s198.fst < (↑(List.length (List.map SV.str a0.Names)) : Int)))
 (zk (0 <= s198.fst /\ s198.fst < (↑(8 : Nat) : Int)) (
 zi (s198.snd) ((↑(Int.toNat s198.fst) : Int)) fun x204 =>
 zk (0 <= s198.fst) (
 zk (0 <= s180.fst) (
 zg (IntKind.wrap .u8 (bits BinOp.and IntKind.u8 (Int.fdiv x194 (2 ^ min (Int.toNat s198.fst) (IntKind.bits IntKind.u8))) 1 * 2 ^ min (Int.toNat s180.fst) (IntKind.bits IntKind.u8))) fun x205 =>
 zk (0 <= s198.fst /\ s198.fst < (↑(8 : Nat) : Int)) (
 zi (s198.snd) ((↑(Int.toNat s198.fst) : Int)) fun _ =>
 zg (IntKind.wrap .i64 (s198.fst + 1)) fun x207 =>
 some (.inl ((x207, List.set s198.snd (Int.toNat s198.fst) (bits BinOp.or IntKind.u8 x204 x205)))))))))
 (some (.inr (.inl (s198.snd))))) ((0, s180.snd.snd)))
 (Sum.elim (fun (s196 : List Int) =>
 zg (IntKind.wrap .i64 (s180.fst + 1)) fun x208 =>
 some (.inl ((x208, List.set s180.snd.fst (Int.toNat s180.fst) x194, s196)))) some)))
 (some (.inr (.inl (s180.snd))))) ((0, [0, 0, 0, 0, 0, 0, 0, 0], [0, 0, 0, 0, 0, 0, 0, 0])))
 (Sum.elim (fun (s178 : List Int × List Int) =>
 some (Tlattice_order.mk (↑(List.length (List.map SV.str a0.Names)) : Int) s178.fst s178.snd)) some)
def zf8 (a0 : List Int) (a1 : Int) (a2 : Int) (a3 : Int) : Option (Int) :=
 zk (0 <= a2 /\ a2 < (↑(8 : Nat) : Int)) (
 zi a0 ((↑(Int.toNat a2) : Int)) fun x215 =>
 zk (0 <= a3 /\ a3 < (↑(8 : Nat) : Int)) (
 zi a0 ((↑(Int.toNat a3) : Int)) fun x216 =>
 Option.bind (
 lpO (fun (s219 : Int) =>
 cond (decide (s219 < a1))
 (zk (0 <= s219) (
 cond (decide (bits BinOp.and IntKind.u8 (Int.fdiv (bits BinOp.and IntKind.u8 x215 x216) (2 ^ min (Int.toNat s219) (IntKind.bits IntKind.u8))) 1 = 1))
 (zk (0 <= s219 /\ s219 < (↑(8 : Nat) : Int)) (
 zi a0 ((↑(Int.toNat s219) : Int)) fun x226 =>
 cond (decide (x226 = bits BinOp.and IntKind.u8 x215 x216))
 (some (.inr (.inr s219)))
 (zg (IntKind.wrap .i64 (s219 + 1)) fun x228 =>
 some (.inl x228))))
 (zg (IntKind.wrap .i64 (s219 + 1)) fun x229 =>
 some (.inl x229))))
 (some (.inr (.inl ())))) (0))
 (Sum.elim (fun (_ : Unit) =>
 some ((-1 : Int))) some)))
def zn3 (a0 : List Int) (a1 : Int) (a2 : Int) (a3 : Int) : Option (Int) :=
 zk (0 <= a2 /\ a2 < (↑(8 : Nat) : Int)) (
 zi a0 ((↑(Int.toNat a2) : Int)) fun x232 =>
 zk (0 <= a3 /\ a3 < (↑(8 : Nat) : Int)) (
 zi a0 ((↑(Int.toNat a3) : Int)) fun x233 =>
 Option.bind (
 lpO (fun (s236 : Int) =>
 cond (decide (s236 < a1))
 (zk (0 <= s236) (
 cond (decide (bits BinOp.and IntKind.u8 (Int.fdiv (bits BinOp.and IntKind.u8 x232 x233) (2 ^ min (Int.toNat s236) (IntKind.bits IntKind.u8))) 1 = 1))
 (zk (0 <= s236 /\ s236 < (↑(8 : Nat) : Int)) (
 zi a0 ((↑(Int.toNat s236) : Int)) fun x243 =>
 cond (decide (x243 = bits BinOp.and IntKind.u8 x232 x233))
 (some (.inr (.inr s236)))
 (zg (IntKind.wrap .i64 (s236 + 1)) fun x245 =>
 some (.inl x245))))
 (zg (IntKind.wrap .i64 (s236 + 1)) fun x246 =>
 some (.inl x246))))
 (some (.inr (.inl ())))) (0))
 (Sum.elim (fun (_ : Unit) =>
 some ((-1 : Int))) some)))
def uJ (a0 : TL) : Option (Int × Int) :=
 (zgs (a0.Names)).bind fun x98 =>
 cond (!decide (x98.snd = 0))
 (some x98)
 (cond (!decide ((↑(List.length (List.map (SV.int .u8) a0.Up)) : Int) = (↑(List.length (List.map SV.str a0.Names)) : Int)))
 (some (((-1 : Int), 6)))
 (zk ((0 : Int) <= (↑(List.length (List.map SV.str a0.Names)) : Int)) (
 zg (IntKind.wrap .u8 (1 * 2 ^ min (Int.toNat (↑(List.length (List.map SV.str a0.Names)) : Int)) (IntKind.bits IntKind.u8))) fun x101 =>
 zg (IntKind.wrap .u8 (x101 - 1)) fun x102 =>
 Option.bind (
 lpO (fun (s105 : Int) =>
 cond (decide (s105 < (↑(List.length (List.map (SV.int .u8) a0.Up)) : Int)))
 (zi (a0.Up) s105 fun x135 =>
 (zgp x135).bind fun x136 =>
 cond (decide ((↑(List.length (List.map SV.str a0.Names)) : Int) < x136))
 (some (.inr (.inr ((s105, 6)))))
 (zk (0 <= s105) (
 cond (decide (bits BinOp.and IntKind.u8 (Int.fdiv x135 (2 ^ min (Int.toNat s105) (IntKind.bits IntKind.u8))) 1 = 0))
 (some (.inr (.inr ((s105, 6)))))
 (Option.bind (
 lpO (fun (s141 : Int) =>
 cond (decide (s141 < (↑(List.length (List.map (SV.int .u8) a0.Up)) : Int)))
 (zi (a0.Up) s141 fun x159 =>
 zk (0 <= s141) (
 cond (decide (bits BinOp.and IntKind.u8 (Int.fdiv x135 (2 ^ min (Int.toNat s141) (IntKind.bits IntKind.u8))) 1 = 0))
 (zg (IntKind.wrap .i64 ((↑(List.length (List.map SV.str a0.Names)) : Int) - 1)) fun x161 =>
 cond (decide (s141 = x161))
 (zg (IntKind.wrap .i64 (s105 + 1)) fun x163 =>
 some (.inr (.inr (.inl x163))))
 (zg (IntKind.wrap .i64 (s141 + 1)) fun x164 =>
 some (.inl x164)))
 (cond (!decide (s141 = s105))
 (zk (0 <= s105) (
 cond (decide (bits BinOp.and IntKind.u8 (Int.fdiv x159 (2 ^ min (Int.toNat s105) (IntKind.bits IntKind.u8))) 1 = 1))
 (some (.inr (.inr (.inr (.inr ((s105, 6)))))))
 (cond (!decide (bits BinOp.andNot IntKind.u8 (bits BinOp.and IntKind.u8 x159 x102) x135 = 0))
 (some (.inr (.inr (.inr (.inr ((s105, 6)))))))
 (zg (IntKind.wrap .i64 ((↑(List.length (List.map SV.str a0.Names)) : Int) - 1)) fun x168 =>
 cond (decide (s141 = x168))
 (zg (IntKind.wrap .i64 (s105 + 1)) fun x170 =>
 some (.inr (.inr (.inl x170))))
 (zg (IntKind.wrap .i64 (s141 + 1)) fun x171 =>
 some (.inl x171))))))
 (cond (!decide (bits BinOp.andNot IntKind.u8 (bits BinOp.and IntKind.u8 x159 x102) x135 = 0))
 (some (.inr (.inr (.inr (.inr ((s105, 6)))))))
 (zg (IntKind.wrap .i64 ((↑(List.length (List.map SV.str a0.Names)) : Int) - 1)) fun x173 =>
 cond (decide (s141 = x173))
 (zg (IntKind.wrap .i64 (s105 + 1)) fun x175 =>
 some (.inr (.inr (.inl x175))))
 (zg (IntKind.wrap .i64 (s141 + 1)) fun x176 =>
 some (.inl x176)))))))
 (some (.inr (.inl ())))) (0))
 (Sum.elim (fun (_ : Unit) =>
 zg (IntKind.wrap .i64 (s105 + 1)) fun x177 =>
 some (.inl x177)) some)))))
 (some (.inr (.inl ())))) (0))
 (Sum.elim (fun (_ : Unit) =>
 (zdt a0).bind fun x209 =>
 Option.bind (
 lpO (fun (s212 : Int) =>
 cond (decide (s212 < (↑(List.length (List.map SV.str a0.Names)) : Int)))
 (Option.bind (
 lpO (fun (s230 : Int) =>
 cond (decide (s230 < (↑(List.length (List.map SV.str a0.Names)) : Int)))
 ((zf8 (x209.up_) ((↑(List.length (List.map SV.str a0.Names)) : Int)) s212 s230).bind fun x237 =>
 cond (decide (x237 < 0))
 (some (.inr (.inr (.inr (.inr ((s212, 4)))))))
 ((zn3 (x209.down_) ((↑(List.length (List.map SV.str a0.Names)) : Int)) s212 s230).bind fun x239 =>
 cond (decide (x239 < 0))
 (some (.inr (.inr (.inr (.inr ((s212, 4)))))))
 (zg (IntKind.wrap .i64 (s230 + 1)) fun x241 =>
 some (.inl x241))))
 (some (.inr (.inl ())))) (0))
 (Sum.elim (fun (_ : Unit) =>
 zg (IntKind.wrap .i64 (s212 + 1)) fun x242 =>
 some (.inl x242)) some))
 (some (.inr (.inl ())))) (0))
 (Sum.elim (fun (_ : Unit) =>
 some ((0, 0))) some)) some))))
def zst (a0 : TP) : Option (Int × Int) :=
 (uJ (a0.Lattice)).bind fun x243 =>
 some x243
def zke (a0 : List UInt8) : Option (Int × Int) :=
 Option.bind (
 cond (decide ([(110 : UInt8), (101 : UInt8), (103 : UInt8)] = a0))
 (some (.inr ((1, 0))))
 (cond (decide ([(97 : UInt8), (98 : UInt8), (115 : UInt8)] = a0))
 (some (.inr ((2, 0))))
 (cond (decide ([(110 : UInt8), (111 : UInt8), (116 : UInt8)] = a0))
 (some (.inr ((3, 0))))
 (cond (decide ([(115 : UInt8), (104 : UInt8), (97 : UInt8), (112 : UInt8), (101 : UInt8)] = a0))
 (some (.inr ((4, 0))))
 (cond (decide ([(114 : UInt8), (97 : UInt8), (118 : UInt8), (101 : UInt8), (108 : UInt8)] = a0))
 (some (.inr ((5, 0))))
 (cond (decide ([(114 : UInt8), (101 : UInt8), (118 : UInt8), (101 : UInt8), (114 : UInt8), (115 : UInt8), (101 : UInt8)] = a0))
 (some (.inr ((6, 0))))
 (cond (decide ([(102 : UInt8), (108 : UInt8), (105 : UInt8), (112 : UInt8)] = a0))
 (some (.inr ((7, 0))))
 (cond (decide ([(105 : UInt8), (111 : UInt8), (116 : UInt8), (97 : UInt8)] = a0))
 (some (.inr ((8, 0))))
 (cond (decide ([(115 : UInt8), (117 : UInt8), (109 : UInt8)] = a0))
 (some (.inr ((9, 0))))
 (cond (decide ([(108 : UInt8), (101 : UInt8), (97 : UInt8), (115 : UInt8), (116 : UInt8)] = a0))
 (some (.inr ((10, 0))))
 (cond (decide ([(109 : UInt8), (111 : UInt8), (115 : UInt8), (116 : UInt8)] = a0))
 (some (.inr ((11, 0))))
 (cond (decide ([(99 : UInt8), (111 : UInt8), (117 : UInt8), (110 : UInt8), (116 : UInt8)] = a0))
 (some (.inr ((12, 0))))
 (cond (decide ([(115 : UInt8), (99 : UInt8), (97 : UInt8), (110 : UInt8)] = a0))
 (some (.inr ((13, 0))))
 (cond (decide ([(103 : UInt8), (114 : UInt8), (97 : UInt8), (100 : UInt8), (101 : UInt8)] = a0))
 (some (.inr ((14, 0))))
 (cond (decide ([(97 : UInt8), (100 : UInt8), (100 : UInt8)] = a0))
 (some (.inr ((15, 0))))
 (cond (decide ([(115 : UInt8), (117 : UInt8), (98 : UInt8)] = a0))
 (some (.inr ((16, 0))))
 (cond (decide ([(109 : UInt8), (117 : UInt8), (108 : UInt8)] = a0))
 (some (.inr ((17, 0))))
 (cond (decide ([(100 : UInt8), (105 : UInt8), (118 : UInt8)] = a0))
 (some (.inr ((18, 0))))
 (cond (decide ([(109 : UInt8), (111 : UInt8), (100 : UInt8)] = a0))
 (some (.inr ((19, 0))))
 (cond (decide ([(112 : UInt8), (108 : UInt8), (117 : UInt8), (115 : UInt8)] = a0))
 (some (.inr ((20, 0))))
 (cond (decide ([(109 : UInt8), (105 : UInt8), (110 : UInt8), (117 : UInt8), (115 : UInt8)] = a0))
 (some (.inr ((21, 0))))
 (cond (decide ([(116 : UInt8), (105 : UInt8), (109 : UInt8), (101 : UInt8), (115 : UInt8)] = a0))
 (some (.inr ((22, 0))))
 (cond (decide ([(101 : UInt8), (113 : UInt8)] = a0))
 (some (.inr ((23, 0))))
 (cond (decide ([(110 : UInt8), (101 : UInt8)] = a0))
 (some (.inr ((24, 0))))
 (cond (decide ([(108 : UInt8), (116 : UInt8)] = a0))
 (some (.inr ((25, 0))))
 (cond (decide ([(108 : UInt8), (101 : UInt8)] = a0))
 (some (.inr ((26, 0))))
 (cond (decide ([(103 : UInt8), (116 : UInt8)] = a0))
 (some (.inr ((27, 0))))
 (cond (decide ([(103 : UInt8), (101 : UInt8)] = a0))
 (some (.inr ((28, 0))))
 (cond (decide ([(97 : UInt8), (110 : UInt8), (100 : UInt8)] = a0))
 (some (.inr ((29, 0))))
 (cond (decide ([(111 : UInt8), (114 : UInt8)] = a0))
 (some (.inr ((30, 0))))
 (cond (decide ([(109 : UInt8), (105 : UInt8), (110 : UInt8)] = a0))
 (some (.inr ((31, 0))))
 (cond (decide ([(109 : UInt8), (97 : UInt8), (120 : UInt8)] = a0))
 (some (.inr ((32, 0))))
 (cond (decide ([(116 : UInt8), (97 : UInt8), (107 : UInt8), (101 : UInt8)] = a0))
 (some (.inr ((33, 0))))
 (cond (decide ([(100 : UInt8), (114 : UInt8), (111 : UInt8), (112 : UInt8)] = a0))
 (some (.inr ((34, 0))))
 (cond (decide ([(102 : UInt8), (105 : UInt8), (108 : UInt8), (108 : UInt8)] = a0))
 (some (.inr ((35, 0))))
 (cond (decide ([(103 : UInt8), (114 : UInt8), (105 : UInt8), (100 : UInt8)] = a0))
 (some (.inr ((36, 0))))
 (cond (decide ([(99 : UInt8), (97 : UInt8), (116 : UInt8)] = a0))
 (some (.inr ((37, 0))))
 (cond (decide ([(97 : UInt8), (116 : UInt8)] = a0))
 (some (.inr ((38, 0))))
 (cond (decide ([(105 : UInt8), (110 : UInt8)] = a0))
 (some (.inr ((39, 0))))
 (cond (decide ([(112 : UInt8), (105 : UInt8), (99 : UInt8), (107 : UInt8)] = a0))
 (some (.inr ((40, 0))))
 (some (.inl ()))))))))))))))))))))))))))))))))))))))))))
 (Sum.elim (fun (_ : Unit) =>
 some ((0, 4))) some)
def zpo (a0 : Int) : Option (Bool) :=
 zg (IntKind.wrap .i32 a0) fun x321 =>
 zg (IntKind.wrap .i64 x321) fun x322 =>
 cond (decide (a0 = x322))
 (zg (IntKind.wrap .i32 a0) fun x324 =>
 (uH x324).bind fun x325 =>
 some x325)
 (some (false))
def zgb : Option (List (List UInt8)) :=
 some ([[], (ByteArray.mk #[32]).data.toList, (ByteArray.mk #[10]).data.toList, (ByteArray.mk #[40, 91]).data.toList, (ByteArray.mk #[41, 93]).data.toList, (ByteArray.mk #[34]).data.toList, [], (ByteArray.mk #[45]).data.toList, [], (ByteArray.mk #[60, 61]).data.toList])
def zca (a0 : Int) : Option (Int × Int) :=
 (zpo a0).bind fun x326 =>
 cond (!x326)
 (some ((0, 7)))
 (cond (decide (48 <= a0))
 (cond (decide (a0 <= 57))
 (some ((6, 0)))
 (cond (decide (97 <= a0))
 (cond (decide (a0 <= 122))
 (some ((8, 0)))
 ((zgb).bind fun x332 =>
 Option.bind (
 lpO (fun (s335 : Int) =>
 cond (decide (s335 < 10))
 (zi x332 s335 fun x341 =>
 zg (IntKind.wrap .i32 a0) fun x342 =>
 (xk x341 x342).bind fun x343 =>
 cond x343
 (some (.inr (.inr ((s335, 0)))))
 (zg (IntKind.wrap .i64 (s335 + 1)) fun x345 =>
 some (.inl x345)))
 (some (.inr (.inl ())))) (0))
 (Sum.elim (fun (_ : Unit) =>
 some ((10, 0))) some)))
 ((zgb).bind fun x346 =>
 Option.bind (
 lpO (fun (s349 : Int) =>
 cond (decide (s349 < 10))
 (zi x346 s349 fun x355 =>
 zg (IntKind.wrap .i32 a0) fun x356 =>
 (xk x355 x356).bind fun x357 =>
 cond x357
 (some (.inr (.inr ((s349, 0)))))
 (zg (IntKind.wrap .i64 (s349 + 1)) fun x359 =>
 some (.inl x359)))
 (some (.inr (.inl ())))) (0))
 (Sum.elim (fun (_ : Unit) =>
 some ((10, 0))) some))))
 (cond (decide (97 <= a0))
 (cond (decide (a0 <= 122))
 (some ((8, 0)))
 ((zgb).bind fun x362 =>
 Option.bind (
 lpO (fun (s365 : Int) =>
 cond (decide (s365 < 10))
 (zi x362 s365 fun x371 =>
 zg (IntKind.wrap .i32 a0) fun x372 =>
 (xk x371 x372).bind fun x373 =>
 cond x373
 (some (.inr (.inr ((s365, 0)))))
 (zg (IntKind.wrap .i64 (s365 + 1)) fun x375 =>
 some (.inl x375)))
 (some (.inr (.inl ())))) (0))
 (Sum.elim (fun (_ : Unit) =>
 some ((10, 0))) some)))
 ((zgb).bind fun x376 =>
 Option.bind (
 lpO (fun (s379 : Int) =>
 cond (decide (s379 < 10))
 (zi x376 s379 fun x385 =>
 zg (IntKind.wrap .i32 a0) fun x386 =>
 (xk x385 x386).bind fun x387 =>
 cond x387
 (some (.inr (.inr ((s379, 0)))))
 (zg (IntKind.wrap .i64 (s379 + 1)) fun x389 =>
 some (.inl x389)))
 (some (.inr (.inl ())))) (0))
 (Sum.elim (fun (_ : Unit) =>
 some ((10, 0))) some))))
def zdd (a0 : List UInt8) : Option (Int) :=
 zi a0 (0) fun x434 =>
 zg (IntKind.wrap .u64 (↑(UInt8.toNat x434) : Int)) fun x435 =>
 zi a0 (1) fun x436 =>
 zg (IntKind.wrap .u64 (↑(UInt8.toNat x436) : Int)) fun x437 =>
 zg (IntKind.wrap .u64 (x437 * 2 ^ min (Int.toNat 8) (IntKind.bits IntKind.u64))) fun x438 =>
 zi a0 (2) fun x439 =>
 zg (IntKind.wrap .u64 (↑(UInt8.toNat x439) : Int)) fun x440 =>
 zg (IntKind.wrap .u64 (x440 * 2 ^ min (Int.toNat 16) (IntKind.bits IntKind.u64))) fun x441 =>
 zi a0 (3) fun x442 =>
 zg (IntKind.wrap .u64 (↑(UInt8.toNat x442) : Int)) fun x443 =>
 zg (IntKind.wrap .u64 (x443 * 2 ^ min (Int.toNat 24) (IntKind.bits IntKind.u64))) fun x444 =>
 zi a0 (4) fun x445 =>
 zg (IntKind.wrap .u64 (↑(UInt8.toNat x445) : Int)) fun x446 =>
 zg (IntKind.wrap .u64 (x446 * 2 ^ min (Int.toNat 32) (IntKind.bits IntKind.u64))) fun x447 =>
 zi a0 (5) fun x448 =>
 zg (IntKind.wrap .u64 (↑(UInt8.toNat x448) : Int)) fun x449 =>
 zg (IntKind.wrap .u64 (x449 * 2 ^ min (Int.toNat 40) (IntKind.bits IntKind.u64))) fun x450 =>
 zi a0 (6) fun x451 =>
 zg (IntKind.wrap .u64 (↑(UInt8.toNat x451) : Int)) fun x452 =>
 zg (IntKind.wrap .u64 (x452 * 2 ^ min (Int.toNat 48) (IntKind.bits IntKind.u64))) fun x453 =>
 zi a0 (7) fun x454 =>
 zg (IntKind.wrap .u64 (↑(UInt8.toNat x454) : Int)) fun x455 =>
 zg (IntKind.wrap .u64 (x455 * 2 ^ min (Int.toNat 56) (IntKind.bits IntKind.u64))) fun x456 =>
 some (bits BinOp.or IntKind.u64 (bits BinOp.or IntKind.u64 (bits BinOp.or IntKind.u64 (bits BinOp.or IntKind.u64 (bits BinOp.or IntKind.u64 (bits BinOp.or IntKind.u64 (bits BinOp.or IntKind.u64 x435 x438) x441) x444) x447) x450) x453) x456)
def zys (a0 : List UInt8) : Option (Bool) :=
 Option.bind (
 lpO (fun (s430 : List UInt8) =>
 cond (decide (0 < (↑(List.length s430) : Int)))
 (zi s430 (0) fun x457 =>
 cond (decide ((↑(UInt8.toNat x457) : Int) < 128))
 (zk ((0 : Int) <= (1 : Int) /\ (1 : Int) <= (↑(List.length s430) : Int)) (
 cond (decide (8 < (↑(List.length (List.drop (Int.toNat 1) (List.take (Int.toNat (↑(List.length s430) : Int)) s430))) : Int)))
 ((zdd (List.drop (Int.toNat 1) (List.take (Int.toNat (↑(List.length s430) : Int)) s430))).bind fun x460 =>
 cond (decide (bits BinOp.and IntKind.u64 x460 9259542123273814144 = 0))
 (zk ((0 : Int) <= (8 : Int) /\ (8 : Int) <= (↑(List.length (List.drop (Int.toNat (1 : Int)) (List.take (Int.toNat (↑(List.length s430) : Int)) s430))) : Int)) (
 cond (decide (16 < (↑(List.length (List.drop (Int.toNat 8) (List.take (Int.toNat (↑(List.length (List.drop (Int.toNat 1) (List.take (Int.toNat (↑(List.length s430) : Int)) s430))) : Int)) (List.drop (Int.toNat 1) (List.take (Int.toNat (↑(List.length s430) : Int)) s430))))) : Int)))
 ((zdd (List.drop (Int.toNat 8) (List.take (Int.toNat (↑(List.length (List.drop (Int.toNat 1) (List.take (Int.toNat (↑(List.length s430) : Int)) s430))) : Int)) (List.drop (Int.toNat 1) (List.take (Int.toNat (↑(List.length s430) : Int)) s430))))).bind fun x463 =>
 zk ((0 : Int) <= (8 : Int) /\ (8 : Int) <= (↑(List.length (List.drop (Int.toNat (8 : Int)) (List.take (Int.toNat (↑(List.length (List.drop (Int.toNat (1 : Int)) (List.take (Int.toNat (↑(List.length s430) : Int)) s430))) : Int)) (List.drop (Int.toNat (1 : Int)) (List.take (Int.toNat (↑(List.length s430) : Int)) s430))))) : Int)) (
 (zdd (List.drop (Int.toNat 8) (List.take (Int.toNat (↑(List.length (List.drop (Int.toNat 8) (List.take (Int.toNat (↑(List.length (List.drop (Int.toNat 1) (List.take (Int.toNat (↑(List.length s430) : Int)) s430))) : Int)) (List.drop (Int.toNat 1) (List.take (Int.toNat (↑(List.length s430) : Int)) s430))))) : Int)) (List.drop (Int.toNat 8) (List.take (Int.toNat (↑(List.length (List.drop (Int.toNat 1) (List.take (Int.toNat (↑(List.length s430) : Int)) s430))) : Int)) (List.drop (Int.toNat 1) (List.take (Int.toNat (↑(List.length s430) : Int)) s430))))))).bind fun x464 =>
 cond (decide (bits BinOp.and IntKind.u64 (bits BinOp.or IntKind.u64 x463 x464) 9259542123273814144 = 0))
 (zk ((0 : Int) <= (16 : Int) /\ (16 : Int) <= (↑(List.length (List.drop (Int.toNat (8 : Int)) (List.take (Int.toNat (↑(List.length (List.drop (Int.toNat (1 : Int)) (List.take (Int.toNat (↑(List.length s430) : Int)) s430))) : Int)) (List.drop (Int.toNat (1 : Int)) (List.take (Int.toNat (↑(List.length s430) : Int)) s430))))) : Int)) (
 Option.bind (
 lpO (fun (s468 : List UInt8) =>
 cond (decide (32 < (↑(List.length s468) : Int)))
 ((zdd s468).bind fun x476 =>
 zk ((0 : Int) <= (8 : Int) /\ (8 : Int) <= (↑(List.length s468) : Int)) (
 (zdd (List.drop (Int.toNat 8) (List.take (Int.toNat (↑(List.length s468) : Int)) s468))).bind fun x477 =>
 zk ((0 : Int) <= (16 : Int) /\ (16 : Int) <= (↑(List.length s468) : Int)) (
 (zdd (List.drop (Int.toNat 16) (List.take (Int.toNat (↑(List.length s468) : Int)) s468))).bind fun x478 =>
 zk ((0 : Int) <= (24 : Int) /\ (24 : Int) <= (↑(List.length s468) : Int)) (
 (zdd (List.drop (Int.toNat 24) (List.take (Int.toNat (↑(List.length s468) : Int)) s468))).bind fun x479 =>
 cond (decide (bits BinOp.and IntKind.u64 (bits BinOp.or IntKind.u64 (bits BinOp.or IntKind.u64 x476 x477) (bits BinOp.or IntKind.u64 x478 x479)) 9259542123273814144 = 0))
 (zk ((0 : Int) <= (32 : Int) /\ (32 : Int) <= (↑(List.length s468) : Int)) (
 some (.inl (List.drop (Int.toNat 32) (List.take (Int.toNat (↑(List.length s468) : Int)) s468)))))
 (some (.inr (.inl s468)))))))
 (some (.inr (.inl s468)))) (List.drop (Int.toNat 16) (List.take (Int.toNat (↑(List.length (List.drop (Int.toNat 8) (List.take (Int.toNat (↑(List.length (List.drop (Int.toNat 1) (List.take (Int.toNat (↑(List.length s430) : Int)) s430))) : Int)) (List.drop (Int.toNat 1) (List.take (Int.toNat (↑(List.length s430) : Int)) s430))))) : Int)) (List.drop (Int.toNat 8) (List.take (Int.toNat (↑(List.length (List.drop (Int.toNat 1) (List.take (Int.toNat (↑(List.length s430) : Int)) s430))) : Int)) (List.drop (Int.toNat 1) (List.take (Int.toNat (↑(List.length s430) : Int)) s430)))))))
 (Sum.elim (fun (s466 : List UInt8) =>
 some (.inl s466)) some)))
 (some (.inl (List.drop (Int.toNat 8) (List.take (Int.toNat (↑(List.length (List.drop (Int.toNat 1) (List.take (Int.toNat (↑(List.length s430) : Int)) s430))) : Int)) (List.drop (Int.toNat 1) (List.take (Int.toNat (↑(List.length s430) : Int)) s430))))))))
 (some (.inl (List.drop (Int.toNat 8) (List.take (Int.toNat (↑(List.length (List.drop (Int.toNat 1) (List.take (Int.toNat (↑(List.length s430) : Int)) s430))) : Int)) (List.drop (Int.toNat 1) (List.take (Int.toNat (↑(List.length s430) : Int)) s430))))))))
 (some (.inl (List.drop (Int.toNat 1) (List.take (Int.toNat (↑(List.length s430) : Int)) s430)))))
 (some (.inl (List.drop (Int.toNat 1) (List.take (Int.toNat (↑(List.length s430) : Int)) s430))))))
 (none))
 (some (.inr (.inl ())))) a0)
 (Sum.elim (fun (_ : Unit) =>
 some (true)) some)
def zn0 (a0 : TK) : Option (Int) :=
 Option.bind (
 cond (decide (a0.Kind = 1))
 (some (.inl ((0, a0.S))))
 (cond (decide (a0.Kind = 3))
 (some (.inl ((0, a0.S))))
 (cond (decide (a0.Kind = 2))
 (some (.inl ((a0.N, []))))
 (some (.inl ((0, [])))))))
 (Sum.elim (fun (s307 : Int × List UInt8) =>
 cond (decide (a0.Kind < 1))
 (some (2))
 (cond (decide (9 < a0.Kind))
 (some (2))
 (cond (!(decide (a0.Kind = a0.Kind) && (decide (a0.From = a0.From) && (decide (a0.To = a0.To) && (decide (a0.N = s307.fst) && (decide (a0.S = s307.snd) && true))))))
 (some (2))
 (Option.bind (
 cond (decide (a0.Kind = 1))
 (cond (decide ((↑(List.length a0.S) : Int) <= 0))
 (some (.inr (6)))
 (zi (a0.S) (0) fun x320 =>
 zg (IntKind.wrap .i64 (↑(UInt8.toNat x320) : Int)) fun x321 =>
 (zca x321).bind fun x322 =>
 cond (!decide (x322.fst = 8))
 (some (.inr (6)))
 (zi (a0.S) (0) fun x326 =>
 zg (IntKind.wrap .i64 (↑(UInt8.toNat x326) : Int)) fun x327 =>
 (zca x327).bind fun x328 =>
 Option.bind (
 lpO (fun (s331 : Int × Int) =>
 cond (decide (s331.fst = 8))
 (zg (IntKind.wrap .i64 (s331.snd + 1)) fun x345 =>
 cond (decide ((↑(List.length a0.S) : Int) <= x345))
 (some (.inl ((10, x345))))
 (zi (a0.S) x345 fun x348 =>
 zg (IntKind.wrap .i64 (↑(UInt8.toNat x348) : Int)) fun x349 =>
 (zca x349).bind fun x350 =>
 some (.inl ((x350.fst, x345)))))
 (cond (decide (s331.fst = 6))
 (zg (IntKind.wrap .i64 (s331.snd + 1)) fun x352 =>
 cond (decide ((↑(List.length a0.S) : Int) <= x352))
 (some (.inl ((10, x352))))
 (zi (a0.S) x352 fun x355 =>
 zg (IntKind.wrap .i64 (↑(UInt8.toNat x355) : Int)) fun x356 =>
 (zca x356).bind fun x357 =>
 some (.inl ((x357.fst, x352)))))
 (some (.inr (.inl ((decide (s331.fst = 6), s331))))))) ((x328.fst, 0)))
 (Sum.elim (fun (s329 : Bool × Int × Int) =>
 zk ((0 : Int) <= (0 : Int) /\ 0 <= s329.snd.snd /\ s329.snd.snd <= (↑(List.length a0.S) : Int)) (
 cond (!decide (List.drop (Int.toNat 0) (List.take (Int.toNat s329.snd.snd) a0.S) = a0.S))
 (some (.inr (6)))
 (some (.inl (16))))) some))))
 (cond (decide (a0.Kind = 3))
 ((zys (a0.S)).bind fun x360 =>
 cond (!x360)
 (some (.inr (6)))
 (some (.inl (2000))))
 (some (.inl (0)))))
 (Sum.elim (fun (s315 : Int) =>
 cond (decide (s315 < (↑(List.length a0.S) : Int)))
 (some (3))
 (some (0))) some))))) some)
def zg5 (a0 : List UInt8) : Option (Bool) :=
 cond (decide (a0 = (ByteArray.mk #[118, 97, 114]).data.toList))
 (some (false))
 (cond (decide (a0 = (ByteArray.mk #[100, 101, 102]).data.toList))
 (some (false))
 (cond (decide (a0 = (ByteArray.mk #[111, 117, 116]).data.toList))
 (some (false))
 (cond (decide (a0 = (ByteArray.mk #[105, 102]).data.toList))
 (some (false))
 (cond (decide (a0 = (ByteArray.mk #[101, 108, 115, 101]).data.toList))
 (some (false))
 (cond (decide (a0 = (ByteArray.mk #[119, 104, 105, 108, 101]).data.toList))
 (some (false))
 (cond (decide (a0 = (ByteArray.mk #[101, 110, 100]).data.toList))
 (some (false))
 (cond (decide (a0 = (ByteArray.mk #[114, 101, 108, 101, 97, 115, 101]).data.toList))
 (some (false))
 (cond (decide (a0 = (ByteArray.mk #[105, 110, 116]).data.toList))
 (some (false))
 (cond (decide (a0 = (ByteArray.mk #[99, 104, 97, 114]).data.toList))
 (some (false))
 ((zke a0).bind fun x305 =>
 cond (decide (x305.snd = 0))
 (some (false))
 ((zn0 (TK.mk 1 0 0 0 a0)).bind fun x363 =>
 some (decide (x363 = 0)))))))))))))
def xt (a0 : TL) (a1 : Int) : Option (Bool) :=
 cond (decide (0 <= a1))
 (some (decide (a1 < (↑(List.length (List.map SV.str a0.Names)) : Int))))
 (some (false))
def zop (a0 : TP) : Option (Int × Int) :=
 cond (decide (16 < (↑(List.length (List.map zX a0.Channels)) : Int)))
 (some (((-1 : Int), 3)))
 (Option.bind (
 lpO (fun (s249 : Int × List (List UInt8)) =>
 cond (decide (s249.fst < (↑(List.length (List.map zX a0.Channels)) : Int)))
 (zi (a0.Channels) (s249.fst) fun x258 =>
 (zg5 (x258.s_)).bind fun x260 =>
 cond (!x260)
 (some (.inr (.inr ((s249.fst, 24)))))
 (cond (inL (x258.s_) (s249.snd))
 (some (.inr (.inr ((s249.fst, 8)))))
 (cond (inL (x258.s_) (s249.snd))
 ((xt (a0.Lattice) (x258.at_)).bind fun x268 =>
 cond (!x268)
 (some (.inr (.inr ((s249.fst, 7)))))
 (zg (IntKind.wrap .i64 (s249.fst + 1)) fun x270 =>
 some (.inl ((x270, s249.snd)))))
 ((xt (a0.Lattice) (x258.at_)).bind fun x271 =>
 cond (!x271)
 (some (.inr (.inr ((s249.fst, 7)))))
 (zg (IntKind.wrap .i64 (s249.fst + 1)) fun x273 =>
 some (.inl ((x273, s249.snd ++ [x258.s_]))))))))
 (some (.inr (.inl ())))) ((0, [])))
 (Sum.elim (fun (_ : Unit) =>
 some ((0, 0))) some))
def znf (a0 : TL) (a1 : List Int) : Option (Int) :=
 (uJ a0).bind fun x284 =>
 cond (!decide (x284.snd = 0))
 (some (x284.snd))
 (Option.bind (
 lpO (fun (s288 : Int) =>
 cond (decide (s288 < (↑(List.length (List.map (SV.int .i64) a1)) : Int)))
 (zi a1 s288 fun x294 =>
 cond (decide (x294 < 0))
 (some (.inr (.inr (7))))
 (cond (decide ((↑(List.length (List.map SV.str a0.Names)) : Int) <= x294))
 (some (.inr (.inr (7))))
 (zg (IntKind.wrap .i64 (s288 + 1)) fun x297 =>
 some (.inl x297))))
 (some (.inr (.inl ())))) (0))
 (Sum.elim (fun (_ : Unit) =>
 some (0)) some))
def zj6 (a0 : Int) : Option (Int) :=
 zi ((ByteArray.mk (List.toArray (List.append (List.append [(0 : UInt8), 1, 1, 2, 1, 2, 2, 3, 1, 2, 2, 3, 2, 3, 3, 4, 1, 2, 2, 3, 2, 3, 3, 4, 2, 3, 3, 4, 3, 4, 4, 5, 1, 2, 2, 3, 2, 3, 3, 4, 2, 3, 3, 4, 3, 4, 4, 5, 2, 3, 3, 4, 3, 4, 4, 5, 3, 4, 4, 5, 4, 5, 5, 6] [(1 : UInt8), 2, 2, 3, 2, 3, 3, 4, 2, 3, 3, 4, 3, 4, 4, 5, 2, 3, 3, 4, 3, 4, 4, 5, 3, 4, 4, 5, 4, 5, 5, 6, 2, 3, 3, 4, 3, 4, 4, 5, 3, 4, 4, 5, 4, 5, 5, 6, 3, 4, 4, 5, 4, 5, 5, 6, 4, 5, 5, 6, 5, 6, 6, 7]) (List.append [(1 : UInt8), 2, 2, 3, 2, 3, 3, 4, 2, 3, 3, 4, 3, 4, 4, 5, 2, 3, 3, 4, 3, 4, 4, 5, 3, 4, 4, 5, 4, 5, 5, 6, 2, 3, 3, 4, 3, 4, 4, 5, 3, 4, 4, 5, 4, 5, 5, 6, 3, 4, 4, 5, 4, 5, 5, 6, 4, 5, 5, 6, 5, 6, 6, 7] [(2 : UInt8), 3, 3, 4, 3, 4, 4, 5, 3, 4, 4, 5, 4, 5, 5, 6, 3, 4, 4, 5, 4, 5, 5, 6, 4, 5, 5, 6, 5, 6, 6, 7, 3, 4, 4, 5, 4, 5, 5, 6, 4, 5, 5, 6, 5, 6, 6, 7, 4, 5, 5, 6, 5, 6, 6, 7, 5, 6, 6, 7, 6, 7, 7, 8])))).data.toList) a0 fun x306 =>
 zg (IntKind.wrap .i64 (↑(UInt8.toNat x306) : Int)) fun x307 =>
 some x307
def zpj (a0 : List Int) (a1 : Int) : Option (Int) :=
 Option.bind (
 lpO (fun (s303 : Int) =>
 zg (IntKind.wrap .i64 (a1 - 1)) fun x309 =>
 cond (decide (s303 < x309))
 (zk (0 <= s303 /\ s303 < (↑(8 : Nat) : Int)) (
 zi a0 ((↑(Int.toNat s303) : Int)) fun x311 =>
 (zj6 x311).bind fun x312 =>
 cond (decide (x312 < a1))
 (zg (IntKind.wrap .i64 (s303 + 1)) fun x314 =>
 some (.inl x314))
 (some (.inr (.inl s303)))))
 (some (.inr (.inl s303)))) (0))
 (Sum.elim (fun (s301 : Int) =>
 some s301) some)
def zjz (a0 : TL) : Option (Int × Int) :=
 (znf a0 ([])).bind fun x298 =>
 cond (!decide (x298 = 0))
 (some ((0, x298)))
 ((zdt a0).bind fun x300 =>
 (zpj (x300.up_) (x300.n_)).bind fun x315 =>
 some ((x315, 0)))
def znb (a0 : TL) (a1 : List Int) : Option (Int × Int) :=
 (uJ a0).bind fun x338 =>
 cond (!decide (x338.snd = 0))
 (some (((-1 : Int), x338.snd)))
 (cond (decide (64 < (↑(List.length (List.map (SV.int .i64) a1)) : Int)))
 (some (((-1 : Int), 3)))
 (Option.bind (
 lpO (fun (s343 : Int) =>
 cond (decide (s343 < (↑(List.length (List.map (SV.int .i64) a1)) : Int)))
 (zi a1 s343 fun x349 =>
 cond (decide (x349 < 0))
 (some (.inr (.inr ((s343, 7)))))
 (cond (decide ((↑(List.length (List.map SV.str a0.Names)) : Int) <= x349))
 (some (.inr (.inr ((s343, 7)))))
 (zg (IntKind.wrap .i64 (s343 + 1)) fun x352 =>
 some (.inl x352))))
 (some (.inr (.inl ())))) (0))
 (Sum.elim (fun (_ : Unit) =>
 some ((0, 0))) some)))
def zji (a0 : TL) (a1 : Int) (a2 : Int) : Option (Bool) :=
 zi (a0.Up) a1 fun x361 =>
 zk (0 <= a2) (
 some (decide (bits BinOp.and IntKind.u8 (Int.fdiv x361 (2 ^ min (Int.toNat a2) (IntKind.bits IntKind.u8))) 1 = 1)))
def zuk (a0 : Int) (a1 : TL) (a2 : Int) : Option (Bool) :=
 (zji a1 a0 a2).bind fun x362 =>
 some (!x362)
def zqg (a0 : List Int) (a1 : TL × Int) : Option (Int) :=
 Option.bind (
 lpO (fun (s359 : Int) =>
 cond (decide (s359 < (↑(List.length (List.map (SV.int .i64) a0)) : Int)))
 (zi a0 s359 fun x365 =>
 (zuk x365 (a1.fst) (a1.snd)).bind fun x366 =>
 cond x366
 (some (.inr (.inr s359)))
 (zg (IntKind.wrap .i64 (s359 + 1)) fun x368 =>
 some (.inl x368)))
 (some (.inr (.inl ())))) (0))
 (Sum.elim (fun (_ : Unit) =>
 some ((-1 : Int))) some)
def zg7 (a0 : TL) (a1 : List Int) (a2 : Int) : Option (Int × Int) :=
 (znb a0 a1).bind fun x353 =>
 cond (!decide (x353.snd = 0))
 (some x353)
 (cond (decide (a2 < 0))
 (some (((-1 : Int), 7)))
 (cond (decide ((↑(List.length (List.map SV.str a0.Names)) : Int) <= a2))
 (some (((-1 : Int), 7)))
 ((zqg a1 ((a0, a2))).bind fun x369 =>
 cond (decide (0 <= x369))
 (some ((x369, 25)))
 (some ((0, 0))))))
def zhf (a0 : TL) (a1 : TY) : Option (Int) :=
 (zjz a0).bind fun x316 =>
 cond (!decide (x316.snd = 0))
 (some (x316.snd))
 (cond (!decide (a1.Kind = 1))
 (cond (!decide (a1.Kind = 2))
 (some (7))
 (cond (decide (a1.Rank < 0))
 (some (7))
 (cond (decide (2 < a1.Rank))
 (some (7))
 ((xt a0 (a1.Axes.fst)).bind fun x322 =>
 cond (!x322)
 (some (7))
 ((xt a0 (a1.Axes.snd)).bind fun x324 =>
 cond (!x324)
 (some (7))
 ((xt a0 (a1.Data)).bind fun x326 =>
 cond (!x326)
 (some (7))
 (zk (0 <= a1.Rank /\ a1.Rank <= (↑(2 : Nat) : Int)) (
 Option.bind (
 lpO (fun (s330 : Int) =>
 cond (decide (s330 < (↑(List.length (List.drop (Int.toNat a1.Rank) (List.take (Int.toNat (↑(2 : Nat) : Int)) [SV.int .i64 a1.Axes.fst, SV.int .i64 a1.Axes.snd]))) : Int)))
 (zi (List.drop (Int.toNat a1.Rank) (List.take (Int.toNat (↑(2 : Nat) : Int)) [a1.Axes.fst, a1.Axes.snd])) s330 fun x335 =>
 cond (!decide (x335 = x316.fst))
 (some (.inr (.inr (6))))
 (zg (IntKind.wrap .i64 (s330 + 1)) fun x337 =>
 some (.inl x337)))
 (some (.inr (.inl ())))) (0))
 (Sum.elim (fun (_ : Unit) =>
 zk (0 <= a1.Rank /\ a1.Rank <= (↑(2 : Nat) : Int)) (
 (zg7 a0 (List.drop (Int.toNat 0) (List.take (Int.toNat a1.Rank) [a1.Axes.fst, a1.Axes.snd])) (a1.Data)).bind fun x371 =>
 cond (!decide (x371.snd = 0))
 (some (x371.snd))
 (some (0)))) some)))))))))
 (cond (decide (a1.Rank < 0))
 (some (7))
 (cond (decide (2 < a1.Rank))
 (some (7))
 ((xt a0 (a1.Axes.fst)).bind fun x375 =>
 cond (!x375)
 (some (7))
 ((xt a0 (a1.Axes.snd)).bind fun x377 =>
 cond (!x377)
 (some (7))
 ((xt a0 (a1.Data)).bind fun x379 =>
 cond (!x379)
 (some (7))
 (zk (0 <= a1.Rank /\ a1.Rank <= (↑(2 : Nat) : Int)) (
 Option.bind (
 lpO (fun (s383 : Int) =>
 cond (decide (s383 < (↑(List.length (List.drop (Int.toNat a1.Rank) (List.take (Int.toNat (↑(2 : Nat) : Int)) [SV.int .i64 a1.Axes.fst, SV.int .i64 a1.Axes.snd]))) : Int)))
 (zi (List.drop (Int.toNat a1.Rank) (List.take (Int.toNat (↑(2 : Nat) : Int)) [a1.Axes.fst, a1.Axes.snd])) s383 fun x388 =>
 cond (!decide (x388 = x316.fst))
 (some (.inr (.inr (6))))
 (zg (IntKind.wrap .i64 (s383 + 1)) fun x390 =>
 some (.inl x390)))
 (some (.inr (.inl ())))) (0))
 (Sum.elim (fun (_ : Unit) =>
 zk (0 <= a1.Rank /\ a1.Rank <= (↑(2 : Nat) : Int)) (
 (zg7 a0 (List.drop (Int.toNat 0) (List.take (Int.toNat a1.Rank) [a1.Axes.fst, a1.Axes.snd])) (a1.Data)).bind fun x391 =>
 cond (!decide (x391.snd = 0))
 (some (x391.snd))
 (some (0)))) some)))))))))
def znm (a0 : TP) : Option (Int × Int) :=
 cond (decide (32 < (↑(List.length (List.map qk a0.Vars)) : Int)))
 (some (((-1 : Int), 3)))
 (Option.bind (
 lpO (fun (s279 : Int × List (List UInt8)) =>
 cond (decide (s279.fst < (↑(List.length (List.map qk a0.Vars)) : Int)))
 (zi (a0.Vars) (s279.fst) fun x288 =>
 (zg5 (x288.Name)).bind fun x290 =>
 cond (!x290)
 (some (.inr (.inr ((s279.fst, 24)))))
 (cond (inL (x288.Name) (s279.snd))
 (some (.inr (.inr ((s279.fst, 8)))))
 (cond (inL (x288.Name) (s279.snd))
 ((zhf (a0.Lattice) (x288.Type_)).bind fun x298 =>
 cond (!decide (x298 = 0))
 (some (.inr (.inr ((s279.fst, x298)))))
 (zg (IntKind.wrap .i64 (s279.fst + 1)) fun x300 =>
 some (.inl ((x300, s279.snd)))))
 ((zhf (a0.Lattice) (x288.Type_)).bind fun x301 =>
 cond (!decide (x301 = 0))
 (some (.inr (.inr ((s279.fst, x301)))))
 (zg (IntKind.wrap .i64 (s279.fst + 1)) fun x303 =>
 some (.inl ((x303, s279.snd ++ [x288.Name]))))))))
 (some (.inr (.inl ())))) ((0, [])))
 (Sum.elim (fun (_ : Unit) =>
 some ((0, 0))) some))
def znk (a0 : TP) : Option (Int × Int) :=
 cond (decide (64 < (↑(List.length (List.map wL a0.Rules)) : Int)))
 (some (((-1 : Int), 3)))
 (Option.bind (
 lpO (fun (s309 : Int × List (Int × Int)) =>
 cond (decide (s309.fst < (↑(List.length (List.map wL a0.Rules)) : Int)))
 (zi (a0.Rules) (s309.fst) fun x322 =>
 (xt (a0.Lattice) (x322.From)).bind fun x323 =>
 cond (!x323)
 (some (.inr (.inr ((s309.fst, 7)))))
 ((xt (a0.Lattice) (x322.Goal)).bind fun x325 =>
 cond (!x325)
 (some (.inr (.inr ((s309.fst, 7)))))
 (cond (decide (x322.From = x322.Goal))
 (some (.inr (.inr ((s309.fst, 25)))))
 (zi (a0.Lattice.Up) (x322.Goal) fun x328 =>
 zk (0 <= x322.From) (
 cond (decide (bits BinOp.and IntKind.u8 (Int.fdiv x328 (2 ^ min (Int.toNat x322.From) (IntKind.bits IntKind.u8))) 1 = 0))
 (some (.inr (.inr ((s309.fst, 25)))))
 (cond (inL ((x322.From, x322.Goal)) (s309.snd))
 (some (.inr (.inr ((s309.fst, 8)))))
 (cond (decide (x322.K < 2))
 (some (.inr (.inr ((s309.fst, 3)))))
 (cond (decide (400 < x322.K))
 (some (.inr (.inr ((s309.fst, 3)))))
 (cond (inL ((x322.From, x322.Goal)) (s309.snd))
 (zg (IntKind.wrap .i64 (s309.fst + 1)) fun x338 =>
 some (.inl ((x338, s309.snd))))
 (zg (IntKind.wrap .i64 (s309.fst + 1)) fun x339 =>
 some (.inl ((x339, s309.snd ++ [(x322.From, x322.Goal)])))))))))))))
 (some (.inr (.inl ())))) ((0, [])))
 (Sum.elim (fun (_ : Unit) =>
 some ((0, 0))) some))
def zjl (a0 : TP) : Option (Int × Int × Int) :=
 Option.bind (
 (zst a0).bind fun x81 =>
 cond (!decide (x81.snd = 0))
 (some (.inl ((1, x81.snd, x81.fst))))
 ((zop a0).bind fun x83 =>
 cond (!decide (x83.snd = 0))
 (some (.inl ((2, x83.snd, x83.fst))))
 ((znm a0).bind fun x85 =>
 cond (!decide (x85.snd = 0))
 (some (.inl ((3, x85.snd, x85.fst))))
 ((znk a0).bind fun x87 =>
 cond (!decide (x87.snd = 0))
 (some (.inl ((4, x87.snd, x87.fst))))
 (some (.inl ((0, x87.snd, x87.fst))))))))
 (Sum.elim (fun (s78 : Int × Int × Int) =>
 some ((s78.fst, s78.snd.snd, s78.snd.fst))) some)
def zsy (a0 : Int) : Option (Bool) :=
 some (decide (a0 < 0))
def zs4 (a0 : List Int) : Option (Int) :=
 Option.bind (
 lpO (fun (s109 : Int) =>
 cond (decide (s109 < (↑(List.length (List.map (SV.int .i64) a0)) : Int)))
 (zi a0 s109 fun x115 =>
 (zsy x115).bind fun x116 =>
 cond x116
 (some (.inr (.inr s109)))
 (zg (IntKind.wrap .i64 (s109 + 1)) fun x118 =>
 some (.inl x118)))
 (some (.inr (.inl ())))) (0))
 (Sum.elim (fun (_ : Unit) =>
 some ((-1 : Int))) some)
def zoh (a0 : List Int) : Option (Bool) :=
 (zs4 a0).bind fun x119 =>
 some (decide (0 <= x119))
def zti (a0 : Int) : Option (Bool) :=
 some (!decide (a0 = 0))
def zus (a0 : List Int) : Option (Int) :=
 Option.bind (
 lpO (fun (s124 : Int) =>
 cond (decide (s124 < (↑(List.length (List.map (SV.int .i64) a0)) : Int)))
 (zi a0 s124 fun x130 =>
 (zti x130).bind fun x131 =>
 cond x131
 (some (.inr (.inr s124)))
 (zg (IntKind.wrap .i64 (s124 + 1)) fun x133 =>
 some (.inl x133)))
 (some (.inr (.inl ())))) (0))
 (Sum.elim (fun (_ : Unit) =>
 some ((-1 : Int))) some)
def zo2 (a0 : List Int) : Option (Bool) :=
 (zus a0).bind fun x134 =>
 some (decide (0 <= x134))
def zul (a0 : Int) : Option (Bool) :=
 some (decide (400 < a0))
def zuh (a0 : List Int) : Option (Int) :=
 Option.bind (
 lpO (fun (s139 : Int) =>
 cond (decide (s139 < (↑(List.length (List.map (SV.int .i64) a0)) : Int)))
 (zi a0 s139 fun x145 =>
 (zul x145).bind fun x146 =>
 cond x146
 (some (.inr (.inr s139)))
 (zg (IntKind.wrap .i64 (s139 + 1)) fun x148 =>
 some (.inl x148)))
 (some (.inr (.inl ())))) (0))
 (Sum.elim (fun (_ : Unit) =>
 some ((-1 : Int))) some)
def zqd (a0 : List Int) : Option (Bool) :=
 (zuh a0).bind fun x149 =>
 some (decide (0 <= x149))
def zdg (a0 : Int) (a1 : Int × Int) : Option (Int) :=
 cond (decide (a0 = 2))
 (zg (IntKind.wrap .i64 (1 * a1.snd)) fun x153 =>
 zg (IntKind.wrap .i64 (x153 * a1.fst)) fun x154 =>
 some x154)
 (cond (decide (a0 = 1))
 (zg (IntKind.wrap .i64 (1 * a1.fst)) fun x156 =>
 some x156)
 (some (1)))
def znd (a0 : Int) (a1 : Int × Int) : Option (Int) :=
 cond (decide (a0 < 0))
 (some (7))
 (cond (decide (2 < a0))
 (some (7))
 (zk (0 <= a0 /\ a0 <= (↑(2 : Nat) : Int)) (
 zk (0 <= a0 /\ a0 <= (↑(2 : Nat) : Int)) (
 (zoh (List.drop (Int.toNat 0) (List.take (Int.toNat a0) [a1.fst, a1.snd]))).bind fun x120 =>
 cond x120
 (some (7))
 ((zo2 (List.drop (Int.toNat a0) (List.take (Int.toNat (↑(2 : Nat) : Int)) [a1.fst, a1.snd]))).bind fun x135 =>
 cond x135
 (some (6))
 ((zqd (List.drop (Int.toNat 0) (List.take (Int.toNat a0) [a1.fst, a1.snd]))).bind fun x150 =>
 cond x150
 (some (15))
 ((zdg a0 a1).bind fun x157 =>
 cond (decide (400 < x157))
 (some (15))
 (some (0)))))))))
def zjt (a0 : Int) (a1 : Int × Int) : Option (Int × Int) :=
 (znd a0 a1).bind fun x159 =>
 cond (!decide (x159 = 0))
 (some ((0, x159)))
 ((zdg a0 a1).bind fun x161 =>
 some ((x161, 0)))
def zi0 (a0 : Int) (a1 : Int) : Option (Bool) :=
 cond (decide (a0 = 1))
 (some (true))
 (cond (decide (0 <= a1))
 (cond (decide (a1 <= 1114111))
 (zg (IntKind.wrap .i32 a1) fun x172 =>
 (uH x172).bind fun x173 =>
 some x173)
 (some (false)))
 (some (false)))
def zmi (a0 : Int) (a1 : TA) : Option (Bool) :=
 (zi0 (a1.Kind) a0).bind fun x174 =>
 some (!x174)
def zmv (a0 : List Int) (a1 : TA) : Option (Int) :=
 Option.bind (
 lpO (fun (s167 : Int) =>
 cond (decide (s167 < (↑(List.length (List.map (SV.int .i64) a0)) : Int)))
 (zi a0 s167 fun x173 =>
 (zmi x173 a1).bind fun x174 =>
 cond x174
 (some (.inr (.inr s167)))
 (zg (IntKind.wrap .i64 (s167 + 1)) fun x176 =>
 some (.inl x176)))
 (some (.inr (.inl ())))) (0))
 (Sum.elim (fun (_ : Unit) =>
 some ((-1 : Int))) some)
def ze0 (a0 : List Int) (a1 : TA) : Option (Bool) :=
 (zmv a0 a1).bind fun x177 =>
 some (decide (0 <= x177))
def zc3 (a0 : TA) : Option (Int) :=
 cond (!decide (a0.Kind = 1))
 (cond (!decide (a0.Kind = 2))
 (some (2))
 ((zjt (a0.Rank) (a0.Lens)).bind fun x162 =>
 cond (!decide (x162.snd = 0))
 (some (x162.snd))
 (cond (!decide ((↑(List.length (List.map (SV.int .i64) a0.Cells)) : Int) = x162.fst))
 (some (6))
 ((ze0 (a0.Cells) a0).bind fun x178 =>
 cond x178
 (some (7))
 (some (0))))))
 ((zjt (a0.Rank) (a0.Lens)).bind fun x180 =>
 cond (!decide (x180.snd = 0))
 (some (x180.snd))
 (cond (!decide ((↑(List.length (List.map (SV.int .i64) a0.Cells)) : Int) = x180.fst))
 (some (6))
 ((ze0 (a0.Cells) a0).bind fun x183 =>
 cond x183
 (some (7))
 (some (0)))))
def zii (a0 : TP) (a1 : List TW) : Option (Int × Int) :=
 (zjl a0).bind fun x95 =>
 cond (!decide (x95.snd.snd = 0))
 (some (((-1 : Int), x95.snd.snd)))
 (cond (!decide ((↑(List.length (List.map zj a1)) : Int) = (↑(List.length (List.map qk a0.Vars)) : Int)))
 (some (((-1 : Int), 3)))
 (Option.bind (
 lpO (fun (s100 : Int) =>
 cond (decide (s100 < (↑(List.length (List.map zj a1)) : Int)))
 (zi a1 s100 fun x111 =>
 zi (a0.Vars) s100 fun x112 =>
 (zc3 (x111.Value)).bind fun x113 =>
 zi (a0.Vars) s100 fun x114 =>
 cond (!decide (x111.Name = x114.Name))
 (some (.inr (.inr ((s100, 24)))))
 (cond (!decide (x113 = 0))
 (some (.inr (.inr ((s100, x113)))))
 (cond (!decide (x111.Value.Kind = x112.Type_.Kind))
 (some (.inr (.inr ((s100, 21)))))
 (cond (!decide (x111.Value.Rank = x112.Type_.Rank))
 (some (.inr (.inr ((s100, 22)))))
 (zg (IntKind.wrap .i64 (s100 + 1)) fun x119 =>
 some (.inl x119))))))
 (some (.inr (.inl ())))) (0))
 (Sum.elim (fun (_ : Unit) =>
 some ((0, 0))) some)))
def zfe (a0 : TP) (a1 : List (List TW)) : Option (Int) :=
 (zjl a0).bind fun x89 =>
 cond (!decide (x89.snd.snd = 0))
 (some (x89.snd.snd))
 (Option.bind (
 lpO (fun (s93 : Int) =>
 cond (decide (s93 < (↑(List.length (List.map (ze 6 zj) a1)) : Int)))
 (zi a1 s93 fun x99 =>
 (zii a0 x99).bind fun x100 =>
 cond (!decide (x100.snd = 0))
 (some (.inr (.inr (x100.snd))))
 (zg (IntKind.wrap .i64 (s93 + 1)) fun x102 =>
 some (.inl x102)))
 (some (.inr (.inl ())))) (0))
 (Sum.elim (fun (_ : Unit) =>
 some (0)) some))
def zhp (a0 : TL) : Option (TG × Int) :=
 (uJ a0).bind fun x122 =>
 cond (!decide (x122.snd = 0))
 (some ((TG.mk (TL.mk [] []) 0, x122.snd)))
 ((zjz a0).bind fun x124 =>
 some ((TG.mk a0 x124.fst, x124.snd)))
def xy (a0 : TG) (a1 : Int) : Option (Bool) :=
 cond (decide (0 <= a1))
 (some (decide (a1 < (↑(List.length (List.map SV.str a0.Lattice.Names)) : Int))))
 (some (false))
def zcj (a0 : TG) (a1 : Int) (a2 : Int) : Option (Bool) :=
 zi (a0.Lattice.Up) a1 fun x152 =>
 zk (0 <= a2) (
 some (decide (bits BinOp.and IntKind.u8 (Int.fdiv x152 (2 ^ min (Int.toNat a2) (IntKind.bits IntKind.u8))) 1 = 1)))
def zhs (a0 : Int) (a1 : TG) (a2 : TY) : Option (Bool) :=
 (zcj a1 a0 (a2.Data)).bind fun x153 =>
 some (!x153)
def zmh (a0 : List Int) (a1 : TG × TY) : Option (Int) :=
 Option.bind (
 lpO (fun (s150 : Int) =>
 cond (decide (s150 < (↑(List.length (List.map (SV.int .i64) a0)) : Int)))
 (zi a0 s150 fun x156 =>
 (zhs x156 (a1.fst) (a1.snd)).bind fun x157 =>
 cond x157
 (some (.inr (.inr s150)))
 (zg (IntKind.wrap .i64 (s150 + 1)) fun x159 =>
 some (.inl x159)))
 (some (.inr (.inl ())))) (0))
 (Sum.elim (fun (_ : Unit) =>
 some ((-1 : Int))) some)
def xA (a0 : List Int) (a1 : TG × TY) : Option (Bool) :=
 (zmh a0 a1).bind fun x160 =>
 some (decide (0 <= x160))
def zi1 (a0 : TG) (a1 : TY) : Option (Int) :=
 Option.bind (
 cond (!decide (a1.Kind = 1))
 (cond (!decide (a1.Kind = 2))
 (some (.inr (7)))
 (cond (decide (a1.Rank < 0))
 (some (.inr (7)))
 (cond (decide (2 < a1.Rank))
 (some (.inr (7)))
 ((xy a0 (a1.Axes.fst)).bind fun x133 =>
 cond (!x133)
 (some (.inr (7)))
 ((xy a0 (a1.Axes.snd)).bind fun x135 =>
 cond (!x135)
 (some (.inr (7)))
 ((xy a0 (a1.Data)).bind fun x137 =>
 cond (!x137)
 (some (.inr (7)))
 (some (.inl ()))))))))
 (cond (decide (a1.Rank < 0))
 (some (.inr (7)))
 (cond (decide (2 < a1.Rank))
 (some (.inr (7)))
 ((xy a0 (a1.Axes.fst)).bind fun x141 =>
 cond (!x141)
 (some (.inr (7)))
 ((xy a0 (a1.Axes.snd)).bind fun x143 =>
 cond (!x143)
 (some (.inr (7)))
 ((xy a0 (a1.Data)).bind fun x145 =>
 cond (!x145)
 (some (.inr (7)))
 (some (.inl ()))))))))
 (Sum.elim (fun (_ : Unit) =>
 zb7 (a1.Rank) [
 cond (!(decide (a0.bottom_ = a1.Axes.fst) && (decide (a0.bottom_ = a1.Axes.snd) && true)))
 (some (6))
 (zk (0 <= a1.Rank /\ a1.Rank <= (↑(2 : Nat) : Int)) (
 (xA (List.drop (Int.toNat 0) (List.take (Int.toNat a1.Rank) [a1.Axes.fst, a1.Axes.snd])) ((a0, a1))).bind fun x161 =>
 cond x161
 (some (25))
 (some (0)))),
 cond (!(decide (a1.Axes.fst = a1.Axes.fst) && (decide (a0.bottom_ = a1.Axes.snd) && true)))
 (some (6))
 (zk (0 <= a1.Rank /\ a1.Rank <= (↑(2 : Nat) : Int)) (
 (xA (List.drop (Int.toNat 0) (List.take (Int.toNat a1.Rank) [a1.Axes.fst, a1.Axes.snd])) ((a0, a1))).bind fun x164 =>
 cond x164
 (some (25))
 (some (0)))),
 cond (!(decide (a1.Axes.fst = a1.Axes.fst) && (decide (a1.Axes.snd = a1.Axes.snd) && true)))
 (some (6))
 (zk (0 <= a1.Rank /\ a1.Rank <= (↑(2 : Nat) : Int)) (
 (xA (List.drop (Int.toNat 0) (List.take (Int.toNat a1.Rank) [a1.Axes.fst, a1.Axes.snd])) ((a0, a1))).bind fun x167 =>
 cond x167
 (some (25))
 (some (0))))]) some)
def zit (a0 : TL) (a1 : TY) (a2 : Int) : Option ((Bool × Bool) × Bool × Int) :=
 (zhp a0).bind fun x125 =>
 cond (!decide (x125.snd = 0))
 (some (((false, false), false, x125.snd)))
 ((zi1 (x125.fst) a1).bind fun x169 =>
 cond (!decide (x169 = 0))
 (some (((false, false), false, x169)))
 ((xy (x125.fst) a2).bind fun x171 =>
 cond (!x171)
 (some (((false, false), false, 7)))
 (Option.bind (
 lpO (fun (s175 : Int × Bool × Bool) =>
 cond (decide (s175.fst < a1.Rank))
 (zk (0 <= s175.fst /\ s175.fst < (↑(2 : Nat) : Int)) (
 zi ([a1.Axes.fst, a1.Axes.snd]) ((↑(Int.toNat s175.fst) : Int)) fun x179 =>
 (zcj (x125.fst) x179 a2).bind fun x180 =>
 zk (0 <= s175.fst /\ s175.fst < (↑(2 : Nat) : Int)) (
 zi ([s175.snd.fst, s175.snd.snd]) ((↑(Int.toNat s175.fst) : Int)) fun _ =>
 zg (IntKind.wrap .i64 (s175.fst + 1)) fun x182 =>
 some (.inl ((x182, zid s175.snd (Int.toNat s175.fst) x180))))))
 (some (.inr (.inl (s175.snd))))) ((0, false, false)))
 (Sum.elim (fun (s173 : Bool × Bool) =>
 (zcj (x125.fst) (a1.Data) a2).bind fun x183 =>
 some ((s173, x183, 0))) some))))
def zmx (a0 : TA) (a1 : TA) : Option (Bool) :=
 cond (decide (a0.Kind = a1.Kind))
 (cond (decide (a0.Rank = a1.Rank))
 (some (decide (a0.Lens.fst = a1.Lens.fst) && (decide (a0.Lens.snd = a1.Lens.snd) && true)))
 (some (false)))
 (some (false))
def zmw (a0 : List Int) (a1 : List Int) : Option (Bool) :=
 cond (!decide ((↑(List.length (List.map (SV.int .i64) a0)) : Int) = (↑(List.length (List.map (SV.int .i64) a1)) : Int)))
 (some (false))
 (Option.bind (
 lpO (fun (s215 : Int) =>
 cond (decide (s215 < (↑(List.length (List.map (SV.int .i64) a0)) : Int)))
 (zi a0 s215 fun x221 =>
 zi a1 s215 fun x222 =>
 cond (!decide (x221 = x222))
 (some (.inr (.inr (false))))
 (zg (IntKind.wrap .i64 (s215 + 1)) fun x224 =>
 some (.inl x224)))
 (some (.inr (.inl ())))) (0))
 (Sum.elim (fun (_ : Unit) =>
 some (true)) some))
def zcx (a0 : TA) (a1 : TA) : Option (Bool) :=
 (zmx a0 a1).bind fun x210 =>
 cond x210
 ((zmw (a0.Cells) (a1.Cells)).bind fun x225 =>
 some x225)
 (some (false))
def zh7 (a0 : (Bool × Bool) × Bool) (a1 : TA) (a2 : TA) : Option (Bool) :=
 cond (!a0.fst.fst && (!a0.fst.snd && true) && (!a0.snd && true))
 (some (true))
 (Option.bind (
 lpO (fun (s196 : Int) =>
 cond (decide (s196 < 2))
 (zi ([a0.fst.fst, a0.fst.snd]) s196 fun x200 =>
 cond x200
 (zk (0 <= s196 /\ s196 < (↑(2 : Nat) : Int)) (
 zi ([a1.Lens.fst, a1.Lens.snd]) ((↑(Int.toNat s196) : Int)) fun x202 =>
 zk (0 <= s196 /\ s196 < (↑(2 : Nat) : Int)) (
 zi ([a2.Lens.fst, a2.Lens.snd]) ((↑(Int.toNat s196) : Int)) fun x203 =>
 cond (!decide (x202 = x203))
 (some (.inr (.inr (false))))
 (zg (IntKind.wrap .i64 (s196 + 1)) fun x205 =>
 some (.inl x205)))))
 (zg (IntKind.wrap .i64 (s196 + 1)) fun x206 =>
 some (.inl x206)))
 (some (.inr (.inl ())))) (0))
 (Sum.elim (fun (_ : Unit) =>
 cond (!a0.snd)
 (some (true))
 ((zcx a1 a2).bind fun x226 =>
 some x226)) some))
def zik (a0 : Int) (a1 : (Bool × Bool) × Bool) (a2 : List TW) (a3 : List TW) : Option (Int) :=
 zi a2 a0 fun x191 =>
 zi a3 a0 fun x192 =>
 (zh7 a1 (x191.Value) (x192.Value)).bind fun x227 =>
 cond x227
 (some ((-1 : Int)))
 (some a0)
def zc2 (a0 : Int) : Option (Bool) :=
 some (decide (a0 < 0))
def zhw (a0 : TP) (a1 : List TW) (a2 : List TW) (a3 : Int) : Option (List Int × Int) :=
 (zfe a0 ([a1, a2])).bind fun x103 =>
 cond (!decide (x103 = 0))
 (some (([], x103)))
 (cond (decide (a3 < 0))
 (Option.bind (
 lpO (fun (_ : Unit) =>
 some (.inr (.inl ()))) (()))
 (Sum.elim (fun (_ : Unit) =>
 some (([], 7))) some))
 (cond (decide ((↑(List.length (List.map SV.str a0.Lattice.Names)) : Int) <= a3))
 (Option.bind (
 lpO (fun (_ : Unit) =>
 some (.inr (.inl ()))) (()))
 (Sum.elim (fun (_ : Unit) =>
 some (([], 7))) some))
 (Option.bind (
 lpO (fun (s120 : Int × List Int) =>
 cond (decide (s120.fst < (↑(List.length (List.map qk a0.Vars)) : Int)))
 (zi (a0.Vars) (s120.fst) fun x132 =>
 (zit (a0.Lattice) (x132.Type_) a3).bind fun x133 =>
 cond (!decide (x133.snd.snd = 0))
 (Option.bind (
 lpO (fun (_ : Unit) =>
 some (.inr (.inl ()))) (()))
 (Sum.elim (fun (_ : Unit) =>
 some (.inr (.inr (([], x133.snd.snd))))) some))
 ((zik (s120.fst) ((x133.fst, x133.snd.fst)) a1 a2).bind fun x140 =>
 zk ((List.length (List.map (SV.int .i64) s120.snd) + (1 : Nat)) * (8 : Nat) <= (70368744177664 : Nat)) (
 zg (IntKind.wrap .i64 (s120.fst + 1)) fun x141 =>
 some (.inl ((x141, s120.snd ++ [x140]))))))
 (some (.inr (.inl ((decide (s120.fst < (↑(List.length (List.map qk a0.Vars)) : Int)), s120)))))) ((0, [])))
 (Sum.elim (fun (s118 : Bool × Int × List Int) =>
 Option.bind (
 lpO (fun (s146 : Int) =>
 cond (decide (s146 < (↑(List.length (List.map (SV.int .i64) s118.snd.snd)) : Int)))
 (zk (0 <= s146 /\ s146 < (↑(List.length (List.map (SV.int .i64) s118.snd.snd)) : Int)) (
 zi (s118.snd.snd) ((↑(Int.toNat s146) : Int)) fun x168 =>
 (zc2 x168).bind fun x169 =>
 cond x169
 (cond (decide (s146 = (-1 : Int)))
 (some (.inr (.inr ((s118.snd.snd, 0)))))
 (zg (IntKind.wrap .i64 (s146 + 1)) fun x172 =>
 Option.bind (
 lpO (fun (s175 : Int × Int × List Int) =>
 cond (decide (s175.fst < (↑(List.length (List.map (SV.int .i64) s175.snd.snd)) : Int)))
 (zk (0 <= s175.fst /\ s175.fst < (↑(List.length (List.map (SV.int .i64) s175.snd.snd)) : Int)) (
 zi (s175.snd.snd) ((↑(Int.toNat s175.fst) : Int)) fun x185 =>
 (zc2 x185).bind fun x186 =>
 cond (!x186)
 (zk (0 <= s175.snd.fst /\ s175.snd.fst < (↑(List.length (List.map (SV.int .i64) s175.snd.snd)) : Int)) (
 zi (s175.snd.snd) ((↑(Int.toNat s175.snd.fst) : Int)) fun _ =>
 zg (IntKind.wrap .i64 (s175.snd.fst + 1)) fun x189 =>
 zg (IntKind.wrap .i64 (s175.fst + 1)) fun x190 =>
 some (.inl ((x190, x189, List.set s175.snd.snd (Int.toNat s175.snd.fst) x185)))))
 (zg (IntKind.wrap .i64 (s175.fst + 1)) fun x191 =>
 some (.inl ((x191, s175.snd))))))
 (some (.inr (.inl ((decide (s175.fst < (↑(List.length (List.map (SV.int .i64) s175.snd.snd)) : Int)), s175)))))) ((x172, s146, s118.snd.snd)))
 (Sum.elim (fun (s173 : Bool × Int × Int × List Int) =>
 zk (0 <= s173.snd.snd.fst /\ s173.snd.snd.fst < (↑(List.length (List.map (SV.int .i64) s173.snd.snd.snd)) : Int)) (
 zk ((1 : Nat) <= List.length (List.map (SV.int .i64) s173.snd.snd.snd) - Int.toNat s173.snd.snd.fst /\ Int.toNat s173.snd.snd.fst + (List.length (List.map (SV.int .i64) s173.snd.snd.snd) - Int.toNat s173.snd.snd.fst) <= List.length (List.map (SV.int .i64) s173.snd.snd.snd)) (
 zk (0 <= s173.snd.snd.fst /\ s173.snd.snd.fst <= (↑(List.length (List.take (Int.toNat s173.snd.snd.fst) (List.map (SV.int .i64) s173.snd.snd.snd) ++ (List.replicate (List.length (List.map (SV.int .i64) s173.snd.snd.snd) - Int.toNat s173.snd.snd.fst) (SV.int .i64 (0 : Int)) ++ List.drop (Int.toNat s173.snd.snd.fst + (List.length (List.map (SV.int .i64) s173.snd.snd.snd) - Int.toNat s173.snd.snd.fst)) (List.map (SV.int .i64) s173.snd.snd.snd)))) : Int)) (
 some (.inr (.inr ((List.drop (Int.toNat 0) (List.take (Int.toNat s173.snd.snd.fst) (List.take (Int.toNat s173.snd.snd.fst) s173.snd.snd.snd ++ (List.replicate (List.length (List.map (SV.int .i64) s173.snd.snd.snd) - Int.toNat s173.snd.snd.fst) 0 ++ List.drop (Int.toNat s173.snd.snd.fst + (List.length (List.map (SV.int .i64) s173.snd.snd.snd) - Int.toNat s173.snd.snd.fst)) s173.snd.snd.snd))), 0)))))))) some)))
 (zg (IntKind.wrap .i64 (s146 + 1)) fun x192 =>
 some (.inl x192))))
 (some (.inr (.inl ((decide (s146 < (↑(List.length (List.map (SV.int .i64) s118.snd.snd)) : Int)), s146)))))) (0))
 (Sum.elim (fun (_ : Bool × Int) =>
 some ((s118.snd.snd, 0))) some)) some))))
def ud (a0 : TP) (a1 : List TW) (a2 : List TW) (a3 : Int) : Option (Bool × Int) :=
 (zhw a0 a1 a2 a3).bind fun x193 =>
 cond (decide (x193.snd = 0))
 (some ((decide ((↑(List.length (List.map (SV.int .i64) x193.fst)) : Int) = 0), x193.snd)))
 (some ((false, x193.snd)))
def zh6 (a0 : TL) (a1 : Int) (a2 : Int) : Option (Int) :=
 (zd0 (a0.Up) a1 a2).bind fun x190 =>
 some x190
def ze7 (a0 : TL) : Option (Int × Int) :=
 (zhb a0 (0) (0)).bind fun x185 =>
 cond (!decide (x185 = 0))
 (some ((0, x185)))
 (Option.bind (
 lpO (fun (s189 : Int × Int) =>
 cond (decide (s189.fst < (↑(List.length (List.map SV.str a0.Names)) : Int)))
 ((zh6 a0 (s189.fst) (s189.snd)).bind fun x193 =>
 zg (IntKind.wrap .i64 (s189.fst + 1)) fun x194 =>
 some (.inl ((x194, x193))))
 (some (.inr (.inl (s189.snd))))) ((0, 0)))
 (Sum.elim (fun (s187 : Int) =>
 some ((s187, 0))) some))
def zhl (a0 : TW) (a1 : TW) : Option (Bool) :=
 cond (decide (a0.Name = a1.Name))
 ((zcx (a0.Value) (a1.Value)).bind fun x205 =>
 some x205)
 (some (false))
def zmj (a0 : List TW) (a1 : List TW) : Option (Bool) :=
 cond (!decide ((↑(List.length (List.map zj a0)) : Int) = (↑(List.length (List.map zj a1)) : Int)))
 (some (false))
 (Option.bind (
 lpO (fun (s201 : Int) =>
 cond (decide (s201 < (↑(List.length (List.map zj a0)) : Int)))
 (zi a0 s201 fun x208 =>
 zi a1 s201 fun x209 =>
 (zhl x208 x209).bind fun x210 =>
 cond (!x210)
 (some (.inr (.inr (false))))
 (zg (IntKind.wrap .i64 (s201 + 1)) fun x212 =>
 some (.inl x212)))
 (some (.inr (.inl ())))) (0))
 (Sum.elim (fun (_ : Unit) =>
 some (true)) some))
def zic (a0 : List TW) (a1 : List TW) : Option (Bool) :=
 (zmj a0 a1).bind fun x213 =>
 some x213
def zmr (a0 : TP) (a1 : List TW × List TW × List TW) : Option (Bool) :=
 (Fz4 a0 (a1.fst) (a1.snd.fst)).bind fun x61 =>
 cond x61
 (some (true))
 ((Fz3 (a1.snd.snd)).bind fun x63 =>
 cond x63
 (some (true))
 (Option.bind (
 lpO (fun (s67 : Int) =>
 cond (decide (s67 < 3))
 (zk (0 <= s67 /\ s67 < (↑(3 : Nat) : Int)) (
 zi ([a1.fst, a1.snd.fst, a1.snd.snd]) ((↑(Int.toNat s67) : Int)) fun x71 =>
 (znj a0 x71).bind fun x72 =>
 cond (!decide (x72.snd = 0))
 (some (.inr (.inr (true))))
 (zg (IntKind.wrap .i64 (s67 + 1)) fun x74 =>
 some (.inl x74))))
 (some (.inr (.inl ())))) (0))
 (Sum.elim (fun (_ : Unit) =>
 Option.bind (
 lpO (fun (s77 : Int × List Bool) =>
 cond (decide (s77.fst < (↑(List.length (List.map SV.str a0.Lattice.Names)) : Int)))
 ((ud a0 (a1.fst) (a1.snd.fst) (s77.fst)).bind fun x103 =>
 (ud a0 (a1.snd.fst) (a1.snd.snd) (s77.fst)).bind fun x104 =>
 (ud a0 (a1.fst) (a1.snd.snd) (s77.fst)).bind fun x105 =>
 (ud a0 (a1.snd.fst) (a1.fst) (s77.fst)).bind fun x106 =>
 (ud a0 (a1.fst) (a1.fst) (s77.fst)).bind fun x107 =>
 cond (!decide (x103.snd = 0))
 (some (.inr (.inr (false))))
 (cond (!decide (x104.snd = 0))
 (some (.inr (.inr (false))))
 (cond (!decide (x105.snd = 0))
 (some (.inr (.inr (false))))
 (cond (!decide (x106.snd = 0))
 (some (.inr (.inr (false))))
 (cond (!decide (x107.snd = 0))
 (some (.inr (.inr (false))))
 (cond (!x103.fst == x106.fst)
 (some (.inr (.inr (false))))
 (cond (!x107.fst)
 (some (.inr (.inr (false))))
 (cond (x103.fst)
 (cond (x104.fst)
 (cond (!x105.fst)
 (some (.inr (.inr (false))))
 (cond (x105.fst)
 (cond (!x104.fst)
 (some (.inr (.inr (false))))
 (cond (!x103.fst)
 (some (.inr (.inr (false))))
 (zk (0 <= s77.fst /\ s77.fst < (↑(8 : Nat) : Int)) (
 zi (s77.snd) ((↑(Int.toNat s77.fst) : Int)) fun _ =>
 zg (IntKind.wrap .i64 (s77.fst + 1)) fun x122 =>
 some (.inl ((x122, List.set s77.snd (Int.toNat s77.fst) x103.fst)))))))
 (zk (0 <= s77.fst /\ s77.fst < (↑(8 : Nat) : Int)) (
 zi (s77.snd) ((↑(Int.toNat s77.fst) : Int)) fun _ =>
 zg (IntKind.wrap .i64 (s77.fst + 1)) fun x124 =>
 some (.inl ((x124, List.set s77.snd (Int.toNat s77.fst) x103.fst)))))))
 (cond (x105.fst)
 (cond (!x104.fst)
 (some (.inr (.inr (false))))
 (zk (0 <= s77.fst /\ s77.fst < (↑(8 : Nat) : Int)) (
 zi (s77.snd) ((↑(Int.toNat s77.fst) : Int)) fun _ =>
 zg (IntKind.wrap .i64 (s77.fst + 1)) fun x128 =>
 some (.inl ((x128, List.set s77.snd (Int.toNat s77.fst) x103.fst))))))
 (zk (0 <= s77.fst /\ s77.fst < (↑(8 : Nat) : Int)) (
 zi (s77.snd) ((↑(Int.toNat s77.fst) : Int)) fun _ =>
 zg (IntKind.wrap .i64 (s77.fst + 1)) fun x130 =>
 some (.inl ((x130, List.set s77.snd (Int.toNat s77.fst) x103.fst)))))))
 (cond (x104.fst)
 (cond (x105.fst)
 (cond (!x103.fst)
 (some (.inr (.inr (false))))
 (zk (0 <= s77.fst /\ s77.fst < (↑(8 : Nat) : Int)) (
 zi (s77.snd) ((↑(Int.toNat s77.fst) : Int)) fun _ =>
 zg (IntKind.wrap .i64 (s77.fst + 1)) fun x135 =>
 some (.inl ((x135, List.set s77.snd (Int.toNat s77.fst) x103.fst))))))
 (zk (0 <= s77.fst /\ s77.fst < (↑(8 : Nat) : Int)) (
 zi (s77.snd) ((↑(Int.toNat s77.fst) : Int)) fun _ =>
 zg (IntKind.wrap .i64 (s77.fst + 1)) fun x137 =>
 some (.inl ((x137, List.set s77.snd (Int.toNat s77.fst) x103.fst))))))
 (zk (0 <= s77.fst /\ s77.fst < (↑(8 : Nat) : Int)) (
 zi (s77.snd) ((↑(Int.toNat s77.fst) : Int)) fun _ =>
 zg (IntKind.wrap .i64 (s77.fst + 1)) fun x139 =>
 some (.inl ((x139, List.set s77.snd (Int.toNat s77.fst) x103.fst))))))))))))))
 (some (.inr (.inl (s77.snd))))) ((0, [false, false, false, false, false, false, false, false])))
 (Sum.elim (fun (s75 : List Bool) =>
 Option.bind (
 lpO (fun (s142 : Int) =>
 cond (decide (s142 < (↑(List.length (List.map SV.str a0.Lattice.Names)) : Int)))
 (Option.bind (
 lpO (fun (s166 : Int) =>
 cond (decide (s166 < (↑(List.length (List.map SV.str a0.Lattice.Names)) : Int)))
 ((Fz9 (a0.Lattice) s166 s142).bind fun x175 =>
 cond x175
 (zk (0 <= s142 /\ s142 < (↑(8 : Nat) : Int)) (
 zi s75 ((↑(Int.toNat s142) : Int)) fun x177 =>
 cond x177
 (zk (0 <= s166 /\ s166 < (↑(8 : Nat) : Int)) (
 zi s75 ((↑(Int.toNat s166) : Int)) fun x179 =>
 cond (!x179)
 (some (.inr (.inr (.inr (.inr (false))))))
 (zg (IntKind.wrap .i64 (s166 + 1)) fun x181 =>
 some (.inl x181))))
 (zg (IntKind.wrap .i64 (s166 + 1)) fun x182 =>
 some (.inl x182))))
 (zg (IntKind.wrap .i64 (s166 + 1)) fun x183 =>
 some (.inl x183)))
 (some (.inr (.inl ())))) (0))
 (Sum.elim (fun (_ : Unit) =>
 zg (IntKind.wrap .i64 (s142 + 1)) fun x184 =>
 some (.inl x184)) some))
 (some (.inr (.inl ())))) (0))
 (Sum.elim (fun (_ : Unit) =>
 (ze7 (a0.Lattice)).bind fun x195 =>
 cond (decide (x195.snd = 0))
 (zk (0 <= x195.fst /\ x195.fst < (↑(8 : Nat) : Int)) (
 zi s75 ((↑(Int.toNat x195.fst) : Int)) fun x197 =>
 (zic (a1.fst) (a1.snd.fst)).bind fun x214 =>
 cond (x197 == x214)
 (some (true))
 (some (false))))
 (some (false))) some)) some)) some)))
end Go.Sx.O
end
namespace Go.Sx.O
open Go
theorem zk8 {α τ : Type} {l : List α} (p : α -> Bool) {step : Int -> Option (Int ⊕ τ)} {d : τ} {g : Int -> τ}
 (h1 : ∀ (k : Nat) x, l[k]? = some x -> step (k : Int) = if p x then some (.inr (g k)) else some (.inl ((k : Int) + 1)))
 (h2 : step (l.length : Int) = some (.inr d)) :
 lpO step 0 = (match l.findIdx? p with | some i => some (g i) | none => some d) := by
 have key : ∀ j k, j + k = l.length -> lpO step (k : Int) = (match (l.drop k).findIdx? p with | some i => some (g ((k + i : Nat) : Int)) | none => some d) := by
  intro j
  induction j with
  | zero =>
    intro k hk
    rw [qC]
    have : k = l.length := by omega
    subst this
    rw [h2]
    simp
  | succ j ih =>
    intro k hk
    have hlt : k < l.length := by omega
    rw [qC, h1 k _ (List.getElem?_eq_getElem hlt), List.drop_eq_getElem_cons hlt, List.findIdx?_cons]
    split
    . simp
    . have := ih (k + 1) (by omega)
      simp only [Option.bind_some, Sum.elim_inl]
      push_cast at this
      rw [this]
      cases (l.drop (k + 1)).findIdx? p with
      | none => rfl
      | some i => simp; congr 1; omega
 have := key l.length 0 (by omega)
 simpa using this
end Go.Sx.O
namespace Go.Sx.O
open Go
theorem dropWhile_nil {α : Type} {p : α -> Bool} : ∀ {l : List α}, l.dropWhile p = [] ↔ ∀ x ∈ l, p x = true
 | [] => by simp
 | a :: l => by
   rw [List.dropWhile_cons]
   cases h : p a with
   | true => simp [h, dropWhile_nil (l := l)]
   | false => simp [h]
theorem zd5 (l : List (List UInt8)) (s : List UInt8) (hl : l.length <= 1000000000) :
 znp l s = some (match l.findIdx? (fun x => decide (s = x)) with | some i => (i : Int) | none => -1) := by
 unfold znp
 rw [zk8 (l := l) (fun x => decide (s = x)) (d := .inl ()) (g := .inr) ?_ ?_]
 . cases l.findIdx? (fun x => decide (s = x)) <;> rfl
 . intro k x hx
   have hlt : k < l.length := by
    by_cases h : k < l.length
    . exact h
    . rw [List.getElem?_eq_none (by omega)] at hx; cases hx
   simp only [List.length_map, Int.ofNat_lt, hlt, decide_true, cond_true, zi, Int.toNat_natCast, hx, Option.bind_some, zg, Int.natCast_nonneg, if_true]
   rw [w64 (by omega) (by omega)]
   cases decide (s = x) <;> rfl
 . simp
theorem xi (l : List (List UInt8)) (s : List UInt8) (hl : l.length <= 1000000000) :
 zpu l s = some (decide (s ∈ l)) := by
 unfold zpu
 rw [zd5 l s hl]
 cases h : l.findIdx? (fun x => decide (s = x)) with
 | none =>
   have := List.findIdx?_eq_none_iff.1 h
   simp only [Option.bind_some]
   congr 1
   have hn : s ∉ l := fun hm => by have := this s hm; simp at this
   simp [hn]
 | some i =>
   have := List.findIdx?_eq_some_iff_getElem.1 h
   obtain ⟨hi, h1, _⟩ := this
   have hm : s ∈ l := by
    have e : s = l[i] := by simpa using h1
    rw [e]; exact List.getElem_mem hi
   simp [hm]
def yQ (set : List Bool) (c : UInt8) : Bool := set.getD c.toNat false
theorem zdi (set : List Bool) (c : UInt8) (h : set.length = 256) : zkh set (c.toNat : Int) = some (yQ set c) := by
 unfold zkh
 have hc : c.toNat < 256 := c.toNat_lt
 have h2 : set[c.toNat]? = some (set[c.toNat]'(by omega)) := List.getElem?_eq_getElem _
 have h3 : (c.toNat : Int) < 256 := by omega
 simp [zk, zi, yQ, h2, h3]
def ui (p : UInt8 -> Bool) (s : List UInt8) : List UInt8 := (s.reverse.dropWhile p).reverse
theorem zwp {p : UInt8 -> Bool} {s : List UInt8} : (ui p s).dropWhile p = [] ↔ ∀ c ∈ s, p c = true := by
 unfold ui
 constructor
 . intro h c hc
   have h1 : ∀ c ∈ (s.reverse.dropWhile p).reverse, p c = true := dropWhile_nil.1 h
   have h2 : s.reverse.dropWhile p = [] := by
    cases e : s.reverse.dropWhile p with
    | nil => rfl
    | cons a r =>
      have := List.head?_dropWhile_not p s.reverse
      rw [e] at this
      simp at this
      rw [e] at h1
      rw [h1 a (by simp)] at this
      cases this
   exact dropWhile_nil.1 h2 c (by simpa using hc)
 . intro h
   have : s.reverse.dropWhile p = [] := dropWhile_nil.2 fun c hc => h c (by simpa using hc)
   rw [this]; rfl
theorem zdm (s : List UInt8) (set : List Bool) (h : set.length = 256) (hs : s.length <= 1000000000) : zkf s set = some (ui (yQ set) s) := by
 unfold zkf
 apply Tot.eq
 simp only [zw]
 refine Tot.loop (fun s => s.length) (fun r => r.length <= 1000000000 /\ ui (yQ set) r = ui (yQ set) s) ?_ ⟨hs, rfl⟩
 rintro r ⟨hr, he⟩
 simp only [zq, zH, qb, qo, qL, zw, Sum.elim_inl, Sum.elim_inr, decide_eq_true_eq, decide_eq_false_iff_not]
 refine ⟨fun h1 => ?_, fun h1 => ?_⟩
 . have h0 : r ≠ [] := by rintro rfl; simp at h1
   rw [w64 (by omega) (by omega)]
   have e1 : ((r.length : Int) - 1).toNat = r.length - 1 := by omega
   rw [e1]
   refine ⟨by omega, _, List.getElem?_eq_getElem (by omega), ?_⟩
   rw [zdi set _ h]
   simp only [zq, Bool.not_eq_true', Bool.not_eq_false']
   have hr2 : r = r.dropLast ++ [r[r.length - 1]'(by omega)] := by
    rw [<- List.getLast_eq_getElem h0]; exact (List.dropLast_concat_getLast h0).symm
   refine ⟨fun h2 => ?_, fun h2 => ⟨⟨by omega, by omega⟩, ⟨by simp; omega, ?_⟩, by simp; omega⟩⟩
   . rw [<- he]
     unfold ui
     rw [hr2]
     simp [h2]
   . rw [<- he]
     simp only [Int.toNat_zero, List.drop_zero]
     rw [<- List.dropLast_eq_take]
     conv => rhs; rw [hr2]
     unfold ui
     simp [h2]
 . have h0 : r = [] := List.length_eq_zero_iff.1 (by omega)
   rw [<- he, h0]; rfl
theorem zer (s : List UInt8) (set : List Bool) (h : set.length = 256) (hs : s.length <= 1000000000) : zkc s set = some (s.dropWhile (yQ set)) := by
 unfold zkc
 apply Tot.eq
 simp only [zw]
 refine Tot.loop (fun s => s.length) (fun r => r.length <= 1000000000 /\ r.dropWhile (yQ set) = s.dropWhile (yQ set)) ?_ ⟨hs, rfl⟩
 rintro r ⟨hr, he⟩
 simp only [zq, zH, qb, qo, qL, zw, Sum.elim_inl, Sum.elim_inr, decide_eq_true_eq, decide_eq_false_iff_not]
 cases r with
 | nil => simp [<- he]
 | cons a r =>
   refine ⟨fun h1 => ⟨by omega, a, rfl, ?_⟩, fun h1 => absurd h1 (by simp)⟩
   rw [zdi set _ h]
   simp only [zq, Bool.not_eq_true', Bool.not_eq_false']
   refine ⟨fun h2 => ?_, fun h2 => ⟨by simp; omega, ⟨?_, ?_⟩, ?_⟩⟩
   . rw [<- he]; simp [h2]
   . simp at hr ⊢; omega
   . rw [<- he]; simp [h2]
   . simp
end Go.Sx.O
namespace Go.Sx.O
open Go
theorem zu2 {set : List Bool} {c d : UInt8} (h : set.length = 256) : yQ (set.set c.toNat true) d = (decide (d = c) || yQ set d) := by
 have hc : c.toNat < 256 := c.toNat_lt
 unfold yQ
 rw [List.getD_eq_getElem?_getD, List.getD_eq_getElem?_getD, List.getElem?_set]
 by_cases e : c.toNat = d.toNat
 . have : d = c := (UInt8.toNat_inj.1 e).symm
   subst this
   simp [h, hc]
 . have : d ≠ c := fun e' => e (by rw [e'])
   simp [e, this]
theorem zfk (cs : List UInt8) (h : ∀ c ∈ cs, c.toNat < 128) (hs : cs.length <= 1000000000) : Tot (zjr cs) fun r => r.2 = true /\ r.1.length = 256 /\ ∀ d, yQ r.1 d = decide (d ∈ cs) := by
 unfold zjr
 simp only [zw]
 refine Tot.count cs.length (fun k s => s.1 = (k : Int) /\ s.2.length = 256 /\ ∀ d, yQ s.2 d = decide (d ∈ cs.take k)) ?_ ⟨rfl, List.length_replicate, fun d => ?_⟩
 . rintro k ⟨i, set⟩ hk ⟨h0, h1, h2⟩
   simp only at h0 h1 h2
   subst h0
   simp only [zq, zH, qb, qo, qL, Sum.elim_inl, Sum.elim_inr, decide_eq_true_eq, decide_eq_false_iff_not, Int.toNat_natCast]
   refine ⟨fun hlt => ⟨by omega, _, List.getElem?_eq_getElem (by omega), fun h3 => ?_, fun h3 => ?_⟩, fun hlt => ?_⟩
   . have := h cs[k] (List.getElem_mem _)
     omega
   . have hc : cs[k].toNat < 256 := (cs[k]'(by omega)).toNat_lt
     refine ⟨⟨by omega, by omega⟩, by omega, _, List.getElem?_eq_getElem (by omega), ?_⟩
     rw [w64 (by omega) (by omega)]
     refine ⟨by omega, by omega, by simpa using h1, fun d => ?_⟩
     have hm : d ∈ cs.take (k + 1) ↔ d ∈ cs.take k \/ d = cs[k] := by
      rw [List.take_add_one, List.getElem?_eq_getElem (by omega), List.mem_append]
      simp
     rw [zu2 h1, h2, Bool.eq_iff_iff]
     simp only [Bool.or_eq_true, decide_eq_true_eq, hm]
     exact or_comm
   . refine ⟨trivial, h1, fun d => ?_⟩
     rw [h2, List.take_of_length_le (by omega)]
 . unfold yQ
   rw [List.getD_eq_getElem?_getD, List.getElem?_replicate]
   split <;> simp
theorem zvo (s cs : List UInt8) (h : ∀ c ∈ cs, c.toNat < 128) (h1 : 2 <= cs.length) (hs : cs.length <= 1000000000) (hl : s.length <= 1000000000) :
 zny s cs = some ((ui (fun c => decide (c ∈ cs)) s).dropWhile (fun c => decide (c ∈ cs))) := by
 unfold zny
 have e0 : (ByteArray.mk #[]).data.toList = [] := rfl
 simp only [e0]
 cases s with
 | nil => simp [ui]
 | cons a r =>
   have e1 : decide (a :: r = []) = false := by simp
   have e2 : decide (cs = []) = false := by cases cs <;> simp at h1 ⊢
   have e3 : decide ((cs.length : Int) = 1) = false := by simp; omega
   simp only [e1, e2, e3, cond_false]
   obtain ⟨x, hx, hx1, hx2, hx3⟩ := zfk cs h hs
   have e4 : yQ x.1 = fun c => decide (c ∈ cs) := funext hx3
   rw [hx]
   simp only [Option.bind_some, hx1, cond_true]
   rw [zdm _ _ hx2 hl]
   simp only [Option.bind_some]
   rw [zer _ _ hx2 (by
    refine Nat.le_trans ?_ hl
    unfold ui
    rw [List.length_reverse]
    refine Nat.le_trans (List.dropWhile_sublist _).length_le (by simp))]
   rw [e4]
   rfl
def jw : List UInt8 := [97, 98, 99, 100, 101, 102, 103, 104, 105, 106, 107, 108, 109, 110, 111, 112, 113, 114, 115, 116, 117, 118, 119, 120, 121, 122, 48, 49, 50, 51, 52, 53, 54, 55, 56, 57, 45]
def zcs (s : List UInt8) : Bool := decide (s.length <= 16) && (match s with | [] => false | c :: _ => decide (97 <= c.toNat) && decide (c.toNat <= 122)) && s.all fun c => decide (c ∈ jw)
theorem zll (s : List UInt8) (hl : s.length <= 1000000000) : zn9 s = some (zcs s) := by
 unfold zn9
 have e0 : (ByteArray.mk #[]).data.toList = [] := rfl
 simp only [e0]
 rw [zvo s _ (by decide) (by decide) (by decide) hl]
 cases s with
 | nil => rfl
 | cons a r =>
   have e1 : decide (a :: r = []) = false := by simp
   simp only [e1, cond_false, Option.bind_some]
   have e5 : zi (a :: r) 0 = fun f => (f a : Option Bool) := rfl
   simp only [e5]
   unfold zcs
   by_cases h1 : (16 : Int) < ((a :: r).length : Int)
   . have : ¬ (a :: r).length <= 16 := by omega
     simp only [h1, decide_true, cond_true, this, decide_false, Bool.false_and]
   . have h1' : (a :: r).length <= 16 := by omega
     simp only [h1, decide_false, cond_false, h1', decide_true, Bool.true_and]
     by_cases h2 : (a.toNat : Int) < 97
     . have : ¬ 97 <= a.toNat := by omega
       simp only [h2, decide_true, cond_true, this, decide_false, Bool.false_and]
     . have h2' : 97 <= a.toNat := by omega
       simp only [h2, decide_false, cond_false, h2', decide_true, Bool.true_and]
       by_cases h3 : (122 : Int) < (a.toNat : Int)
       . have : ¬ a.toNat <= 122 := by omega
         simp only [h3, decide_true, cond_true, this, decide_false, Bool.false_and]
       . have h3' : a.toNat <= 122 := by omega
         simp only [h3, decide_false, cond_false, h3', decide_true, Bool.true_and]
         congr 1
         rw [Bool.eq_iff_iff, decide_eq_true_eq, zwp, List.all_eq_true]
         rfl
end Go.Sx.O
namespace Go.Sx.O
open Go
theorem zBs : ∀ u : Fin 256, ∀ b : Fin 9, bits .and .u8 (Int.fdiv (u.val : Int) (2 ^ min b.val (IntKind.bits .u8))) 1 = if Nat.testBit u b then 1 else 0 := by decide +kernel
theorem zde {u : Int} {b : Nat} (h0 : 0 <= u) (h1 : u < 256) (hb : b <= 8) : bits .and .u8 (Int.fdiv u (2 ^ min b (IntKind.bits .u8))) 1 = if u.toNat.testBit b then 1 else 0 := by
 have := zBs ⟨u.toNat, by omega⟩ ⟨b, by omega⟩
 simp only at this
 rw [Int.toNat_of_nonneg h0] at this
 exact this
theorem xL {u : Int} (h0 : 0 <= u) : BitVec.ofInt 8 u = BitVec.ofNat 8 u.toNat := by
 conv => lhs; rw [<- Int.toNat_of_nonneg h0]
 exact BitVec.ofInt_natCast 8 u.toNat
theorem zj1 {n : Nat} (h : n < 256) : IntKind.wrap .u8 (n : Int) = n := by
 simp only [IntKind.wrap, IntKind.signed, IntKind.bits, Bool.false_and]
 have h3 : (2 : Int) ^ 8 = 256 := by decide
 simp only [h3]
 have : (n : Int) % 256 = n := by omega
 simp [this]
theorem zce {a b : Int} (ha : 0 <= a) (ha' : a < 256) (hb : 0 <= b) (hb' : b < 256) : bits .and .u8 a b = ((a.toNat &&& b.toNat : Nat) : Int) := by
 have e : bits .and .u8 a b = IntKind.wrap .u8 ((BitVec.ofInt 8 a &&& BitVec.ofInt 8 b).toNat : Int) := rfl
 rw [e, xL ha, xL hb]
 rw [zj1 (BitVec.isLt _)]
 rw [BitVec.toNat_and, BitVec.toNat_ofNat, BitVec.toNat_ofNat, Nat.mod_eq_of_lt (by omega), Nat.mod_eq_of_lt (by omega)]
theorem zr5 {a b : Int} (ha : 0 <= a) (ha' : a < 256) (hb : 0 <= b) (hb' : b < 256) : bits .or .u8 a b = ((a.toNat ||| b.toNat : Nat) : Int) := by
 have e : bits .or .u8 a b = IntKind.wrap .u8 ((BitVec.ofInt 8 a ||| BitVec.ofInt 8 b).toNat : Int) := rfl
 rw [e, xL ha, xL hb]
 rw [zj1 (BitVec.isLt _)]
 rw [BitVec.toNat_or, BitVec.toNat_ofNat, BitVec.toNat_ofNat, Nat.mod_eq_of_lt (by omega), Nat.mod_eq_of_lt (by omega)]
theorem zbt {a b : Int} (ha : 0 <= a) (ha' : a < 256) (hb : 0 <= b) (hb' : b < 256) : bits .andNot .u8 a b = 0 ↔ ∀ i, a.toNat.testBit i = true -> b.toNat.testBit i = true := by
 have e : bits .andNot .u8 a b = IntKind.wrap .u8 ((BitVec.ofInt 8 a &&& ~~~BitVec.ofInt 8 b).toNat : Int) := rfl
 rw [e, xL ha, xL hb]
 rw [zj1 (BitVec.isLt _)]
 have hbit : ∀ i, (BitVec.ofNat 8 a.toNat &&& ~~~BitVec.ofNat 8 b.toNat).getLsbD i = (decide (i < 8) && a.toNat.testBit i && !(b.toNat.testBit i)) := by
  intro i
  rw [BitVec.getLsbD_and, BitVec.getLsbD_not, BitVec.getLsbD_ofNat, BitVec.getLsbD_ofNat]
  cases decide (i < 8) <;> simp
 have h8 : ∀ i, a.toNat.testBit i = true -> i < 8 := by
  intro i hi
  rcases Nat.lt_or_ge i 8 with g | g
  . exact g
  . rw [Nat.testBit_lt_two_pow (Nat.lt_of_lt_of_le (show a.toNat < 2 ^ 8 by omega) (Nat.pow_le_pow_right (by omega) g))] at hi
    cases hi
 constructor
 . intro h i hi
   have h0 : (BitVec.ofNat 8 a.toNat &&& ~~~BitVec.ofNat 8 b.toNat).toNat = 0 := Int.ofNat_eq_zero.1 h
   have h1 := hbit i
   rw [<- BitVec.testBit_toNat, h0, Nat.zero_testBit] at h1
   have := h8 i hi
   simp [this, hi] at h1
   exact h1
 . intro h
   have h1 : (BitVec.ofNat 8 a.toNat &&& ~~~BitVec.ofNat 8 b.toNat).toNat = 0 := by
    apply Nat.eq_of_testBit_eq
    intro i
    rw [BitVec.testBit_toNat, hbit i, Nat.zero_testBit]
    cases hi : a.toNat.testBit i with
    | false => simp
    | true => simp [h i hi]
   rw [h1]; rfl
theorem zd8 {a b : Nat} (h : a < 256) : a &&& b < 256 := Nat.lt_of_le_of_lt Nat.and_le_left h
theorem zDb {a b : Nat} (h : a < 256) (k : b < 256) : a ||| b < 256 := Nat.or_lt_two_pow (n := 8) h k
theorem zqy (ns : List (List UInt8)) (h : ns.length <= 20) (hn : ∀ s ∈ ns, s.length <= 1000) : Tot (zgs ns) fun r => r.2 = 0 -> 1 <= ns.length /\ ns.length <= 8 := by
 unfold zgs
 simp only [zH, zq, zw, List.length_map, decide_eq_true_eq, decide_eq_false_iff_not]
 refine ⟨fun _ h => absurd h (by decide), fun h1 => ⟨fun _ h => absurd h (by decide), fun h2 => ?_⟩⟩
 refine Tot.count ns.length (fun k s => s = (k : Int)) ?_ rfl
 rintro k _ hk rfl
 simp only [zq, zH, qb, qo, qL, zw, Sum.elim_inl, Sum.elim_inr, decide_eq_true_eq, decide_eq_false_iff_not, Int.toNat_natCast]
 refine ⟨fun hlt => ⟨by omega, _, List.getElem?_eq_getElem (by omega), ?_⟩, fun hlt => fun _ => by omega⟩
 rw [zll _ (by have := hn ns[k] (List.getElem_mem _); omega), zq]
 refine ⟨fun _ h => absurd h (by decide), fun _ => ⟨⟨by omega, by omega⟩, ?_⟩⟩
 rw [xi _ _ (by simp; omega), zq]
 refine ⟨fun _ h => absurd h (by decide), fun _ => ?_⟩
 rw [w64 (by omega) (by omega)]
 exact ⟨by omega, by omega⟩
end Go.Sx.O
namespace Go.Sx.O
open Go
def U8s (l : List Int) : Prop := ∀ x ∈ l, 0 <= x /\ x < 256
theorem U8s.get {l : List Int} (h : U8s l) {i : Nat} {x : Int} (hx : l[i]? = some x) : 0 <= x /\ x < 256 := h x (List.mem_of_getElem? hx)
theorem U8s.set {l : List Int} (h : U8s l) {i : Nat} {x : Int} (h0 : 0 <= x) (h1 : x < 256) : U8s (l.set i x) := by
 intro y hy
 rcases List.mem_or_eq_of_mem_set hy with g | g
 . exact h y g
 . subst g; exact ⟨h0, h1⟩
theorem zp3 {e : Int} : 0 <= IntKind.wrap .u8 e /\ IntKind.wrap .u8 e < 256 := by
 simp only [IntKind.wrap, IntKind.signed, IntKind.bits, Bool.false_and]
 have h3 : (2 : Int) ^ 8 = 256 := by decide
 simp only [h3]
 refine ⟨?_, ?_⟩ <;> simp <;> omega
theorem orU {a b : Int} (ha : 0 <= a) (ha' : a < 256) (hb : 0 <= b) (hb' : b < 256) : 0 <= bits .or .u8 a b /\ bits .or .u8 a b < 256 := by
 rw [zr5 ha ha' hb hb']
 have := zDb (a := a.toNat) (b := b.toNat) (by omega) (by omega)
 omega
theorem zy {α : Type} {l : List α} {i : Nat} (h : i < l.length) : ∃ x, l[i]? = some x := ⟨_, List.getElem?_eq_getElem h⟩
theorem zxh (l : TL) (hu : U8s l.Up) (hn : l.Names.length <= 8) (hl : l.Up.length <= 8) :
 Tot (zdt l) fun o => o.n_ = l.Names.length /\ o.up_.length = 8 /\ o.down_.length = 8 /\ U8s o.up_ /\ U8s o.down_ := by
 unfold zdt
 simp only [zw, List.length_map]
 refine Tot.count l.Up.length (fun k s => s.1 = (k : Int) /\ s.2.1.length = 8 /\ s.2.2.length = 8 /\ U8s s.2.1 /\ U8s s.2.2) ?_ ⟨rfl, rfl, rfl, by intro x hx; simp at hx; omega, by intro x hx; simp at hx; omega⟩
 rintro k ⟨i, up, down⟩ hk ⟨h0, h1, h2, h3, h4⟩
 simp only at h0 h1 h2 h3 h4
 subst h0
 simp only [zq, zH, qb, qo, qL, zw, Sum.elim_inl, Sum.elim_inr, decide_eq_true_eq, decide_eq_false_iff_not, Int.toNat_natCast]
 refine ⟨fun hlt => ?_, fun hlt => ⟨trivial, h1, h2, h3, h4⟩⟩
 obtain ⟨x, hx⟩ := zy (l := l.Up) (i := k) (by omega)
 obtain ⟨y, hy⟩ := zy (l := up) (i := k) (by omega)
 refine ⟨by omega, x, hx, ⟨by omega, by omega⟩, by omega, y, hy, ?_⟩
 have hx' := hu.get hx
 refine Tot.count l.Names.length (fun j s => s.1 = (j : Int) /\ s.2.length = 8 /\ U8s s.2) ?_ ⟨rfl, h2, h4⟩
 rintro j ⟨i', d⟩ hj ⟨g0, g1, g2⟩
 simp only at g0 g1 g2
 subst g0
 simp only [zq, zH, qb, qo, qL, zw, Sum.elim_inl, Sum.elim_inr, decide_eq_true_eq, decide_eq_false_iff_not, Int.toNat_natCast]
 refine ⟨fun hlt' => ?_, fun _ => ?_⟩
 . obtain ⟨z, hz⟩ := zy (l := d) (i := j) (by omega)
   have hz' := g2.get hz
   rw [w64 (by omega) (by omega)]
   refine ⟨⟨by omega, by omega⟩, by omega, z, hz, by omega, by omega, ⟨by omega, by omega⟩, by omega, z, hz, by omega, by omega, by simpa using g1, ?_⟩
   have hw := zp3 (e := bits .and .u8 (Int.fdiv x (2 ^ min j (IntKind.bits .u8))) 1 * 2 ^ min k (IntKind.bits .u8))
   have ho := orU hz'.1 hz'.2 hw.1 hw.2
   exact g2.set ho.1 ho.2
 . rw [w64 (by omega) (by omega)]
   exact ⟨by omega, by omega, by simpa using h1, g1, h3.set hx'.1 hx'.2, g2⟩
theorem zbg (m : List Int) (n : Nat) (a b : Nat) (hm : m.length = 8) (hu : U8s m) (hn : n <= 8) (ha : a < n) (hb : b < n) : Tot (zf8 m n a b) fun _ => True := by
 unfold zf8
 obtain ⟨x, hx⟩ := zy (l := m) (i := a) (by omega)
 obtain ⟨y, hy⟩ := zy (l := m) (i := b) (by omega)
 simp only [zq, zH, qb, qo, qL, zw, Int.toNat_natCast]
 refine ⟨⟨by omega, by omega⟩, by omega, x, hx, ⟨by omega, by omega⟩, by omega, y, hy, ?_⟩
 refine Tot.count n (fun k s => s = (k : Int)) ?_ rfl
 rintro k _ hk rfl
 simp only [zq, zH, qb, qo, qL, zw, Sum.elim_inl, Sum.elim_inr, decide_eq_true_eq, decide_eq_false_iff_not, Int.toNat_natCast]
 refine ⟨fun hlt => ⟨by omega, fun _ => ?_, fun _ => ?_⟩, fun _ => trivial⟩
 . obtain ⟨z, hz⟩ := zy (l := m) (i := k) (by omega)
   rw [w64 (by omega) (by omega)]
   exact ⟨⟨by omega, by omega⟩, by omega, z, hz, fun _ => trivial, fun _ => ⟨by omega, by omega⟩⟩
 . rw [w64 (by omega) (by omega)]
   exact ⟨by omega, by omega⟩
theorem zfq (m : List Int) (n : Nat) (a b : Nat) (hm : m.length = 8) (hu : U8s m) (hn : n <= 8) (ha : a < n) (hb : b < n) : Tot (zn3 m n a b) fun _ => True := zbg m n a b hm hu hn ha hb
theorem zso (x : Int) (h0 : 0 <= x) (h1 : x < 256) : Tot (zgp x) fun _ => True := by
 unfold zgp
 rw [qo]
 refine ⟨h0, ?_⟩
 have key : ∀ l : List UInt8, l.length = 256 -> ∃ y, l[x.toNat]? = some y /\ Tot (zg (IntKind.wrap .i64 (y.toNat : Int)) fun z => some z) fun _ => True := by
  intro l hl
  obtain ⟨y, hy⟩ := zy (l := l) (i := x.toNat) (by omega)
  exact ⟨y, hy, .mk trivial⟩
 exact key _ (by decide +kernel)
def up (l : TL) (a b : Nat) : Bool := (l.Up.getD a 0).toNat.testBit b
def ug (l : TL) (a b : Nat) : Prop := up l a b = true -> (b ≠ a -> up l b a = false) /\ ∀ i, i < l.Names.length -> up l b i = true -> up l a i = true
structure LatOK (l : TL) : Prop where
 pos : 1 <= l.Names.length
 le : l.Names.length <= 8
 len : l.Up.length = l.Names.length
 u8 : U8s l.Up
 self : ∀ a, a < l.Names.length -> up l a a = true
 row : ∀ a, a < l.Names.length -> ∀ b, b < l.Names.length -> ug l a b
theorem jT {l : TL} {a : Nat} {x : Int} (h : l.Up[a]? = some x) (b : Nat) : up l a b = x.toNat.testBit b := by
 unfold up; rw [List.getD_eq_getElem?_getD, h]; rfl
theorem zpd (n : Nat) (h : n <= 8) (i : Nat) : (IntKind.wrap .u8 (IntKind.wrap .u8 (1 * 2 ^ min n (IntKind.bits .u8)) - 1)).toNat.testBit i = decide (i < n) := by
 have key : ∀ n : Fin 9, (IntKind.wrap .u8 (IntKind.wrap .u8 (1 * 2 ^ min n.val (IntKind.bits .u8)) - 1)).toNat = 2 ^ n.val - 1 := by decide +kernel
 rw [key ⟨n, by omega⟩]
 exact Nat.testBit_two_pow_sub_one n i
theorem zlo (l : TL) (hu : U8s l.Up) (hn : l.Names.length <= 20) (hs : ∀ s ∈ l.Names, s.length <= 1000) : Tot (uJ l) fun r => r.2 = 0 -> LatOK l := by
 unfold uJ
 simp only [zw, List.length_map]
 refine (zqy l.Names hn hs).mono fun x53 h53 => ?_
 simp only [zH, zq, Bool.not_eq_true', Bool.not_eq_false', decide_eq_true_eq, decide_eq_false_iff_not]
 refine ⟨fun h h' => absurd h' h, fun h => ⟨fun _ h' => absurd h' (by decide), fun hlen => ?_⟩⟩
 obtain ⟨p1, p8⟩ := h53 h
 have hlen' : l.Up.length = l.Names.length := by omega
 rw [qL, qb, qb, zw]
 refine ⟨by omega, ?_⟩
 rw [Int.toNat_natCast]
 have hmask := zpd l.Names.length p8
 have hm0 := zp3 (e := IntKind.wrap .u8 (1 * 2 ^ min l.Names.length (IntKind.bits .u8)) - 1)
 revert hmask hm0
 generalize IntKind.wrap .u8 (IntKind.wrap .u8 (1 * 2 ^ min l.Names.length (IntKind.bits .u8)) - 1) = mask
 intro hmask hm0
 refine Tot.count l.Names.length (fun k s => s = (k : Int) /\ (∀ a, a < k -> up l a a = true) /\ ∀ a, a < k -> ∀ b, b < l.Names.length -> ug l a b) ?_ ⟨rfl, fun a ha => absurd ha (by omega), fun a ha => absurd ha (by omega)⟩
 rintro k _ hk ⟨rfl, hself, hrow⟩
 simp only [zH, zq, qb, Sum.elim_inl, Sum.elim_inr, decide_eq_true_eq, decide_eq_false_iff_not]
 refine ⟨fun hlt => ?_, fun hlt => ?_⟩
 . -- a round
   simp only [qo, Int.toNat_natCast]
   obtain ⟨x, hx⟩ := zy (l := l.Up) (i := k) (by omega)
   have hx' := hu.get hx
   refine ⟨by omega, x, hx, ?_⟩
   rw [zw]
   refine (zso x hx'.1 hx'.2).mono fun x91 _ => ?_
   simp only [zH, zq, qL, Sum.elim_inl, Sum.elim_inr, decide_eq_true_eq, decide_eq_false_iff_not, Int.toNat_natCast]
   refine ⟨fun _ h' => absurd h' (by decide), fun _ => ⟨by omega, fun _ h' => absurd h' (by decide), fun hs => ?_⟩⟩
   rw [zde hx'.1 hx'.2 (by omega), <- jT hx] at hs
   have hkk : up l k k = true := by
    cases e : up l k k with
    | true => rfl
    | false => rw [e] at hs; simp at hs
   rw [zw]
   refine Tot.count l.Names.length (fun j s => s = (j : Int) /\ ∀ b, b < j -> ug l k b) ?_ ⟨rfl, fun b hb => absurd hb (by omega)⟩
   rintro j _ hj ⟨rfl, hr⟩
   have fin : (∀ b, b < l.Names.length -> ug l k b) -> k < l.Names.length /\ IntKind.wrap .i64 ((k : Int) + 1) = ((k + 1 : Nat) : Int) /\ (∀ a, a < k + 1 -> up l a a = true) /\ ∀ a, a < k + 1 -> ∀ b, b < l.Names.length -> ug l a b := by
    intro hall
    rw [w64 (by omega) (by omega)]
    refine ⟨by omega, by omega, fun a ha => ?_, fun a ha => ?_⟩
    . rcases Nat.lt_or_ge a k with g | g
      . exact hself a g
      . have : a = k := by omega
        subst this; exact hkk
    . rcases Nat.lt_or_ge a k with g | g
      . exact hrow a g
      . have : a = k := by omega
        subst this; exact hall
   have ext : ∀ {b}, ug l k j -> b < j + 1 -> ug l k b := by
    intro b h hb
    rcases Nat.lt_or_ge b j with g | g
    . exact hr b g
    . have : b = j := by omega
      subst this; exact h
   simp only [zH, zq, qb, qL, Sum.elim_inl, Sum.elim_inr, decide_eq_true_eq, decide_eq_false_iff_not, Bool.not_eq_true', Bool.not_eq_false', Int.toNat_natCast]
   refine ⟨fun hjl => ?_, fun hjl => ?_⟩
   . simp only [qo, Int.toNat_natCast]
     obtain ⟨y, hy⟩ := zy (l := l.Up) (i := j) (by omega)
     have hy' := hu.get hy
     refine ⟨by omega, y, hy, ?_⟩
     simp only [zH, zq, qb, qL, Sum.elim_inl, Sum.elim_inr, decide_eq_true_eq, decide_eq_false_iff_not, Bool.not_eq_true', Bool.not_eq_false', Int.toNat_natCast]
     rw [zde hx'.1 hx'.2 (by omega), <- jT hx]
     rw [w64 (e := (l.Names.length : Int) - 1) (by omega) (by omega)]
     have stay : ug l k j -> ((j : Int) = (l.Names.length : Int) - 1 -> k < l.Names.length /\ IntKind.wrap .i64 ((k : Int) + 1) = ((k + 1 : Nat) : Int) /\ (∀ a, a < k + 1 -> up l a a = true) /\ ∀ a, a < k + 1 -> ∀ b, b < l.Names.length -> ug l a b) /\ (¬ (j : Int) = (l.Names.length : Int) - 1 -> j < l.Names.length /\ IntKind.wrap .i64 ((j : Int) + 1) = ((j + 1 : Nat) : Int) /\ ∀ b, b < j + 1 -> ug l k b) := by
      intro hrow'
      refine ⟨fun e => fin fun b hb => ext hrow' (by omega), fun e => ?_⟩
      rw [w64 (by omega) (by omega)]
      exact ⟨by omega, by omega, fun b hb => ext hrow' hb⟩
     refine ⟨by omega, fun hb => ?_, fun hb => ⟨fun hne => ⟨by omega, fun _ h' => absurd h' (by decide), fun hba => ⟨fun _ h' => absurd h' (by decide), fun han => ?_⟩⟩, fun heq => ⟨fun _ h' => absurd h' (by decide), fun han => ?_⟩⟩⟩
     . refine stay fun hup => ?_
       rw [hup] at hb; simp at hb
     . refine stay fun _ => ⟨fun _ => ?_, fun i hi hyi => ?_⟩
       . rw [zde hy'.1 hy'.2 (by omega), <- jT hy] at hba
         cases e : up l j k with
         | false => rfl
         | true => rw [e] at hba; simp at hba
       . rw [zce hy'.1 hy'.2 hm0.1 hm0.2] at han
         have hand := zd8 (a := y.toNat) (b := mask.toNat) (by omega)
         have := (zbt (by omega) (by omega) hx'.1 hx'.2).1 han i (by
          rw [Int.toNat_natCast, Nat.testBit_and, hmask, <- jT hy, hyi]; simp [hi])
         rw [jT hx]; exact this
     . refine stay fun _ => ⟨fun hne => absurd (by omega) hne, fun i hi hyi => ?_⟩
       rw [zce hy'.1 hy'.2 hm0.1 hm0.2] at han
       have hand := zd8 (a := y.toNat) (b := mask.toNat) (by omega)
       have := (zbt (by omega) (by omega) hx'.1 hx'.2).1 han i (by
        rw [Int.toNat_natCast, Nat.testBit_and, hmask, <- jT hy, hyi]; simp [hi])
       rw [jT hx]; exact this
   . exact fin fun b hb => hr b (by omega)
 . -- the end
   have hk' : k = l.Names.length := by omega
   subst hk'
   have good : LatOK l := ⟨p1, p8, hlen', hu, hself, hrow⟩
   rw [zw]
   refine (zxh l hu p8 (by omega)).mono fun o ho => ?_
   obtain ⟨_, o1, o2, o3, o4⟩ := ho
   rw [zw]
   refine Tot.count l.Names.length (fun j s => s = (j : Int)) ?_ rfl
   rintro j _ hj rfl
   simp only [zH, zq, qb, zw, Sum.elim_inl, Sum.elim_inr, decide_eq_true_eq, decide_eq_false_iff_not]
   refine ⟨fun hlt => ?_, fun _ _ => good⟩
   refine Tot.count l.Names.length (fun i s => s = (i : Int)) ?_ rfl
   rintro i _ hi rfl
   simp only [zH, zq, qb, zw, Sum.elim_inl, Sum.elim_inr, decide_eq_true_eq, decide_eq_false_iff_not]
   refine ⟨fun hlt' => ?_, fun _ => ?_⟩
   . refine (zbg _ _ _ _ o1 o3 p8 (by omega) (by omega)).mono fun b1 _ => ⟨fun _ h' => absurd h' (by decide), fun _ => ?_⟩
     refine (zfq _ _ _ _ o2 o4 p8 (by omega) (by omega)).mono fun b2 _ => ⟨fun _ h' => absurd h' (by decide), fun _ => ?_⟩
     rw [w64 (by omega) (by omega)]
     exact ⟨by omega, by omega⟩
   . rw [w64 (by omega) (by omega)]
     exact ⟨by omega, by omega⟩
end Go.Sx.O
noncomputable section
namespace Go.Sx.O
open Go
structure LatIn (l : TL) : Prop where
 u8 : U8s l.Up
 names : l.Names.length <= 20
 name : ∀ s ∈ l.Names, s.length <= 1000
def qD (l : TL) : Int × Int := (uJ l).getD (0, 0)
theorem zav {l : TL} (h : LatIn l) : uJ l = some (qD l) := by
 obtain ⟨r, e, _⟩ := zlo l h.u8 h.names h.name
 unfold qD; rw [e]; rfl
theorem yB {l : TL} (h : LatIn l) (k : (qD l).2 = 0) : LatOK l := by
 obtain ⟨r, e, q⟩ := zlo l h.u8 h.names h.name
 have := zav h
 rw [e] at this; cases this
 exact q k
def wn (l : TL) (a : Int) : Bool := decide (0 <= a) && decide (a < (l.Names.length : Int))
def zbu (l : TL) (xs : List Int) : Int := if (qD l).2 = 0 then (if xs.all (wn l) then 0 else 7) else (qD l).2
theorem zq1 {l : TL} (h : LatIn l) (xs : List Int) (hx : xs.length <= 1000000000) : znf l xs = some (zbu l xs) := by
 unfold znf zbu
 rw [zav h]
 simp only [Option.bind_some]
 by_cases h0 : (qD l).2 = 0
 . simp only [h0, decide_true, Bool.not_true, cond_false, if_true]
   apply Tot.eq
   simp only [zw, List.length_map]
   refine Tot.count xs.length (fun k s => s = (k : Int) /\ (xs.take k).all (wn l) = true) ?_ ⟨rfl, by simp⟩
   rintro k _ hk ⟨rfl, hall⟩
   simp only [zH, zq, qb, qo, Sum.elim_inl, Sum.elim_inr, decide_eq_true_eq, decide_eq_false_iff_not, Int.toNat_natCast]
   refine ⟨fun hlt => ?_, fun hlt => ?_⟩
   . obtain ⟨x, hx'⟩ := zy (l := xs) (i := k) (by omega)
     have hm := List.mem_of_getElem? hx'
     have bad : wn l x = false -> (7 : Int) = if xs.all (wn l) = true then 0 else 7 := by
      intro e
      have : xs.all (wn l) = false := by
       rw [List.all_eq_false]; exact ⟨x, hm, by simp [e]⟩
      simp [this]
     refine ⟨by omega, x, hx', fun g => bad (by unfold wn; simp; omega), fun g1 => ⟨fun g => bad (by unfold wn; simp; omega), fun g2 => ?_⟩⟩
     rw [w64 (by omega) (by omega)]
     refine ⟨by omega, by omega, ?_⟩
     rw [List.take_add_one, hx', List.all_append, hall]
     simp [wn]; omega
   . rw [List.take_of_length_le (by omega)] at hall
     simp [hall]
 . simp only [h0, decide_false, Bool.not_false, cond_true, if_false]
def zot (l : TL) (a o : Int) : Bool := decide ((qD l).2 = 0) && wn l a && wn l o && up l a.toNat o.toNat
end Go.Sx.O
end
namespace Go.Sx.O
open Go
theorem zc9 {α : Type} {l : List α} (p : α -> Bool) {ε : Type} {step : Int -> Option (Int ⊕ (ε ⊕ Int))} {e : ε} {G : Option Int}
 (hG : G = (lpO step 0).bind (Sum.elim (fun _ => some (-1)) some))
 (h1 : ∀ (k : Nat) x, l[k]? = some x -> k < l.length -> step (k : Int) = if p x then some (.inr (.inr (k : Int))) else some (.inl ((k : Int) + 1)))
 (h2 : step (l.length : Int) = some (.inr (.inl e))) : G.bind (fun x => some (decide (0 <= x))) = some (l.any p) := by
 rw [hG, zk8 (l := l) p (d := .inl e) (g := .inr) (fun k x hx => h1 k x hx (by
  rcases Nat.lt_or_ge k l.length with g | g
  . exact g
  . rw [List.getElem?_eq_none g] at hx; cases hx)) h2]
 cases h : l.findIdx? p with
 | none =>
   have := List.findIdx?_eq_none_iff.1 h
   simp only [Option.bind_some, Sum.elim_inl]
   have hn : l.any p = false := by rw [List.any_eq_false]; intro x hx; simp [this x hx]
   rw [hn]; rfl
 | some i =>
   obtain ⟨hi, hp, _⟩ := List.findIdx?_eq_some_iff_getElem.1 h
   have hy : l.any p = true := List.any_eq_true.2 ⟨_, List.getElem_mem hi, hp⟩
   simp [hy]
theorem zl9 (l : List Int) (h : l.length <= 1000000000) : zoh l = some (l.any fun x => decide (x < 0)) := by
 unfold zoh zs4
 refine zc9 (l := l) (fun x => decide (x < 0)) (e := ()) rfl (fun k x hx hlt => ?_) (by simp)
 simp only [List.length_map, Int.ofNat_lt, hlt, decide_true, cond_true, zi, Int.toNat_natCast, hx, Option.bind_some, zg, Int.natCast_nonneg, if_true, zsy]
 rw [w64 (by omega) (by omega)]
 cases decide (x < 0) <;> rfl
theorem zma (l : List Int) (h : l.length <= 1000000000) : zo2 l = some (l.any fun x => !decide (x = 0)) := by
 unfold zo2 zus
 refine zc9 (l := l) (fun x => !decide (x = 0)) (e := ()) rfl (fun k x hx hlt => ?_) (by simp)
 simp only [List.length_map, Int.ofNat_lt, hlt, decide_true, cond_true, zi, Int.toNat_natCast, hx, Option.bind_some, zg, Int.natCast_nonneg, if_true, zti]
 rw [w64 (by omega) (by omega)]
 cases decide (x = 0) <;> rfl
theorem zmd (l : List Int) (h : l.length <= 1000000000) : zqd l = some (l.any fun x => decide (400 < x)) := by
 unfold zqd zuh
 refine zc9 (l := l) (fun x => decide (400 < x)) (e := ()) rfl (fun k x hx hlt => ?_) (by simp)
 simp only [List.length_map, Int.ofNat_lt, hlt, decide_true, cond_true, zi, Int.toNat_natCast, hx, Option.bind_some, zg, Int.natCast_nonneg, if_true, zul]
 rw [w64 (by omega) (by omega)]
 cases decide (400 < x) <;> rfl
theorem zbb (x : Int) : Tot (uH x) fun _ => True := by
 unfold uH
 simp only [zH, zq, implies_true, and_self]
theorem zpb {α β : Type} {l : List α} {m : List β} (n : Nat) (p : α -> β -> Bool) {τ ε : Type} {step : Int -> Option (Int ⊕ (ε ⊕ τ))} {bad : Int -> τ} {e : ε} {Q : ε ⊕ τ -> Prop}
 (hn : n <= l.length) (hm : n <= m.length)
 (h1 : ∀ (k : Nat) x y, l[k]? = some x -> m[k]? = some y -> k < n -> step (k : Int) = if p x y then some (.inl ((k : Int) + 1)) else some (.inr (.inr (bad k))))
 (h2 : step (n : Int) = some (.inr (.inl e)))
 (q1 : (∀ (k : Nat) x y, l[k]? = some x -> m[k]? = some y -> k < n -> p x y = true) -> Q (.inl e))
 (q2 : ∀ (k : Nat) x y, l[k]? = some x -> m[k]? = some y -> k < n -> p x y = false -> (∀ (j : Nat) x y, l[j]? = some x -> m[j]? = some y -> j < k -> p x y = true) -> Q (.inr (bad k))) : Tot (lpO step 0) Q := by
 refine Tot.count n (fun k s => s = (k : Int) /\ ∀ (j : Nat) x y, l[j]? = some x -> m[j]? = some y -> j < k -> p x y = true) ?_ ⟨rfl, fun j _ _ _ _ hj => absurd hj (by omega)⟩
 rintro k _ hk ⟨rfl, hall⟩
 rcases Nat.lt_or_ge k n with g | g
 . obtain ⟨x, hx⟩ := zy (l := l) (i := k) (by omega)
   obtain ⟨y, hy⟩ := zy (l := m) (i := k) (by omega)
   rw [h1 k x y hx hy g]
   cases e : p x y with
   | true =>
     simp only [if_true, zq, Sum.elim_inl]
     refine ⟨g, by omega, fun j x' y' hx' hy' hj => ?_⟩
     rcases Nat.lt_or_ge j k with g' | g'
     . exact hall j x' y' hx' hy' g'
     . have : j = k := by omega
       subst this
       rw [hx] at hx'; rw [hy] at hy'
       cases hx'; cases hy'; exact e
   | false =>
     simp only [Bool.false_eq_true, if_false, zq, Sum.elim_inr]
     exact q2 k x y hx hy g e hall
 . have : k = n := by omega
   subst this
   rw [h2]
   simp only [zq, Sum.elim_inr]
   exact q1 fun j x y hx hy hj => hall j x y hx hy hj
theorem zbk {α : Type} : ∀ {l m : List α}, l.length = m.length -> (∀ (k : Nat) x y, l[k]? = some x -> m[k]? = some y -> k < l.length -> x = y) -> l = m
 | [], [], _, _ => rfl
 | a :: l, b :: m, h, k => by
   have h0 := k 0 a b rfl rfl (by simp)
   subst h0
   rw [zbk (l := l) (m := m) (by simpa using h) fun j x y hx hy hj => k (j + 1) x y (by simpa using hx) (by simpa using hy) (by simp; omega)]
 | [], _ :: _, h, _ => by simp at h
 | _ :: _, [], h, _ => by simp at h
end Go.Sx.O
namespace Go.Sx.O
open Go
theorem zjv {l : List UInt8} {c : UInt8} (h : c ∉ l) : Lib.indexByte l c = -1 := by
 induction l with
 | nil => rfl
 | cons a l ih =>
   simp only [List.mem_cons, not_or] at h
   have : (a == c) = false := by simp; exact fun e => h.1 e.symm
   simp [Lib.indexByte, this, ih h.2]
theorem zvg {r : Int} (h0 : 128 <= r) (h1 : r < 256) : ∃ x y, (Utf8.encode r).data.toList = [x, y] /\ 128 <= y.toNat := by
 refine ⟨UInt8.ofNat (0xC0 + r.toNat / 64), UInt8.ofNat (0x80 + r.toNat % 64), ?_, ?_⟩
 . have hv : Utf8.valid r = true := by unfold Utf8.valid; simp; omega
   unfold Utf8.encode
   simp only [hv, if_true]
   rw [if_neg (by omega), if_pos (by omega)]
 . rw [UInt8.toNat_ofNat']; omega
theorem zho (s : List UInt8) (r : Int) (hs : ∀ c ∈ s, c.toNat < 128) (hl : s.length <= 1000) (h0 : 0 <= r) (h1 : r < 256) : Tot (zf7 s r) fun _ => True := by
 unfold zf7
 have e0 : decide (0 <= r) = true := by simp [h0]
 simp only [e0, cond_true]
 rw [zH]
 refine ⟨fun _ => ?_, fun h2 => ?_⟩
 . rw [qb, zw]
   unfold zcp ql
   simp only [Option.bind_some, zq]
 . simp only [decide_eq_false_iff_not] at h2
   obtain ⟨x, y, exy, hy⟩ := zvg (r := r) (by omega) h1
   have e1 : decide (r = 65533) = false := by simp; omega
   simp only [e1, cond_false, exy]
   rw [zw]
   refine (zbb r).mono fun v _ => ?_
   rw [zH]
   refine ⟨fun _ => .mk trivial, fun _ => ?_⟩
   rw [qb]
   have e2 : IntKind.wrap .i64 (((List.length [x, y] : Nat) : Int) - 1) = 1 := rfl
   rw [e2, zw]
   refine Tot.loop (fun _ => 0) (fun _ => True) (fun _ _ => ?_) trivial
   rw [zH]
   refine ⟨fun h3 => ?_, fun _ => ?_⟩
   . simp only [decide_eq_true_eq] at h3
     obtain ⟨c, hc⟩ := zy (l := s) (i := 1) (by omega)
     have hc' := hs c (List.mem_of_getElem? hc)
     have e3 : (1 : Int).toNat = 1 := rfl
     simp only [qo, e3]
     refine ⟨by omega, c, hc, by omega, y, rfl, ?_⟩
     have e4 : decide ((c.toNat : Int) = (y.toNat : Int)) = false := by simp; omega
     simp only [e4, Bool.not_false, cond_true]
     rw [qb]
     have e5 : IntKind.wrap .i64 (1 + 1) = 2 := rfl
     rw [e5, qL]
     refine ⟨by omega, ?_⟩
     simp only [qo, e3]
     refine ⟨by omega, y, rfl, ?_⟩
     unfold zcp ql
     simp only [Option.bind_some]
     have hn : ((y.toNat : Int).toNat.toUInt8) = y := by simp
     rw [hn, zjv (fun hm => by
      have := hs y (List.mem_of_mem_take (List.mem_of_mem_drop hm))
      omega)]
     have e6 : decide ((-1 : Int) < 0) = true := rfl
     simp only [e6, cond_true, zq, Sum.elim_inr]
   . simp only [zq, Sum.elim_inr, Sum.elim_inl]
theorem zdw (s : List UInt8) (r : Int) (hs : ∀ c ∈ s, c.toNat < 128) (hl : s.length <= 1000) (h0 : 0 <= r) (h1 : r < 256) : Tot (xk s r) fun _ => True := by
 unfold xk
 rw [zw]
 exact (zho s r hs hl h0 h1).mono fun _ _ => .mk trivial
theorem znr {r : Int} (h0 : 0 <= r) (h1 : r < 256) : IntKind.wrap .i32 r = r := by
 simp only [IntKind.wrap, IntKind.signed, IntKind.bits]
 have h3 : (2 : Int) ^ 32 = 4294967296 := by decide
 have h4 : (2 : Int) ^ (32 - 1) = 2147483648 := by decide
 simp only [h3, h4, Bool.true_and, decide_eq_true_eq, ge_iff_le]
 split <;> omega
end Go.Sx.O
