/-
  An own text of this claim.
-/
import Derived.Test.YtkmifafghlbeaaaGreatDoorA8
import Derived.Lib.Bytealg
namespace Go.Sx.O
structure TR where
 s_ : List UInt8
 at_ : Int
def zT (x : TR) : SV := .agg [SV.str x.s_, (SV.int .i64) x.at_]
theorem zz4 {p : Nat -> Prop} (x : TR) : (zT x).nmd p := ⟨trivial, trivial, trivial⟩
structure TF where
 low_ : Int
 high_ : Int
def zAu (x : TF) : SV := .agg [(SV.int .i64) x.low_, (SV.int .i64) x.high_]
theorem zE1 {p : Nat -> Prop} (x : TF) : (zAu x).nmd p := ⟨trivial, trivial, trivial⟩
structure TL where
 Names : List (List UInt8)
 Up : List (Int)
def zH (x : TL) : SV := .agg [(zm 1 SV.str) x.Names, (zm 1 (SV.int .u8)) x.Up]
theorem zt1 {p : Nat -> Prop} (x : TL) : (zH x).nmd p := ⟨(yf fun _ => trivial), (yf fun _ => trivial), trivial⟩
structure TU where
 From : Int
 Goal : Int
 K : Int
def qv (x : TU) : SV := .agg [(SV.int .i64) x.From, (SV.int .i64) x.Goal, (SV.int .i64) x.K]
theorem zzz {p : Nat -> Prop} (x : TU) : (qv x).nmd p := ⟨trivial, trivial, trivial, trivial⟩
structure TG where
 Lattice : TL
 bottom_ : Int
def zA4 (x : TG) : SV := .agg [zH x.Lattice, (SV.int .i64) x.bottom_]
theorem zEz {p : Nat -> Prop} (x : TG) : (zA4 x).nmd p := ⟨(zt1 _), trivial, trivial⟩
structure TK where
 Kind : Int
 From : Int
 To : Int
 N : Int
 S : List UInt8
def zU (x : TK) : SV := .agg [(SV.int .i64) x.Kind, (SV.int .i64) x.From, (SV.int .i64) x.To, (SV.int .i64) x.N, SV.str x.S]
theorem zE0 {p : Nat -> Prop} (x : TK) : (zU x).nmd p := ⟨trivial, trivial, trivial, trivial, trivial, trivial⟩
structure Tlattice_order where
 n_ : Int
 up_ : List (Int)
 down_ : List (Int)
def qj (x : Tlattice_order) : SV := .agg [(SV.int .i64) x.n_, (qt 8 1 (SV.int .u8)) x.up_, (qt 8 1 (SV.int .u8)) x.down_]
theorem zuh {p : Nat -> Prop} (x : Tlattice_order) : (qj x).nmd p := ⟨trivial, (yf fun _ => trivial), (yf fun _ => trivial), trivial⟩
structure TY where
 Kind : Int
 Rank : Int
 Axes : (Int) × (Int)
 Data : Int
def wM (x : TY) : SV := .agg [(SV.int .i64) x.Kind, (SV.int .i64) x.Rank, (jI 1 (SV.int .i64)) x.Axes, (SV.int .i64) x.Data]
theorem zlw {p : Nat -> Prop} (x : TY) : (wM x).nmd p := ⟨trivial, trivial, ⟨trivial, trivial, trivial⟩, trivial, trivial⟩
structure TA where
 Kind : Int
 Rank : Int
 Lens : (Int) × (Int)
 Cells : List (Int)
def zlm (x : TA) : SV := .agg [(SV.int .i64) x.Kind, (SV.int .i64) x.Rank, (jI 1 (SV.int .i64)) x.Lens, (zm 1 (SV.int .i64)) x.Cells]
theorem ztg {p : Nat -> Prop} (x : TA) : (zlm x).nmd p := ⟨trivial, trivial, ⟨trivial, trivial, trivial⟩, (yf fun _ => trivial), trivial⟩
structure TV where
 Name : List UInt8
 Type_ : TY
def wy (x : TV) : SV := .agg [SV.str x.Name, wM x.Type_]
theorem zA8 {p : Nat -> Prop} (x : TV) : (wy x).nmd p := ⟨trivial, (zlw _), trivial⟩
structure TW where
 Name : List UInt8
 Value : TA
def zs2 (x : TW) : SV := .agg [SV.str x.Name, zlm x.Value]
theorem zBq {p : Nat -> Prop} (x : TW) : (zs2 x).nmd p := ⟨trivial, (ztg _), trivial⟩
structure TE where
 Site : Int
 Fold : Int
 From : Int
 Goal : Int
 Cells : Int
 Value : (Int) × (Int)
def zM (x : TE) : SV := .agg [(SV.int .i64) x.Site, (SV.int .i64) x.Fold, (SV.int .i64) x.From, (SV.int .i64) x.Goal, (SV.int .i64) x.Cells, (jI 1 (SV.int .i64)) x.Value]
theorem zBa {p : Nat -> Prop} (x : TE) : (zM x).nmd p := ⟨trivial, trivial, trivial, trivial, trivial, ⟨trivial, trivial, trivial⟩, trivial⟩
structure TEvEvent where
 Kind : Int
 Site : Int
 Steps : Int
 Label : Int
 Channel : List UInt8
 Value : TA
 E : Int
def zc2 (x : TEvEvent) : SV := .agg [(SV.int .i64) x.Kind, (SV.int .i64) x.Site, (SV.int .i64) x.Steps, (SV.int .i64) x.Label, SV.str x.Channel, zlm x.Value, (SV.int .i64) x.E]
theorem zmo {p : Nat -> Prop} (x : TEvEvent) : (zc2 x).nmd p := ⟨trivial, trivial, trivial, trivial, trivial, (ztg _), trivial, trivial⟩
structure TP where
 Lattice : TL
 Channels : List (TR)
 Vars : List (TV)
 Rules : List (TU)
def qe (x : TP) : SV := .agg [zH x.Lattice, (zm 2 zT) x.Channels, (zm 6 wy) x.Vars, (zm 3 qv) x.Rules]
theorem zEx {p : Nat -> Prop} (x : TP) : (qe x).nmd p := ⟨(zt1 _), (yf fun _ => (zz4 _)), (yf fun _ => (zA8 _)), (yf fun _ => (zzz _)), trivial⟩
structure Tinvigilatorlaw28_Types where
 V : TY
 Y : TY
 From : Int
 Goal : Int
 PC : Int
 EC : Int
 Lower : Int
 Top : Int
def ug (x : Tinvigilatorlaw28_Types) : SV := .agg [wM x.V, wM x.Y, (SV.int .i64) x.From, (SV.int .i64) x.Goal, (SV.int .i64) x.PC, (SV.int .i64) x.EC, (SV.int .i64) x.Lower, (SV.int .i64) x.Top]
theorem zjq {p : Nat -> Prop} (x : Tinvigilatorlaw28_Types) : (ug x).nmd p := ⟨(zlw _), (zlw _), trivial, trivial, trivial, trivial, trivial, trivial, trivial⟩
structure TC where
 Events : List (TEvEvent)
 Log : List (TE)
 Vars : List (TW)
 Steps : Int
def zBl (x : TC) : SV := .agg [(zm 11 zc2) x.Events, (zm 7 zM) x.Log, (zm 6 zs2) x.Vars, (SV.int .i64) x.Steps]
theorem zEy {p : Nat -> Prop} (x : TC) : (zBl x).nmd p := ⟨(yf fun _ => (zmo _)), (yf fun _ => (zBa _)), (yf fun _ => (zBq _)), trivial, trivial⟩
end Go.Sx.O
noncomputable section
namespace Go.Sx.O
def qg (a0 : List UInt8) (a1 : Int) : Option Int := some (Go.Lib.indexByte a0 a1.toNat.toUInt8)
def zEe : List Int := [0, 1, 2, 2, 3, 3, 3, 3, 4, 4, 4, 4, 4]
def zxt (a0 : Int) : Option Int := if 0 <= a0 then zEe[a0.toNat]? else none
def leK (x y : Int × Int × Int) : Bool := decide (x.1 < y.1) || decide (x.1 = y.1) && (decide (x.2.1 < y.2.1) || decide (x.2.1 = y.2.1) && decide (x.2.2 <= y.2.2))
def zja (x : Int × Int × Int) : List (Int × Int × Int) -> List (Int × Int × Int)
 | [] => [x]
 | y :: r => if leK x y = true then x :: y :: r else y :: zja x r
def sortK : List (Int × Int × Int) -> List (Int × Int × Int)
 | [] => []
 | x :: r => zja x (sortK r)
end Go.Sx.O
end
namespace Go.Sx.O
open Go
def inK (k : IntKind) (n : Int) : Prop := k.min <= n /\ n <= k.max
def yY {α : Type} (W : α -> Prop) (l : List α) : Prop := ∀ x ∈ l, W x
def zE2 {α : Type} (W : α -> Prop) (l : List α) : Prop := (∀ x ∈ l, W x) /\ l.length <= 9223372036854775807
def w2 {α : Type} (W : α -> Prop) (p : α × α) : Prop := W p.1 /\ W p.2
def w3 {α : Type} (W : α -> Prop) (p : α × α × α) : Prop := W p.1 /\ W p.2.1 /\ W p.2.2
def wN {α : Type} (n : Nat) (W : α -> Prop) (l : List α) : Prop := l.length = n /\ ∀ x ∈ l, W x
structure W_TR (x : TR) : Prop where
 s_ : (fun _ => True) x.s_
 at_ : (inK .i64) x.at_
structure W_TF (x : TF) : Prop where
 low_ : (inK .i64) x.low_
 high_ : (inK .i64) x.high_
structure W_TL (x : TL) : Prop where
 Names : (yY (fun _ => True)) x.Names
 Up : (yY (inK .u8)) x.Up
structure W_TU (x : TU) : Prop where
 From : (inK .i64) x.From
 Goal : (inK .i64) x.Goal
 K : (inK .i64) x.K
structure W_TG (x : TG) : Prop where
 Lattice : W_TL x.Lattice
 bottom_ : (inK .i64) x.bottom_
structure W_TK (x : TK) : Prop where
 Kind : (inK .i64) x.Kind
 From : (inK .i64) x.From
 To : (inK .i64) x.To
 N : (inK .i64) x.N
 S : (fun _ => True) x.S
structure W_Tlattice_order (x : Tlattice_order) : Prop where
 n_ : (inK .i64) x.n_
 up_ : (wN 8 (inK .u8)) x.up_
 down_ : (wN 8 (inK .u8)) x.down_
structure W_TY (x : TY) : Prop where
 Kind : (inK .i64) x.Kind
 Rank : (inK .i64) x.Rank
 Axes : (w2 (inK .i64)) x.Axes
 Data : (inK .i64) x.Data
structure W_TA (x : TA) : Prop where
 Kind : (inK .i64) x.Kind
 Rank : (inK .i64) x.Rank
 Lens : (w2 (inK .i64)) x.Lens
 Cells : (yY (inK .i64)) x.Cells
structure W_TV (x : TV) : Prop where
 Name : (fun _ => True) x.Name
 Type_ : W_TY x.Type_
structure W_TW (x : TW) : Prop where
 Name : (fun _ => True) x.Name
 Value : W_TA x.Value
structure W_TE (x : TE) : Prop where
 Site : (inK .i64) x.Site
 Fold : (inK .i64) x.Fold
 From : (inK .i64) x.From
 Goal : (inK .i64) x.Goal
 Cells : (inK .i64) x.Cells
 Value : (w2 (inK .i64)) x.Value
structure W_TEvEvent (x : TEvEvent) : Prop where
 Kind : (inK .i64) x.Kind
 Site : (inK .i64) x.Site
 Steps : (inK .i64) x.Steps
 Label : (inK .i64) x.Label
 Channel : (fun _ => True) x.Channel
 Value : W_TA x.Value
 E : (inK .i64) x.E
structure W_TP (x : TP) : Prop where
 Lattice : W_TL x.Lattice
 Channels : (yY W_TR) x.Channels
 Vars : (yY W_TV) x.Vars
 Rules : (yY W_TU) x.Rules
structure W_Tinvigilatorlaw28_Types (x : Tinvigilatorlaw28_Types) : Prop where
 V : W_TY x.V
 Y : W_TY x.Y
 From : (inK .i64) x.From
 Goal : (inK .i64) x.Goal
 PC : (inK .i64) x.PC
 EC : (inK .i64) x.EC
 Lower : (inK .i64) x.Lower
 Top : (inK .i64) x.Top
structure W_TC (x : TC) : Prop where
 Events : (yY W_TEvEvent) x.Events
 Log : (yY W_TE) x.Log
 Vars : (yY W_TW) x.Vars
 Steps : (inK .i64) x.Steps
end Go.Sx.O
noncomputable section
namespace Go.Sx.O
def Fz0 (b : List (List UInt8)) : Option (Bool) :=
 Option.bind (
 lpO (fun (a : Int) =>
 cond (decide (a < (↑(List.length (List.map SV.str b)) : Int)))
 (cond (decide (a < 20))
 (zh b a fun c =>
 cond (decide (100 < (↑(List.length c) : Int)))
 (some (.inr (.inr (true))))
 (zg (IntKind.wrap .i64 (a + 1)) fun d =>
 some (.inl d)))
 (some (.inr (.inl ()))))
 (some (.inr (.inl ())))) (0))
 (Sum.elim (fun (_ : Unit) =>
 some (decide (12 < (↑(List.length (List.map SV.str b)) : Int)))) some)
def Fz1 (a : TL) : Option (Bool) :=
 (Fz0 (a.Names)).bind fun b =>
 cond b
 (some (true))
 (some (decide (12 < (↑(List.length (List.map (SV.int .u8) a.Up)) : Int))))
def Fz2 (a : TP) : Option (Bool) :=
 Option.bind (
 lpO (fun (s3 : Int) =>
 cond (decide (s3 < (↑(List.length (List.map zT a.Channels)) : Int)))
 (cond (decide (s3 < 25))
 (zh (a.Channels) s3 fun g =>
 cond (decide (100 < (↑(List.length g.s_) : Int)))
 (some (.inr (.inr (true))))
 (zg (IntKind.wrap .i64 (s3 + 1)) fun c =>
 some (.inl c)))
 (some (.inr (.inl ()))))
 (some (.inr (.inl ())))) (0))
 (Sum.elim (fun (_ : Unit) =>
 Option.bind (
 lpO (fun (b : Int) =>
 cond (decide (b < (↑(List.length (List.map wy a.Vars)) : Int)))
 (cond (decide (b < 45))
 (zh (a.Vars) b fun d =>
 cond (decide (100 < (↑(List.length d.Name) : Int)))
 (some (.inr (.inr (true))))
 (zg (IntKind.wrap .i64 (b + 1)) fun e =>
 some (.inl e)))
 (some (.inr (.inl ()))))
 (some (.inr (.inl ())))) (0))
 (Sum.elim (fun (_ : Unit) =>
 (Fz1 (a.Lattice)).bind fun f =>
 cond f
 (some (true))
 (cond (decide (20 < (↑(List.length (List.map zT a.Channels)) : Int)))
 (some (true))
 (cond (decide (40 < (↑(List.length (List.map wy a.Vars)) : Int)))
 (some (true))
 (some (decide (70 < (↑(List.length (List.map qv a.Rules)) : Int))))))) some)) some)
def Fz3 (a : List TE) : Option (Bool) :=
 cond (decide (40 < (↑(List.length (List.map zM a)) : Int)))
 (cond (decide ((↑(List.length (List.map zM a)) : Int) <= 2000))
 (some (true))
 (some (decide (2005 < (↑(List.length (List.map zM a)) : Int)))))
 (some (decide (2005 < (↑(List.length (List.map zM a)) : Int))))
def Fz4 (f : List UInt8) (g : Int) : Option (List UInt8) :=
 Option.bind (
 lpO (fun (a : List UInt8) =>
 cond (decide (0 < (↑(List.length a) : Int)))
 (zg (IntKind.wrap .i64 ((↑(List.length a) : Int) - 1)) fun c =>
 zh a c fun d =>
 cond (decide ((↑(UInt8.toNat d) : Int) = g))
 (zg (IntKind.wrap .i64 ((↑(List.length a) : Int) - 1)) fun b =>
 zn (0 <= b /\ b <= (↑(List.length a) : Int)) (
 some (.inl (List.drop (Int.toNat 0) (List.take (Int.toNat b) a)))))
 (some (.inr (.inl a))))
 (some (.inr (.inl a)))) f)
 (Sum.elim (fun (e : List UInt8) =>
 some e) some)
def Fz5 (d : List UInt8) (e : Int) : Option (List UInt8) :=
 Option.bind (
 lpO (fun (a : List UInt8) =>
 cond (decide (0 < (↑(List.length a) : Int)))
 (zh a (0) fun b =>
 cond (decide ((↑(UInt8.toNat b) : Int) = e))
 (zn ((0 : Int) <= (1 : Int) /\ (1 : Int) <= (↑(List.length a) : Int)) (
 some (.inl (List.drop (Int.toNat 1) (List.take (Int.toNat (↑(List.length a) : Int)) a)))))
 (some (.inr (.inl a))))
 (some (.inr (.inl a)))) d)
 (Sum.elim (fun (c : List UInt8) =>
 some c) some)
def Fz6 (d : List UInt8) : Option (List Bool × Bool) :=
 Option.bind (
 lpO (fun (a : Int × List Bool) =>
 cond (decide (a.fst < (↑(List.length d) : Int)))
 (zh d (a.fst) fun b =>
 cond (decide (128 <= (↑(UInt8.toNat b) : Int)))
 (some (.inr (.inr ((a.snd, false)))))
 (zn ((0 : Int) <= (↑(UInt8.toNat b) : Int) /\ (↑(UInt8.toNat b) : Int) < (↑(256 : Nat) : Int)) (
 zh (a.snd) ((↑(Int.toNat (↑(UInt8.toNat b) : Int)) : Int)) fun _ =>
 zg (IntKind.wrap .i64 (a.fst + 1)) fun c =>
 some (.inl ((c, List.set a.snd (Int.toNat (↑(UInt8.toNat b) : Int)) true))))))
 (some (.inr (.inl (a.snd))))) ((0, List.replicate 256 false)))
 (Sum.elim (fun (e : List Bool) =>
 some ((e, true))) some)
def Fz7 (c : List Bool) (a : Int) : Option (Bool) :=
 zn (0 <= a /\ a < (↑(256 : Nat) : Int)) (
 zh c ((↑(Int.toNat a) : Int)) fun b =>
 some b)
def Fz8 (g : List UInt8) (i : List Bool) : Option (List UInt8) :=
 Option.bind (
 lpO (fun (a : List UInt8) =>
 cond (decide (0 < (↑(List.length a) : Int)))
 (zg (IntKind.wrap .i64 ((↑(List.length a) : Int) - 1)) fun c =>
 zh a c fun d =>
 (Fz7 i ((↑(UInt8.toNat d) : Int))).bind fun e =>
 cond (!e)
 (some (.inr (.inl a)))
 (zg (IntKind.wrap .i64 ((↑(List.length a) : Int) - 1)) fun b =>
 zn (0 <= b /\ b <= (↑(List.length a) : Int)) (
 some (.inl (List.drop (Int.toNat 0) (List.take (Int.toNat b) a))))))
 (some (.inr (.inl a)))) g)
 (Sum.elim (fun (f : List UInt8) =>
 some f) some)
def Fz9 (e : List UInt8) (f : List Bool) : Option (List UInt8) :=
 Option.bind (
 lpO (fun (a : List UInt8) =>
 cond (decide (0 < (↑(List.length a) : Int)))
 (zh a (0) fun b =>
 (Fz7 f ((↑(UInt8.toNat b) : Int))).bind fun c =>
 cond (!c)
 (some (.inr (.inl a)))
 (zn ((0 : Int) <= (1 : Int) /\ (1 : Int) <= (↑(List.length a) : Int)) (
 some (.inl (List.drop (Int.toNat 1) (List.take (Int.toNat (↑(List.length a) : Int)) a))))))
 (some (.inr (.inl a)))) e)
 (Sum.elim (fun (d : List UInt8) =>
 some d) some)
def zxe (a : Int) : Option (Bool) :=
 some (!decide (bits BinOp.and IntKind.u8 a 192 = 128))
def zu6 (a : List UInt8) : Option (Int × Int) :=
 cond (decide ((↑(List.length a) : Int) < 1))
 (some ((65533, 0)))
 (zh a (0) fun _ =>
 none)
def zsu (a : List UInt8) : Option (Int × Int) :=
 cond (!decide (a = (ByteArray.mk #[]).data.toList))
 (zh a (0) fun b =>
 cond (decide ((↑(UInt8.toNat b) : Int) < 128))
 (zh a (0) fun c =>
 zg (IntKind.wrap .i32 (↑(UInt8.toNat c) : Int)) fun d =>
 some ((d, 1)))
 ((zu6 a).bind fun e =>
 some e))
 ((zu6 a).bind fun f =>
 some f)
def zBn (a : List UInt8) : Option (Int × Int) :=
 cond (decide ((↑(List.length a) : Int) = 0))
 (some ((65533, 0)))
 (zg (IntKind.wrap .i64 ((↑(List.length a) : Int) - 1)) fun d =>
 zh a d fun i =>
 zg (IntKind.wrap .i32 (↑(UInt8.toNat i) : Int)) fun e =>
 cond (decide (e < 128))
 (some ((e, 1)))
 (zg (IntKind.wrap .i64 ((↑(List.length a) : Int) - 4)) fun j =>
 zg (IntKind.wrap .i64 (d - 1)) fun k =>
 Option.bind (
 lpO (fun (b : Int) =>
 cond (decide (max j 0 <= b))
 (zh a b fun l =>
 (zxe ((↑(UInt8.toNat l) : Int))).bind fun m =>
 cond m
 (some (.inr (.inl b)))
 (zg (IntKind.wrap .i64 (b - 1)) fun n =>
 some (.inl n)))
 (some (.inr (.inl b)))) k)
 (Sum.elim (fun (c : Int) =>
 cond (decide (c < 0))
 (zn ((0 : Int) <= (0 : Int) /\ (0 : Int) <= (↑(List.length a) : Int) /\ (↑(List.length a) : Int) <= (↑(List.length a) : Int)) (
 (zsu (List.drop (Int.toNat 0) (List.take (Int.toNat (↑(List.length a) : Int)) a))).bind fun f =>
 zg (IntKind.wrap .i64 (0 + f.snd)) fun o =>
 cond (!decide (o = (↑(List.length a) : Int)))
 (some ((65533, 1)))
 (some f)))
 (zn (0 <= c /\ c <= (↑(List.length a) : Int) /\ (↑(List.length a) : Int) <= (↑(List.length a) : Int)) (
 (zsu (List.drop (Int.toNat c) (List.take (Int.toNat (↑(List.length a) : Int)) a))).bind fun g =>
 zg (IntKind.wrap .i64 (c + g.snd)) fun p =>
 cond (!decide (p = (↑(List.length a) : Int)))
 (some ((65533, 1)))
 (some g)))) some)))
def zdz (b : List UInt8) (c : Int) : Option (Int) :=
 (qg b c).bind fun a =>
 some a
def zd1 (a : Int) : Option (Bool) :=
 cond (decide (0 <= a))
 (cond (decide (a < 55296))
 (some (true))
 (cond (decide (57343 < a))
 (cond (decide (a <= 1114111))
 (some (true))
 (some (false)))
 (some (false))))
 (cond (decide (57343 < a))
 (cond (decide (a <= 1114111))
 (some (true))
 (some (false)))
 (some (false)))
def ziu (d : List UInt8) (c : Int) : Option (Int) :=
 cond (decide (0 <= c))
 (cond (decide (c < 128))
 (zg (IntKind.wrap .u8 c) fun p =>
 (zdz d p).bind fun q =>
 some q)
 (cond (decide (c = 65533))
 (none)
 ((zd1 c).bind fun s =>
 cond (!s)
 (some ((-1 : Int)))
 (zg (IntKind.wrap .i64 ((↑(List.length (Utf8.encode c).data.toList) : Int) - 1)) fun a =>
 Option.bind (
 lpO (fun (_ : Unit) =>
 cond (decide (a < (↑(List.length d) : Int)))
 (zh d a fun t =>
 zh ((Utf8.encode c).data.toList) a fun u =>
 cond (!decide ((↑(UInt8.toNat t) : Int) = (↑(UInt8.toNat u) : Int)))
 (zg (IntKind.wrap .i64 (a + 1)) fun j =>
 zn (0 <= j /\ j <= (↑(List.length d) : Int)) (
 zh ((Utf8.encode c).data.toList) a fun v =>
 (zdz (List.drop (Int.toNat j) (List.take (Int.toNat (↑(List.length d) : Int)) d)) ((↑(UInt8.toNat v) : Int))).bind fun l =>
 cond (decide (l < 0))
 (some (.inr (.inr ((-1 : Int)))))
 (zg (IntKind.wrap .i64 (l + 1)) fun w =>
 zg (IntKind.wrap .i64 (a + w)) fun m =>
 Option.bind (
 lpO (fun (e : Int) =>
 cond (decide (e < (↑(List.length (Utf8.encode c).data.toList) : Int)))
 (zg (IntKind.wrap .i64 (m - e)) fun x =>
 zh d x fun y =>
 zg (IntKind.wrap .i64 (a - e)) fun z =>
 zh ((Utf8.encode c).data.toList) z fun A =>
 cond (!decide ((↑(UInt8.toNat y) : Int) = (↑(UInt8.toNat A) : Int)))
 (none)
 (zg (IntKind.wrap .i64 (e + 1)) fun C =>
 some (.inl C)))
 (some (.inr (.inl ())))) (1))
 (Sum.elim (fun (_ : Unit) =>
 zg (IntKind.wrap .i64 (m - a)) fun D =>
 some (.inr (.inr D))) some))))
 (Option.bind (
 lpO (fun (f : Int) =>
 cond (decide (f < (↑(List.length (Utf8.encode c).data.toList) : Int)))
 (zg (IntKind.wrap .i64 (a - f)) fun F =>
 zh d F fun G =>
 zg (IntKind.wrap .i64 (a - f)) fun H =>
 zh ((Utf8.encode c).data.toList) H fun I =>
 cond (!decide ((↑(UInt8.toNat G) : Int) = (↑(UInt8.toNat I) : Int)))
 (none)
 (zg (IntKind.wrap .i64 (f + 1)) fun J =>
 some (.inl J)))
 (some (.inr (.inl ())))) (1))
 (Sum.elim (fun (_ : Unit) =>
 zg (IntKind.wrap .i64 (a - a)) fun K =>
 some (.inr (.inr K))) some)))
 (some (.inr (.inl ())))) (()))
 (Sum.elim (fun (_ : Unit) =>
 some ((-1 : Int))) some)))))
 (cond (decide (c = 65533))
 (none)
 ((zd1 c).bind fun L =>
 cond (!L)
 (some ((-1 : Int)))
 (zg (IntKind.wrap .i64 ((↑(List.length (Utf8.encode c).data.toList) : Int) - 1)) fun b =>
 Option.bind (
 lpO (fun (_ : Unit) =>
 cond (decide (b < (↑(List.length d) : Int)))
 (zh d b fun M =>
 zh ((Utf8.encode c).data.toList) b fun N =>
 cond (!decide ((↑(UInt8.toNat M) : Int) = (↑(UInt8.toNat N) : Int)))
 (zg (IntKind.wrap .i64 (b + 1)) fun k =>
 zn (0 <= k /\ k <= (↑(List.length d) : Int)) (
 zh ((Utf8.encode c).data.toList) b fun O =>
 (zdz (List.drop (Int.toNat k) (List.take (Int.toNat (↑(List.length d) : Int)) d)) ((↑(UInt8.toNat O) : Int))).bind fun n =>
 cond (decide (n < 0))
 (some (.inr (.inr ((-1 : Int)))))
 (zg (IntKind.wrap .i64 (n + 1)) fun P =>
 zg (IntKind.wrap .i64 (b + P)) fun o =>
 Option.bind (
 lpO (fun (g : Int) =>
 cond (decide (g < (↑(List.length (Utf8.encode c).data.toList) : Int)))
 (zg (IntKind.wrap .i64 (o - g)) fun Q =>
 zh d Q fun R =>
 zg (IntKind.wrap .i64 (b - g)) fun S =>
 zh ((Utf8.encode c).data.toList) S fun T =>
 cond (!decide ((↑(UInt8.toNat R) : Int) = (↑(UInt8.toNat T) : Int)))
 (none)
 (zg (IntKind.wrap .i64 (g + 1)) fun U =>
 some (.inl U)))
 (some (.inr (.inl ())))) (1))
 (Sum.elim (fun (_ : Unit) =>
 zg (IntKind.wrap .i64 (o - b)) fun V =>
 some (.inr (.inr V))) some))))
 (Option.bind (
 lpO (fun (i : Int) =>
 cond (decide (i < (↑(List.length (Utf8.encode c).data.toList) : Int)))
 (zg (IntKind.wrap .i64 (b - i)) fun W =>
 zh d W fun X =>
 zg (IntKind.wrap .i64 (b - i)) fun Y =>
 zh ((Utf8.encode c).data.toList) Y fun Z =>
 cond (!decide ((↑(UInt8.toNat X) : Int) = (↑(UInt8.toNat Z) : Int)))
 (none)
 (zg (IntKind.wrap .i64 (i + 1)) fun a2 =>
 some (.inl a2)))
 (some (.inr (.inl ())))) (1))
 (Sum.elim (fun (_ : Unit) =>
 zg (IntKind.wrap .i64 (b - b)) fun a3 =>
 some (.inr (.inr a3))) some)))
 (some (.inr (.inl ())))) (()))
 (Sum.elim (fun (_ : Unit) =>
 some ((-1 : Int))) some))))
def xB (b : List UInt8) (c : Int) : Option (Bool) :=
 (ziu b c).bind fun a =>
 some (decide (0 <= a))
def zvk (m : List UInt8) (l : List UInt8) : Option (List UInt8) :=
 Option.bind (
 lpO (fun (a : List UInt8) =>
 cond (decide (0 < (↑(List.length a) : Int)))
 (zg (IntKind.wrap .i64 ((↑(List.length a) : Int) - 1)) fun f =>
 zh a f fun g =>
 zg (IntKind.wrap .i32 (↑(UInt8.toNat g) : Int)) fun d =>
 cond (decide (128 <= d))
 ((zBn a).bind fun e =>
 (xB l (e.fst)).bind fun i =>
 cond (!i)
 (some (.inr (.inl a)))
 (zg (IntKind.wrap .i64 ((↑(List.length a) : Int) - e.snd)) fun b =>
 zn (0 <= b /\ b <= (↑(List.length a) : Int)) (
 some (.inl (List.drop (Int.toNat 0) (List.take (Int.toNat b) a))))))
 ((xB l d).bind fun j =>
 cond (!j)
 (some (.inr (.inl a)))
 (zg (IntKind.wrap .i64 ((↑(List.length a) : Int) - 1)) fun c =>
 zn (0 <= c /\ c <= (↑(List.length a) : Int)) (
 some (.inl (List.drop (Int.toNat 0) (List.take (Int.toNat c) a)))))))
 (some (.inr (.inl a)))) m)
 (Sum.elim (fun (k : List UInt8) =>
 some k) some)
def zvd (e : List UInt8) (f : List UInt8) : Option (List UInt8) :=
 Option.bind (
 lpO (fun (a : List UInt8) =>
 cond (decide (0 < (↑(List.length a) : Int)))
 ((zsu a).bind fun b =>
 (xB f (b.fst)).bind fun c =>
 cond (!c)
 (some (.inr (.inl a)))
 (zn (0 <= b.snd /\ b.snd <= (↑(List.length a) : Int)) (
 some (.inl (List.drop (Int.toNat b.snd) (List.take (Int.toNat (↑(List.length a) : Int)) a))))))
 (some (.inr (.inl a)))) e)
 (Sum.elim (fun (d : List UInt8) =>
 some d) some)
def zqc (b : List UInt8) (a : List UInt8) : Option (List UInt8) :=
 cond (decide (b = (ByteArray.mk #[]).data.toList))
 (some b)
 (cond (decide (a = (ByteArray.mk #[]).data.toList))
 (some b)
 (cond (decide ((↑(List.length a) : Int) = 1))
 (zh a (0) fun n =>
 cond (decide ((↑(UInt8.toNat n) : Int) < 128))
 (zh a (0) fun o =>
 (Fz4 b ((↑(UInt8.toNat o) : Int))).bind fun p =>
 zh a (0) fun q =>
 (Fz5 p ((↑(UInt8.toNat q) : Int))).bind fun s =>
 some s)
 ((Fz6 a).bind fun c =>
 cond (c.snd)
 ((Fz8 b (c.fst)).bind fun e =>
 (Fz9 e (c.fst)).bind fun f =>
 some f)
 ((zvk b a).bind fun g =>
 (zvd g a).bind fun i =>
 some i)))
 ((Fz6 a).bind fun d =>
 cond (d.snd)
 ((Fz8 b (d.fst)).bind fun j =>
 (Fz9 j (d.fst)).bind fun k =>
 some k)
 ((zvk b a).bind fun l =>
 (zvd l a).bind fun m =>
 some m))))
def zrg (a : List UInt8) : Option (Bool) :=
 cond (decide (a = (ByteArray.mk #[]).data.toList))
 (some (false))
 (cond (decide (16 < (↑(List.length a) : Int)))
 (some (false))
 (zh a (0) fun c =>
 cond (decide ((↑(UInt8.toNat c) : Int) < 97))
 (some (false))
 (zh a (0) fun d =>
 cond (decide (122 < (↑(UInt8.toNat d) : Int)))
 (some (false))
 ((zqc a ((ByteArray.mk #[97, 98, 99, 100, 101, 102, 103, 104, 105, 106, 107, 108, 109, 110, 111, 112, 113, 114, 115, 116, 117, 118, 119, 120, 121, 122, 48, 49, 50, 51, 52, 53, 54, 55, 56, 57, 45]).data.toList)).bind fun b =>
 some (decide (b = (ByteArray.mk #[]).data.toList))))))
def zr4 (d : List (List UInt8)) (e : List UInt8) : Option (Int) :=
 Option.bind (
 lpO (fun (a : Int) =>
 cond (decide (a < (↑(List.length (List.map SV.str d)) : Int)))
 (zh d a fun b =>
 cond (decide (e = b))
 (some (.inr (.inr a)))
 (zg (IntKind.wrap .i64 (a + 1)) fun c =>
 some (.inl c)))
 (some (.inr (.inl ())))) (0))
 (Sum.elim (fun (_ : Unit) =>
 some ((-1 : Int))) some)
def zrb (b : List (List UInt8)) (c : List UInt8) : Option (Bool) :=
 (zr4 b c).bind fun a =>
 some (decide (0 <= a))
def zih (b : List (List UInt8)) : Option (Int × Int) :=
 cond (decide ((↑(List.length (List.map SV.str b)) : Int) < 1))
 (some (((-1 : Int), 3)))
 (cond (decide (8 < (↑(List.length (List.map SV.str b)) : Int)))
 (some (((-1 : Int), 3)))
 (Option.bind (
 lpO (fun (a : Int) =>
 cond (decide (a < (↑(List.length (List.map SV.str b)) : Int)))
 (zh b a fun c =>
 (zrg c).bind fun d =>
 cond (!d)
 (some (.inr (.inr ((a, 6)))))
 (zn (0 <= a /\ a <= (↑(List.length (List.map SV.str b)) : Int)) (
 (zrb (List.drop (Int.toNat 0) (List.take (Int.toNat a) b)) c).bind fun e =>
 cond e
 (some (.inr (.inr ((a, 8)))))
 (zg (IntKind.wrap .i64 (a + 1)) fun f =>
 some (.inl f)))))
 (some (.inr (.inl ())))) (0))
 (Sum.elim (fun (_ : Unit) =>
 some ((0, 0))) some)))
def zhx (c : Int) : Option (Int) :=
 zh ((ByteArray.mk (List.toArray (List.append (List.append [(0 : UInt8), 1, 2, 2, 3, 3, 3, 3, 4, 4, 4, 4, 4, 4, 4, 4, 5, 5, 5, 5, 5, 5, 5, 5, 5, 5, 5, 5, 5, 5, 5, 5, 6, 6, 6, 6, 6, 6, 6, 6, 6, 6, 6, 6, 6, 6, 6, 6, 6, 6, 6, 6, 6, 6, 6, 6, 6, 6, 6, 6, 6, 6, 6, 6] [(7 : UInt8), 7, 7, 7, 7, 7, 7, 7, 7, 7, 7, 7, 7, 7, 7, 7, 7, 7, 7, 7, 7, 7, 7, 7, 7, 7, 7, 7, 7, 7, 7, 7, 7, 7, 7, 7, 7, 7, 7, 7, 7, 7, 7, 7, 7, 7, 7, 7, 7, 7, 7, 7, 7, 7, 7, 7, 7, 7, 7, 7, 7, 7, 7, 7]) (List.append [(8 : UInt8), 8, 8, 8, 8, 8, 8, 8, 8, 8, 8, 8, 8, 8, 8, 8, 8, 8, 8, 8, 8, 8, 8, 8, 8, 8, 8, 8, 8, 8, 8, 8, 8, 8, 8, 8, 8, 8, 8, 8, 8, 8, 8, 8, 8, 8, 8, 8, 8, 8, 8, 8, 8, 8, 8, 8, 8, 8, 8, 8, 8, 8, 8, 8] [(8 : UInt8), 8, 8, 8, 8, 8, 8, 8, 8, 8, 8, 8, 8, 8, 8, 8, 8, 8, 8, 8, 8, 8, 8, 8, 8, 8, 8, 8, 8, 8, 8, 8, 8, 8, 8, 8, 8, 8, 8, 8, 8, 8, 8, 8, 8, 8, 8, 8, 8, 8, 8, 8, 8, 8, 8, 8, 8, 8, 8, 8, 8, 8, 8, 8])))).data.toList) c fun a =>
 zg (IntKind.wrap .i64 (↑(UInt8.toNat a) : Int)) fun b =>
 some b
def zgc (e : TL) : Option (Tlattice_order) :=
 Option.bind (
 lpO (fun (b : Int × List Int × List Int) =>
 cond (decide (b.fst < (↑(List.length (List.map (SV.int .u8) e.Up)) : Int)))
 (zh (e.Up) (b.fst) fun c =>
 zn (0 <= b.fst /\ b.fst < (↑(8 : Nat) : Int)) (
 zh (b.snd.fst) ((↑(Int.toNat b.fst) : Int)) fun _ =>
 Option.bind (
 lpO (fun (a : Int × List Int) =>
 cond (decide (a.fst < (↑(List.length (List.map SV.str e.Names)) : Int)))
 (zn (0 <= a.fst /\ a.fst < (↑(8 : Nat) : Int)) (
 zh (a.snd) ((↑(Int.toNat a.fst) : Int)) fun f =>
 zn (0 <= a.fst) (
 zn (0 <= b.fst) (
 zg (IntKind.wrap .u8 (bits BinOp.and IntKind.u8 (Int.fdiv c (2 ^ min (Int.toNat a.fst) (IntKind.bits IntKind.u8))) 1 * 2 ^ min (Int.toNat b.fst) (IntKind.bits IntKind.u8))) fun g =>
 zn (0 <= a.fst /\ a.fst < (↑(8 : Nat) : Int)) (
 zh (a.snd) ((↑(Int.toNat a.fst) : Int)) fun _ =>
 zg (IntKind.wrap .i64 (a.fst + 1)) fun i =>
 some (.inl ((i, List.set a.snd (Int.toNat a.fst) (bits BinOp.or IntKind.u8 f g)))))))))
 (some (.inr (.inl (a.snd))))) ((0, b.snd.snd)))
 (Sum.elim (fun (j : List Int) =>
 zg (IntKind.wrap .i64 (b.fst + 1)) fun k =>
 some (.inl ((k, List.set b.snd.fst (Int.toNat b.fst) c, j)))) some)))
 (some (.inr (.inl (b.snd))))) ((0, [0, 0, 0, 0, 0, 0, 0, 0], [0, 0, 0, 0, 0, 0, 0, 0])))
 (Sum.elim (fun (d : List Int × List Int) =>
 some (Tlattice_order.mk (↑(List.length (List.map SV.str e.Names)) : Int) d.fst d.snd)) some)
def zi4 (d : List Int) (k : Int) (e : Int) (f : Int) : Option (Int) :=
 zn (0 <= e /\ e < (↑(8 : Nat) : Int)) (
 zh d ((↑(Int.toNat e) : Int)) fun b =>
 zn (0 <= f /\ f < (↑(8 : Nat) : Int)) (
 zh d ((↑(Int.toNat f) : Int)) fun c =>
 Option.bind (
 lpO (fun (a : Int) =>
 cond (decide (a < k))
 (zn (0 <= a) (
 cond (decide (bits BinOp.and IntKind.u8 (Int.fdiv (bits BinOp.and IntKind.u8 b c) (2 ^ min (Int.toNat a) (IntKind.bits IntKind.u8))) 1 = 1))
 (zn (0 <= a /\ a < (↑(8 : Nat) : Int)) (
 zh d ((↑(Int.toNat a) : Int)) fun g =>
 cond (decide (g = bits BinOp.and IntKind.u8 b c))
 (some (.inr (.inr a)))
 (zg (IntKind.wrap .i64 (a + 1)) fun i =>
 some (.inl i))))
 (zg (IntKind.wrap .i64 (a + 1)) fun j =>
 some (.inl j))))
 (some (.inr (.inl ())))) (0))
 (Sum.elim (fun (_ : Unit) =>
 some ((-1 : Int))) some)))
def zql (d : List Int) (k : Int) (e : Int) (f : Int) : Option (Int) :=
 zn (0 <= e /\ e < (↑(8 : Nat) : Int)) (
 zh d ((↑(Int.toNat e) : Int)) fun b =>
 zn (0 <= f /\ f < (↑(8 : Nat) : Int)) (
 zh d ((↑(Int.toNat f) : Int)) fun c =>
 Option.bind (
 lpO (fun (a : Int) =>
 cond (decide (a < k))
 (zn (0 <= a) (
 cond (decide (bits BinOp.and IntKind.u8 (Int.fdiv (bits BinOp.and IntKind.u8 b c) (2 ^ min (Int.toNat a) (IntKind.bits IntKind.u8))) 1 = 1))
 (zn (0 <= a /\ a < (↑(8 : Nat) : Int)) (
 zh d ((↑(Int.toNat a) : Int)) fun g =>
 cond (decide (g = bits BinOp.and IntKind.u8 b c))
 (some (.inr (.inr a)))
 (zg (IntKind.wrap .i64 (a + 1)) fun i =>
 some (.inl i))))
 (zg (IntKind.wrap .i64 (a + 1)) fun j =>
 some (.inl j))))
 (some (.inr (.inl ())))) (0))
 (Sum.elim (fun (_ : Unit) =>
 some ((-1 : Int))) some)))
def zba (c : TL) : Option (Int × Int) :=
 (zih (c.Names)).bind fun j =>
 cond (!decide (j.snd = 0))
 (some j)
 (cond (!decide ((↑(List.length (List.map (SV.int .u8) c.Up)) : Int) = (↑(List.length (List.map SV.str c.Names)) : Int)))
 (some (((-1 : Int), 6)))
 (zn ((0 : Int) <= (↑(List.length (List.map SV.str c.Names)) : Int)) (
 zg (IntKind.wrap .u8 (1 * 2 ^ min (Int.toNat (↑(List.length (List.map SV.str c.Names)) : Int)) (IntKind.bits IntKind.u8))) fun C =>
 zg (IntKind.wrap .u8 (C - 1)) fun k =>
 Option.bind (
 lpO (fun (a : Int) =>
 cond (decide (a < (↑(List.length (List.map (SV.int .u8) c.Up)) : Int)))
 (zh (c.Up) a fun e =>
 (zhx e).bind fun l =>
 cond (decide ((↑(List.length (List.map SV.str c.Names)) : Int) < l))
 (some (.inr (.inr ((a, 6)))))
 (zn (0 <= a) (
 cond (decide (bits BinOp.and IntKind.u8 (Int.fdiv e (2 ^ min (Int.toNat a) (IntKind.bits IntKind.u8))) 1 = 0))
 (some (.inr (.inr ((a, 6)))))
 (Option.bind (
 lpO (fun (b : Int) =>
 cond (decide (b < (↑(List.length (List.map (SV.int .u8) c.Up)) : Int)))
 (zh (c.Up) b fun g =>
 zn (0 <= b) (
 cond (decide (bits BinOp.and IntKind.u8 (Int.fdiv e (2 ^ min (Int.toNat b) (IntKind.bits IntKind.u8))) 1 = 0))
 (zg (IntKind.wrap .i64 ((↑(List.length (List.map SV.str c.Names)) : Int) - 1)) fun m =>
 cond (decide (b = m))
 (zg (IntKind.wrap .i64 (a + 1)) fun n =>
 some (.inr (.inr (.inl n))))
 (zg (IntKind.wrap .i64 (b + 1)) fun o =>
 some (.inl o)))
 (cond (!decide (b = a))
 (zn (0 <= a) (
 cond (decide (bits BinOp.and IntKind.u8 (Int.fdiv g (2 ^ min (Int.toNat a) (IntKind.bits IntKind.u8))) 1 = 1))
 (some (.inr (.inr (.inr (.inr ((a, 6)))))))
 (cond (!decide (bits BinOp.andNot IntKind.u8 (bits BinOp.and IntKind.u8 g k) e = 0))
 (some (.inr (.inr (.inr (.inr ((a, 6)))))))
 (zg (IntKind.wrap .i64 ((↑(List.length (List.map SV.str c.Names)) : Int) - 1)) fun p =>
 cond (decide (b = p))
 (zg (IntKind.wrap .i64 (a + 1)) fun q =>
 some (.inr (.inr (.inl q))))
 (zg (IntKind.wrap .i64 (b + 1)) fun s =>
 some (.inl s))))))
 (cond (!decide (bits BinOp.andNot IntKind.u8 (bits BinOp.and IntKind.u8 g k) e = 0))
 (some (.inr (.inr (.inr (.inr ((a, 6)))))))
 (zg (IntKind.wrap .i64 ((↑(List.length (List.map SV.str c.Names)) : Int) - 1)) fun t =>
 cond (decide (b = t))
 (zg (IntKind.wrap .i64 (a + 1)) fun u =>
 some (.inr (.inr (.inl u))))
 (zg (IntKind.wrap .i64 (b + 1)) fun v =>
 some (.inl v)))))))
 (some (.inr (.inl ())))) (0))
 (Sum.elim (fun (_ : Unit) =>
 zg (IntKind.wrap .i64 (a + 1)) fun w =>
 some (.inl w)) some)))))
 (some (.inr (.inl ())))) (0))
 (Sum.elim (fun (_ : Unit) =>
 (zgc c).bind fun i =>
 Option.bind (
 lpO (fun (d : Int) =>
 cond (decide (d < (↑(List.length (List.map SV.str c.Names)) : Int)))
 (Option.bind (
 lpO (fun (f : Int) =>
 cond (decide (f < (↑(List.length (List.map SV.str c.Names)) : Int)))
 ((zi4 (i.up_) ((↑(List.length (List.map SV.str c.Names)) : Int)) d f).bind fun x =>
 cond (decide (x < 0))
 (some (.inr (.inr (.inr (.inr ((d, 4)))))))
 ((zql (i.down_) ((↑(List.length (List.map SV.str c.Names)) : Int)) d f).bind fun y =>
 cond (decide (y < 0))
 (some (.inr (.inr (.inr (.inr ((d, 4)))))))
 (zg (IntKind.wrap .i64 (f + 1)) fun z =>
 some (.inl z))))
 (some (.inr (.inl ())))) (0))
 (Sum.elim (fun (_ : Unit) =>
 zg (IntKind.wrap .i64 (d + 1)) fun A =>
 some (.inl A)) some))
 (some (.inr (.inl ())))) (0))
 (Sum.elim (fun (_ : Unit) =>
 some ((0, 0))) some)) some))))
def zu9 (b : TP) : Option (Int × Int) :=
 (zba (b.Lattice)).bind fun a =>
 some a
def zng (a : List UInt8) : Option (Int × Int) :=
 Option.bind (
 cond (decide ([(110 : UInt8), (101 : UInt8), (103 : UInt8)] = a))
 (some (.inr ((1, 0))))
 (cond (decide ([(97 : UInt8), (98 : UInt8), (115 : UInt8)] = a))
 (some (.inr ((2, 0))))
 (cond (decide ([(110 : UInt8), (111 : UInt8), (116 : UInt8)] = a))
 (some (.inr ((3, 0))))
 (cond (decide ([(115 : UInt8), (104 : UInt8), (97 : UInt8), (112 : UInt8), (101 : UInt8)] = a))
 (some (.inr ((4, 0))))
 (cond (decide ([(114 : UInt8), (97 : UInt8), (118 : UInt8), (101 : UInt8), (108 : UInt8)] = a))
 (some (.inr ((5, 0))))
 (cond (decide ([(114 : UInt8), (101 : UInt8), (118 : UInt8), (101 : UInt8), (114 : UInt8), (115 : UInt8), (101 : UInt8)] = a))
 (some (.inr ((6, 0))))
 (cond (decide ([(102 : UInt8), (108 : UInt8), (105 : UInt8), (112 : UInt8)] = a))
 (some (.inr ((7, 0))))
 (cond (decide ([(105 : UInt8), (111 : UInt8), (116 : UInt8), (97 : UInt8)] = a))
 (some (.inr ((8, 0))))
 (cond (decide ([(115 : UInt8), (117 : UInt8), (109 : UInt8)] = a))
 (some (.inr ((9, 0))))
 (cond (decide ([(108 : UInt8), (101 : UInt8), (97 : UInt8), (115 : UInt8), (116 : UInt8)] = a))
 (some (.inr ((10, 0))))
 (cond (decide ([(109 : UInt8), (111 : UInt8), (115 : UInt8), (116 : UInt8)] = a))
 (some (.inr ((11, 0))))
 (cond (decide ([(99 : UInt8), (111 : UInt8), (117 : UInt8), (110 : UInt8), (116 : UInt8)] = a))
 (some (.inr ((12, 0))))
 (cond (decide ([(115 : UInt8), (99 : UInt8), (97 : UInt8), (110 : UInt8)] = a))
 (some (.inr ((13, 0))))
 (cond (decide ([(103 : UInt8), (114 : UInt8), (97 : UInt8), (100 : UInt8), (101 : UInt8)] = a))
 (some (.inr ((14, 0))))
 (cond (decide ([(97 : UInt8), (100 : UInt8), (100 : UInt8)] = a))
 (some (.inr ((15, 0))))
 (cond (decide ([(115 : UInt8), (117 : UInt8), (98 : UInt8)] = a))
 (some (.inr ((16, 0))))
 (cond (decide ([(109 : UInt8), (117 : UInt8), (108 : UInt8)] = a))
 (some (.inr ((17, 0))))
 (cond (decide ([(100 : UInt8), (105 : UInt8), (118 : UInt8)] = a))
 (some (.inr ((18, 0))))
 (cond (decide ([(109 : UInt8), (111 : UInt8), (100 : UInt8)] = a))
 (some (.inr ((19, 0))))
 (cond (decide ([(112 : UInt8), (108 : UInt8), (117 : UInt8), (115 : UInt8)] = a))
 (some (.inr ((20, 0))))
 (cond (decide ([(109 : UInt8), (105 : UInt8), (110 : UInt8), (117 : UInt8), (115 : UInt8)] = a))
 (some (.inr ((21, 0))))
 (cond (decide ([(116 : UInt8), (105 : UInt8), (109 : UInt8), (101 : UInt8), (115 : UInt8)] = a))
 (some (.inr ((22, 0))))
 (cond (decide ([(101 : UInt8), (113 : UInt8)] = a))
 (some (.inr ((23, 0))))
 (cond (decide ([(110 : UInt8), (101 : UInt8)] = a))
 (some (.inr ((24, 0))))
 (cond (decide ([(108 : UInt8), (116 : UInt8)] = a))
 (some (.inr ((25, 0))))
 (cond (decide ([(108 : UInt8), (101 : UInt8)] = a))
 (some (.inr ((26, 0))))
 (cond (decide ([(103 : UInt8), (116 : UInt8)] = a))
 (some (.inr ((27, 0))))
 (cond (decide ([(103 : UInt8), (101 : UInt8)] = a))
 (some (.inr ((28, 0))))
 (cond (decide ([(97 : UInt8), (110 : UInt8), (100 : UInt8)] = a))
 (some (.inr ((29, 0))))
 (cond (decide ([(111 : UInt8), (114 : UInt8)] = a))
 (some (.inr ((30, 0))))
 (cond (decide ([(109 : UInt8), (105 : UInt8), (110 : UInt8)] = a))
 (some (.inr ((31, 0))))
 (cond (decide ([(109 : UInt8), (97 : UInt8), (120 : UInt8)] = a))
 (some (.inr ((32, 0))))
 (cond (decide ([(116 : UInt8), (97 : UInt8), (107 : UInt8), (101 : UInt8)] = a))
 (some (.inr ((33, 0))))
 (cond (decide ([(100 : UInt8), (114 : UInt8), (111 : UInt8), (112 : UInt8)] = a))
 (some (.inr ((34, 0))))
 (cond (decide ([(102 : UInt8), (105 : UInt8), (108 : UInt8), (108 : UInt8)] = a))
 (some (.inr ((35, 0))))
 (cond (decide ([(103 : UInt8), (114 : UInt8), (105 : UInt8), (100 : UInt8)] = a))
 (some (.inr ((36, 0))))
 (cond (decide ([(99 : UInt8), (97 : UInt8), (116 : UInt8)] = a))
 (some (.inr ((37, 0))))
 (cond (decide ([(97 : UInt8), (116 : UInt8)] = a))
 (some (.inr ((38, 0))))
 (cond (decide ([(105 : UInt8), (110 : UInt8)] = a))
 (some (.inr ((39, 0))))
 (cond (decide ([(112 : UInt8), (105 : UInt8), (99 : UInt8), (107 : UInt8)] = a))
 (some (.inr ((40, 0))))
 (some (.inl ()))))))))))))))))))))))))))))))))))))))))))
 (Sum.elim (fun (_ : Unit) =>
 some ((0, 4))) some)
def zqm (a : Int) : Option (Bool) :=
 zg (IntKind.wrap .i32 a) fun b =>
 zg (IntKind.wrap .i64 b) fun c =>
 cond (decide (a = c))
 (zg (IntKind.wrap .i32 a) fun d =>
 (zd1 d).bind fun e =>
 some e)
 (some (false))
def zfa : Option (List (List UInt8)) :=
 some ([[], (ByteArray.mk #[32]).data.toList, (ByteArray.mk #[10]).data.toList, (ByteArray.mk #[40, 91]).data.toList, (ByteArray.mk #[41, 93]).data.toList, (ByteArray.mk #[34]).data.toList, [], (ByteArray.mk #[45]).data.toList, [], (ByteArray.mk #[60, 61]).data.toList])
def zdh (a : Int) : Option (Int × Int) :=
 (zqm a).bind fun f =>
 cond (!f)
 (some ((0, 7)))
 (cond (decide (48 <= a))
 (cond (decide (a <= 57))
 (some ((6, 0)))
 (cond (decide (97 <= a))
 (cond (decide (a <= 122))
 (some ((8, 0)))
 ((zfa).bind fun g =>
 Option.bind (
 lpO (fun (b : Int) =>
 cond (decide (b < 10))
 (zh g b fun i =>
 zg (IntKind.wrap .i32 a) fun j =>
 (xB i j).bind fun k =>
 cond k
 (some (.inr (.inr ((b, 0)))))
 (zg (IntKind.wrap .i64 (b + 1)) fun l =>
 some (.inl l)))
 (some (.inr (.inl ())))) (0))
 (Sum.elim (fun (_ : Unit) =>
 some ((10, 0))) some)))
 ((zfa).bind fun m =>
 Option.bind (
 lpO (fun (c : Int) =>
 cond (decide (c < 10))
 (zh m c fun n =>
 zg (IntKind.wrap .i32 a) fun o =>
 (xB n o).bind fun p =>
 cond p
 (some (.inr (.inr ((c, 0)))))
 (zg (IntKind.wrap .i64 (c + 1)) fun q =>
 some (.inl q)))
 (some (.inr (.inl ())))) (0))
 (Sum.elim (fun (_ : Unit) =>
 some ((10, 0))) some))))
 (cond (decide (97 <= a))
 (cond (decide (a <= 122))
 (some ((8, 0)))
 ((zfa).bind fun s =>
 Option.bind (
 lpO (fun (d : Int) =>
 cond (decide (d < 10))
 (zh s d fun t =>
 zg (IntKind.wrap .i32 a) fun u =>
 (xB t u).bind fun v =>
 cond v
 (some (.inr (.inr ((d, 0)))))
 (zg (IntKind.wrap .i64 (d + 1)) fun w =>
 some (.inl w)))
 (some (.inr (.inl ())))) (0))
 (Sum.elim (fun (_ : Unit) =>
 some ((10, 0))) some)))
 ((zfa).bind fun x =>
 Option.bind (
 lpO (fun (e : Int) =>
 cond (decide (e < 10))
 (zh x e fun y =>
 zg (IntKind.wrap .i32 a) fun z =>
 (xB y z).bind fun A =>
 cond A
 (some (.inr (.inr ((e, 0)))))
 (zg (IntKind.wrap .i64 (e + 1)) fun C =>
 some (.inl C)))
 (some (.inr (.inl ())))) (0))
 (Sum.elim (fun (_ : Unit) =>
 some ((10, 0))) some))))
def zd3 (a : List UInt8) : Option (Int) :=
 zh a (0) fun b =>
 zg (IntKind.wrap .u64 (↑(UInt8.toNat b) : Int)) fun c =>
 zh a (1) fun d =>
 zg (IntKind.wrap .u64 (↑(UInt8.toNat d) : Int)) fun e =>
 zg (IntKind.wrap .u64 (e * 2 ^ min (Int.toNat 8) (IntKind.bits IntKind.u64))) fun f =>
 zh a (2) fun g =>
 zg (IntKind.wrap .u64 (↑(UInt8.toNat g) : Int)) fun i =>
 zg (IntKind.wrap .u64 (i * 2 ^ min (Int.toNat 16) (IntKind.bits IntKind.u64))) fun j =>
 zh a (3) fun k =>
 zg (IntKind.wrap .u64 (↑(UInt8.toNat k) : Int)) fun l =>
 zg (IntKind.wrap .u64 (l * 2 ^ min (Int.toNat 24) (IntKind.bits IntKind.u64))) fun m =>
 zh a (4) fun n =>
 zg (IntKind.wrap .u64 (↑(UInt8.toNat n) : Int)) fun o =>
 zg (IntKind.wrap .u64 (o * 2 ^ min (Int.toNat 32) (IntKind.bits IntKind.u64))) fun p =>
 zh a (5) fun q =>
 zg (IntKind.wrap .u64 (↑(UInt8.toNat q) : Int)) fun s =>
 zg (IntKind.wrap .u64 (s * 2 ^ min (Int.toNat 40) (IntKind.bits IntKind.u64))) fun t =>
 zh a (6) fun u =>
 zg (IntKind.wrap .u64 (↑(UInt8.toNat u) : Int)) fun v =>
 zg (IntKind.wrap .u64 (v * 2 ^ min (Int.toNat 48) (IntKind.bits IntKind.u64))) fun w =>
 zh a (7) fun x =>
 zg (IntKind.wrap .u64 (↑(UInt8.toNat x) : Int)) fun y =>
 zg (IntKind.wrap .u64 (y * 2 ^ min (Int.toNat 56) (IntKind.bits IntKind.u64))) fun z =>
 some (bits BinOp.or IntKind.u64 (bits BinOp.or IntKind.u64 (bits BinOp.or IntKind.u64 (bits BinOp.or IntKind.u64 (bits BinOp.or IntKind.u64 (bits BinOp.or IntKind.u64 (bits BinOp.or IntKind.u64 c f) j) m) p) t) w) z)
def zAk (m : List UInt8) : Option (Bool) :=
 Option.bind (
 lpO (fun (a : List UInt8) =>
 cond (decide (0 < (↑(List.length a) : Int)))
 (zh a (0) fun c =>
 cond (decide ((↑(UInt8.toNat c) : Int) < 128))
 (zn ((0 : Int) <= (1 : Int) /\ (1 : Int) <= (↑(List.length a) : Int)) (
 cond (decide (8 < (↑(List.length (List.drop (Int.toNat 1) (List.take (Int.toNat (↑(List.length a) : Int)) a))) : Int)))
 ((zd3 (List.drop (Int.toNat 1) (List.take (Int.toNat (↑(List.length a) : Int)) a))).bind fun d =>
 cond (decide (bits BinOp.and IntKind.u64 d 9259542123273814144 = 0))
 (zn ((0 : Int) <= (8 : Int) /\ (8 : Int) <= (↑(List.length (List.drop (Int.toNat (1 : Int)) (List.take (Int.toNat (↑(List.length a) : Int)) a))) : Int)) (
 cond (decide (16 < (↑(List.length (List.drop (Int.toNat 8) (List.take (Int.toNat (↑(List.length (List.drop (Int.toNat 1) (List.take (Int.toNat (↑(List.length a) : Int)) a))) : Int)) (List.drop (Int.toNat 1) (List.take (Int.toNat (↑(List.length a) : Int)) a))))) : Int)))
 ((zd3 (List.drop (Int.toNat 8) (List.take (Int.toNat (↑(List.length (List.drop (Int.toNat 1) (List.take (Int.toNat (↑(List.length a) : Int)) a))) : Int)) (List.drop (Int.toNat 1) (List.take (Int.toNat (↑(List.length a) : Int)) a))))).bind fun e =>
 zn ((0 : Int) <= (8 : Int) /\ (8 : Int) <= (↑(List.length (List.drop (Int.toNat (8 : Int)) (List.take (Int.toNat (↑(List.length (List.drop (Int.toNat (1 : Int)) (List.take (Int.toNat (↑(List.length a) : Int)) a))) : Int)) (List.drop (Int.toNat (1 : Int)) (List.take (Int.toNat (↑(List.length a) : Int)) a))))) : Int)) (
 (zd3 (List.drop (Int.toNat 8) (List.take (Int.toNat (↑(List.length (List.drop (Int.toNat 8) (List.take (Int.toNat (↑(List.length (List.drop (Int.toNat 1) (List.take (Int.toNat (↑(List.length a) : Int)) a))) : Int)) (List.drop (Int.toNat 1) (List.take (Int.toNat (↑(List.length a) : Int)) a))))) : Int)) (List.drop (Int.toNat 8) (List.take (Int.toNat (↑(List.length (List.drop (Int.toNat 1) (List.take (Int.toNat (↑(List.length a) : Int)) a))) : Int)) (List.drop (Int.toNat 1) (List.take (Int.toNat (↑(List.length a) : Int)) a))))))).bind fun f =>
 cond (decide (bits BinOp.and IntKind.u64 (bits BinOp.or IntKind.u64 e f) 9259542123273814144 = 0))
 (zn ((0 : Int) <= (16 : Int) /\ (16 : Int) <= (↑(List.length (List.drop (Int.toNat (8 : Int)) (List.take (Int.toNat (↑(List.length (List.drop (Int.toNat (1 : Int)) (List.take (Int.toNat (↑(List.length a) : Int)) a))) : Int)) (List.drop (Int.toNat (1 : Int)) (List.take (Int.toNat (↑(List.length a) : Int)) a))))) : Int)) (
 Option.bind (
 lpO (fun (b : List UInt8) =>
 cond (decide (32 < (↑(List.length b) : Int)))
 ((zd3 b).bind fun g =>
 zn ((0 : Int) <= (8 : Int) /\ (8 : Int) <= (↑(List.length b) : Int)) (
 (zd3 (List.drop (Int.toNat 8) (List.take (Int.toNat (↑(List.length b) : Int)) b))).bind fun i =>
 zn ((0 : Int) <= (16 : Int) /\ (16 : Int) <= (↑(List.length b) : Int)) (
 (zd3 (List.drop (Int.toNat 16) (List.take (Int.toNat (↑(List.length b) : Int)) b))).bind fun j =>
 zn ((0 : Int) <= (24 : Int) /\ (24 : Int) <= (↑(List.length b) : Int)) (
 (zd3 (List.drop (Int.toNat 24) (List.take (Int.toNat (↑(List.length b) : Int)) b))).bind fun k =>
 cond (decide (bits BinOp.and IntKind.u64 (bits BinOp.or IntKind.u64 (bits BinOp.or IntKind.u64 g i) (bits BinOp.or IntKind.u64 j k)) 9259542123273814144 = 0))
 (zn ((0 : Int) <= (32 : Int) /\ (32 : Int) <= (↑(List.length b) : Int)) (
 some (.inl (List.drop (Int.toNat 32) (List.take (Int.toNat (↑(List.length b) : Int)) b)))))
 (some (.inr (.inl b)))))))
 (some (.inr (.inl b)))) (List.drop (Int.toNat 16) (List.take (Int.toNat (↑(List.length (List.drop (Int.toNat 8) (List.take (Int.toNat (↑(List.length (List.drop (Int.toNat 1) (List.take (Int.toNat (↑(List.length a) : Int)) a))) : Int)) (List.drop (Int.toNat 1) (List.take (Int.toNat (↑(List.length a) : Int)) a))))) : Int)) (List.drop (Int.toNat 8) (List.take (Int.toNat (↑(List.length (List.drop (Int.toNat 1) (List.take (Int.toNat (↑(List.length a) : Int)) a))) : Int)) (List.drop (Int.toNat 1) (List.take (Int.toNat (↑(List.length a) : Int)) a)))))))
 (Sum.elim (fun (l : List UInt8) =>
 some (.inl l)) some)))
 (some (.inl (List.drop (Int.toNat 8) (List.take (Int.toNat (↑(List.length (List.drop (Int.toNat 1) (List.take (Int.toNat (↑(List.length a) : Int)) a))) : Int)) (List.drop (Int.toNat 1) (List.take (Int.toNat (↑(List.length a) : Int)) a))))))))
 (some (.inl (List.drop (Int.toNat 8) (List.take (Int.toNat (↑(List.length (List.drop (Int.toNat 1) (List.take (Int.toNat (↑(List.length a) : Int)) a))) : Int)) (List.drop (Int.toNat 1) (List.take (Int.toNat (↑(List.length a) : Int)) a))))))))
 (some (.inl (List.drop (Int.toNat 1) (List.take (Int.toNat (↑(List.length a) : Int)) a)))))
 (some (.inl (List.drop (Int.toNat 1) (List.take (Int.toNat (↑(List.length a) : Int)) a))))))
 (none))
 (some (.inr (.inl ())))) m)
 (Sum.elim (fun (_ : Unit) =>
 some (true)) some)
def zsc (a : TK) : Option (Int) :=
 Option.bind (
 cond (decide (a.Kind = 1))
 (some (.inl ((0, a.S))))
 (cond (decide (a.Kind = 3))
 (some (.inl ((0, a.S))))
 (cond (decide (a.Kind = 2))
 (some (.inl ((a.N, []))))
 (some (.inl ((0, [])))))))
 (Sum.elim (fun (f : Int × List UInt8) =>
 cond (decide (a.Kind < 1))
 (some (2))
 (cond (decide (9 < a.Kind))
 (some (2))
 (cond (!(decide (a.Kind = a.Kind) && (decide (a.From = a.From) && (decide (a.To = a.To) && (decide (a.N = f.fst) && (decide (a.S = f.snd) && true))))))
 (some (2))
 (Option.bind (
 cond (decide (a.Kind = 1))
 (cond (decide ((↑(List.length a.S) : Int) <= 0))
 (some (.inr (6)))
 (zh (a.S) (0) fun g =>
 zg (IntKind.wrap .i64 (↑(UInt8.toNat g) : Int)) fun i =>
 (zdh i).bind fun j =>
 cond (!decide (j.fst = 8))
 (some (.inr (6)))
 (zh (a.S) (0) fun k =>
 zg (IntKind.wrap .i64 (↑(UInt8.toNat k) : Int)) fun l =>
 (zdh l).bind fun m =>
 Option.bind (
 lpO (fun (b : Int × Int) =>
 cond (decide (b.fst = 8))
 (zg (IntKind.wrap .i64 (b.snd + 1)) fun c =>
 cond (decide ((↑(List.length a.S) : Int) <= c))
 (some (.inl ((10, c))))
 (zh (a.S) c fun n =>
 zg (IntKind.wrap .i64 (↑(UInt8.toNat n) : Int)) fun o =>
 (zdh o).bind fun p =>
 some (.inl ((p.fst, c)))))
 (cond (decide (b.fst = 6))
 (zg (IntKind.wrap .i64 (b.snd + 1)) fun d =>
 cond (decide ((↑(List.length a.S) : Int) <= d))
 (some (.inl ((10, d))))
 (zh (a.S) d fun q =>
 zg (IntKind.wrap .i64 (↑(UInt8.toNat q) : Int)) fun s =>
 (zdh s).bind fun t =>
 some (.inl ((t.fst, d)))))
 (some (.inr (.inl ((decide (b.fst = 6), b))))))) ((m.fst, 0)))
 (Sum.elim (fun (e : Bool × Int × Int) =>
 zn ((0 : Int) <= (0 : Int) /\ 0 <= e.snd.snd /\ e.snd.snd <= (↑(List.length a.S) : Int)) (
 cond (!decide (List.drop (Int.toNat 0) (List.take (Int.toNat e.snd.snd) a.S) = a.S))
 (some (.inr (6)))
 (some (.inl (16))))) some))))
 (cond (decide (a.Kind = 3))
 ((zAk (a.S)).bind fun u =>
 cond (!u)
 (some (.inr (6)))
 (some (.inl (2000))))
 (some (.inl (0)))))
 (Sum.elim (fun (v : Int) =>
 cond (decide (v < (↑(List.length a.S) : Int)))
 (some (3))
 (some (0))) some))))) some)
def zix (a : List UInt8) : Option (Bool) :=
 cond (decide (a = (ByteArray.mk #[118, 97, 114]).data.toList))
 (some (false))
 (cond (decide (a = (ByteArray.mk #[100, 101, 102]).data.toList))
 (some (false))
 (cond (decide (a = (ByteArray.mk #[111, 117, 116]).data.toList))
 (some (false))
 (cond (decide (a = (ByteArray.mk #[105, 102]).data.toList))
 (some (false))
 (cond (decide (a = (ByteArray.mk #[101, 108, 115, 101]).data.toList))
 (some (false))
 (cond (decide (a = (ByteArray.mk #[119, 104, 105, 108, 101]).data.toList))
 (some (false))
 (cond (decide (a = (ByteArray.mk #[101, 110, 100]).data.toList))
 (some (false))
 (cond (decide (a = (ByteArray.mk #[114, 101, 108, 101, 97, 115, 101]).data.toList))
 (some (false))
 (cond (decide (a = (ByteArray.mk #[105, 110, 116]).data.toList))
 (some (false))
 (cond (decide (a = (ByteArray.mk #[99, 104, 97, 114]).data.toList))
 (some (false))
 ((zng a).bind fun b =>
 cond (decide (b.snd = 0))
 (some (false))
 ((zsc (TK.mk 1 0 0 0 a)).bind fun c =>
 some (decide (c = 0)))))))))))))
def jQ (b : TL) (a : Int) : Option (Bool) :=
 cond (decide (0 <= a))
 (some (decide (a < (↑(List.length (List.map SV.str b.Names)) : Int))))
 (some (false))
def zr5 (c : TP) : Option (Int × Int) :=
 cond (decide (16 < (↑(List.length (List.map zT c.Channels)) : Int)))
 (some (((-1 : Int), 3)))
 (Option.bind (
 lpO (fun (a : Int × List (List UInt8)) =>
 cond (decide (a.fst < (↑(List.length (List.map zT c.Channels)) : Int)))
 (zh (c.Channels) (a.fst) fun b =>
 (zix (b.s_)).bind fun d =>
 cond (!d)
 (some (.inr (.inr ((a.fst, 24)))))
 (cond (inL (b.s_) (a.snd))
 (some (.inr (.inr ((a.fst, 8)))))
 (cond (inL (b.s_) (a.snd))
 ((jQ (c.Lattice) (b.at_)).bind fun e =>
 cond (!e)
 (some (.inr (.inr ((a.fst, 7)))))
 (zg (IntKind.wrap .i64 (a.fst + 1)) fun f =>
 some (.inl ((f, a.snd)))))
 ((jQ (c.Lattice) (b.at_)).bind fun g =>
 cond (!g)
 (some (.inr (.inr ((a.fst, 7)))))
 (zg (IntKind.wrap .i64 (a.fst + 1)) fun i =>
 some (.inl ((i, a.snd ++ [b.s_]))))))))
 (some (.inr (.inl ())))) ((0, [])))
 (Sum.elim (fun (_ : Unit) =>
 some ((0, 0))) some))
def zqu (e : TL) (f : List Int) : Option (Int) :=
 (zba e).bind fun b =>
 cond (!decide (b.snd = 0))
 (some (b.snd))
 (Option.bind (
 lpO (fun (a : Int) =>
 cond (decide (a < (↑(List.length (List.map (SV.int .i64) f)) : Int)))
 (zh f a fun c =>
 cond (decide (c < 0))
 (some (.inr (.inr (7))))
 (cond (decide ((↑(List.length (List.map SV.str e.Names)) : Int) <= c))
 (some (.inr (.inr (7))))
 (zg (IntKind.wrap .i64 (a + 1)) fun d =>
 some (.inl d))))
 (some (.inr (.inl ())))) (0))
 (Sum.elim (fun (_ : Unit) =>
 some (0)) some))
def zk4 (c : Int) : Option (Int) :=
 zh ((ByteArray.mk (List.toArray (List.append (List.append [(0 : UInt8), 1, 1, 2, 1, 2, 2, 3, 1, 2, 2, 3, 2, 3, 3, 4, 1, 2, 2, 3, 2, 3, 3, 4, 2, 3, 3, 4, 3, 4, 4, 5, 1, 2, 2, 3, 2, 3, 3, 4, 2, 3, 3, 4, 3, 4, 4, 5, 2, 3, 3, 4, 3, 4, 4, 5, 3, 4, 4, 5, 4, 5, 5, 6] [(1 : UInt8), 2, 2, 3, 2, 3, 3, 4, 2, 3, 3, 4, 3, 4, 4, 5, 2, 3, 3, 4, 3, 4, 4, 5, 3, 4, 4, 5, 4, 5, 5, 6, 2, 3, 3, 4, 3, 4, 4, 5, 3, 4, 4, 5, 4, 5, 5, 6, 3, 4, 4, 5, 4, 5, 5, 6, 4, 5, 5, 6, 5, 6, 6, 7]) (List.append [(1 : UInt8), 2, 2, 3, 2, 3, 3, 4, 2, 3, 3, 4, 3, 4, 4, 5, 2, 3, 3, 4, 3, 4, 4, 5, 3, 4, 4, 5, 4, 5, 5, 6, 2, 3, 3, 4, 3, 4, 4, 5, 3, 4, 4, 5, 4, 5, 5, 6, 3, 4, 4, 5, 4, 5, 5, 6, 4, 5, 5, 6, 5, 6, 6, 7] [(2 : UInt8), 3, 3, 4, 3, 4, 4, 5, 3, 4, 4, 5, 4, 5, 5, 6, 3, 4, 4, 5, 4, 5, 5, 6, 4, 5, 5, 6, 5, 6, 6, 7, 3, 4, 4, 5, 4, 5, 5, 6, 4, 5, 5, 6, 5, 6, 6, 7, 4, 5, 5, 6, 5, 6, 6, 7, 5, 6, 6, 7, 6, 7, 7, 8])))).data.toList) c fun a =>
 zg (IntKind.wrap .i64 (↑(UInt8.toNat a) : Int)) fun b =>
 some b
def zsw (i : List Int) (g : Int) : Option (Int) :=
 Option.bind (
 lpO (fun (a : Int) =>
 zg (IntKind.wrap .i64 (g - 1)) fun b =>
 cond (decide (a < b))
 (zn (0 <= a /\ a < (↑(8 : Nat) : Int)) (
 zh i ((↑(Int.toNat a) : Int)) fun c =>
 (zk4 c).bind fun d =>
 cond (decide (d < g))
 (zg (IntKind.wrap .i64 (a + 1)) fun e =>
 some (.inl e))
 (some (.inr (.inl a)))))
 (some (.inr (.inl a)))) (0))
 (Sum.elim (fun (f : Int) =>
 some f) some)
def zqe (d : TL) : Option (Int × Int) :=
 (zqu d ([])).bind fun a =>
 cond (!decide (a = 0))
 (some ((0, a)))
 ((zgc d).bind fun b =>
 (zsw (b.up_) (b.n_)).bind fun c =>
 some ((c, 0)))
def zqt (f : TL) (d : List Int) : Option (Int × Int) :=
 (zba f).bind fun b =>
 cond (!decide (b.snd = 0))
 (some (((-1 : Int), b.snd)))
 (cond (decide (64 < (↑(List.length (List.map (SV.int .i64) d)) : Int)))
 (some (((-1 : Int), 3)))
 (Option.bind (
 lpO (fun (a : Int) =>
 cond (decide (a < (↑(List.length (List.map (SV.int .i64) d)) : Int)))
 (zh d a fun c =>
 cond (decide (c < 0))
 (some (.inr (.inr ((a, 7)))))
 (cond (decide ((↑(List.length (List.map SV.str f.Names)) : Int) <= c))
 (some (.inr (.inr ((a, 7)))))
 (zg (IntKind.wrap .i64 (a + 1)) fun e =>
 some (.inl e))))
 (some (.inr (.inl ())))) (0))
 (Sum.elim (fun (_ : Unit) =>
 some ((0, 0))) some)))
def zn2 (c : TL) (d : Int) (b : Int) : Option (Bool) :=
 zh (c.Up) d fun a =>
 zn (0 <= b) (
 some (decide (bits BinOp.and IntKind.u8 (Int.fdiv a (2 ^ min (Int.toNat b) (IntKind.bits IntKind.u8))) 1 = 1)))
def zxi (b : Int) (c : TL) (d : Int) : Option (Bool) :=
 (zn2 c b d).bind fun a =>
 some (!a)
def zqr (e : List Int) (f : TL × Int) : Option (Int) :=
 Option.bind (
 lpO (fun (a : Int) =>
 cond (decide (a < (↑(List.length (List.map (SV.int .i64) e)) : Int)))
 (zh e a fun b =>
 (zxi b (f.fst) (f.snd)).bind fun c =>
 cond c
 (some (.inr (.inr a)))
 (zg (IntKind.wrap .i64 (a + 1)) fun d =>
 some (.inl d)))
 (some (.inr (.inl ())))) (0))
 (Sum.elim (fun (_ : Unit) =>
 some ((-1 : Int))) some)
def zif (c : TL) (e : List Int) (d : Int) : Option (Int × Int) :=
 (zqt c e).bind fun a =>
 cond (!decide (a.snd = 0))
 (some a)
 (cond (decide (d < 0))
 (some (((-1 : Int), 7)))
 (cond (decide ((↑(List.length (List.map SV.str c.Names)) : Int) <= d))
 (some (((-1 : Int), 7)))
 ((zqr e ((c, d))).bind fun b =>
 cond (decide (0 <= b))
 (some ((b, 25)))
 (some ((0, 0))))))
def zjd (b : TL) (a : TY) : Option (Int) :=
 (zqe b).bind fun c =>
 cond (!decide (c.snd = 0))
 (some (c.snd))
 (cond (!decide (a.Kind = 1))
 (cond (!decide (a.Kind = 2))
 (some (7))
 (cond (decide (a.Rank < 0))
 (some (7))
 (cond (decide (2 < a.Rank))
 (some (7))
 ((jQ b (a.Axes.fst)).bind fun i =>
 cond (!i)
 (some (7))
 ((jQ b (a.Axes.snd)).bind fun j =>
 cond (!j)
 (some (7))
 ((jQ b (a.Data)).bind fun k =>
 cond (!k)
 (some (7))
 (zn (0 <= a.Rank /\ a.Rank <= (↑(2 : Nat) : Int)) (
 Option.bind (
 lpO (fun (d : Int) =>
 cond (decide (d < (↑(List.length (List.drop (Int.toNat a.Rank) (List.take (Int.toNat (↑(2 : Nat) : Int)) [SV.int .i64 a.Axes.fst, SV.int .i64 a.Axes.snd]))) : Int)))
 (zh (List.drop (Int.toNat a.Rank) (List.take (Int.toNat (↑(2 : Nat) : Int)) [a.Axes.fst, a.Axes.snd])) d fun l =>
 cond (!decide (l = c.fst))
 (some (.inr (.inr (6))))
 (zg (IntKind.wrap .i64 (d + 1)) fun m =>
 some (.inl m)))
 (some (.inr (.inl ())))) (0))
 (Sum.elim (fun (_ : Unit) =>
 zn (0 <= a.Rank /\ a.Rank <= (↑(2 : Nat) : Int)) (
 (zif b (List.drop (Int.toNat 0) (List.take (Int.toNat a.Rank) [a.Axes.fst, a.Axes.snd])) (a.Data)).bind fun f =>
 cond (!decide (f.snd = 0))
 (some (f.snd))
 (some (0)))) some)))))))))
 (cond (decide (a.Rank < 0))
 (some (7))
 (cond (decide (2 < a.Rank))
 (some (7))
 ((jQ b (a.Axes.fst)).bind fun n =>
 cond (!n)
 (some (7))
 ((jQ b (a.Axes.snd)).bind fun o =>
 cond (!o)
 (some (7))
 ((jQ b (a.Data)).bind fun p =>
 cond (!p)
 (some (7))
 (zn (0 <= a.Rank /\ a.Rank <= (↑(2 : Nat) : Int)) (
 Option.bind (
 lpO (fun (e : Int) =>
 cond (decide (e < (↑(List.length (List.drop (Int.toNat a.Rank) (List.take (Int.toNat (↑(2 : Nat) : Int)) [SV.int .i64 a.Axes.fst, SV.int .i64 a.Axes.snd]))) : Int)))
 (zh (List.drop (Int.toNat a.Rank) (List.take (Int.toNat (↑(2 : Nat) : Int)) [a.Axes.fst, a.Axes.snd])) e fun q =>
 cond (!decide (q = c.fst))
 (some (.inr (.inr (6))))
 (zg (IntKind.wrap .i64 (e + 1)) fun s =>
 some (.inl s)))
 (some (.inr (.inl ())))) (0))
 (Sum.elim (fun (_ : Unit) =>
 zn (0 <= a.Rank /\ a.Rank <= (↑(2 : Nat) : Int)) (
 (zif b (List.drop (Int.toNat 0) (List.take (Int.toNat a.Rank) [a.Axes.fst, a.Axes.snd])) (a.Data)).bind fun g =>
 cond (!decide (g.snd = 0))
 (some (g.snd))
 (some (0)))) some)))))))))
def zro (c : TP) : Option (Int × Int) :=
 cond (decide (32 < (↑(List.length (List.map wy c.Vars)) : Int)))
 (some (((-1 : Int), 3)))
 (Option.bind (
 lpO (fun (a : Int × List (List UInt8)) =>
 cond (decide (a.fst < (↑(List.length (List.map wy c.Vars)) : Int)))
 (zh (c.Vars) (a.fst) fun b =>
 (zix (b.Name)).bind fun f =>
 cond (!f)
 (some (.inr (.inr ((a.fst, 24)))))
 (cond (inL (b.Name) (a.snd))
 (some (.inr (.inr ((a.fst, 8)))))
 (cond (inL (b.Name) (a.snd))
 ((zjd (c.Lattice) (b.Type_)).bind fun d =>
 cond (!decide (d = 0))
 (some (.inr (.inr ((a.fst, d)))))
 (zg (IntKind.wrap .i64 (a.fst + 1)) fun g =>
 some (.inl ((g, a.snd)))))
 ((zjd (c.Lattice) (b.Type_)).bind fun e =>
 cond (!decide (e = 0))
 (some (.inr (.inr ((a.fst, e)))))
 (zg (IntKind.wrap .i64 (a.fst + 1)) fun i =>
 some (.inl ((i, a.snd ++ [b.Name]))))))))
 (some (.inr (.inl ())))) ((0, [])))
 (Sum.elim (fun (_ : Unit) =>
 some ((0, 0))) some))
def zsg (c : TP) : Option (Int × Int) :=
 cond (decide (64 < (↑(List.length (List.map qv c.Rules)) : Int)))
 (some (((-1 : Int), 3)))
 (Option.bind (
 lpO (fun (a : Int × List (Int × Int)) =>
 cond (decide (a.fst < (↑(List.length (List.map qv c.Rules)) : Int)))
 (zh (c.Rules) (a.fst) fun b =>
 (jQ (c.Lattice) (b.From)).bind fun d =>
 cond (!d)
 (some (.inr (.inr ((a.fst, 7)))))
 ((jQ (c.Lattice) (b.Goal)).bind fun e =>
 cond (!e)
 (some (.inr (.inr ((a.fst, 7)))))
 (cond (decide (b.From = b.Goal))
 (some (.inr (.inr ((a.fst, 25)))))
 (zh (c.Lattice.Up) (b.Goal) fun f =>
 zn (0 <= b.From) (
 cond (decide (bits BinOp.and IntKind.u8 (Int.fdiv f (2 ^ min (Int.toNat b.From) (IntKind.bits IntKind.u8))) 1 = 0))
 (some (.inr (.inr ((a.fst, 25)))))
 (cond (inL ((b.From, b.Goal)) (a.snd))
 (some (.inr (.inr ((a.fst, 8)))))
 (cond (decide (b.K < 2))
 (some (.inr (.inr ((a.fst, 3)))))
 (cond (decide (400 < b.K))
 (some (.inr (.inr ((a.fst, 3)))))
 (cond (inL ((b.From, b.Goal)) (a.snd))
 (zg (IntKind.wrap .i64 (a.fst + 1)) fun g =>
 some (.inl ((g, a.snd))))
 (zg (IntKind.wrap .i64 (a.fst + 1)) fun i =>
 some (.inl ((i, a.snd ++ [(b.From, b.Goal)])))))))))))))
 (some (.inr (.inl ())))) ((0, [])))
 (Sum.elim (fun (_ : Unit) =>
 some ((0, 0))) some))
def zhz (f : TP) : Option (Int × Int × Int) :=
 Option.bind (
 (zu9 f).bind fun b =>
 cond (!decide (b.snd = 0))
 (some (.inl ((1, b.snd, b.fst))))
 ((zr5 f).bind fun c =>
 cond (!decide (c.snd = 0))
 (some (.inl ((2, c.snd, c.fst))))
 ((zro f).bind fun d =>
 cond (!decide (d.snd = 0))
 (some (.inl ((3, d.snd, d.fst))))
 ((zsg f).bind fun a =>
 cond (!decide (a.snd = 0))
 (some (.inl ((4, a.snd, a.fst))))
 (some (.inl ((0, a.snd, a.fst))))))))
 (Sum.elim (fun (e : Int × Int × Int) =>
 some ((e.fst, e.snd.snd, e.snd.fst))) some)
def zrd (a : Int) : Option (List UInt8 × Int) :=
 cond (decide (a < 1))
 (some (((ByteArray.mk #[]).data.toList, 2)))
 (cond (decide (4 < a))
 (some (((ByteArray.mk #[]).data.toList, 2)))
 (zq3 a [
 some (([], 0)),
 some (([(115 : UInt8), (117 : UInt8), (109 : UInt8)], 0)),
 some (([(99 : UInt8), (111 : UInt8), (117 : UInt8), (110 : UInt8), (116 : UInt8)], 0)),
 some (([(108 : UInt8), (101 : UInt8), (97 : UInt8), (115 : UInt8), (116 : UInt8)], 0)),
 some (([(109 : UInt8), (111 : UInt8), (115 : UInt8), (116 : UInt8)], 0))]))
def zrm (b : TP) (e : Int) (f : Int) : Option (Int × Int) :=
 (zhz b).bind fun d =>
 cond (!decide (d.snd.snd = 0))
 (some ((0, d.snd.snd)))
 ((jQ (b.Lattice) e).bind fun g =>
 cond (!g)
 (some ((0, 7)))
 ((jQ (b.Lattice) f).bind fun i =>
 cond (!i)
 (some ((0, 7)))
 (Option.bind (
 lpO (fun (a : Int) =>
 cond (decide (a < (↑(List.length (List.map qv b.Rules)) : Int)))
 (zh (b.Rules) a fun c =>
 cond (decide (c.From = e))
 (cond (decide (c.Goal = f))
 (some (.inr (.inr ((c.K, 0)))))
 (zg (IntKind.wrap .i64 (a + 1)) fun j =>
 some (.inl j)))
 (zg (IntKind.wrap .i64 (a + 1)) fun k =>
 some (.inl k)))
 (some (.inr (.inl ())))) (0))
 (Sum.elim (fun (_ : Unit) =>
 some ((0, 4))) some))))
def zrv (a : TE) (b : Int) : Option (Bool) :=
 cond (decide (a.Cells < b))
 (some (decide (a.Value.fst = 0) && (decide (a.Value.snd = 0) && true)))
 (cond (!decide (a.Value.fst = 1))
 (some (false))
 (cond (!decide (a.Fold = 2))
 (some (true))
 (cond (decide (0 <= a.Value.snd))
 (some (decide (a.Value.snd <= a.Cells)))
 (some (false)))))
def zp9 (e : TP) (a : TE) : Option (Int) :=
 (zhz e).bind fun c =>
 cond (!decide (c.snd.snd = 0))
 (some (c.snd.snd))
 ((zrd (a.Fold)).bind fun d =>
 cond (!decide (d.snd = 0))
 (some (d.snd))
 ((zrm e (a.From) (a.Goal)).bind fun b =>
 cond (decide (a.Site < 0))
 (some (7))
 (cond (decide (1000000000 < a.Site))
 (some (7))
 (cond (decide (a.Cells < 0))
 (some (7))
 (cond (decide (400 < a.Cells))
 (some (7))
 (cond (!decide (b.snd = 0))
 (some (b.snd))
 ((zrv a (b.fst)).bind fun f =>
 cond (!f)
 (some (6))
 (some (0)))))))))
def zsl (f : TP) (e : List TE) : Option (Int × Int) :=
 (zhz f).bind fun b =>
 cond (!decide (b.snd.snd = 0))
 (some (((-1 : Int), b.snd.snd)))
 (cond (decide (2000 < (↑(List.length (List.map zM e)) : Int)))
 (some (((-1 : Int), 3)))
 (Option.bind (
 lpO (fun (a : Int) =>
 cond (decide (a < (↑(List.length (List.map zM e)) : Int)))
 (zh e a fun c =>
 (zp9 f c).bind fun d =>
 cond (!decide (d = 0))
 (some (.inr (.inr ((a, d)))))
 (cond (decide (c.Site = 0))
 (some (.inr (.inr ((a, 6)))))
 (zg (IntKind.wrap .i64 (a + 1)) fun g =>
 some (.inl g))))
 (some (.inr (.inl ())))) (0))
 (Sum.elim (fun (_ : Unit) =>
 some ((0, 0))) some)))
def zq8 (F : TP) (j : List TE) : Option (List (Int × Int × Int × Int × Int) × Int) :=
 (zsl F j).bind fun g =>
 cond (!decide (g.snd = 0))
 (some (([], g.snd)))
 (Option.bind (
 lpO (fun (b : Int × List (Int × Int × Int) × List ((Int × Int × Int) × Int × Int × Int × Int × Int)) =>
 cond (decide (b.fst < (↑(List.length (List.map zM j)) : Int)))
 (zh j (b.fst) fun a =>
 uv (b.snd.snd) ((a.From, a.Goal, a.Fold))
 (zn ((List.length (List.map (wt (1 : Nat) (SV.int .i64)) b.snd.fst) + (1 : Nat)) * (24 : Nat) <= (70368744177664 : Nat)) (
 cond (decide (a.Value.fst = 0))
 (uv (b.snd.snd) ((a.From, a.Goal, a.Fold))
 (zg (IntKind.wrap .i64 (b.fst + 1)) fun k =>
 some (.inl ((k, b.snd.fst ++ [(a.From, a.Goal, a.Fold)], b.snd.snd ++ [((a.From, a.Goal, a.Fold), a.From, a.Goal, a.Fold, 1, 1)])))) fun l G =>
 zg (IntKind.wrap .i64 (b.fst + 1)) fun m =>
 some (.inl ((m, b.snd.fst ++ [(a.From, a.Goal, a.Fold)], List.set b.snd.snd l ((a.From, a.Goal, a.Fold), a.From, a.Goal, a.Fold, 1, 1)))))
 (uv (b.snd.snd) ((a.From, a.Goal, a.Fold))
 (zg (IntKind.wrap .i64 (b.fst + 1)) fun n =>
 some (.inl ((n, b.snd.fst ++ [(a.From, a.Goal, a.Fold)], b.snd.snd ++ [((a.From, a.Goal, a.Fold), a.From, a.Goal, a.Fold, 1, 0)])))) fun o H =>
 zg (IntKind.wrap .i64 (b.fst + 1)) fun p =>
 some (.inl ((p, b.snd.fst ++ [(a.From, a.Goal, a.Fold)], List.set b.snd.snd o ((a.From, a.Goal, a.Fold), a.From, a.Goal, a.Fold, 1, 0))))))) fun J c =>
 zg (IntKind.wrap .i64 (c.snd.snd.snd.fst + 1)) fun f =>
 cond (decide (a.Value.fst = 0))
 (zg (IntKind.wrap .i64 (c.snd.snd.snd.snd + 1)) fun i =>
 uv (b.snd.snd) ((a.From, a.Goal, a.Fold))
 (zg (IntKind.wrap .i64 (b.fst + 1)) fun w =>
 some (.inl ((w, b.snd.fst, b.snd.snd ++ [((a.From, a.Goal, a.Fold), c.fst, c.snd.fst, c.snd.snd.fst, f, i)])))) fun y K =>
 zg (IntKind.wrap .i64 (b.fst + 1)) fun z =>
 some (.inl ((z, b.snd.fst, List.set b.snd.snd y ((a.From, a.Goal, a.Fold), c.fst, c.snd.fst, c.snd.snd.fst, f, i)))))
 (uv (b.snd.snd) ((a.From, a.Goal, a.Fold))
 (zg (IntKind.wrap .i64 (b.fst + 1)) fun A =>
 some (.inl ((A, b.snd.fst, b.snd.snd ++ [((a.From, a.Goal, a.Fold), c.fst, c.snd.fst, c.snd.snd.fst, f, c.snd.snd.snd.snd)])))) fun C L =>
 zg (IntKind.wrap .i64 (b.fst + 1)) fun D =>
 some (.inl ((D, b.snd.fst, List.set b.snd.snd C ((a.From, a.Goal, a.Fold), c.fst, c.snd.fst, c.snd.snd.fst, f, c.snd.snd.snd.snd))))))
 (some (.inr (.inl (b.snd))))) ((0, [], [])))
 (Sum.elim (fun (e : List (Int × Int × Int) × List ((Int × Int × Int) × Int × Int × Int × Int × Int)) =>
 zn (List.length e.fst <= (1000000 : Nat)) (
 Option.bind (
 lpO (fun (d : Int × List (Int × Int × Int × Int × Int)) =>
 cond (decide (d.fst < (↑(List.length (List.map s3 (sortK e.fst))) : Int)))
 (zn (0 <= d.fst /\ d.fst < (↑(List.length (List.map s3 (sortK e.fst))) : Int)) (
 zh (sortK e.fst) ((↑(Int.toNat d.fst) : Int)) fun q =>
 uv (e.snd) q
 (zn ((List.length (List.map (fun (x : Int × Int × Int × Int × Int) => SV.agg [SV.int .i64 x.fst, SV.int .i64 x.snd.fst, SV.int .i64 x.snd.snd.fst, SV.int .i64 x.snd.snd.snd.fst, SV.int .i64 x.snd.snd.snd.snd]) d.snd) + (1 : Nat)) * (40 : Nat) <= (70368744177664 : Nat)) (
 zg (IntKind.wrap .i64 (d.fst + 1)) fun s =>
 some (.inl ((s, d.snd ++ [(0, 0, 0, 0, 0)]))))) fun I t =>
 zn ((List.length (List.map (fun (x : Int × Int × Int × Int × Int) => SV.agg [SV.int .i64 x.fst, SV.int .i64 x.snd.fst, SV.int .i64 x.snd.snd.fst, SV.int .i64 x.snd.snd.snd.fst, SV.int .i64 x.snd.snd.snd.snd]) d.snd) + (1 : Nat)) * (40 : Nat) <= (70368744177664 : Nat)) (
 zg (IntKind.wrap .i64 (d.fst + 1)) fun u =>
 some (.inl ((u, d.snd ++ [t]))))))
 (some (.inr (.inl (d.snd))))) ((0, [])))
 (Sum.elim (fun (v : List (Int × Int × Int × Int × Int)) =>
 some ((v, 0))) some))) some))
def zl6 (a : Int) : Option (Bool) :=
 cond (decide (97 <= a))
 (some (decide (a <= 122)))
 (some (false))
def zqw (a : Int) : Option (Bool) :=
 cond (decide (48 <= a))
 (some (decide (a <= 57)))
 (some (false))
def zsm (b : List UInt8) : Option (Bool) :=
 cond (decide ((↑(List.length b) : Int) < 1))
 (some (false))
 (cond (decide (16 < (↑(List.length b) : Int)))
 (some (false))
 (zh b (0) fun c =>
 (zl6 ((↑(UInt8.toNat c) : Int))).bind fun d =>
 cond (!d)
 (some (false))
 (Option.bind (
 lpO (fun (a : Int) =>
 cond (decide (a < (↑(List.length b) : Int)))
 (zh b a fun e =>
 (zl6 ((↑(UInt8.toNat e) : Int))).bind fun f =>
 cond (!f)
 (zh b a fun g =>
 (zqw ((↑(UInt8.toNat g) : Int))).bind fun i =>
 cond (!i)
 (zh b a fun j =>
 cond (!decide ((↑(UInt8.toNat j) : Int) = 45))
 (some (.inr (.inr (false))))
 (zg (IntKind.wrap .i64 (a + 1)) fun k =>
 some (.inl k)))
 (zg (IntKind.wrap .i64 (a + 1)) fun l =>
 some (.inl l)))
 (zg (IntKind.wrap .i64 (a + 1)) fun m =>
 some (.inl m)))
 (some (.inr (.inl ())))) (0))
 (Sum.elim (fun (_ : Unit) =>
 some (true)) some))))
def zrp (c : List (List UInt8)) : Option (Int × Int) :=
 cond (decide ((↑(List.length (List.map SV.str c)) : Int) < 1))
 (some (((-1 : Int), 3)))
 (cond (decide (8 < (↑(List.length (List.map SV.str c)) : Int)))
 (some (((-1 : Int), 3)))
 (Option.bind (
 lpO (fun (a : Int) =>
 cond (decide (a < (↑(List.length (List.map SV.str c)) : Int)))
 (zh c a fun d =>
 (zsm d).bind fun e =>
 cond (!e)
 (some (.inr (.inr ((a, 6)))))
 (Option.bind (
 lpO (fun (b : Int) =>
 cond (decide (b < a))
 (zh c b fun f =>
 zh c a fun g =>
 cond (decide (f = g))
 (some (.inr (.inr (.inr (.inr ((a, 8)))))))
 (zg (IntKind.wrap .i64 (b + 1)) fun i =>
 some (.inl i)))
 (some (.inr (.inl ())))) (0))
 (Sum.elim (fun (_ : Unit) =>
 zg (IntKind.wrap .i64 (a + 1)) fun j =>
 some (.inl j)) some)))
 (some (.inr (.inl ())))) (0))
 (Sum.elim (fun (_ : Unit) =>
 some ((0, 0))) some)))
def ur (d : TL) (a : Int) (b : Int) : Option (Bool) :=
 cond (decide (0 <= a))
 (cond (decide (a < (↑(List.length (List.map (SV.int .u8) d.Up)) : Int)))
 (cond (decide (0 <= b))
 (zh (d.Up) a fun c =>
 zn (0 <= b) (
 some (decide (Int.tmod (Int.fdiv c (2 ^ min (Int.toNat b) (IntKind.bits IntKind.u8))) 2 = 1))))
 (some (false)))
 (some (false)))
 (some (false))
def zr2 (b : TL) (f : Int) : Option (Bool) :=
 zh (b.Up) f fun g =>
 zg (IntKind.wrap .i64 g) fun e =>
 zn ((0 : Int) <= (↑(List.length (List.map SV.str b.Names)) : Int)) (
 cond (decide (0 < Int.fdiv e (2 ^ min (Int.toNat (↑(List.length (List.map SV.str b.Names)) : Int)) (IntKind.bits IntKind.i64))))
 (some (false))
 ((ur b f f).bind fun i =>
 cond (!i)
 (some (false))
 (Option.bind (
 lpO (fun (a : Int) =>
 cond (decide (a < (↑(List.length (List.map SV.str b.Names)) : Int)))
 ((ur b f a).bind fun j =>
 cond (!j)
 (zg (IntKind.wrap .i64 (a + 1)) fun k =>
 some (.inl k))
 (zh (b.Up) a fun l =>
 zg (IntKind.wrap .i64 l) fun c =>
 zn ((0 : Int) <= (↑(List.length (List.map SV.str b.Names)) : Int)) (
 zg (IntKind.wrap .i64 (1 * 2 ^ min (Int.toNat (↑(List.length (List.map SV.str b.Names)) : Int)) (IntKind.bits IntKind.i64))) fun m =>
 zg (IntKind.wrap .i64 (m - 1)) fun d =>
 cond (!decide (a = f))
 ((ur b a f).bind fun n =>
 cond n
 (some (.inr (.inr (false))))
 (cond (!decide (bits BinOp.and IntKind.i64 (bits BinOp.and IntKind.i64 c d) e = bits BinOp.and IntKind.i64 c d))
 (some (.inr (.inr (false))))
 (zg (IntKind.wrap .i64 (a + 1)) fun o =>
 some (.inl o))))
 (cond (!decide (bits BinOp.and IntKind.i64 (bits BinOp.and IntKind.i64 c d) e = bits BinOp.and IntKind.i64 c d))
 (some (.inr (.inr (false))))
 (zg (IntKind.wrap .i64 (a + 1)) fun p =>
 some (.inl p))))))
 (some (.inr (.inl ())))) (0))
 (Sum.elim (fun (_ : Unit) =>
 some (true)) some))))
def zn1 (c : TL) : Option (List Int) :=
 zn ((0 : Int) <= (↑(List.length (List.map SV.str c.Names)) : Int) /\ (↑(List.length (List.map SV.str c.Names)) : Int) = (↑(List.length (List.map SV.str c.Names)) : Int) /\ (↑(List.length (List.map SV.str c.Names)) : Int) <= (70368744177664 : Int) /\ (↑(List.length (List.map SV.str c.Names)) : Int) * (↑(1 : Nat) : Int) <= (70368744177664 : Int)) (
 Option.bind (
 lpO (fun (b : Int × List Int) =>
 cond (decide (b.fst < (↑(List.length (List.map SV.str c.Names)) : Int)))
 (Option.bind (
 lpO (fun (a : Int × List Int) =>
 cond (decide (a.fst < (↑(List.length (List.map SV.str c.Names)) : Int)))
 ((ur c (b.fst) (a.fst)).bind fun d =>
 cond d
 (zn (0 <= a.fst /\ a.fst < (↑(List.length (List.map (SV.int .u8) a.snd)) : Int)) (
 zh (a.snd) ((↑(Int.toNat a.fst) : Int)) fun e =>
 zn (0 <= b.fst) (
 zg (IntKind.wrap .u8 (1 * 2 ^ min (Int.toNat b.fst) (IntKind.bits IntKind.u8))) fun f =>
 zn (0 <= a.fst /\ a.fst < (↑(List.length (List.map (SV.int .u8) a.snd)) : Int)) (
 zh (a.snd) ((↑(Int.toNat a.fst) : Int)) fun _ =>
 zg (IntKind.wrap .i64 (a.fst + 1)) fun g =>
 some (.inl ((g, List.set a.snd (Int.toNat a.fst) (bits BinOp.or IntKind.u8 e f))))))))
 (zg (IntKind.wrap .i64 (a.fst + 1)) fun i =>
 some (.inl ((i, a.snd)))))
 (some (.inr (.inl (a.snd))))) ((0, b.snd)))
 (Sum.elim (fun (j : List Int) =>
 zg (IntKind.wrap .i64 (b.fst + 1)) fun k =>
 some (.inl ((k, j)))) some))
 (some (.inr (.inl (b.snd))))) ((0, List.replicate (Int.toNat (↑(List.length (List.map SV.str c.Names)) : Int)) 0)))
 (Sum.elim (fun (l : List Int) =>
 some l) some))
def zh0 (b : List Int) (g : Int) (i : Int) : Option (Int) :=
 zh b g fun c =>
 zh b i fun d =>
 Option.bind (
 lpO (fun (a : Int) =>
 cond (decide (a < (↑(List.length (List.map (SV.int .u8) b)) : Int)))
 (zh b a fun e =>
 cond (decide (e = bits BinOp.and IntKind.u8 c d))
 (some (.inr (.inr a)))
 (zg (IntKind.wrap .i64 (a + 1)) fun f =>
 some (.inl f)))
 (some (.inr (.inl ())))) (0))
 (Sum.elim (fun (_ : Unit) =>
 some ((-1 : Int))) some)
def zi8 (b : TL) : Option (Int × Int) :=
 (zrp (b.Names)).bind fun e =>
 cond (!decide (e.snd = 0))
 (some e)
 (cond (!decide ((↑(List.length (List.map (SV.int .u8) b.Up)) : Int) = (↑(List.length (List.map SV.str b.Names)) : Int)))
 (some (((-1 : Int), 6)))
 (Option.bind (
 lpO (fun (c : Int) =>
 cond (decide (c < (↑(List.length (List.map SV.str b.Names)) : Int)))
 ((zr2 b c).bind fun f =>
 cond (!f)
 (some (.inr (.inr ((c, 6)))))
 (zg (IntKind.wrap .i64 (c + 1)) fun g =>
 some (.inl g)))
 (some (.inr (.inl ())))) (0))
 (Sum.elim (fun (_ : Unit) =>
 (zn1 b).bind fun i =>
 Option.bind (
 lpO (fun (a : Int) =>
 cond (decide (a < (↑(List.length (List.map SV.str b.Names)) : Int)))
 (Option.bind (
 lpO (fun (d : Int) =>
 cond (decide (d < (↑(List.length (List.map SV.str b.Names)) : Int)))
 ((zh0 (b.Up) a d).bind fun j =>
 cond (decide (j < 0))
 (some (.inr (.inr (.inr (.inr ((a, 4)))))))
 ((zh0 i a d).bind fun k =>
 cond (decide (k < 0))
 (some (.inr (.inr (.inr (.inr ((a, 4)))))))
 (zg (IntKind.wrap .i64 (d + 1)) fun l =>
 some (.inl l))))
 (some (.inr (.inl ())))) (0))
 (Sum.elim (fun (_ : Unit) =>
 zg (IntKind.wrap .i64 (a + 1)) fun m =>
 some (.inl m)) some))
 (some (.inr (.inl ())))) (0))
 (Sum.elim (fun (_ : Unit) =>
 some ((0, 0))) some)) some)))
def zqa : Option (List (List UInt8)) :=
 some ([(ByteArray.mk #[110, 101, 103]).data.toList, (ByteArray.mk #[97, 98, 115]).data.toList, (ByteArray.mk #[110, 111, 116]).data.toList, (ByteArray.mk #[115, 104, 97, 112, 101]).data.toList, (ByteArray.mk #[114, 97, 118, 101, 108]).data.toList, (ByteArray.mk #[114, 101, 118, 101, 114, 115, 101]).data.toList, (ByteArray.mk #[102, 108, 105, 112]).data.toList, (ByteArray.mk #[105, 111, 116, 97]).data.toList, (ByteArray.mk #[115, 117, 109]).data.toList, (ByteArray.mk #[108, 101, 97, 115, 116]).data.toList, (ByteArray.mk #[109, 111, 115, 116]).data.toList, (ByteArray.mk #[99, 111, 117, 110, 116]).data.toList, (ByteArray.mk #[115, 99, 97, 110]).data.toList, (ByteArray.mk #[103, 114, 97, 100, 101]).data.toList, (ByteArray.mk #[97, 100, 100]).data.toList, (ByteArray.mk #[115, 117, 98]).data.toList, (ByteArray.mk #[109, 117, 108]).data.toList, (ByteArray.mk #[100, 105, 118]).data.toList, (ByteArray.mk #[109, 111, 100]).data.toList, (ByteArray.mk #[112, 108, 117, 115]).data.toList, (ByteArray.mk #[109, 105, 110, 117, 115]).data.toList, (ByteArray.mk #[116, 105, 109, 101, 115]).data.toList, (ByteArray.mk #[101, 113]).data.toList, (ByteArray.mk #[110, 101]).data.toList, (ByteArray.mk #[108, 116]).data.toList, (ByteArray.mk #[108, 101]).data.toList, (ByteArray.mk #[103, 116]).data.toList, (ByteArray.mk #[103, 101]).data.toList, (ByteArray.mk #[97, 110, 100]).data.toList, (ByteArray.mk #[111, 114]).data.toList, (ByteArray.mk #[109, 105, 110]).data.toList, (ByteArray.mk #[109, 97, 120]).data.toList, (ByteArray.mk #[116, 97, 107, 101]).data.toList, (ByteArray.mk #[100, 114, 111, 112]).data.toList, (ByteArray.mk #[102, 105, 108, 108]).data.toList, (ByteArray.mk #[103, 114, 105, 100]).data.toList, (ByteArray.mk #[99, 97, 116]).data.toList, (ByteArray.mk #[97, 116]).data.toList, (ByteArray.mk #[105, 110]).data.toList, (ByteArray.mk #[112, 105, 99, 107]).data.toList])
def zqb (f : List UInt8) : Option (Int × Int) :=
 (zqa).bind fun b =>
 Option.bind (
 lpO (fun (a : Int) =>
 cond (decide (a < (↑(List.length (List.map SV.str b)) : Int)))
 (zh b a fun c =>
 cond (decide (c = f))
 (zg (IntKind.wrap .i64 (a + 1)) fun d =>
 some (.inr (.inr ((d, 0)))))
 (zg (IntKind.wrap .i64 (a + 1)) fun e =>
 some (.inl e)))
 (some (.inr (.inl ())))) (0))
 (Sum.elim (fun (_ : Unit) =>
 some ((0, 4))) some)
def zn4 (a : Int) : Option (Bool) :=
 cond (decide (97 <= a))
 (some (decide (a <= 122)))
 (some (false))
def zrj (a : Int) : Option (Bool) :=
 cond (decide (48 <= a))
 (some (decide (a <= 57)))
 (some (false))
def zcs (b : List UInt8) : Option (Bool) :=
 cond (decide (b = (ByteArray.mk #[]).data.toList))
 (some (false))
 (zh b (0) fun c =>
 (zn4 ((↑(UInt8.toNat c) : Int))).bind fun d =>
 cond (!d)
 (some (false))
 (Option.bind (
 lpO (fun (a : Int) =>
 cond (decide (a < (↑(List.length b) : Int)))
 (zh b a fun e =>
 (zn4 ((↑(UInt8.toNat e) : Int))).bind fun f =>
 cond (!f)
 (zh b a fun g =>
 (zrj ((↑(UInt8.toNat g) : Int))).bind fun i =>
 cond (!i)
 (some (.inr (.inr (false))))
 (zg (IntKind.wrap .i64 (a + 1)) fun j =>
 some (.inl j)))
 (zg (IntKind.wrap .i64 (a + 1)) fun k =>
 some (.inl k)))
 (some (.inr (.inl ())))) (0))
 (Sum.elim (fun (_ : Unit) =>
 some (true)) some)))
def zfd (a : List UInt8) : Option (List Int × Bool) :=
 Option.bind (
 lpO (fun (_ : Unit) =>
 cond (decide (0 < (↑(List.length a) : Int)))
 (none)
 (some (.inr (.inl ())))) (()))
 (Sum.elim (fun (_ : Unit) =>
 some (([], true))) some)
def zsh (a : TK) : Option (Int) :=
 cond (decide (a.Kind < 1))
 (some (2))
 (cond (decide (9 < a.Kind))
 (some (2))
 (cond (!decide (a.Kind = 2))
 (cond (!decide (a.N = 0))
 (some (2))
 (cond (!decide (a.Kind = 1))
 (cond (!decide (a.Kind = 3))
 (cond (!decide (a.S = (ByteArray.mk #[]).data.toList))
 (some (2))
 (cond (decide (a.Kind = 1))
 ((zcs (a.S)).bind fun b =>
 cond (!b)
 (some (6))
 (cond (decide (16 < (↑(List.length a.S) : Int)))
 (some (3))
 (some (0))))
 (cond (decide (a.Kind = 3))
 ((zfd (a.S)).bind fun c =>
 cond (!c.snd)
 (some (6))
 (cond (decide (2000 < (↑(List.length a.S) : Int)))
 (some (3))
 (some (0))))
 (some (0)))))
 (cond (decide (a.Kind = 1))
 ((zcs (a.S)).bind fun d =>
 cond (!d)
 (some (6))
 (cond (decide (16 < (↑(List.length a.S) : Int)))
 (some (3))
 (some (0))))
 (cond (decide (a.Kind = 3))
 ((zfd (a.S)).bind fun e =>
 cond (!e.snd)
 (some (6))
 (cond (decide (2000 < (↑(List.length a.S) : Int)))
 (some (3))
 (some (0))))
 (some (0)))))
 (cond (decide (a.Kind = 1))
 ((zcs (a.S)).bind fun f =>
 cond (!f)
 (some (6))
 (cond (decide (16 < (↑(List.length a.S) : Int)))
 (some (3))
 (some (0))))
 (cond (decide (a.Kind = 3))
 ((zfd (a.S)).bind fun g =>
 cond (!g.snd)
 (some (6))
 (cond (decide (2000 < (↑(List.length a.S) : Int)))
 (some (3))
 (some (0))))
 (some (0))))))
 (cond (!decide (a.Kind = 1))
 (cond (!decide (a.Kind = 3))
 (cond (!decide (a.S = (ByteArray.mk #[]).data.toList))
 (some (2))
 (cond (decide (a.Kind = 1))
 ((zcs (a.S)).bind fun i =>
 cond (!i)
 (some (6))
 (cond (decide (16 < (↑(List.length a.S) : Int)))
 (some (3))
 (some (0))))
 (cond (decide (a.Kind = 3))
 ((zfd (a.S)).bind fun j =>
 cond (!j.snd)
 (some (6))
 (cond (decide (2000 < (↑(List.length a.S) : Int)))
 (some (3))
 (some (0))))
 (some (0)))))
 (cond (decide (a.Kind = 1))
 ((zcs (a.S)).bind fun k =>
 cond (!k)
 (some (6))
 (cond (decide (16 < (↑(List.length a.S) : Int)))
 (some (3))
 (some (0))))
 (cond (decide (a.Kind = 3))
 ((zfd (a.S)).bind fun l =>
 cond (!l.snd)
 (some (6))
 (cond (decide (2000 < (↑(List.length a.S) : Int)))
 (some (3))
 (some (0))))
 (some (0)))))
 (cond (decide (a.Kind = 1))
 ((zcs (a.S)).bind fun m =>
 cond (!m)
 (some (6))
 (cond (decide (16 < (↑(List.length a.S) : Int)))
 (some (3))
 (some (0))))
 (cond (decide (a.Kind = 3))
 ((zfd (a.S)).bind fun n =>
 cond (!n.snd)
 (some (6))
 (cond (decide (2000 < (↑(List.length a.S) : Int)))
 (some (3))
 (some (0))))
 (some (0)))))))
def zsi (d : List UInt8) : Option (Bool) :=
 Option.bind (
 lpO (fun (a : Int) =>
 cond (decide (a < (↑(10 : Nat) : Int)))
 (zn (0 <= a /\ a < (↑(10 : Nat) : Int)) (
 zh ([(ByteArray.mk #[118, 97, 114]).data.toList, (ByteArray.mk #[100, 101, 102]).data.toList, (ByteArray.mk #[111, 117, 116]).data.toList, (ByteArray.mk #[105, 102]).data.toList, (ByteArray.mk #[101, 108, 115, 101]).data.toList, (ByteArray.mk #[119, 104, 105, 108, 101]).data.toList, (ByteArray.mk #[101, 110, 100]).data.toList, (ByteArray.mk #[114, 101, 108, 101, 97, 115, 101]).data.toList, (ByteArray.mk #[105, 110, 116]).data.toList, (ByteArray.mk #[99, 104, 97, 114]).data.toList]) ((↑(Int.toNat a) : Int)) fun b =>
 cond (decide (b = d))
 (some (.inr (.inr (true))))
 (zg (IntKind.wrap .i64 (a + 1)) fun c =>
 some (.inl c))))
 (some (.inr (.inl ())))) (0))
 (Sum.elim (fun (_ : Unit) =>
 some (false)) some)
def zq5 (a : List UInt8) : Option (Bool) :=
 (zqb a).bind fun b =>
 (zsh (TK.mk 1 0 0 0 a)).bind fun c =>
 cond (decide (c = 0))
 (cond (!decide (b.snd = 0))
 ((zsi a).bind fun d =>
 some (!d))
 (some (false)))
 (some (false))
def zmf (e : List UInt8) (f : List (List UInt8)) : Option (Int) :=
 (zq5 e).bind fun b =>
 cond (!b)
 (some (24))
 (Option.bind (
 lpO (fun (a : Int) =>
 cond (decide (a < (↑(List.length (List.map SV.str f)) : Int)))
 (zh f a fun c =>
 cond (decide (c = e))
 (some (.inr (.inr (8))))
 (zg (IntKind.wrap .i64 (a + 1)) fun d =>
 some (.inl d)))
 (some (.inr (.inl ())))) (0))
 (Sum.elim (fun (_ : Unit) =>
 some (0)) some))
def xg (b : TL) (a : Int) : Option (Bool) :=
 cond (decide (0 <= a))
 (some (decide (a < (↑(List.length (List.map SV.str b.Names)) : Int))))
 (some (false))
def zrf (c : TP) : Option (Int × Int) :=
 cond (decide (16 < (↑(List.length (List.map zT c.Channels)) : Int)))
 (some (((-1 : Int), 3)))
 (Option.bind (
 lpO (fun (a : Int × List (List UInt8)) =>
 cond (decide (a.fst < (↑(List.length (List.map zT c.Channels)) : Int)))
 (zh (c.Channels) (a.fst) fun d =>
 (zmf (d.s_) (a.snd)).bind fun b =>
 cond (decide (b = 0))
 (zh (c.Channels) (a.fst) fun e =>
 (xg (c.Lattice) (e.at_)).bind fun f =>
 cond (!f)
 (some (.inr (.inr ((a.fst, 7)))))
 (cond (!decide (b = 0))
 (some (.inr (.inr ((a.fst, b)))))
 (zh (c.Channels) (a.fst) fun g =>
 zn ((List.length (List.map SV.str a.snd) + (1 : Nat)) * (16 : Nat) <= (70368744177664 : Nat)) (
 zg (IntKind.wrap .i64 (a.fst + 1)) fun i =>
 some (.inl ((i, a.snd ++ [g.s_])))))))
 (cond (!decide (b = 0))
 (some (.inr (.inr ((a.fst, b)))))
 (zh (c.Channels) (a.fst) fun j =>
 zn ((List.length (List.map SV.str a.snd) + (1 : Nat)) * (16 : Nat) <= (70368744177664 : Nat)) (
 zg (IntKind.wrap .i64 (a.fst + 1)) fun k =>
 some (.inl ((k, a.snd ++ [j.s_])))))))
 (some (.inr (.inl ())))) ((0, [])))
 (Sum.elim (fun (_ : Unit) =>
 some ((0, 0))) some))
def zr7 (b : TL) (c : Int) (d : Int) : Option (Int) :=
 (zi8 b).bind fun a =>
 cond (decide (a.snd = 0))
 (cond (decide (c < 0))
 (some (7))
 (cond (decide ((↑(List.length (List.map SV.str b.Names)) : Int) <= c))
 (some (7))
 (cond (decide (d < 0))
 (some (7))
 (cond (decide ((↑(List.length (List.map SV.str b.Names)) : Int) <= d))
 (some (7))
 (some (a.snd))))))
 (some (a.snd))
def zna (c : TL) : Option (Int × Int) :=
 (zr7 c (0) (0)).bind fun b =>
 cond (!decide (b = 0))
 (some ((0, b)))
 ((zn1 c).bind fun d =>
 Option.bind (
 lpO (fun (a : Int × Int) =>
 cond (decide (a.fst < (↑(List.length (List.map SV.str c.Names)) : Int)))
 ((zh0 d (a.fst) (a.snd)).bind fun e =>
 zg (IntKind.wrap .i64 (a.fst + 1)) fun f =>
 some (.inl ((f, e))))
 (some (.inr (.inl (a.snd))))) ((0, 0)))
 (Sum.elim (fun (g : Int) =>
 some ((g, 0))) some))
def zni (b : TL) (a : TY) : Option (Int) :=
 (zi8 b).bind fun g =>
 cond (!decide (g.snd = 0))
 (some (g.snd))
 (cond (!decide (a.Kind = 1))
 (cond (!decide (a.Kind = 2))
 (some (7))
 (cond (decide (a.Rank < 0))
 (some (7))
 (cond (decide (2 < a.Rank))
 (some (7))
 ((xg b (a.Axes.fst)).bind fun i =>
 cond (!i)
 (some (7))
 ((xg b (a.Axes.snd)).bind fun j =>
 cond (!j)
 (some (7))
 ((xg b (a.Data)).bind fun k =>
 cond (!k)
 (some (7))
 ((zna b).bind fun l =>
 Option.bind (
 lpO (fun (c : Int) =>
 cond (decide (c < 2))
 (zn (0 <= c /\ c < (↑(2 : Nat) : Int)) (
 zh ([a.Axes.fst, a.Axes.snd]) ((↑(Int.toNat c) : Int)) fun m =>
 cond (!decide (m = l.fst))
 (some (.inr (.inr (6))))
 (zg (IntKind.wrap .i64 (c + 1)) fun n =>
 some (.inl n))))
 (some (.inr (.inl ())))) (a.Rank))
 (Sum.elim (fun (_ : Unit) =>
 Option.bind (
 lpO (fun (d : Int) =>
 cond (decide (d < a.Rank))
 (zn (0 <= d /\ d < (↑(2 : Nat) : Int)) (
 zh ([a.Axes.fst, a.Axes.snd]) ((↑(Int.toNat d) : Int)) fun o =>
 (ur b o (a.Data)).bind fun p =>
 cond (!p)
 (some (.inr (.inr (25))))
 (zg (IntKind.wrap .i64 (d + 1)) fun q =>
 some (.inl q))))
 (some (.inr (.inl ())))) (0))
 (Sum.elim (fun (_ : Unit) =>
 some (0)) some)) some))))))))
 (cond (decide (a.Rank < 0))
 (some (7))
 (cond (decide (2 < a.Rank))
 (some (7))
 ((xg b (a.Axes.fst)).bind fun s =>
 cond (!s)
 (some (7))
 ((xg b (a.Axes.snd)).bind fun t =>
 cond (!t)
 (some (7))
 ((xg b (a.Data)).bind fun u =>
 cond (!u)
 (some (7))
 ((zna b).bind fun v =>
 Option.bind (
 lpO (fun (e : Int) =>
 cond (decide (e < 2))
 (zn (0 <= e /\ e < (↑(2 : Nat) : Int)) (
 zh ([a.Axes.fst, a.Axes.snd]) ((↑(Int.toNat e) : Int)) fun w =>
 cond (!decide (w = v.fst))
 (some (.inr (.inr (6))))
 (zg (IntKind.wrap .i64 (e + 1)) fun x =>
 some (.inl x))))
 (some (.inr (.inl ())))) (a.Rank))
 (Sum.elim (fun (_ : Unit) =>
 Option.bind (
 lpO (fun (f : Int) =>
 cond (decide (f < a.Rank))
 (zn (0 <= f /\ f < (↑(2 : Nat) : Int)) (
 zh ([a.Axes.fst, a.Axes.snd]) ((↑(Int.toNat f) : Int)) fun y =>
 (ur b y (a.Data)).bind fun z =>
 cond (!z)
 (some (.inr (.inr (25))))
 (zg (IntKind.wrap .i64 (f + 1)) fun A =>
 some (.inl A))))
 (some (.inr (.inl ())))) (0))
 (Sum.elim (fun (_ : Unit) =>
 some (0)) some)) some))))))))
def zrx (b : TP) : Option (Int × Int) :=
 cond (decide (32 < (↑(List.length (List.map wy b.Vars)) : Int)))
 (some (((-1 : Int), 3)))
 (Option.bind (
 lpO (fun (a : Int × List (List UInt8)) =>
 cond (decide (a.fst < (↑(List.length (List.map wy b.Vars)) : Int)))
 (zh (b.Vars) (a.fst) fun e =>
 (zmf (e.Name) (a.snd)).bind fun c =>
 cond (decide (c = 0))
 (zh (b.Vars) (a.fst) fun f =>
 (zni (b.Lattice) (f.Type_)).bind fun d =>
 cond (!decide (d = 0))
 (some (.inr (.inr ((a.fst, d)))))
 (zh (b.Vars) (a.fst) fun g =>
 zn ((List.length (List.map SV.str a.snd) + (1 : Nat)) * (16 : Nat) <= (70368744177664 : Nat)) (
 zg (IntKind.wrap .i64 (a.fst + 1)) fun i =>
 some (.inl ((i, a.snd ++ [g.Name]))))))
 (cond (!decide (c = 0))
 (some (.inr (.inr ((a.fst, c)))))
 (zh (b.Vars) (a.fst) fun j =>
 zn ((List.length (List.map SV.str a.snd) + (1 : Nat)) * (16 : Nat) <= (70368744177664 : Nat)) (
 zg (IntKind.wrap .i64 (a.fst + 1)) fun k =>
 some (.inl ((k, a.snd ++ [j.Name])))))))
 (some (.inr (.inl ())))) ((0, [])))
 (Sum.elim (fun (_ : Unit) =>
 some ((0, 0))) some))
def zqy (d : TP) : Option (Int × Int) :=
 cond (decide (64 < (↑(List.length (List.map qv d.Rules)) : Int)))
 (some (((-1 : Int), 3)))
 (Option.bind (
 lpO (fun (a : Int) =>
 cond (decide (a < (↑(List.length (List.map qv d.Rules)) : Int)))
 (zh (d.Rules) a fun b =>
 (xg (d.Lattice) (b.From)).bind fun e =>
 cond (!e)
 (some (.inr (.inr ((a, 7)))))
 ((xg (d.Lattice) (b.Goal)).bind fun f =>
 cond (!f)
 (some (.inr (.inr ((a, 7)))))
 (cond (decide (b.From = b.Goal))
 (some (.inr (.inr ((a, 25)))))
 ((ur (d.Lattice) (b.Goal) (b.From)).bind fun g =>
 cond (!g)
 (some (.inr (.inr ((a, 25)))))
 (Option.bind (
 lpO (fun (c : Int) =>
 cond (decide (c < a))
 (zh (d.Rules) c fun i =>
 cond (decide (i.From = b.From))
 (zh (d.Rules) c fun j =>
 cond (decide (j.Goal = b.Goal))
 (some (.inr (.inr (.inr (.inr ((a, 8)))))))
 (zg (IntKind.wrap .i64 (c + 1)) fun k =>
 some (.inl k)))
 (zg (IntKind.wrap .i64 (c + 1)) fun l =>
 some (.inl l)))
 (some (.inr (.inl ())))) (0))
 (Sum.elim (fun (_ : Unit) =>
 cond (decide (b.K < 2))
 (some (.inr (.inr ((a, 3)))))
 (cond (decide (400 < b.K))
 (some (.inr (.inr ((a, 3)))))
 (zg (IntKind.wrap .i64 (a + 1)) fun m =>
 some (.inl m)))) some))))))
 (some (.inr (.inl ())))) (0))
 (Sum.elim (fun (_ : Unit) =>
 some ((0, 0))) some))
def zjc (e : TP) : Option (Int × Int × Int) :=
 (zi8 (e.Lattice)).bind fun a =>
 cond (!decide (a.snd = 0))
 (some ((1, a)))
 ((zrf e).bind fun b =>
 cond (!decide (b.snd = 0))
 (some ((2, b)))
 ((zrx e).bind fun c =>
 cond (!decide (c.snd = 0))
 (some ((3, c)))
 ((zqy e).bind fun d =>
 cond (!decide (d.snd = 0))
 (some ((4, d)))
 (some ((0, 0, 0))))))
def zrc : Option (List (List UInt8)) :=
 some ([(ByteArray.mk #[]).data.toList, (ByteArray.mk #[115, 117, 109]).data.toList, (ByteArray.mk #[99, 111, 117, 110, 116]).data.toList, (ByteArray.mk #[108, 101, 97, 115, 116]).data.toList, (ByteArray.mk #[109, 111, 115, 116]).data.toList])
def zqo (a : Int) : Option (List UInt8 × Int) :=
 cond (decide (a < 1))
 (some (((ByteArray.mk #[]).data.toList, 2)))
 (cond (decide (4 < a))
 (some (((ByteArray.mk #[]).data.toList, 2)))
 ((zrc).bind fun b =>
 zh b a fun c =>
 some ((c, 0))))
def zi2 (c : TP) (e : Int) (f : Int) : Option (Int × Int) :=
 (zjc c).bind fun d =>
 cond (decide (d.snd.snd = 0))
 ((xg (c.Lattice) e).bind fun g =>
 cond (!g)
 (some ((0, 7)))
 ((xg (c.Lattice) f).bind fun i =>
 cond (!i)
 (some ((0, 7)))
 (cond (!decide (d.snd.snd = 0))
 (some ((0, d.snd.snd)))
 (Option.bind (
 lpO (fun (a : Int) =>
 cond (decide (a < (↑(List.length (List.map qv c.Rules)) : Int)))
 (zh (c.Rules) a fun j =>
 cond (decide (j.From = e))
 (zh (c.Rules) a fun k =>
 cond (decide (k.Goal = f))
 (zh (c.Rules) a fun l =>
 some (.inr (.inr ((l.K, 0)))))
 (zg (IntKind.wrap .i64 (a + 1)) fun m =>
 some (.inl m)))
 (zg (IntKind.wrap .i64 (a + 1)) fun n =>
 some (.inl n)))
 (some (.inr (.inl ())))) (0))
 (Sum.elim (fun (_ : Unit) =>
 some ((0, 4))) some)))))
 (cond (!decide (d.snd.snd = 0))
 (some ((0, d.snd.snd)))
 (Option.bind (
 lpO (fun (b : Int) =>
 cond (decide (b < (↑(List.length (List.map qv c.Rules)) : Int)))
 (zh (c.Rules) b fun o =>
 cond (decide (o.From = e))
 (zh (c.Rules) b fun p =>
 cond (decide (p.Goal = f))
 (zh (c.Rules) b fun q =>
 some (.inr (.inr ((q.K, 0)))))
 (zg (IntKind.wrap .i64 (b + 1)) fun s =>
 some (.inl s)))
 (zg (IntKind.wrap .i64 (b + 1)) fun t =>
 some (.inl t)))
 (some (.inr (.inl ())))) (0))
 (Sum.elim (fun (_ : Unit) =>
 some ((0, 4))) some)))
def zmv (g : TP) (a : TE) : Option (Int) :=
 (zjc g).bind fun f =>
 cond (decide (f.snd.snd = 0))
 ((zqo (a.Fold)).bind fun b =>
 cond (decide (b.snd = 0))
 (cond (decide (a.Site < 0))
 (some (7))
 (cond (decide (1000000000 < a.Site))
 (some (7))
 (cond (!decide (b.snd = 0))
 (some (b.snd))
 ((zi2 g (a.From) (a.Goal)).bind fun c =>
 cond (decide (c.snd = 7))
 (some (7))
 (cond (decide (a.Cells < 0))
 (some (7))
 (cond (decide (400 < a.Cells))
 (some (7))
 (cond (!decide (c.snd = 0))
 (some (c.snd))
 (cond (decide (a.Cells < c.fst))
 (cond (!(decide (a.Value.fst = 0) && (decide (a.Value.snd = 0) && true)))
 (some (6))
 (some (0)))
 (cond (!decide (a.Value.fst = 1))
 (some (6))
 (cond (decide (a.Fold = 2))
 (cond (decide (a.Value.snd < 0))
 (some (6))
 (cond (decide (a.Cells < a.Value.snd))
 (some (6))
 (some (0))))
 (some (0))))))))))))
 (cond (!decide (b.snd = 0))
 (some (b.snd))
 ((zi2 g (a.From) (a.Goal)).bind fun d =>
 cond (decide (d.snd = 7))
 (some (7))
 (cond (decide (a.Cells < 0))
 (some (7))
 (cond (decide (400 < a.Cells))
 (some (7))
 (cond (!decide (d.snd = 0))
 (some (d.snd))
 (cond (decide (a.Cells < d.fst))
 (cond (!(decide (a.Value.fst = 0) && (decide (a.Value.snd = 0) && true)))
 (some (6))
 (some (0)))
 (cond (!decide (a.Value.fst = 1))
 (some (6))
 (cond (decide (a.Fold = 2))
 (cond (decide (a.Value.snd < 0))
 (some (6))
 (cond (decide (a.Cells < a.Value.snd))
 (some (6))
 (some (0))))
 (some (0)))))))))))
 (cond (!decide (f.snd.snd = 0))
 (some (f.snd.snd))
 ((zi2 g (a.From) (a.Goal)).bind fun e =>
 cond (decide (e.snd = 7))
 (some (7))
 (cond (decide (a.Cells < 0))
 (some (7))
 (cond (decide (400 < a.Cells))
 (some (7))
 (cond (!decide (e.snd = 0))
 (some (e.snd))
 (cond (decide (a.Cells < e.fst))
 (cond (!(decide (a.Value.fst = 0) && (decide (a.Value.snd = 0) && true)))
 (some (6))
 (some (0)))
 (cond (!decide (a.Value.fst = 1))
 (some (6))
 (cond (decide (a.Fold = 2))
 (cond (decide (a.Value.snd < 0))
 (some (6))
 (cond (decide (a.Cells < a.Value.snd))
 (some (6))
 (some (0))))
 (some (0))))))))))
def zrs (g : TP) (f : List TE) : Option (Int × Int) :=
 (zjc g).bind fun c =>
 cond (decide (c.snd.snd = 0))
 (cond (decide (2000 < (↑(List.length (List.map zM f)) : Int)))
 (some (((-1 : Int), 3)))
 (cond (!decide (c.snd.snd = 0))
 (some (((-1 : Int), c.snd.snd)))
 (Option.bind (
 lpO (fun (a : Int) =>
 cond (decide (a < (↑(List.length (List.map zM f)) : Int)))
 (zh f a fun i =>
 (zmv g i).bind fun d =>
 cond (decide (d = 0))
 (zh f a fun j =>
 cond (decide (j.Site = 0))
 (some (.inr (.inr ((a, 6)))))
 (cond (!decide (d = 0))
 (some (.inr (.inr ((a, d)))))
 (zg (IntKind.wrap .i64 (a + 1)) fun k =>
 some (.inl k))))
 (cond (!decide (d = 0))
 (some (.inr (.inr ((a, d)))))
 (zg (IntKind.wrap .i64 (a + 1)) fun l =>
 some (.inl l))))
 (some (.inr (.inl ())))) (0))
 (Sum.elim (fun (_ : Unit) =>
 some ((0, 0))) some))))
 (cond (!decide (c.snd.snd = 0))
 (some (((-1 : Int), c.snd.snd)))
 (Option.bind (
 lpO (fun (b : Int) =>
 cond (decide (b < (↑(List.length (List.map zM f)) : Int)))
 (zh f b fun m =>
 (zmv g m).bind fun e =>
 cond (decide (e = 0))
 (zh f b fun n =>
 cond (decide (n.Site = 0))
 (some (.inr (.inr ((b, 6)))))
 (cond (!decide (e = 0))
 (some (.inr (.inr ((b, e)))))
 (zg (IntKind.wrap .i64 (b + 1)) fun o =>
 some (.inl o))))
 (cond (!decide (e = 0))
 (some (.inr (.inr ((b, e)))))
 (zg (IntKind.wrap .i64 (b + 1)) fun p =>
 some (.inl p))))
 (some (.inr (.inl ())))) (0))
 (Sum.elim (fun (_ : Unit) =>
 some ((0, 0))) some)))
def zso (j : TP) (e : List TE) : Option (List (Int × Int × Int × Int × Int) × Int) :=
 (zrs j e).bind fun f =>
 cond (!decide (f.snd = 0))
 (some (([], f.snd)))
 (Option.bind (
 lpO (fun (c : Int × List (Int × Int × Int × Int × Int)) =>
 cond (decide (c.fst < (↑(List.length (List.map SV.str j.Lattice.Names)) : Int)))
 (Option.bind (
 lpO (fun (d : Int × List (Int × Int × Int × Int × Int)) =>
 cond (decide (d.fst < (↑(List.length (List.map SV.str j.Lattice.Names)) : Int)))
 (Option.bind (
 lpO (fun (b : Int × List (Int × Int × Int × Int × Int)) =>
 cond (decide (b.fst <= 4))
 (Option.bind (
 lpO (fun (a : Int × Int × Int) =>
 cond (decide (a.fst < (↑(List.length (List.map zM e)) : Int)))
 (zh e (a.fst) fun k =>
 cond (decide (k.From = c.fst))
 (zh e (a.fst) fun l =>
 cond (decide (l.Goal = d.fst))
 (zh e (a.fst) fun m =>
 cond (decide (m.Fold = b.fst))
 (zg (IntKind.wrap .i64 (a.snd.fst + 1)) fun g =>
 zh e (a.fst) fun n =>
 cond (decide (n.Value.fst = 0))
 (zg (IntKind.wrap .i64 (a.snd.snd + 1)) fun o =>
 zg (IntKind.wrap .i64 (a.fst + 1)) fun p =>
 some (.inl ((p, g, o))))
 (zg (IntKind.wrap .i64 (a.fst + 1)) fun q =>
 some (.inl ((q, g, a.snd.snd)))))
 (zg (IntKind.wrap .i64 (a.fst + 1)) fun s =>
 some (.inl ((s, a.snd)))))
 (zg (IntKind.wrap .i64 (a.fst + 1)) fun t =>
 some (.inl ((t, a.snd)))))
 (zg (IntKind.wrap .i64 (a.fst + 1)) fun u =>
 some (.inl ((u, a.snd)))))
 (some (.inr (.inl (a.snd))))) ((0, 0, 0)))
 (Sum.elim (fun (i : Int × Int) =>
 cond (decide (0 < i.fst))
 (zn ((List.length (List.map (fun (x : Int × Int × Int × Int × Int) => SV.agg [SV.int .i64 x.fst, SV.int .i64 x.snd.fst, SV.int .i64 x.snd.snd.fst, SV.int .i64 x.snd.snd.snd.fst, SV.int .i64 x.snd.snd.snd.snd]) b.snd) + (1 : Nat)) * (40 : Nat) <= (70368744177664 : Nat)) (
 zg (IntKind.wrap .i64 (b.fst + 1)) fun v =>
 some (.inl ((v, b.snd ++ [(c.fst, d.fst, b.fst, i)])))))
 (zg (IntKind.wrap .i64 (b.fst + 1)) fun w =>
 some (.inl ((w, b.snd))))) some))
 (some (.inr (.inl (b.snd))))) ((1, d.snd)))
 (Sum.elim (fun (y : List (Int × Int × Int × Int × Int)) =>
 zg (IntKind.wrap .i64 (d.fst + 1)) fun z =>
 some (.inl ((z, y)))) some))
 (some (.inr (.inl (d.snd))))) ((0, c.snd)))
 (Sum.elim (fun (A : List (Int × Int × Int × Int × Int)) =>
 zg (IntKind.wrap .i64 (c.fst + 1)) fun C =>
 some (.inl ((C, A)))) some))
 (some (.inr (.inl (c.snd))))) ((0, [])))
 (Sum.elim (fun (D : List (Int × Int × Int × Int × Int)) =>
 some ((D, 0))) some))
def zvv (f : TP) (g : List TE) : Option (Bool) :=
 (Fz2 f).bind fun j =>
 cond j
 (some (true))
 ((Fz3 g).bind fun k =>
 cond k
 (some (true))
 ((zq8 f g).bind fun c =>
 (zso f g).bind fun e =>
 cond (!decide ((↑(List.length (List.map (fun (x : Int × Int × Int × Int × Int) => SV.agg [SV.int .i64 x.fst, SV.int .i64 x.snd.fst, SV.int .i64 x.snd.snd.fst, SV.int .i64 x.snd.snd.snd.fst, SV.int .i64 x.snd.snd.snd.snd]) c.fst)) : Int) = (↑(List.length (List.map (fun (x : Int × Int × Int × Int × Int) => SV.agg [SV.int .i64 x.fst, SV.int .i64 x.snd.fst, SV.int .i64 x.snd.snd.fst, SV.int .i64 x.snd.snd.snd.fst, SV.int .i64 x.snd.snd.snd.snd]) e.fst)) : Int)))
 (some (false))
 (cond (!decide (c.snd = e.snd))
 (some (false))
 (Option.bind (
 lpO (fun (d : Int) =>
 cond (decide (d < (↑(List.length (List.map (fun (x : Int × Int × Int × Int × Int) => SV.agg [SV.int .i64 x.fst, SV.int .i64 x.snd.fst, SV.int .i64 x.snd.snd.fst, SV.int .i64 x.snd.snd.snd.fst, SV.int .i64 x.snd.snd.snd.snd]) c.fst)) : Int)))
 (zh (c.fst) d fun a =>
 zh (e.fst) d fun b =>
 cond (!(decide (a.fst = b.fst) && (decide (a.snd.fst = b.snd.fst) && (decide (a.snd.snd.fst = b.snd.snd.fst) && (decide (a.snd.snd.snd.fst = b.snd.snd.snd.fst) && (decide (a.snd.snd.snd.snd = b.snd.snd.snd.snd) && true))))))
 (some (.inr (.inr (false))))
 (zg (IntKind.wrap .i64 (d + 1)) fun i =>
 some (.inl i)))
 (some (.inr (.inl ())))) (0))
 (Sum.elim (fun (_ : Unit) =>
 some (true)) some)))))
end Go.Sx.O
end
namespace Go.Sx.O
open Go
theorem zu3 {α τ : Type} {l : List α} (p : α -> Bool) {step : Int -> Option (Int ⊕ τ)} {d : τ} {g : Int -> τ}
 (h1 : ∀ (k : Nat) x, l[k]? = some x -> step (k : Int) = if p x then some (.inr (g k)) else some (.inl ((k : Int) + 1)))
 (h2 : step (l.length : Int) = some (.inr d)) :
 lpO step 0 = (match l.findIdx? p with | some i => some (g i) | none => some d) := by
 have key : ∀ j k, j + k = l.length -> lpO step (k : Int) = (match (l.drop k).findIdx? p with | some i => some (g ((k + i : Nat) : Int)) | none => some d) := by
  intro j
  induction j with
  | zero =>
    intro k hk
    rw [jv]
    have : k = l.length := by omega
    subst this
    rw [h2]
    simp
  | succ j ih =>
    intro k hk
    have hlt : k < l.length := by omega
    rw [jv, h1 k _ (List.getElem?_eq_getElem hlt), List.drop_eq_getElem_cons hlt, List.findIdx?_cons]
    split
    . simp
    . have := ih (k + 1) (by omega)
      simp only [Option.bind_some, Sum.elim_inl]
      push_cast at this
      rw [this]
      cases (l.drop (k + 1)).findIdx? p with
      | none => rfl
      | some i => simp; congr 1; omega
 have := key l.length 0 (by omega)
 simpa using this
open Go
theorem dropWhile_nil {α : Type} {p : α -> Bool} : ∀ {l : List α}, l.dropWhile p = [] ↔ ∀ x ∈ l, p x = true
 | [] => by simp
 | a :: l => by
   rw [List.dropWhile_cons]
   cases h : p a with
   | true => simp [h, dropWhile_nil (l := l)]
   | false => simp [h]
theorem zdt (l : List (List UInt8)) (s : List UInt8) (hl : l.length <= 1000000000) :
 zr4 l s = some (match l.findIdx? (fun x => decide (s = x)) with | some i => (i : Int) | none => -1) := by
 unfold zr4
 rw [zu3 (l := l) (fun x => decide (s = x)) (d := .inl ()) (g := .inr) ?_ ?_]
 . cases l.findIdx? (fun x => decide (s = x)) <;> rfl
 . intro k x hx
   have hlt : k < l.length := by
    by_cases h : k < l.length
    . exact h
    . rw [List.getElem?_eq_none (by omega)] at hx; cases hx
   simp only [List.length_map, Int.ofNat_lt, hlt, decide_true, cond_true, zh, Int.toNat_natCast, hx, Option.bind_some, zg, Int.natCast_nonneg, if_true]
   rw [w64 (by omega) (by omega)]
   cases decide (s = x) <;> rfl
 . simp
theorem jY (l : List (List UInt8)) (s : List UInt8) (hl : l.length <= 1000000000) :
 zrb l s = some (decide (s ∈ l)) := by
 unfold zrb
 rw [zdt l s hl]
 cases h : l.findIdx? (fun x => decide (s = x)) with
 | none =>
   have := List.findIdx?_eq_none_iff.1 h
   simp only [Option.bind_some]
   congr 1
   have hn : s ∉ l := fun hm => by have := this s hm; simp at this
   simp [hn]
 | some i =>
   have := List.findIdx?_eq_some_iff_getElem.1 h
   obtain ⟨hi, h1, _⟩ := this
   have hm : s ∈ l := by
    have e : s = l[i] := by simpa using h1
    rw [e]; exact List.getElem_mem hi
   simp [hm]
def yN (set : List Bool) (c : UInt8) : Bool := set.getD c.toNat false
theorem zcy (set : List Bool) (c : UInt8) (h : set.length = 256) : Fz7 set (c.toNat : Int) = some (yN set c) := by
 unfold Fz7
 have hc : c.toNat < 256 := c.toNat_lt
 have h2 : set[c.toNat]? = some (set[c.toNat]'(by omega)) := List.getElem?_eq_getElem _
 have h3 : (c.toNat : Int) < 256 := by omega
 simp [zn, zh, yN, h2, h3]
def xO (p : UInt8 -> Bool) (s : List UInt8) : List UInt8 := (s.reverse.dropWhile p).reverse
theorem ztc {p : UInt8 -> Bool} {s : List UInt8} : (xO p s).dropWhile p = [] ↔ ∀ c ∈ s, p c = true := by
 unfold xO
 constructor
 . intro h c hc
   have h1 : ∀ c ∈ (s.reverse.dropWhile p).reverse, p c = true := dropWhile_nil.1 h
   have h2 : s.reverse.dropWhile p = [] := by
    cases e : s.reverse.dropWhile p with
    | nil => rfl
    | cons a r =>
      have := List.head?_dropWhile_not p s.reverse
      rw [e] at this
      simp at this
      rw [e] at h1
      rw [h1 a (by simp)] at this
      cases this
   exact dropWhile_nil.1 h2 c (by simpa using hc)
 . intro h
   have : s.reverse.dropWhile p = [] := dropWhile_nil.2 fun c hc => h c (by simpa using hc)
   rw [this]; rfl
theorem zcz (s : List UInt8) (set : List Bool) (h : set.length = 256) (hs : s.length <= 1000000000) : Fz8 s set = some (xO (yN set) s) := by
 unfold Fz8
 apply Tot.eq
 simp only [zu]
 refine Tot.loop (fun s => s.length) (fun r => r.length <= 1000000000 /\ xO (yN set) r = xO (yN set) s) ?_ ⟨hs, rfl⟩
 rintro r ⟨hr, he⟩
 simp only [zq, zA, qd, qm, qJ, zu, Sum.elim_inl, Sum.elim_inr, decide_eq_true_eq, decide_eq_false_iff_not]
 refine ⟨fun h1 => ?_, fun h1 => ?_⟩
 . have h0 : r ≠ [] := by rintro rfl; simp at h1
   rw [w64 (by omega) (by omega)]
   have e1 : ((r.length : Int) - 1).toNat = r.length - 1 := by omega
   rw [e1]
   refine ⟨by omega, _, List.getElem?_eq_getElem (by omega), ?_⟩
   rw [zcy set _ h]
   simp only [zq, Bool.not_eq_true', Bool.not_eq_false']
   have hr2 : r = r.dropLast ++ [r[r.length - 1]'(by omega)] := by
    rw [<- List.getLast_eq_getElem h0]; exact (List.dropLast_concat_getLast h0).symm
   refine ⟨fun h2 => ?_, fun h2 => ⟨⟨by omega, by omega⟩, ⟨by simp; omega, ?_⟩, by simp; omega⟩⟩
   . rw [<- he]
     unfold xO
     rw [hr2]
     simp [h2]
   . rw [<- he]
     simp only [Int.toNat_zero, List.drop_zero]
     rw [<- List.dropLast_eq_take]
     conv => rhs; rw [hr2]
     unfold xO
     simp [h2]
 . have h0 : r = [] := List.length_eq_zero_iff.1 (by omega)
   rw [<- he, h0]; rfl
theorem zdd (s : List UInt8) (set : List Bool) (h : set.length = 256) (hs : s.length <= 1000000000) : Fz9 s set = some (s.dropWhile (yN set)) := by
 unfold Fz9
 apply Tot.eq
 simp only [zu]
 refine Tot.loop (fun s => s.length) (fun r => r.length <= 1000000000 /\ r.dropWhile (yN set) = s.dropWhile (yN set)) ?_ ⟨hs, rfl⟩
 rintro r ⟨hr, he⟩
 simp only [zq, zA, qd, qm, qJ, zu, Sum.elim_inl, Sum.elim_inr, decide_eq_true_eq, decide_eq_false_iff_not]
 cases r with
 | nil => simp [<- he]
 | cons a r =>
   refine ⟨fun h1 => ⟨by omega, a, rfl, ?_⟩, fun h1 => absurd h1 (by simp)⟩
   rw [zcy set _ h]
   simp only [zq, Bool.not_eq_true', Bool.not_eq_false']
   refine ⟨fun h2 => ?_, fun h2 => ⟨by simp; omega, ⟨?_, ?_⟩, ?_⟩⟩
   . rw [<- he]; simp [h2]
   . simp at hr ⊢; omega
   . rw [<- he]; simp [h2]
   . simp
open Go
theorem zux {set : List Bool} {c d : UInt8} (h : set.length = 256) : yN (set.set c.toNat true) d = (decide (d = c) || yN set d) := by
 have hc : c.toNat < 256 := c.toNat_lt
 unfold yN
 rw [List.getD_eq_getElem?_getD, List.getD_eq_getElem?_getD, List.getElem?_set]
 by_cases e : c.toNat = d.toNat
 . have : d = c := (UInt8.toNat_inj.1 e).symm
   subst this
   simp [h, hc]
 . have : d ≠ c := fun e' => e (by rw [e'])
   simp [e, this]
theorem zew (cs : List UInt8) (h : ∀ c ∈ cs, c.toNat < 128) (hs : cs.length <= 1000000000) : Tot (Fz6 cs) fun r => r.2 = true /\ r.1.length = 256 /\ ∀ d, yN r.1 d = decide (d ∈ cs) := by
 unfold Fz6
 simp only [zu]
 refine Tot.count cs.length (fun k s => s.1 = (k : Int) /\ s.2.length = 256 /\ ∀ d, yN s.2 d = decide (d ∈ cs.take k)) ?_ ⟨rfl, List.length_replicate, fun d => ?_⟩
 . rintro k ⟨i, set⟩ hk ⟨h0, h1, h2⟩
   simp only at h0 h1 h2
   subst h0
   simp only [zq, zA, qd, qm, qJ, Sum.elim_inl, Sum.elim_inr, decide_eq_true_eq, decide_eq_false_iff_not, Int.toNat_natCast]
   refine ⟨fun hlt => ⟨by omega, _, List.getElem?_eq_getElem (by omega), fun h3 => ?_, fun h3 => ?_⟩, fun hlt => ?_⟩
   . have := h cs[k] (List.getElem_mem _)
     omega
   . have hc : cs[k].toNat < 256 := (cs[k]'(by omega)).toNat_lt
     refine ⟨⟨by omega, by omega⟩, by omega, _, List.getElem?_eq_getElem (by omega), ?_⟩
     rw [w64 (by omega) (by omega)]
     refine ⟨by omega, by omega, by simpa using h1, fun d => ?_⟩
     have hm : d ∈ cs.take (k + 1) ↔ d ∈ cs.take k \/ d = cs[k] := by
      rw [List.take_add_one, List.getElem?_eq_getElem (by omega), List.mem_append]
      simp
     rw [zux h1, h2, Bool.eq_iff_iff]
     simp only [Bool.or_eq_true, decide_eq_true_eq, hm]
     exact or_comm
   . refine ⟨trivial, h1, fun d => ?_⟩
     rw [h2, List.take_of_length_le (by omega)]
 . unfold yN
   rw [List.getD_eq_getElem?_getD, List.getElem?_replicate]
   split <;> simp
theorem zt0 (s cs : List UInt8) (h : ∀ c ∈ cs, c.toNat < 128) (h1 : 2 <= cs.length) (hs : cs.length <= 1000000000) (hl : s.length <= 1000000000) :
 zqc s cs = some ((xO (fun c => decide (c ∈ cs)) s).dropWhile (fun c => decide (c ∈ cs))) := by
 unfold zqc
 have e0 : (ByteArray.mk #[]).data.toList = [] := rfl
 simp only [e0]
 cases s with
 | nil => simp [xO]
 | cons a r =>
   have e1 : decide (a :: r = []) = false := by simp
   have e2 : decide (cs = []) = false := by cases cs <;> simp at h1 ⊢
   have e3 : decide ((cs.length : Int) = 1) = false := by simp; omega
   simp only [e1, e2, e3, cond_false]
   obtain ⟨x, hx, hx1, hx2, hx3⟩ := zew cs h hs
   have e4 : yN x.1 = fun c => decide (c ∈ cs) := funext hx3
   rw [hx]
   simp only [Option.bind_some, hx1, cond_true]
   rw [zcz _ _ hx2 hl]
   simp only [Option.bind_some]
   rw [zdd _ _ hx2 (by
    refine Nat.le_trans ?_ hl
    unfold xO
    rw [List.length_reverse]
    refine Nat.le_trans (List.dropWhile_sublist _).length_le (by simp))]
   rw [e4]
   rfl
def jl : List UInt8 := [97, 98, 99, 100, 101, 102, 103, 104, 105, 106, 107, 108, 109, 110, 111, 112, 113, 114, 115, 116, 117, 118, 119, 120, 121, 122, 48, 49, 50, 51, 52, 53, 54, 55, 56, 57, 45]
def zbr (s : List UInt8) : Bool := decide (s.length <= 16) && (match s with | [] => false | c :: _ => decide (97 <= c.toNat) && decide (c.toNat <= 122)) && s.all fun c => decide (c ∈ jl)
theorem zjs (s : List UInt8) (hl : s.length <= 1000000000) : zrg s = some (zbr s) := by
 unfold zrg
 have e0 : (ByteArray.mk #[]).data.toList = [] := rfl
 simp only [e0]
 rw [zt0 s _ (by decide) (by decide) (by decide) hl]
 cases s with
 | nil => rfl
 | cons a r =>
   have e1 : decide (a :: r = []) = false := by simp
   simp only [e1, cond_false, Option.bind_some]
   have e5 : zh (a :: r) 0 = fun f => (f a : Option Bool) := rfl
   simp only [e5]
   unfold zbr
   by_cases h1 : (16 : Int) < ((a :: r).length : Int)
   . have : ¬ (a :: r).length <= 16 := by omega
     simp only [h1, decide_true, cond_true, this, decide_false, Bool.false_and]
   . have h1' : (a :: r).length <= 16 := by omega
     simp only [h1, decide_false, cond_false, h1', decide_true, Bool.true_and]
     by_cases h2 : (a.toNat : Int) < 97
     . have : ¬ 97 <= a.toNat := by omega
       simp only [h2, decide_true, cond_true, this, decide_false, Bool.false_and]
     . have h2' : 97 <= a.toNat := by omega
       simp only [h2, decide_false, cond_false, h2', decide_true, Bool.true_and]
       by_cases h3 : (122 : Int) < (a.toNat : Int)
       . have : ¬ a.toNat <= 122 := by omega
         simp only [h3, decide_true, cond_true, this, decide_false, Bool.false_and]
       . have h3' : a.toNat <= 122 := by omega
         simp only [h3, decide_false, cond_false, h3', decide_true, Bool.true_and]
         congr 1
         rw [Bool.eq_iff_iff, decide_eq_true_eq, ztc, List.all_eq_true]
         rfl
open Go
theorem zAw : ∀ u : Fin 256, ∀ b : Fin 9, bits .and .u8 (Int.fdiv (u.val : Int) (2 ^ min b.val (IntKind.bits .u8))) 1 = if Nat.testBit u b then 1 else 0 := by decide +kernel
theorem zcv {u : Int} {b : Nat} (h0 : 0 <= u) (h1 : u < 256) (hb : b <= 8) : bits .and .u8 (Int.fdiv u (2 ^ min b (IntKind.bits .u8))) 1 = if u.toNat.testBit b then 1 else 0 := by
 have := zAw ⟨u.toNat, by omega⟩ ⟨b, by omega⟩
 simp only at this
 rw [Int.toNat_of_nonneg h0] at this
 exact this
theorem xG {u : Int} (h0 : 0 <= u) : BitVec.ofInt 8 u = BitVec.ofNat 8 u.toNat := by
 conv => lhs; rw [<- Int.toNat_of_nonneg h0]
 exact BitVec.ofInt_natCast 8 u.toNat
theorem zir {n : Nat} (h : n < 256) : IntKind.wrap .u8 (n : Int) = n := by
 simp only [IntKind.wrap, IntKind.signed, IntKind.bits, Bool.false_and]
 have h3 : (2 : Int) ^ 8 = 256 := by decide
 simp only [h3]
 have : (n : Int) % 256 = n := by omega
 simp [this]
theorem zb3 {a b : Int} (ha : 0 <= a) (ha' : a < 256) (hb : 0 <= b) (hb' : b < 256) : bits .and .u8 a b = ((a.toNat &&& b.toNat : Nat) : Int) := by
 have e : bits .and .u8 a b = IntKind.wrap .u8 ((BitVec.ofInt 8 a &&& BitVec.ofInt 8 b).toNat : Int) := rfl
 rw [e, xG ha, xG hb]
 rw [zir (BitVec.isLt _)]
 rw [BitVec.toNat_and, BitVec.toNat_ofNat, BitVec.toNat_ofNat, Nat.mod_eq_of_lt (by omega), Nat.mod_eq_of_lt (by omega)]
theorem zo4 {a b : Int} (ha : 0 <= a) (ha' : a < 256) (hb : 0 <= b) (hb' : b < 256) : bits .or .u8 a b = ((a.toNat ||| b.toNat : Nat) : Int) := by
 have e : bits .or .u8 a b = IntKind.wrap .u8 ((BitVec.ofInt 8 a ||| BitVec.ofInt 8 b).toNat : Int) := rfl
 rw [e, xG ha, xG hb]
 rw [zir (BitVec.isLt _)]
 rw [BitVec.toNat_or, BitVec.toNat_ofNat, BitVec.toNat_ofNat, Nat.mod_eq_of_lt (by omega), Nat.mod_eq_of_lt (by omega)]
theorem zbf {a b : Int} (ha : 0 <= a) (ha' : a < 256) (hb : 0 <= b) (hb' : b < 256) : bits .andNot .u8 a b = 0 ↔ ∀ i, a.toNat.testBit i = true -> b.toNat.testBit i = true := by
 have e : bits .andNot .u8 a b = IntKind.wrap .u8 ((BitVec.ofInt 8 a &&& ~~~BitVec.ofInt 8 b).toNat : Int) := rfl
 rw [e, xG ha, xG hb]
 rw [zir (BitVec.isLt _)]
 have hbit : ∀ i, (BitVec.ofNat 8 a.toNat &&& ~~~BitVec.ofNat 8 b.toNat).getLsbD i = (decide (i < 8) && a.toNat.testBit i && !(b.toNat.testBit i)) := by
  intro i
  rw [BitVec.getLsbD_and, BitVec.getLsbD_not, BitVec.getLsbD_ofNat, BitVec.getLsbD_ofNat]
  cases decide (i < 8) <;> simp
 have h8 : ∀ i, a.toNat.testBit i = true -> i < 8 := by
  intro i hi
  rcases Nat.lt_or_ge i 8 with g | g
  . exact g
  . rw [Nat.testBit_lt_two_pow (Nat.lt_of_lt_of_le (show a.toNat < 2 ^ 8 by omega) (Nat.pow_le_pow_right (by omega) g))] at hi
    cases hi
 constructor
 . intro h i hi
   have h0 : (BitVec.ofNat 8 a.toNat &&& ~~~BitVec.ofNat 8 b.toNat).toNat = 0 := Int.ofNat_eq_zero.1 h
   have h1 := hbit i
   rw [<- BitVec.testBit_toNat, h0, Nat.zero_testBit] at h1
   have := h8 i hi
   simp [this, hi] at h1
   exact h1
 . intro h
   have h1 : (BitVec.ofNat 8 a.toNat &&& ~~~BitVec.ofNat 8 b.toNat).toNat = 0 := by
    apply Nat.eq_of_testBit_eq
    intro i
    rw [BitVec.testBit_toNat, hbit i, Nat.zero_testBit]
    cases hi : a.toNat.testBit i with
    | false => simp
    | true => simp [h i hi]
   rw [h1]; rfl
theorem zdy {a b : Nat} (h : a < 256) : a &&& b < 256 := Nat.lt_of_le_of_lt Nat.and_le_left h
theorem zB4 {a b : Nat} (h : a < 256) (k : b < 256) : a ||| b < 256 := Nat.or_lt_two_pow (n := 8) h k
theorem zob (ns : List (List UInt8)) (h : ns.length <= 20) (hn : ∀ s ∈ ns, s.length <= 1000) : Tot (zih ns) fun r => r.2 = 0 -> 1 <= ns.length /\ ns.length <= 8 := by
 unfold zih
 simp only [zA, zq, zu, List.length_map, decide_eq_true_eq, decide_eq_false_iff_not]
 refine ⟨fun _ h => absurd h (by decide), fun h1 => ⟨fun _ h => absurd h (by decide), fun h2 => ?_⟩⟩
 refine Tot.count ns.length (fun k s => s = (k : Int)) ?_ rfl
 rintro k _ hk rfl
 simp only [zq, zA, qd, qm, qJ, zu, Sum.elim_inl, Sum.elim_inr, decide_eq_true_eq, decide_eq_false_iff_not, Int.toNat_natCast]
 refine ⟨fun hlt => ⟨by omega, _, List.getElem?_eq_getElem (by omega), ?_⟩, fun hlt => fun _ => by omega⟩
 rw [zjs _ (by have := hn ns[k] (List.getElem_mem _); omega), zq]
 refine ⟨fun _ h => absurd h (by decide), fun _ => ⟨⟨by omega, by omega⟩, ?_⟩⟩
 rw [jY _ _ (by simp; omega), zq]
 refine ⟨fun _ h => absurd h (by decide), fun _ => ?_⟩
 rw [w64 (by omega) (by omega)]
 exact ⟨by omega, by omega⟩
open Go
def U8s (l : List Int) : Prop := ∀ x ∈ l, 0 <= x /\ x < 256
theorem U8s.get {l : List Int} (h : U8s l) {i : Nat} {x : Int} (hx : l[i]? = some x) : 0 <= x /\ x < 256 := h x (List.mem_of_getElem? hx)
theorem U8s.set {l : List Int} (h : U8s l) {i : Nat} {x : Int} (h0 : 0 <= x) (h1 : x < 256) : U8s (l.set i x) := by
 intro y hy
 rcases List.mem_or_eq_of_mem_set hy with g | g
 . exact h y g
 . subst g; exact ⟨h0, h1⟩
theorem zk8 {e : Int} : 0 <= IntKind.wrap .u8 e /\ IntKind.wrap .u8 e < 256 := by
 simp only [IntKind.wrap, IntKind.signed, IntKind.bits, Bool.false_and]
 have h3 : (2 : Int) ^ 8 = 256 := by decide
 simp only [h3]
 refine ⟨?_, ?_⟩ <;> simp <;> omega
theorem orU {a b : Int} (ha : 0 <= a) (ha' : a < 256) (hb : 0 <= b) (hb' : b < 256) : 0 <= bits .or .u8 a b /\ bits .or .u8 a b < 256 := by
 rw [zo4 ha ha' hb hb']
 have := zB4 (a := a.toNat) (b := b.toNat) (by omega) (by omega)
 omega
theorem zD {α : Type} {l : List α} {i : Nat} (h : i < l.length) : ∃ x, l[i]? = some x := ⟨_, List.getElem?_eq_getElem h⟩
theorem zwy (l : TL) (hu : U8s l.Up) (hn : l.Names.length <= 8) (hl : l.Up.length <= 8) :
 Tot (zgc l) fun o => o.n_ = l.Names.length /\ o.up_.length = 8 /\ o.down_.length = 8 /\ U8s o.up_ /\ U8s o.down_ := by
 unfold zgc
 simp only [zu, List.length_map]
 refine Tot.count l.Up.length (fun k s => s.1 = (k : Int) /\ s.2.1.length = 8 /\ s.2.2.length = 8 /\ U8s s.2.1 /\ U8s s.2.2) ?_ ⟨rfl, rfl, rfl, by intro x hx; simp at hx; omega, by intro x hx; simp at hx; omega⟩
 rintro k ⟨i, up, down⟩ hk ⟨h0, h1, h2, h3, h4⟩
 simp only at h0 h1 h2 h3 h4
 subst h0
 simp only [zq, zA, qd, qm, qJ, zu, Sum.elim_inl, Sum.elim_inr, decide_eq_true_eq, decide_eq_false_iff_not, Int.toNat_natCast]
 refine ⟨fun hlt => ?_, fun hlt => ⟨trivial, h1, h2, h3, h4⟩⟩
 obtain ⟨x, hx⟩ := zD (l := l.Up) (i := k) (by omega)
 obtain ⟨y, hy⟩ := zD (l := up) (i := k) (by omega)
 refine ⟨by omega, x, hx, ⟨by omega, by omega⟩, by omega, y, hy, ?_⟩
 have hx' := hu.get hx
 refine Tot.count l.Names.length (fun j s => s.1 = (j : Int) /\ s.2.length = 8 /\ U8s s.2) ?_ ⟨rfl, h2, h4⟩
 rintro j ⟨i', d⟩ hj ⟨g0, g1, g2⟩
 simp only at g0 g1 g2
 subst g0
 simp only [zq, zA, qd, qm, qJ, zu, Sum.elim_inl, Sum.elim_inr, decide_eq_true_eq, decide_eq_false_iff_not, Int.toNat_natCast]
 refine ⟨fun hlt' => ?_, fun _ => ?_⟩
 . obtain ⟨z, hz⟩ := zD (l := d) (i := j) (by omega)
   have hz' := g2.get hz
   rw [w64 (by omega) (by omega)]
   refine ⟨⟨by omega, by omega⟩, by omega, z, hz, by omega, by omega, ⟨by omega, by omega⟩, by omega, z, hz, by omega, by omega, by simpa using g1, ?_⟩
   have hw := zk8 (e := bits .and .u8 (Int.fdiv x (2 ^ min j (IntKind.bits .u8))) 1 * 2 ^ min k (IntKind.bits .u8))
   have ho := orU hz'.1 hz'.2 hw.1 hw.2
   exact g2.set ho.1 ho.2
 . rw [w64 (by omega) (by omega)]
   exact ⟨by omega, by omega, by simpa using h1, g1, h3.set hx'.1 hx'.2, g2⟩
theorem zat (m : List Int) (n : Nat) (a b : Nat) (hm : m.length = 8) (hu : U8s m) (hn : n <= 8) (ha : a < n) (hb : b < n) : Tot (zi4 m n a b) fun _ => True := by
 unfold zi4
 obtain ⟨x, hx⟩ := zD (l := m) (i := a) (by omega)
 obtain ⟨y, hy⟩ := zD (l := m) (i := b) (by omega)
 simp only [zq, zA, qd, qm, qJ, zu, Int.toNat_natCast]
 refine ⟨⟨by omega, by omega⟩, by omega, x, hx, ⟨by omega, by omega⟩, by omega, y, hy, ?_⟩
 refine Tot.count n (fun k s => s = (k : Int)) ?_ rfl
 rintro k _ hk rfl
 simp only [zq, zA, qd, qm, qJ, zu, Sum.elim_inl, Sum.elim_inr, decide_eq_true_eq, decide_eq_false_iff_not, Int.toNat_natCast]
 refine ⟨fun hlt => ⟨by omega, fun _ => ?_, fun _ => ?_⟩, fun _ => trivial⟩
 . obtain ⟨z, hz⟩ := zD (l := m) (i := k) (by omega)
   rw [w64 (by omega) (by omega)]
   exact ⟨⟨by omega, by omega⟩, by omega, z, hz, fun _ => trivial, fun _ => ⟨by omega, by omega⟩⟩
 . rw [w64 (by omega) (by omega)]
   exact ⟨by omega, by omega⟩
theorem zez (m : List Int) (n : Nat) (a b : Nat) (hm : m.length = 8) (hu : U8s m) (hn : n <= 8) (ha : a < n) (hb : b < n) : Tot (zql m n a b) fun _ => True := zat m n a b hm hu hn ha hb
theorem zq6 (x : Int) (h0 : 0 <= x) (h1 : x < 256) : Tot (zhx x) fun _ => True := by
 unfold zhx
 rw [qm]
 refine ⟨h0, ?_⟩
 have key : ∀ l : List UInt8, l.length = 256 -> ∃ y, l[x.toNat]? = some y /\ Tot (zg (IntKind.wrap .i64 (y.toNat : Int)) fun z => some z) fun _ => True := by
  intro l hl
  obtain ⟨y, hy⟩ := zD (l := l) (i := x.toNat) (by omega)
  exact ⟨y, hy, .mk trivial⟩
 exact key _ (by decide +kernel)
def up (l : TL) (a b : Nat) : Bool := (l.Up.getD a 0).toNat.testBit b
def xQ (l : TL) (a b : Nat) : Prop := up l a b = true -> (b ≠ a -> up l b a = false) /\ ∀ i, i < l.Names.length -> up l b i = true -> up l a i = true
structure LatOK (l : TL) : Prop where
 pos : 1 <= l.Names.length
 le : l.Names.length <= 8
 len : l.Up.length = l.Names.length
 u8 : U8s l.Up
 self : ∀ a, a < l.Names.length -> up l a a = true
 row : ∀ a, a < l.Names.length -> ∀ b, b < l.Names.length -> xQ l a b
theorem xn {l : TL} {a : Nat} {x : Int} (h : l.Up[a]? = some x) (b : Nat) : up l a b = x.toNat.testBit b := by
 unfold up; rw [List.getD_eq_getElem?_getD, h]; rfl
theorem zn0 (n : Nat) (h : n <= 8) (i : Nat) : (IntKind.wrap .u8 (IntKind.wrap .u8 (1 * 2 ^ min n (IntKind.bits .u8)) - 1)).toNat.testBit i = decide (i < n) := by
 have key : ∀ n : Fin 9, (IntKind.wrap .u8 (IntKind.wrap .u8 (1 * 2 ^ min n.val (IntKind.bits .u8)) - 1)).toNat = 2 ^ n.val - 1 := by decide +kernel
 rw [key ⟨n, by omega⟩]
 exact Nat.testBit_two_pow_sub_one n i
theorem zjr (l : TL) (hu : U8s l.Up) (hn : l.Names.length <= 20) (hs : ∀ s ∈ l.Names, s.length <= 1000) : Tot (zba l) fun r => r.2 = 0 -> LatOK l := by
 unfold zba
 simp only [zu, List.length_map]
 refine (zob l.Names hn hs).mono fun x53 h53 => ?_
 simp only [zA, zq, Bool.not_eq_true', Bool.not_eq_false', decide_eq_true_eq, decide_eq_false_iff_not]
 refine ⟨fun h h' => absurd h' h, fun h => ⟨fun _ h' => absurd h' (by decide), fun hlen => ?_⟩⟩
 obtain ⟨p1, p8⟩ := h53 h
 have hlen' : l.Up.length = l.Names.length := by omega
 rw [qJ, qd, qd, zu]
 refine ⟨by omega, ?_⟩
 rw [Int.toNat_natCast]
 have hmask := zn0 l.Names.length p8
 have hm0 := zk8 (e := IntKind.wrap .u8 (1 * 2 ^ min l.Names.length (IntKind.bits .u8)) - 1)
 revert hmask hm0
 generalize IntKind.wrap .u8 (IntKind.wrap .u8 (1 * 2 ^ min l.Names.length (IntKind.bits .u8)) - 1) = mask
 intro hmask hm0
 refine Tot.count l.Names.length (fun k s => s = (k : Int) /\ (∀ a, a < k -> up l a a = true) /\ ∀ a, a < k -> ∀ b, b < l.Names.length -> xQ l a b) ?_ ⟨rfl, fun a ha => absurd ha (by omega), fun a ha => absurd ha (by omega)⟩
 rintro k _ hk ⟨rfl, hself, hrow⟩
 simp only [zA, zq, qd, Sum.elim_inl, Sum.elim_inr, decide_eq_true_eq, decide_eq_false_iff_not]
 refine ⟨fun hlt => ?_, fun hlt => ?_⟩
 . -- a round
   simp only [qm, Int.toNat_natCast]
   obtain ⟨x, hx⟩ := zD (l := l.Up) (i := k) (by omega)
   have hx' := hu.get hx
   refine ⟨by omega, x, hx, ?_⟩
   rw [zu]
   refine (zq6 x hx'.1 hx'.2).mono fun x91 _ => ?_
   simp only [zA, zq, qJ, Sum.elim_inl, Sum.elim_inr, decide_eq_true_eq, decide_eq_false_iff_not, Int.toNat_natCast]
   refine ⟨fun _ h' => absurd h' (by decide), fun _ => ⟨by omega, fun _ h' => absurd h' (by decide), fun hs => ?_⟩⟩
   rw [zcv hx'.1 hx'.2 (by omega), <- xn hx] at hs
   have hkk : up l k k = true := by
    cases e : up l k k with
    | true => rfl
    | false => rw [e] at hs; simp at hs
   rw [zu]
   refine Tot.count l.Names.length (fun j s => s = (j : Int) /\ ∀ b, b < j -> xQ l k b) ?_ ⟨rfl, fun b hb => absurd hb (by omega)⟩
   rintro j _ hj ⟨rfl, hr⟩
   have fin : (∀ b, b < l.Names.length -> xQ l k b) -> k < l.Names.length /\ IntKind.wrap .i64 ((k : Int) + 1) = ((k + 1 : Nat) : Int) /\ (∀ a, a < k + 1 -> up l a a = true) /\ ∀ a, a < k + 1 -> ∀ b, b < l.Names.length -> xQ l a b := by
    intro hall
    rw [w64 (by omega) (by omega)]
    refine ⟨by omega, by omega, fun a ha => ?_, fun a ha => ?_⟩
    . rcases Nat.lt_or_ge a k with g | g
      . exact hself a g
      . have : a = k := by omega
        subst this; exact hkk
    . rcases Nat.lt_or_ge a k with g | g
      . exact hrow a g
      . have : a = k := by omega
        subst this; exact hall
   have ext : ∀ {b}, xQ l k j -> b < j + 1 -> xQ l k b := by
    intro b h hb
    rcases Nat.lt_or_ge b j with g | g
    . exact hr b g
    . have : b = j := by omega
      subst this; exact h
   simp only [zA, zq, qd, qJ, Sum.elim_inl, Sum.elim_inr, decide_eq_true_eq, decide_eq_false_iff_not, Bool.not_eq_true', Bool.not_eq_false', Int.toNat_natCast]
   refine ⟨fun hjl => ?_, fun hjl => ?_⟩
   . simp only [qm, Int.toNat_natCast]
     obtain ⟨y, hy⟩ := zD (l := l.Up) (i := j) (by omega)
     have hy' := hu.get hy
     refine ⟨by omega, y, hy, ?_⟩
     simp only [zA, zq, qd, qJ, Sum.elim_inl, Sum.elim_inr, decide_eq_true_eq, decide_eq_false_iff_not, Bool.not_eq_true', Bool.not_eq_false', Int.toNat_natCast]
     rw [zcv hx'.1 hx'.2 (by omega), <- xn hx]
     rw [w64 (e := (l.Names.length : Int) - 1) (by omega) (by omega)]
     have stay : xQ l k j -> ((j : Int) = (l.Names.length : Int) - 1 -> k < l.Names.length /\ IntKind.wrap .i64 ((k : Int) + 1) = ((k + 1 : Nat) : Int) /\ (∀ a, a < k + 1 -> up l a a = true) /\ ∀ a, a < k + 1 -> ∀ b, b < l.Names.length -> xQ l a b) /\ (¬ (j : Int) = (l.Names.length : Int) - 1 -> j < l.Names.length /\ IntKind.wrap .i64 ((j : Int) + 1) = ((j + 1 : Nat) : Int) /\ ∀ b, b < j + 1 -> xQ l k b) := by
      intro hrow'
      refine ⟨fun e => fin fun b hb => ext hrow' (by omega), fun e => ?_⟩
      rw [w64 (by omega) (by omega)]
      exact ⟨by omega, by omega, fun b hb => ext hrow' hb⟩
     refine ⟨by omega, fun hb => ?_, fun hb => ⟨fun hne => ⟨by omega, fun _ h' => absurd h' (by decide), fun hba => ⟨fun _ h' => absurd h' (by decide), fun han => ?_⟩⟩, fun heq => ⟨fun _ h' => absurd h' (by decide), fun han => ?_⟩⟩⟩
     . refine stay fun hup => ?_
       rw [hup] at hb; simp at hb
     . refine stay fun _ => ⟨fun _ => ?_, fun i hi hyi => ?_⟩
       . rw [zcv hy'.1 hy'.2 (by omega), <- xn hy] at hba
         cases e : up l j k with
         | false => rfl
         | true => rw [e] at hba; simp at hba
       . rw [zb3 hy'.1 hy'.2 hm0.1 hm0.2] at han
         have hand := zdy (a := y.toNat) (b := mask.toNat) (by omega)
         have := (zbf (by omega) (by omega) hx'.1 hx'.2).1 han i (by
          rw [Int.toNat_natCast, Nat.testBit_and, hmask, <- xn hy, hyi]; simp [hi])
         rw [xn hx]; exact this
     . refine stay fun _ => ⟨fun hne => absurd (by omega) hne, fun i hi hyi => ?_⟩
       rw [zb3 hy'.1 hy'.2 hm0.1 hm0.2] at han
       have hand := zdy (a := y.toNat) (b := mask.toNat) (by omega)
       have := (zbf (by omega) (by omega) hx'.1 hx'.2).1 han i (by
        rw [Int.toNat_natCast, Nat.testBit_and, hmask, <- xn hy, hyi]; simp [hi])
       rw [xn hx]; exact this
   . exact fin fun b hb => hr b (by omega)
 . -- the end
   have hk' : k = l.Names.length := by omega
   subst hk'
   have good : LatOK l := ⟨p1, p8, hlen', hu, hself, hrow⟩
   rw [zu]
   refine (zwy l hu p8 (by omega)).mono fun o ho => ?_
   obtain ⟨_, o1, o2, o3, o4⟩ := ho
   rw [zu]
   refine Tot.count l.Names.length (fun j s => s = (j : Int)) ?_ rfl
   rintro j _ hj rfl
   simp only [zA, zq, qd, zu, Sum.elim_inl, Sum.elim_inr, decide_eq_true_eq, decide_eq_false_iff_not]
   refine ⟨fun hlt => ?_, fun _ _ => good⟩
   refine Tot.count l.Names.length (fun i s => s = (i : Int)) ?_ rfl
   rintro i _ hi rfl
   simp only [zA, zq, qd, zu, Sum.elim_inl, Sum.elim_inr, decide_eq_true_eq, decide_eq_false_iff_not]
   refine ⟨fun hlt' => ?_, fun _ => ?_⟩
   . refine (zat _ _ _ _ o1 o3 p8 (by omega) (by omega)).mono fun b1 _ => ⟨fun _ h' => absurd h' (by decide), fun _ => ?_⟩
     refine (zez _ _ _ _ o2 o4 p8 (by omega) (by omega)).mono fun b2 _ => ⟨fun _ h' => absurd h' (by decide), fun _ => ?_⟩
     rw [w64 (by omega) (by omega)]
     exact ⟨by omega, by omega⟩
   . rw [w64 (by omega) (by omega)]
     exact ⟨by omega, by omega⟩
end Go.Sx.O
noncomputable section
namespace Go.Sx.O
open Go
structure LatIn (l : TL) : Prop where
 u8 : U8s l.Up
 names : l.Names.length <= 20
 name : ∀ s ∈ l.Names, s.length <= 1000
def qO (l : TL) : Int × Int := (zba l).getD (0, 0)
theorem zcp {l : TL} (h : LatIn l) : zba l = some (qO l) := by
 obtain ⟨r, e, _⟩ := zjr l h.u8 h.names h.name
 unfold qO; rw [e]; rfl
theorem xj {l : TL} (h : LatIn l) (k : (qO l).2 = 0) : LatOK l := by
 obtain ⟨r, e, q⟩ := zjr l h.u8 h.names h.name
 have := zcp h
 rw [e] at this; cases this
 exact q k
def wu (l : TL) (a : Int) : Bool := decide (0 <= a) && decide (a < (l.Names.length : Int))
def zct (l : TL) (xs : List Int) : Int := if (qO l).2 = 0 then (if xs.all (wu l) then 0 else 7) else (qO l).2
theorem zou {l : TL} (h : LatIn l) (xs : List Int) (hx : xs.length <= 1000000000) : zqu l xs = some (zct l xs) := by
 unfold zqu zct
 rw [zcp h]
 simp only [Option.bind_some]
 by_cases h0 : (qO l).2 = 0
 . simp only [h0, decide_true, Bool.not_true, cond_false, if_true]
   apply Tot.eq
   simp only [zu, List.length_map]
   refine Tot.count xs.length (fun k s => s = (k : Int) /\ (xs.take k).all (wu l) = true) ?_ ⟨rfl, by simp⟩
   rintro k _ hk ⟨rfl, hall⟩
   simp only [zA, zq, qd, qm, Sum.elim_inl, Sum.elim_inr, decide_eq_true_eq, decide_eq_false_iff_not, Int.toNat_natCast]
   refine ⟨fun hlt => ?_, fun hlt => ?_⟩
   . obtain ⟨x, hx'⟩ := zD (l := xs) (i := k) (by omega)
     have hm := List.mem_of_getElem? hx'
     have bad : wu l x = false -> (7 : Int) = if xs.all (wu l) = true then 0 else 7 := by
      intro e
      have : xs.all (wu l) = false := by
       rw [List.all_eq_false]; exact ⟨x, hm, by simp [e]⟩
      simp [this]
     refine ⟨by omega, x, hx', fun g => bad (by unfold wu; simp; omega), fun g1 => ⟨fun g => bad (by unfold wu; simp; omega), fun g2 => ?_⟩⟩
     rw [w64 (by omega) (by omega)]
     refine ⟨by omega, by omega, ?_⟩
     rw [List.take_add_one, hx', List.all_append, hall]
     simp [wu]; omega
   . rw [List.take_of_length_le (by omega)] at hall
     simp [hall]
 . simp only [h0, decide_false, Bool.not_false, cond_true, if_false]
def zAy (l : TL) (a o : Int) : Bool := decide ((qO l).2 = 0) && wu l a && wu l o && up l a.toNat o.toNat
end Go.Sx.O
end
namespace Go.Sx.O
open Go
theorem za1 (x : Int) : Tot (zd1 x) fun _ => True := by
 unfold zd1
 simp only [zA, zq, implies_true, and_self]
open Go
theorem ziw {l : List UInt8} {c : UInt8} (h : c ∉ l) : Lib.indexByte l c = -1 := by
 induction l with
 | nil => rfl
 | cons a l ih =>
   simp only [List.mem_cons, not_or] at h
   have : (a == c) = false := by simp; exact fun e => h.1 e.symm
   simp [Lib.indexByte, this, ih h.2]
theorem zuq {r : Int} (h0 : 128 <= r) (h1 : r < 256) : ∃ x y, (Utf8.encode r).data.toList = [x, y] /\ 128 <= y.toNat := by
 refine ⟨UInt8.ofNat (0xC0 + r.toNat / 64), UInt8.ofNat (0x80 + r.toNat % 64), ?_, ?_⟩
 . have hv : Utf8.valid r = true := by unfold Utf8.valid; simp; omega
   unfold Utf8.encode
   simp only [hv, if_true]
   rw [if_neg (by omega), if_pos (by omega)]
 . rw [UInt8.toNat_ofNat']; omega
theorem zhb (s : List UInt8) (r : Int) (hs : ∀ c ∈ s, c.toNat < 128) (hl : s.length <= 1000) (h0 : 0 <= r) (h1 : r < 256) : Tot (ziu s r) fun _ => True := by
 unfold ziu
 have e0 : decide (0 <= r) = true := by simp [h0]
 simp only [e0, cond_true]
 rw [zA]
 refine ⟨fun _ => ?_, fun h2 => ?_⟩
 . rw [qd, zu]
   unfold zdz qg
   simp only [Option.bind_some, zq]
 . simp only [decide_eq_false_iff_not] at h2
   obtain ⟨x, y, exy, hy⟩ := zuq (r := r) (by omega) h1
   have e1 : decide (r = 65533) = false := by simp; omega
   simp only [e1, cond_false, exy]
   rw [zu]
   refine (za1 r).mono fun v _ => ?_
   rw [zA]
   refine ⟨fun _ => .mk trivial, fun _ => ?_⟩
   rw [qd]
   have e2 : IntKind.wrap .i64 (((List.length [x, y] : Nat) : Int) - 1) = 1 := rfl
   rw [e2, zu]
   refine Tot.loop (fun _ => 0) (fun _ => True) (fun _ _ => ?_) trivial
   rw [zA]
   refine ⟨fun h3 => ?_, fun _ => ?_⟩
   . simp only [decide_eq_true_eq] at h3
     obtain ⟨c, hc⟩ := zD (l := s) (i := 1) (by omega)
     have hc' := hs c (List.mem_of_getElem? hc)
     have e3 : (1 : Int).toNat = 1 := rfl
     simp only [qm, e3]
     refine ⟨by omega, c, hc, by omega, y, rfl, ?_⟩
     have e4 : decide ((c.toNat : Int) = (y.toNat : Int)) = false := by simp; omega
     simp only [e4, Bool.not_false, cond_true]
     rw [qd]
     have e5 : IntKind.wrap .i64 (1 + 1) = 2 := rfl
     rw [e5, qJ]
     refine ⟨by omega, ?_⟩
     simp only [qm, e3]
     refine ⟨by omega, y, rfl, ?_⟩
     unfold zdz qg
     simp only [Option.bind_some]
     have hn : ((y.toNat : Int).toNat.toUInt8) = y := by simp
     rw [hn, ziw (fun hm => by
      have := hs y (List.mem_of_mem_take (List.mem_of_mem_drop hm))
      omega)]
     have e6 : decide ((-1 : Int) < 0) = true := rfl
     simp only [e6, cond_true, zq, Sum.elim_inr]
   . simp only [zq, Sum.elim_inr, Sum.elim_inl]
theorem zdg (s : List UInt8) (r : Int) (hs : ∀ c ∈ s, c.toNat < 128) (hl : s.length <= 1000) (h0 : 0 <= r) (h1 : r < 256) : Tot (xB s r) fun _ => True := by
 unfold xB
 rw [zu]
 exact (zhb s r hs hl h0 h1).mono fun _ _ => .mk trivial
theorem zlt {r : Int} (h0 : 0 <= r) (h1 : r < 256) : IntKind.wrap .i32 r = r := by
 simp only [IntKind.wrap, IntKind.signed, IntKind.bits]
 have h3 : (2 : Int) ^ 32 = 4294967296 := by decide
 have h4 : (2 : Int) ^ (32 - 1) = 2147483648 := by decide
 simp only [h3, h4, Bool.true_and, decide_eq_true_eq, ge_iff_le]
 split <;> omega
end Go.Sx.O
