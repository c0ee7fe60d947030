/-
  An own text of this claim.
-/
import Derived.Test.YtgejleocladghaaGreatDoorA7
import Derived.Lib.Bytealg
namespace Go.Sx.O
structure TR where
 s_ : List UInt8
 at_ : Int
def qa (x : TR) : SV := .agg [SV.str x.s_, (SV.int .i64) x.at_]
theorem zxz {p : Nat -> Prop} (x : TR) : (qa x).nmd p := ⟨trivial, trivial, trivial⟩
structure TF where
 low_ : Int
 high_ : Int
def zxq (x : TF) : SV := .agg [(SV.int .i64) x.low_, (SV.int .i64) x.high_]
theorem zBm {p : Nat -> Prop} (x : TF) : (zxq x).nmd p := ⟨trivial, trivial, trivial⟩
structure TL where
 Names : List (List UInt8)
 Up : List (Int)
def qk (x : TL) : SV := .agg [(zm 1 SV.str) x.Names, (zm 1 (SV.int .u8)) x.Up]
theorem zrs {p : Nat -> Prop} (x : TL) : (qk x).nmd p := ⟨(wZ fun _ => trivial), (wZ fun _ => trivial), trivial⟩
structure TU where
 From : Int
 Goal : Int
 K : Int
def wg (x : TU) : SV := .agg [(SV.int .i64) x.From, (SV.int .i64) x.Goal, (SV.int .i64) x.K]
theorem zx7 {p : Nat -> Prop} (x : TU) : (wg x).nmd p := ⟨trivial, trivial, trivial, trivial⟩
structure TG where
 Lattice : TL
 bottom_ : Int
def zya (x : TG) : SV := .agg [qk x.Lattice, (SV.int .i64) x.bottom_]
theorem zBo {p : Nat -> Prop} (x : TG) : (zya x).nmd p := ⟨(zrs _), trivial, trivial⟩
structure TK where
 Kind : Int
 From : Int
 To : Int
 N : Int
 S : List UInt8
def zQ (x : TK) : SV := .agg [(SV.int .i64) x.Kind, (SV.int .i64) x.From, (SV.int .i64) x.To, (SV.int .i64) x.N, SV.str x.S]
theorem zBp {p : Nat -> Prop} (x : TK) : (zQ x).nmd p := ⟨trivial, trivial, trivial, trivial, trivial, trivial⟩
structure Tlattice_order where
 n_ : Int
 up_ : List (Int)
 down_ : List (Int)
def qg (x : Tlattice_order) : SV := .agg [(SV.int .i64) x.n_, (zK 8 1 (SV.int .u8)) x.up_, (zK 8 1 (SV.int .u8)) x.down_]
theorem zrx {p : Nat -> Prop} (x : Tlattice_order) : (qg x).nmd p := ⟨trivial, (wZ fun _ => trivial), (wZ fun _ => trivial), trivial⟩
structure TY where
 Kind : Int
 Rank : Int
 Axes : (Int) × (Int)
 Data : Int
def js (x : TY) : SV := .agg [(SV.int .i64) x.Kind, (SV.int .i64) x.Rank, (xc 1 (SV.int .i64)) x.Axes, (SV.int .i64) x.Data]
theorem zky {p : Nat -> Prop} (x : TY) : (js x).nmd p := ⟨trivial, trivial, ⟨trivial, trivial, trivial⟩, trivial, trivial⟩
structure TA where
 Kind : Int
 Rank : Int
 Lens : (Int) × (Int)
 Cells : List (Int)
def zlw (x : TA) : SV := .agg [(SV.int .i64) x.Kind, (SV.int .i64) x.Rank, (xc 1 (SV.int .i64)) x.Lens, (zm 1 (SV.int .i64)) x.Cells]
theorem zsq {p : Nat -> Prop} (x : TA) : (zlw x).nmd p := ⟨trivial, trivial, ⟨trivial, trivial, trivial⟩, (wZ fun _ => trivial), trivial⟩
structure TV where
 Name : List UInt8
 Type_ : TY
def yp (x : TV) : SV := .agg [SV.str x.Name, js x.Type_]
theorem zyd {p : Nat -> Prop} (x : TV) : (yp x).nmd p := ⟨trivial, (zky _), trivial⟩
structure TW where
 Name : List UInt8
 Value : TA
def zrw (x : TW) : SV := .agg [SV.str x.Name, zlw x.Value]
theorem zxn {p : Nat -> Prop} (x : TW) : (zrw x).nmd p := ⟨trivial, (zsq _), trivial⟩
structure TE where
 Site : Int
 Fold : Int
 From : Int
 Goal : Int
 Cells : Int
 Value : (Int) × (Int)
def zsd (x : TE) : SV := .agg [(SV.int .i64) x.Site, (SV.int .i64) x.Fold, (SV.int .i64) x.From, (SV.int .i64) x.Goal, (SV.int .i64) x.Cells, (xc 1 (SV.int .i64)) x.Value]
theorem zxu {p : Nat -> Prop} (x : TE) : (zsd x).nmd p := ⟨trivial, trivial, trivial, trivial, trivial, ⟨trivial, trivial, trivial⟩, trivial⟩
structure TEvEvent where
 Kind : Int
 Site : Int
 Steps : Int
 Label : Int
 Channel : List UInt8
 Value : TA
 E : Int
def zdh (x : TEvEvent) : SV := .agg [(SV.int .i64) x.Kind, (SV.int .i64) x.Site, (SV.int .i64) x.Steps, (SV.int .i64) x.Label, SV.str x.Channel, zlw x.Value, (SV.int .i64) x.E]
theorem zkt {p : Nat -> Prop} (x : TEvEvent) : (zdh x).nmd p := ⟨trivial, trivial, trivial, trivial, trivial, (zsq _), trivial, trivial⟩
structure TP where
 Lattice : TL
 Channels : List (TR)
 Vars : List (TV)
 Rules : List (TU)
def qn (x : TP) : SV := .agg [qk x.Lattice, (zm 2 qa) x.Channels, (zm 6 yp) x.Vars, (zm 3 wg) x.Rules]
theorem zBn {p : Nat -> Prop} (x : TP) : (qn x).nmd p := ⟨(zrs _), (wZ fun _ => (zxz _)), (wZ fun _ => (zyd _)), (wZ fun _ => (zx7 _)), trivial⟩
structure Tinvigilatorlaw28_Types where
 V : TY
 Y : TY
 From : Int
 Goal : Int
 PC : Int
 EC : Int
 Lower : Int
 Top : Int
def ud (x : Tinvigilatorlaw28_Types) : SV := .agg [js x.V, js x.Y, (SV.int .i64) x.From, (SV.int .i64) x.Goal, (SV.int .i64) x.PC, (SV.int .i64) x.EC, (SV.int .i64) x.Lower, (SV.int .i64) x.Top]
theorem zi8 {p : Nat -> Prop} (x : Tinvigilatorlaw28_Types) : (ud x).nmd p := ⟨(zky _), (zky _), trivial, trivial, trivial, trivial, trivial, trivial, trivial⟩
structure TC where
 Events : List (TEvEvent)
 Log : List (TE)
 Vars : List (TW)
 Steps : Int
def zxl (x : TC) : SV := .agg [(zm 11 zdh) x.Events, (zm 7 zsd) x.Log, (zm 6 zrw) x.Vars, (SV.int .i64) x.Steps]
theorem zBq {p : Nat -> Prop} (x : TC) : (zxl x).nmd p := ⟨(wZ fun _ => (zkt _)), (wZ fun _ => (zxu _)), (wZ fun _ => (zxn _)), trivial, trivial⟩
end Go.Sx.O
noncomputable section
namespace Go.Sx.O
def qb (a0 : List UInt8) (a1 : Int) : Option Int := some (Go.Lib.indexByte a0 a1.toNat.toUInt8)
def zua : List Int := [0, 1, 2, 2, 3, 3, 3, 3, 4, 4, 4, 4, 4]
def yg (a0 : Int) : Option Int := if 0 <= a0 then zua[a0.toNat]? else none
end Go.Sx.O
end
namespace Go.Sx.O
open Go
def inK (k : IntKind) (n : Int) : Prop := k.min <= n /\ n <= k.max
def jK {α : Type} (W : α -> Prop) (l : List α) : Prop := ∀ x ∈ l, W x
def zBr {α : Type} (W : α -> Prop) (l : List α) : Prop := (∀ x ∈ l, W x) /\ l.length <= 9223372036854775807
def w2 {α : Type} (W : α -> Prop) (p : α × α) : Prop := W p.1 /\ W p.2
def w3 {α : Type} (W : α -> Prop) (p : α × α × α) : Prop := W p.1 /\ W p.2.1 /\ W p.2.2
def wN {α : Type} (n : Nat) (W : α -> Prop) (l : List α) : Prop := l.length = n /\ ∀ x ∈ l, W x
structure W_TR (x : TR) : Prop where
 s_ : (fun _ => True) x.s_
 at_ : (inK .i64) x.at_
structure W_TF (x : TF) : Prop where
 low_ : (inK .i64) x.low_
 high_ : (inK .i64) x.high_
structure W_TL (x : TL) : Prop where
 Names : (jK (fun _ => True)) x.Names
 Up : (jK (inK .u8)) x.Up
structure W_TU (x : TU) : Prop where
 From : (inK .i64) x.From
 Goal : (inK .i64) x.Goal
 K : (inK .i64) x.K
structure W_TG (x : TG) : Prop where
 Lattice : W_TL x.Lattice
 bottom_ : (inK .i64) x.bottom_
structure W_TK (x : TK) : Prop where
 Kind : (inK .i64) x.Kind
 From : (inK .i64) x.From
 To : (inK .i64) x.To
 N : (inK .i64) x.N
 S : (fun _ => True) x.S
structure W_Tlattice_order (x : Tlattice_order) : Prop where
 n_ : (inK .i64) x.n_
 up_ : (wN 8 (inK .u8)) x.up_
 down_ : (wN 8 (inK .u8)) x.down_
structure W_TY (x : TY) : Prop where
 Kind : (inK .i64) x.Kind
 Rank : (inK .i64) x.Rank
 Axes : (w2 (inK .i64)) x.Axes
 Data : (inK .i64) x.Data
structure W_TA (x : TA) : Prop where
 Kind : (inK .i64) x.Kind
 Rank : (inK .i64) x.Rank
 Lens : (w2 (inK .i64)) x.Lens
 Cells : (jK (inK .i64)) x.Cells
structure W_TV (x : TV) : Prop where
 Name : (fun _ => True) x.Name
 Type_ : W_TY x.Type_
structure W_TW (x : TW) : Prop where
 Name : (fun _ => True) x.Name
 Value : W_TA x.Value
structure W_TE (x : TE) : Prop where
 Site : (inK .i64) x.Site
 Fold : (inK .i64) x.Fold
 From : (inK .i64) x.From
 Goal : (inK .i64) x.Goal
 Cells : (inK .i64) x.Cells
 Value : (w2 (inK .i64)) x.Value
structure W_TEvEvent (x : TEvEvent) : Prop where
 Kind : (inK .i64) x.Kind
 Site : (inK .i64) x.Site
 Steps : (inK .i64) x.Steps
 Label : (inK .i64) x.Label
 Channel : (fun _ => True) x.Channel
 Value : W_TA x.Value
 E : (inK .i64) x.E
structure W_TP (x : TP) : Prop where
 Lattice : W_TL x.Lattice
 Channels : (jK W_TR) x.Channels
 Vars : (jK W_TV) x.Vars
 Rules : (jK W_TU) x.Rules
structure W_Tinvigilatorlaw28_Types (x : Tinvigilatorlaw28_Types) : Prop where
 V : W_TY x.V
 Y : W_TY x.Y
 From : (inK .i64) x.From
 Goal : (inK .i64) x.Goal
 PC : (inK .i64) x.PC
 EC : (inK .i64) x.EC
 Lower : (inK .i64) x.Lower
 Top : (inK .i64) x.Top
structure W_TC (x : TC) : Prop where
 Events : (jK W_TEvEvent) x.Events
 Log : (jK W_TE) x.Log
 Vars : (jK W_TW) x.Vars
 Steps : (inK .i64) x.Steps
end Go.Sx.O
noncomputable section
namespace Go.Sx.O
def Fz0 (b : List (List UInt8)) : Option (Bool) :=
 Option.bind (
 lpO (fun (a : Int) =>
 cond (decide (a < (↑(List.length (List.map SV.str b)) : Int)))
 (cond (decide (a < 20))
 (zi b a fun c =>
 cond (decide (100 < (↑(List.length c) : Int)))
 (some (.inr (.inr (true))))
 (zg (IntKind.wrap .i64 (a + 1)) fun d =>
 some (.inl d)))
 (some (.inr (.inl ()))))
 (some (.inr (.inl ())))) (0))
 (Sum.elim (fun (_ : Unit) =>
 some (decide (12 < (↑(List.length (List.map SV.str b)) : Int)))) some)
def Fz1 (a : TL) : Option (Bool) :=
 (Fz0 (a.Names)).bind fun b =>
 cond b
 (some (true))
 (some (decide (12 < (↑(List.length (List.map (SV.int .u8) a.Up)) : Int))))
def Fz2 (a : TP) : Option (Bool) :=
 Option.bind (
 lpO (fun (s3 : Int) =>
 cond (decide (s3 < (↑(List.length (List.map qa a.Channels)) : Int)))
 (cond (decide (s3 < 25))
 (zi (a.Channels) s3 fun g =>
 cond (decide (100 < (↑(List.length g.s_) : Int)))
 (some (.inr (.inr (true))))
 (zg (IntKind.wrap .i64 (s3 + 1)) fun c =>
 some (.inl c)))
 (some (.inr (.inl ()))))
 (some (.inr (.inl ())))) (0))
 (Sum.elim (fun (_ : Unit) =>
 Option.bind (
 lpO (fun (b : Int) =>
 cond (decide (b < (↑(List.length (List.map yp a.Vars)) : Int)))
 (cond (decide (b < 45))
 (zi (a.Vars) b fun d =>
 cond (decide (100 < (↑(List.length d.Name) : Int)))
 (some (.inr (.inr (true))))
 (zg (IntKind.wrap .i64 (b + 1)) fun e =>
 some (.inl e)))
 (some (.inr (.inl ()))))
 (some (.inr (.inl ())))) (0))
 (Sum.elim (fun (_ : Unit) =>
 (Fz1 (a.Lattice)).bind fun f =>
 cond f
 (some (true))
 (cond (decide (20 < (↑(List.length (List.map qa a.Channels)) : Int)))
 (some (true))
 (cond (decide (40 < (↑(List.length (List.map yp a.Vars)) : Int)))
 (some (true))
 (some (decide (70 < (↑(List.length (List.map wg a.Rules)) : Int))))))) some)) some)
def Fz3 (f : List UInt8) (g : Int) : Option (List UInt8) :=
 Option.bind (
 lpO (fun (a : List UInt8) =>
 cond (decide (0 < (↑(List.length a) : Int)))
 (zg (IntKind.wrap .i64 ((↑(List.length a) : Int) - 1)) fun c =>
 zi a c fun d =>
 cond (decide ((↑(UInt8.toNat d) : Int) = g))
 (zg (IntKind.wrap .i64 ((↑(List.length a) : Int) - 1)) fun b =>
 zk (0 <= b /\ b <= (↑(List.length a) : Int)) (
 some (.inl (List.drop (Int.toNat 0) (List.take (Int.toNat b) a)))))
 (some (.inr (.inl a))))
 (some (.inr (.inl a)))) f)
 (Sum.elim (fun (e : List UInt8) =>
 some e) some)
def Fz4 (d : List UInt8) (e : Int) : Option (List UInt8) :=
 Option.bind (
 lpO (fun (a : List UInt8) =>
 cond (decide (0 < (↑(List.length a) : Int)))
 (zi a (0) fun b =>
 cond (decide ((↑(UInt8.toNat b) : Int) = e))
 (zk ((0 : Int) <= (1 : Int) /\ (1 : Int) <= (↑(List.length a) : Int)) (
 some (.inl (List.drop (Int.toNat 1) (List.take (Int.toNat (↑(List.length a) : Int)) a)))))
 (some (.inr (.inl a))))
 (some (.inr (.inl a)))) d)
 (Sum.elim (fun (c : List UInt8) =>
 some c) some)
def Fz5 (c : List UInt8) : Option (List Bool × Bool) :=
 Option.bind (
 lpO (fun (a : Int × List Bool) =>
 cond (decide (a.fst < (↑(List.length c) : Int)))
 (zi c (a.fst) fun b =>
 cond (decide (128 <= (↑(UInt8.toNat b) : Int)))
 (some (.inr (.inr ((a.snd, false)))))
 (zk ((0 : Int) <= (↑(UInt8.toNat b) : Int) /\ (↑(UInt8.toNat b) : Int) < (↑(256 : Nat) : Int)) (
 zi (a.snd) ((↑(Int.toNat (↑(UInt8.toNat b) : Int)) : Int)) fun _ =>
 zg (IntKind.wrap .i64 (a.fst + 1)) fun d =>
 some (.inl ((d, List.set a.snd (Int.toNat (↑(UInt8.toNat b) : Int)) true))))))
 (some (.inr (.inl (a.snd))))) ((0, List.replicate 256 false)))
 (Sum.elim (fun (e : List Bool) =>
 some ((e, true))) some)
def Fz6 (c : List Bool) (a : Int) : Option (Bool) :=
 zk (0 <= a /\ a < (↑(256 : Nat) : Int)) (
 zi c ((↑(Int.toNat a) : Int)) fun b =>
 some b)
def Fz7 (g : List UInt8) (i : List Bool) : Option (List UInt8) :=
 Option.bind (
 lpO (fun (a : List UInt8) =>
 cond (decide (0 < (↑(List.length a) : Int)))
 (zg (IntKind.wrap .i64 ((↑(List.length a) : Int) - 1)) fun c =>
 zi a c fun d =>
 (Fz6 i ((↑(UInt8.toNat d) : Int))).bind fun e =>
 cond (!e)
 (some (.inr (.inl a)))
 (zg (IntKind.wrap .i64 ((↑(List.length a) : Int) - 1)) fun b =>
 zk (0 <= b /\ b <= (↑(List.length a) : Int)) (
 some (.inl (List.drop (Int.toNat 0) (List.take (Int.toNat b) a))))))
 (some (.inr (.inl a)))) g)
 (Sum.elim (fun (f : List UInt8) =>
 some f) some)
def Fz8 (e : List UInt8) (f : List Bool) : Option (List UInt8) :=
 Option.bind (
 lpO (fun (a : List UInt8) =>
 cond (decide (0 < (↑(List.length a) : Int)))
 (zi a (0) fun b =>
 (Fz6 f ((↑(UInt8.toNat b) : Int))).bind fun c =>
 cond (!c)
 (some (.inr (.inl a)))
 (zk ((0 : Int) <= (1 : Int) /\ (1 : Int) <= (↑(List.length a) : Int)) (
 some (.inl (List.drop (Int.toNat 1) (List.take (Int.toNat (↑(List.length a) : Int)) a))))))
 (some (.inr (.inl a)))) e)
 (Sum.elim (fun (d : List UInt8) =>
 some d) some)
def Fz9 (a : Int) : Option (Bool) :=
 some (!decide (bits BinOp.and IntKind.u8 a 192 = 128))
def zt3 (a : List UInt8) : Option (Int × Int) :=
 cond (decide ((↑(List.length a) : Int) < 1))
 (some ((65533, 0)))
 (zi a (0) fun _ =>
 none)
def zp2 (a : List UInt8) : Option (Int × Int) :=
 cond (!decide (a = (ByteArray.mk #[]).data.toList))
 (zi a (0) fun b =>
 cond (decide ((↑(UInt8.toNat b) : Int) < 128))
 (zi a (0) fun c =>
 zg (IntKind.wrap .i32 (↑(UInt8.toNat c) : Int)) fun d =>
 some ((d, 1)))
 ((zt3 a).bind fun e =>
 some e))
 ((zt3 a).bind fun f =>
 some f)
def zyt (a : List UInt8) : Option (Int × Int) :=
 cond (decide ((↑(List.length a) : Int) = 0))
 (some ((65533, 0)))
 (zg (IntKind.wrap .i64 ((↑(List.length a) : Int) - 1)) fun d =>
 zi a d fun i =>
 zg (IntKind.wrap .i32 (↑(UInt8.toNat i) : Int)) fun e =>
 cond (decide (e < 128))
 (some ((e, 1)))
 (zg (IntKind.wrap .i64 ((↑(List.length a) : Int) - 4)) fun j =>
 zg (IntKind.wrap .i64 (d - 1)) fun k =>
 Option.bind (
 lpO (fun (b : Int) =>
 cond (decide (max j 0 <= b))
 (zi a b fun l =>
 (Fz9 ((↑(UInt8.toNat l) : Int))).bind fun m =>
 cond m
 (some (.inr (.inl b)))
 (zg (IntKind.wrap .i64 (b - 1)) fun n =>
 some (.inl n)))
 (some (.inr (.inl b)))) k)
 (Sum.elim (fun (c : Int) =>
 cond (decide (c < 0))
 (zk ((0 : Int) <= (0 : Int) /\ (0 : Int) <= (↑(List.length a) : Int) /\ (↑(List.length a) : Int) <= (↑(List.length a) : Int)) (
 (zp2 (List.drop (Int.toNat 0) (List.take (Int.toNat (↑(List.length a) : Int)) a))).bind fun f =>
 zg (IntKind.wrap .i64 (0 + f.snd)) fun o =>
 cond (!decide (o = (↑(List.length a) : Int)))
 (some ((65533, 1)))
 (some f)))
 (zk (0 <= c /\ c <= (↑(List.length a) : Int) /\ (↑(List.length a) : Int) <= (↑(List.length a) : Int)) (
 (zp2 (List.drop (Int.toNat c) (List.take (Int.toNat (↑(List.length a) : Int)) a))).bind fun g =>
 zg (IntKind.wrap .i64 (c + g.snd)) fun p =>
 cond (!decide (p = (↑(List.length a) : Int)))
 (some ((65533, 1)))
 (some g)))) some)))
def zc2 (b : List UInt8) (c : Int) : Option (Int) :=
 (qb b c).bind fun a =>
 some a
def zcx (a : Int) : Option (Bool) :=
 cond (decide (0 <= a))
 (cond (decide (a < 55296))
 (some (true))
 (cond (decide (57343 < a))
 (cond (decide (a <= 1114111))
 (some (true))
 (some (false)))
 (some (false))))
 (cond (decide (57343 < a))
 (cond (decide (a <= 1114111))
 (some (true))
 (some (false)))
 (some (false)))
def zg9 (d : List UInt8) (c : Int) : Option (Int) :=
 cond (decide (0 <= c))
 (cond (decide (c < 128))
 (zg (IntKind.wrap .u8 c) fun p =>
 (zc2 d p).bind fun q =>
 some q)
 (cond (decide (c = 65533))
 (none)
 ((zcx c).bind fun s =>
 cond (!s)
 (some ((-1 : Int)))
 (zg (IntKind.wrap .i64 ((↑(List.length (Utf8.encode c).data.toList) : Int) - 1)) fun a =>
 Option.bind (
 lpO (fun (_ : Unit) =>
 cond (decide (a < (↑(List.length d) : Int)))
 (zi d a fun t =>
 zi ((Utf8.encode c).data.toList) a fun u =>
 cond (!decide ((↑(UInt8.toNat t) : Int) = (↑(UInt8.toNat u) : Int)))
 (zg (IntKind.wrap .i64 (a + 1)) fun j =>
 zk (0 <= j /\ j <= (↑(List.length d) : Int)) (
 zi ((Utf8.encode c).data.toList) a fun v =>
 (zc2 (List.drop (Int.toNat j) (List.take (Int.toNat (↑(List.length d) : Int)) d)) ((↑(UInt8.toNat v) : Int))).bind fun l =>
 cond (decide (l < 0))
 (some (.inr (.inr ((-1 : Int)))))
 (zg (IntKind.wrap .i64 (l + 1)) fun w =>
 zg (IntKind.wrap .i64 (a + w)) fun m =>
 Option.bind (
 lpO (fun (e : Int) =>
 cond (decide (e < (↑(List.length (Utf8.encode c).data.toList) : Int)))
 (zg (IntKind.wrap .i64 (m - e)) fun x =>
 zi d x fun y =>
 zg (IntKind.wrap .i64 (a - e)) fun z =>
 zi ((Utf8.encode c).data.toList) z fun A =>
 cond (!decide ((↑(UInt8.toNat y) : Int) = (↑(UInt8.toNat A) : Int)))
 (none)
 (zg (IntKind.wrap .i64 (e + 1)) fun C =>
 some (.inl C)))
 (some (.inr (.inl ())))) (1))
 (Sum.elim (fun (_ : Unit) =>
 zg (IntKind.wrap .i64 (m - a)) fun D =>
 some (.inr (.inr D))) some))))
 (Option.bind (
 lpO (fun (f : Int) =>
 cond (decide (f < (↑(List.length (Utf8.encode c).data.toList) : Int)))
 (zg (IntKind.wrap .i64 (a - f)) fun F =>
 zi d F fun G =>
 zg (IntKind.wrap .i64 (a - f)) fun H =>
 zi ((Utf8.encode c).data.toList) H fun I =>
 cond (!decide ((↑(UInt8.toNat G) : Int) = (↑(UInt8.toNat I) : Int)))
 (none)
 (zg (IntKind.wrap .i64 (f + 1)) fun J =>
 some (.inl J)))
 (some (.inr (.inl ())))) (1))
 (Sum.elim (fun (_ : Unit) =>
 zg (IntKind.wrap .i64 (a - a)) fun K =>
 some (.inr (.inr K))) some)))
 (some (.inr (.inl ())))) (()))
 (Sum.elim (fun (_ : Unit) =>
 some ((-1 : Int))) some)))))
 (cond (decide (c = 65533))
 (none)
 ((zcx c).bind fun L =>
 cond (!L)
 (some ((-1 : Int)))
 (zg (IntKind.wrap .i64 ((↑(List.length (Utf8.encode c).data.toList) : Int) - 1)) fun b =>
 Option.bind (
 lpO (fun (_ : Unit) =>
 cond (decide (b < (↑(List.length d) : Int)))
 (zi d b fun M =>
 zi ((Utf8.encode c).data.toList) b fun N =>
 cond (!decide ((↑(UInt8.toNat M) : Int) = (↑(UInt8.toNat N) : Int)))
 (zg (IntKind.wrap .i64 (b + 1)) fun k =>
 zk (0 <= k /\ k <= (↑(List.length d) : Int)) (
 zi ((Utf8.encode c).data.toList) b fun O =>
 (zc2 (List.drop (Int.toNat k) (List.take (Int.toNat (↑(List.length d) : Int)) d)) ((↑(UInt8.toNat O) : Int))).bind fun n =>
 cond (decide (n < 0))
 (some (.inr (.inr ((-1 : Int)))))
 (zg (IntKind.wrap .i64 (n + 1)) fun P =>
 zg (IntKind.wrap .i64 (b + P)) fun o =>
 Option.bind (
 lpO (fun (g : Int) =>
 cond (decide (g < (↑(List.length (Utf8.encode c).data.toList) : Int)))
 (zg (IntKind.wrap .i64 (o - g)) fun Q =>
 zi d Q fun R =>
 zg (IntKind.wrap .i64 (b - g)) fun S =>
 zi ((Utf8.encode c).data.toList) S fun T =>
 cond (!decide ((↑(UInt8.toNat R) : Int) = (↑(UInt8.toNat T) : Int)))
 (none)
 (zg (IntKind.wrap .i64 (g + 1)) fun U =>
 some (.inl U)))
 (some (.inr (.inl ())))) (1))
 (Sum.elim (fun (_ : Unit) =>
 zg (IntKind.wrap .i64 (o - b)) fun V =>
 some (.inr (.inr V))) some))))
 (Option.bind (
 lpO (fun (i : Int) =>
 cond (decide (i < (↑(List.length (Utf8.encode c).data.toList) : Int)))
 (zg (IntKind.wrap .i64 (b - i)) fun W =>
 zi d W fun X =>
 zg (IntKind.wrap .i64 (b - i)) fun Y =>
 zi ((Utf8.encode c).data.toList) Y fun Z =>
 cond (!decide ((↑(UInt8.toNat X) : Int) = (↑(UInt8.toNat Z) : Int)))
 (none)
 (zg (IntKind.wrap .i64 (i + 1)) fun a2 =>
 some (.inl a2)))
 (some (.inr (.inl ())))) (1))
 (Sum.elim (fun (_ : Unit) =>
 zg (IntKind.wrap .i64 (b - b)) fun a3 =>
 some (.inr (.inr a3))) some)))
 (some (.inr (.inl ())))) (()))
 (Sum.elim (fun (_ : Unit) =>
 some ((-1 : Int))) some))))
def xz (b : List UInt8) (c : Int) : Option (Bool) :=
 (zg9 b c).bind fun a =>
 some (decide (0 <= a))
def zvc (m : List UInt8) (l : List UInt8) : Option (List UInt8) :=
 Option.bind (
 lpO (fun (a : List UInt8) =>
 cond (decide (0 < (↑(List.length a) : Int)))
 (zg (IntKind.wrap .i64 ((↑(List.length a) : Int) - 1)) fun f =>
 zi a f fun g =>
 zg (IntKind.wrap .i32 (↑(UInt8.toNat g) : Int)) fun d =>
 cond (decide (128 <= d))
 ((zyt a).bind fun e =>
 (xz l (e.fst)).bind fun i =>
 cond (!i)
 (some (.inr (.inl a)))
 (zg (IntKind.wrap .i64 ((↑(List.length a) : Int) - e.snd)) fun b =>
 zk (0 <= b /\ b <= (↑(List.length a) : Int)) (
 some (.inl (List.drop (Int.toNat 0) (List.take (Int.toNat b) a))))))
 ((xz l d).bind fun j =>
 cond (!j)
 (some (.inr (.inl a)))
 (zg (IntKind.wrap .i64 ((↑(List.length a) : Int) - 1)) fun c =>
 zk (0 <= c /\ c <= (↑(List.length a) : Int)) (
 some (.inl (List.drop (Int.toNat 0) (List.take (Int.toNat c) a)))))))
 (some (.inr (.inl a)))) m)
 (Sum.elim (fun (k : List UInt8) =>
 some k) some)
def zs0 (e : List UInt8) (f : List UInt8) : Option (List UInt8) :=
 Option.bind (
 lpO (fun (a : List UInt8) =>
 cond (decide (0 < (↑(List.length a) : Int)))
 ((zp2 a).bind fun b =>
 (xz f (b.fst)).bind fun c =>
 cond (!c)
 (some (.inr (.inl a)))
 (zk (0 <= b.snd /\ b.snd <= (↑(List.length a) : Int)) (
 some (.inl (List.drop (Int.toNat b.snd) (List.take (Int.toNat (↑(List.length a) : Int)) a))))))
 (some (.inr (.inl a)))) e)
 (Sum.elim (fun (d : List UInt8) =>
 some d) some)
def zpe (b : List UInt8) (a : List UInt8) : Option (List UInt8) :=
 cond (decide (b = (ByteArray.mk #[]).data.toList))
 (some b)
 (cond (decide (a = (ByteArray.mk #[]).data.toList))
 (some b)
 (cond (decide ((↑(List.length a) : Int) = 1))
 (zi a (0) fun n =>
 cond (decide ((↑(UInt8.toNat n) : Int) < 128))
 (zi a (0) fun o =>
 (Fz3 b ((↑(UInt8.toNat o) : Int))).bind fun p =>
 zi a (0) fun q =>
 (Fz4 p ((↑(UInt8.toNat q) : Int))).bind fun s =>
 some s)
 ((Fz5 a).bind fun d =>
 cond (d.snd)
 ((Fz7 b (d.fst)).bind fun e =>
 (Fz8 e (d.fst)).bind fun f =>
 some f)
 ((zvc b a).bind fun g =>
 (zs0 g a).bind fun i =>
 some i)))
 ((Fz5 a).bind fun c =>
 cond (c.snd)
 ((Fz7 b (c.fst)).bind fun j =>
 (Fz8 j (c.fst)).bind fun k =>
 some k)
 ((zvc b a).bind fun l =>
 (zs0 l a).bind fun m =>
 some m))))
def zqd (a : List UInt8) : Option (Bool) :=
 cond (decide (a = (ByteArray.mk #[]).data.toList))
 (some (false))
 (cond (decide (16 < (↑(List.length a) : Int)))
 (some (false))
 (zi a (0) fun c =>
 cond (decide ((↑(UInt8.toNat c) : Int) < 97))
 (some (false))
 (zi a (0) fun d =>
 cond (decide (122 < (↑(UInt8.toNat d) : Int)))
 (some (false))
 ((zpe a ((ByteArray.mk #[97, 98, 99, 100, 101, 102, 103, 104, 105, 106, 107, 108, 109, 110, 111, 112, 113, 114, 115, 116, 117, 118, 119, 120, 121, 122, 48, 49, 50, 51, 52, 53, 54, 55, 56, 57, 45]).data.toList)).bind fun b =>
 some (decide (b = (ByteArray.mk #[]).data.toList))))))
def zqp (d : List (List UInt8)) (e : List UInt8) : Option (Int) :=
 Option.bind (
 lpO (fun (a : Int) =>
 cond (decide (a < (↑(List.length (List.map SV.str d)) : Int)))
 (zi d a fun b =>
 cond (decide (e = b))
 (some (.inr (.inr a)))
 (zg (IntKind.wrap .i64 (a + 1)) fun c =>
 some (.inl c)))
 (some (.inr (.inl ())))) (0))
 (Sum.elim (fun (_ : Unit) =>
 some ((-1 : Int))) some)
def zqn (b : List (List UInt8)) (c : List UInt8) : Option (Bool) :=
 (zqp b c).bind fun a =>
 some (decide (0 <= a))
def zha (b : List (List UInt8)) : Option (Int × Int) :=
 cond (decide ((↑(List.length (List.map SV.str b)) : Int) < 1))
 (some (((-1 : Int), 3)))
 (cond (decide (8 < (↑(List.length (List.map SV.str b)) : Int)))
 (some (((-1 : Int), 3)))
 (Option.bind (
 lpO (fun (a : Int) =>
 cond (decide (a < (↑(List.length (List.map SV.str b)) : Int)))
 (zi b a fun c =>
 (zqd c).bind fun d =>
 cond (!d)
 (some (.inr (.inr ((a, 6)))))
 (zk (0 <= a /\ a <= (↑(List.length (List.map SV.str b)) : Int)) (
 (zqn (List.drop (Int.toNat 0) (List.take (Int.toNat a) b)) c).bind fun e =>
 cond e
 (some (.inr (.inr ((a, 8)))))
 (zg (IntKind.wrap .i64 (a + 1)) fun f =>
 some (.inl f)))))
 (some (.inr (.inl ())))) (0))
 (Sum.elim (fun (_ : Unit) =>
 some ((0, 0))) some)))
def zhu (c : Int) : Option (Int) :=
 zi ((ByteArray.mk (List.toArray (List.append (List.append [(0 : UInt8), 1, 2, 2, 3, 3, 3, 3, 4, 4, 4, 4, 4, 4, 4, 4, 5, 5, 5, 5, 5, 5, 5, 5, 5, 5, 5, 5, 5, 5, 5, 5, 6, 6, 6, 6, 6, 6, 6, 6, 6, 6, 6, 6, 6, 6, 6, 6, 6, 6, 6, 6, 6, 6, 6, 6, 6, 6, 6, 6, 6, 6, 6, 6] [(7 : UInt8), 7, 7, 7, 7, 7, 7, 7, 7, 7, 7, 7, 7, 7, 7, 7, 7, 7, 7, 7, 7, 7, 7, 7, 7, 7, 7, 7, 7, 7, 7, 7, 7, 7, 7, 7, 7, 7, 7, 7, 7, 7, 7, 7, 7, 7, 7, 7, 7, 7, 7, 7, 7, 7, 7, 7, 7, 7, 7, 7, 7, 7, 7, 7]) (List.append [(8 : UInt8), 8, 8, 8, 8, 8, 8, 8, 8, 8, 8, 8, 8, 8, 8, 8, 8, 8, 8, 8, 8, 8, 8, 8, 8, 8, 8, 8, 8, 8, 8, 8, 8, 8, 8, 8, 8, 8, 8, 8, 8, 8, 8, 8, 8, 8, 8, 8, 8, 8, 8, 8, 8, 8, 8, 8, 8, 8, 8, 8, 8, 8, 8, 8] [(8 : UInt8), 8, 8, 8, 8, 8, 8, 8, 8, 8, 8, 8, 8, 8, 8, 8, 8, 8, 8, 8, 8, 8, 8, 8, 8, 8, 8, 8, 8, 8, 8, 8, 8, 8, 8, 8, 8, 8, 8, 8, 8, 8, 8, 8, 8, 8, 8, 8, 8, 8, 8, 8, 8, 8, 8, 8, 8, 8, 8, 8, 8, 8, 8, 8])))).data.toList) c fun a =>
 zg (IntKind.wrap .i64 (↑(UInt8.toNat a) : Int)) fun b =>
 some b
def zeq (e : TL) : Option (Tlattice_order) :=
 Option.bind (
 lpO (fun (b : Int × List Int × List Int) =>
 cond (decide (b.fst < (↑(List.length (List.map (SV.int .u8) e.Up)) : Int)))
 (zi (e.Up) (b.fst) fun c =>
 zk (0 <= b.fst /\ b.fst < (↑(8 : Nat) : Int)) (
 zi (b.snd.fst) ((↑(Int.toNat b.fst) : Int)) fun _ =>
 Option.bind (
 lpO (fun (a : Int × List Int) =>
 cond (decide (a.fst < (↑(List.length (List.map SV.str e.Names)) : Int)))
 (zk (0 <= a.fst /\ a.fst < (↑(8 : Nat) : Int)) (
 zi (a.snd) ((↑(Int.toNat a.fst) : Int)) fun f =>
 zk (0 <= a.fst) (
 zk (0 <= b.fst) (
 zg (IntKind.wrap .u8 (bits BinOp.and IntKind.u8 (Int.fdiv c (2 ^ min (Int.toNat a.fst) (IntKind.bits IntKind.u8))) 1 * 2 ^ min (Int.toNat b.fst) (IntKind.bits IntKind.u8))) fun g =>
 zk (0 <= a.fst /\ a.fst < (↑(8 : Nat) : Int)) (
 zi (a.snd) ((↑(Int.toNat a.fst) : Int)) fun _ =>
 zg (IntKind.wrap .i64 (a.fst + 1)) fun i =>
 some (.inl ((i, List.set a.snd (Int.toNat a.fst) (bits BinOp.or IntKind.u8 f g)))))))))
 (some (.inr (.inl (a.snd))))) ((0, b.snd.snd)))
 (Sum.elim (fun (j : List Int) =>
 zg (IntKind.wrap .i64 (b.fst + 1)) fun k =>
 some (.inl ((k, List.set b.snd.fst (Int.toNat b.fst) c, j)))) some)))
 (some (.inr (.inl (b.snd))))) ((0, [0, 0, 0, 0, 0, 0, 0, 0], [0, 0, 0, 0, 0, 0, 0, 0])))
 (Sum.elim (fun (d : List Int × List Int) =>
 some (Tlattice_order.mk (↑(List.length (List.map SV.str e.Names)) : Int) d.fst d.snd)) some)
def zh6 (d : List Int) (k : Int) (e : Int) (f : Int) : Option (Int) :=
 zk (0 <= e /\ e < (↑(8 : Nat) : Int)) (
 zi d ((↑(Int.toNat e) : Int)) fun b =>
 zk (0 <= f /\ f < (↑(8 : Nat) : Int)) (
 zi d ((↑(Int.toNat f) : Int)) fun c =>
 Option.bind (
 lpO (fun (a : Int) =>
 cond (decide (a < k))
 (zk (0 <= a) (
 cond (decide (bits BinOp.and IntKind.u8 (Int.fdiv (bits BinOp.and IntKind.u8 b c) (2 ^ min (Int.toNat a) (IntKind.bits IntKind.u8))) 1 = 1))
 (zk (0 <= a /\ a < (↑(8 : Nat) : Int)) (
 zi d ((↑(Int.toNat a) : Int)) fun g =>
 cond (decide (g = bits BinOp.and IntKind.u8 b c))
 (some (.inr (.inr a)))
 (zg (IntKind.wrap .i64 (a + 1)) fun i =>
 some (.inl i))))
 (zg (IntKind.wrap .i64 (a + 1)) fun j =>
 some (.inl j))))
 (some (.inr (.inl ())))) (0))
 (Sum.elim (fun (_ : Unit) =>
 some ((-1 : Int))) some)))
def zp4 (d : List Int) (k : Int) (e : Int) (f : Int) : Option (Int) :=
 zk (0 <= e /\ e < (↑(8 : Nat) : Int)) (
 zi d ((↑(Int.toNat e) : Int)) fun b =>
 zk (0 <= f /\ f < (↑(8 : Nat) : Int)) (
 zi d ((↑(Int.toNat f) : Int)) fun c =>
 Option.bind (
 lpO (fun (a : Int) =>
 cond (decide (a < k))
 (zk (0 <= a) (
 cond (decide (bits BinOp.and IntKind.u8 (Int.fdiv (bits BinOp.and IntKind.u8 b c) (2 ^ min (Int.toNat a) (IntKind.bits IntKind.u8))) 1 = 1))
 (zk (0 <= a /\ a < (↑(8 : Nat) : Int)) (
 zi d ((↑(Int.toNat a) : Int)) fun g =>
 cond (decide (g = bits BinOp.and IntKind.u8 b c))
 (some (.inr (.inr a)))
 (zg (IntKind.wrap .i64 (a + 1)) fun i =>
 some (.inl i))))
 (zg (IntKind.wrap .i64 (a + 1)) fun j =>
 some (.inl j))))
 (some (.inr (.inl ())))) (0))
 (Sum.elim (fun (_ : Unit) =>
 some ((-1 : Int))) some)))
def zax (c : TL) : Option (Int × Int) :=
 (zha (c.Names)).bind fun j =>
 cond (!decide (j.snd = 0))
 (some j)
 (cond (!decide ((↑(List.length (List.map (SV.int .u8) c.Up)) : Int) = (↑(List.length (List.map SV.str c.Names)) : Int)))
 (some (((-1 : Int), 6)))
 (zk ((0 : Int) <= (↑(List.length (List.map SV.str c.Names)) : Int)) (
 zg (IntKind.wrap .u8 (1 * 2 ^ min (Int.toNat (↑(List.length (List.map SV.str c.Names)) : Int)) (IntKind.bits IntKind.u8))) fun C =>
 zg (IntKind.wrap .u8 (C - 1)) fun k =>
 Option.bind (
 lpO (fun (a : Int) =>
 cond (decide (a < (↑(List.length (List.map (SV.int .u8) c.Up)) : Int)))
 (zi (c.Up) a fun f =>
 (zhu f).bind fun l =>
 cond (decide ((↑(List.length (List.map SV.str c.Names)) : Int) < l))
 (some (.inr (.inr ((a, 6)))))
 (zk (0 <= a) (
 cond (decide (bits BinOp.and IntKind.u8 (Int.fdiv f (2 ^ min (Int.toNat a) (IntKind.bits IntKind.u8))) 1 = 0))
 (some (.inr (.inr ((a, 6)))))
 (Option.bind (
 lpO (fun (b : Int) =>
 cond (decide (b < (↑(List.length (List.map (SV.int .u8) c.Up)) : Int)))
 (zi (c.Up) b fun g =>
 zk (0 <= b) (
 cond (decide (bits BinOp.and IntKind.u8 (Int.fdiv f (2 ^ min (Int.toNat b) (IntKind.bits IntKind.u8))) 1 = 0))
 (zg (IntKind.wrap .i64 ((↑(List.length (List.map SV.str c.Names)) : Int) - 1)) fun m =>
 cond (decide (b = m))
 (zg (IntKind.wrap .i64 (a + 1)) fun n =>
 some (.inr (.inr (.inl n))))
 (zg (IntKind.wrap .i64 (b + 1)) fun o =>
 some (.inl o)))
 (cond (!decide (b = a))
 (zk (0 <= a) (
 cond (decide (bits BinOp.and IntKind.u8 (Int.fdiv g (2 ^ min (Int.toNat a) (IntKind.bits IntKind.u8))) 1 = 1))
 (some (.inr (.inr (.inr (.inr ((a, 6)))))))
 (cond (!decide (bits BinOp.andNot IntKind.u8 (bits BinOp.and IntKind.u8 g k) f = 0))
 (some (.inr (.inr (.inr (.inr ((a, 6)))))))
 (zg (IntKind.wrap .i64 ((↑(List.length (List.map SV.str c.Names)) : Int) - 1)) fun p =>
 cond (decide (b = p))
 (zg (IntKind.wrap .i64 (a + 1)) fun q =>
 some (.inr (.inr (.inl q))))
 (zg (IntKind.wrap .i64 (b + 1)) fun s =>
 some (.inl s))))))
 (cond (!decide (bits BinOp.andNot IntKind.u8 (bits BinOp.and IntKind.u8 g k) f = 0))
 (some (.inr (.inr (.inr (.inr ((a, 6)))))))
 (zg (IntKind.wrap .i64 ((↑(List.length (List.map SV.str c.Names)) : Int) - 1)) fun t =>
 cond (decide (b = t))
 (zg (IntKind.wrap .i64 (a + 1)) fun u =>
 some (.inr (.inr (.inl u))))
 (zg (IntKind.wrap .i64 (b + 1)) fun v =>
 some (.inl v)))))))
 (some (.inr (.inl ())))) (0))
 (Sum.elim (fun (_ : Unit) =>
 zg (IntKind.wrap .i64 (a + 1)) fun w =>
 some (.inl w)) some)))))
 (some (.inr (.inl ())))) (0))
 (Sum.elim (fun (_ : Unit) =>
 (zeq c).bind fun i =>
 Option.bind (
 lpO (fun (d : Int) =>
 cond (decide (d < (↑(List.length (List.map SV.str c.Names)) : Int)))
 (Option.bind (
 lpO (fun (e : Int) =>
 cond (decide (e < (↑(List.length (List.map SV.str c.Names)) : Int)))
 ((zh6 (i.up_) ((↑(List.length (List.map SV.str c.Names)) : Int)) d e).bind fun x =>
 cond (decide (x < 0))
 (some (.inr (.inr (.inr (.inr ((d, 4)))))))
 ((zp4 (i.down_) ((↑(List.length (List.map SV.str c.Names)) : Int)) d e).bind fun y =>
 cond (decide (y < 0))
 (some (.inr (.inr (.inr (.inr ((d, 4)))))))
 (zg (IntKind.wrap .i64 (e + 1)) fun z =>
 some (.inl z))))
 (some (.inr (.inl ())))) (0))
 (Sum.elim (fun (_ : Unit) =>
 zg (IntKind.wrap .i64 (d + 1)) fun A =>
 some (.inl A)) some))
 (some (.inr (.inl ())))) (0))
 (Sum.elim (fun (_ : Unit) =>
 some ((0, 0))) some)) some))))
def ztl (b : TP) : Option (Int × Int) :=
 (zax (b.Lattice)).bind fun a =>
 some a
def zll (a : List UInt8) : Option (Int × Int) :=
 Option.bind (
 cond (decide ([(110 : UInt8), (101 : UInt8), (103 : UInt8)] = a))
 (some (.inr ((1, 0))))
 (cond (decide ([(97 : UInt8), (98 : UInt8), (115 : UInt8)] = a))
 (some (.inr ((2, 0))))
 (cond (decide ([(110 : UInt8), (111 : UInt8), (116 : UInt8)] = a))
 (some (.inr ((3, 0))))
 (cond (decide ([(115 : UInt8), (104 : UInt8), (97 : UInt8), (112 : UInt8), (101 : UInt8)] = a))
 (some (.inr ((4, 0))))
 (cond (decide ([(114 : UInt8), (97 : UInt8), (118 : UInt8), (101 : UInt8), (108 : UInt8)] = a))
 (some (.inr ((5, 0))))
 (cond (decide ([(114 : UInt8), (101 : UInt8), (118 : UInt8), (101 : UInt8), (114 : UInt8), (115 : UInt8), (101 : UInt8)] = a))
 (some (.inr ((6, 0))))
 (cond (decide ([(102 : UInt8), (108 : UInt8), (105 : UInt8), (112 : UInt8)] = a))
 (some (.inr ((7, 0))))
 (cond (decide ([(105 : UInt8), (111 : UInt8), (116 : UInt8), (97 : UInt8)] = a))
 (some (.inr ((8, 0))))
 (cond (decide ([(115 : UInt8), (117 : UInt8), (109 : UInt8)] = a))
 (some (.inr ((9, 0))))
 (cond (decide ([(108 : UInt8), (101 : UInt8), (97 : UInt8), (115 : UInt8), (116 : UInt8)] = a))
 (some (.inr ((10, 0))))
 (cond (decide ([(109 : UInt8), (111 : UInt8), (115 : UInt8), (116 : UInt8)] = a))
 (some (.inr ((11, 0))))
 (cond (decide ([(99 : UInt8), (111 : UInt8), (117 : UInt8), (110 : UInt8), (116 : UInt8)] = a))
 (some (.inr ((12, 0))))
 (cond (decide ([(115 : UInt8), (99 : UInt8), (97 : UInt8), (110 : UInt8)] = a))
 (some (.inr ((13, 0))))
 (cond (decide ([(103 : UInt8), (114 : UInt8), (97 : UInt8), (100 : UInt8), (101 : UInt8)] = a))
 (some (.inr ((14, 0))))
 (cond (decide ([(97 : UInt8), (100 : UInt8), (100 : UInt8)] = a))
 (some (.inr ((15, 0))))
 (cond (decide ([(115 : UInt8), (117 : UInt8), (98 : UInt8)] = a))
 (some (.inr ((16, 0))))
 (cond (decide ([(109 : UInt8), (117 : UInt8), (108 : UInt8)] = a))
 (some (.inr ((17, 0))))
 (cond (decide ([(100 : UInt8), (105 : UInt8), (118 : UInt8)] = a))
 (some (.inr ((18, 0))))
 (cond (decide ([(109 : UInt8), (111 : UInt8), (100 : UInt8)] = a))
 (some (.inr ((19, 0))))
 (cond (decide ([(112 : UInt8), (108 : UInt8), (117 : UInt8), (115 : UInt8)] = a))
 (some (.inr ((20, 0))))
 (cond (decide ([(109 : UInt8), (105 : UInt8), (110 : UInt8), (117 : UInt8), (115 : UInt8)] = a))
 (some (.inr ((21, 0))))
 (cond (decide ([(116 : UInt8), (105 : UInt8), (109 : UInt8), (101 : UInt8), (115 : UInt8)] = a))
 (some (.inr ((22, 0))))
 (cond (decide ([(101 : UInt8), (113 : UInt8)] = a))
 (some (.inr ((23, 0))))
 (cond (decide ([(110 : UInt8), (101 : UInt8)] = a))
 (some (.inr ((24, 0))))
 (cond (decide ([(108 : UInt8), (116 : UInt8)] = a))
 (some (.inr ((25, 0))))
 (cond (decide ([(108 : UInt8), (101 : UInt8)] = a))
 (some (.inr ((26, 0))))
 (cond (decide ([(103 : UInt8), (116 : UInt8)] = a))
 (some (.inr ((27, 0))))
 (cond (decide ([(103 : UInt8), (101 : UInt8)] = a))
 (some (.inr ((28, 0))))
 (cond (decide ([(97 : UInt8), (110 : UInt8), (100 : UInt8)] = a))
 (some (.inr ((29, 0))))
 (cond (decide ([(111 : UInt8), (114 : UInt8)] = a))
 (some (.inr ((30, 0))))
 (cond (decide ([(109 : UInt8), (105 : UInt8), (110 : UInt8)] = a))
 (some (.inr ((31, 0))))
 (cond (decide ([(109 : UInt8), (97 : UInt8), (120 : UInt8)] = a))
 (some (.inr ((32, 0))))
 (cond (decide ([(116 : UInt8), (97 : UInt8), (107 : UInt8), (101 : UInt8)] = a))
 (some (.inr ((33, 0))))
 (cond (decide ([(100 : UInt8), (114 : UInt8), (111 : UInt8), (112 : UInt8)] = a))
 (some (.inr ((34, 0))))
 (cond (decide ([(102 : UInt8), (105 : UInt8), (108 : UInt8), (108 : UInt8)] = a))
 (some (.inr ((35, 0))))
 (cond (decide ([(103 : UInt8), (114 : UInt8), (105 : UInt8), (100 : UInt8)] = a))
 (some (.inr ((36, 0))))
 (cond (decide ([(99 : UInt8), (97 : UInt8), (116 : UInt8)] = a))
 (some (.inr ((37, 0))))
 (cond (decide ([(97 : UInt8), (116 : UInt8)] = a))
 (some (.inr ((38, 0))))
 (cond (decide ([(105 : UInt8), (110 : UInt8)] = a))
 (some (.inr ((39, 0))))
 (cond (decide ([(112 : UInt8), (105 : UInt8), (99 : UInt8), (107 : UInt8)] = a))
 (some (.inr ((40, 0))))
 (some (.inl ()))))))))))))))))))))))))))))))))))))))))))
 (Sum.elim (fun (_ : Unit) =>
 some ((0, 4))) some)
def zqi (a : Int) : Option (Bool) :=
 zg (IntKind.wrap .i32 a) fun b =>
 zg (IntKind.wrap .i64 b) fun c =>
 cond (decide (a = c))
 (zg (IntKind.wrap .i32 a) fun d =>
 (zcx d).bind fun e =>
 some e)
 (some (false))
def zeu : Option (List (List UInt8)) :=
 some ([[], (ByteArray.mk #[32]).data.toList, (ByteArray.mk #[10]).data.toList, (ByteArray.mk #[40, 91]).data.toList, (ByteArray.mk #[41, 93]).data.toList, (ByteArray.mk #[34]).data.toList, [], (ByteArray.mk #[45]).data.toList, [], (ByteArray.mk #[60, 61]).data.toList])
def zcv (a : Int) : Option (Int × Int) :=
 (zqi a).bind fun f =>
 cond (!f)
 (some ((0, 7)))
 (cond (decide (48 <= a))
 (cond (decide (a <= 57))
 (some ((6, 0)))
 (cond (decide (97 <= a))
 (cond (decide (a <= 122))
 (some ((8, 0)))
 ((zeu).bind fun g =>
 Option.bind (
 lpO (fun (b : Int) =>
 cond (decide (b < 10))
 (zi g b fun i =>
 zg (IntKind.wrap .i32 a) fun j =>
 (xz i j).bind fun k =>
 cond k
 (some (.inr (.inr ((b, 0)))))
 (zg (IntKind.wrap .i64 (b + 1)) fun l =>
 some (.inl l)))
 (some (.inr (.inl ())))) (0))
 (Sum.elim (fun (_ : Unit) =>
 some ((10, 0))) some)))
 ((zeu).bind fun m =>
 Option.bind (
 lpO (fun (c : Int) =>
 cond (decide (c < 10))
 (zi m c fun n =>
 zg (IntKind.wrap .i32 a) fun o =>
 (xz n o).bind fun p =>
 cond p
 (some (.inr (.inr ((c, 0)))))
 (zg (IntKind.wrap .i64 (c + 1)) fun q =>
 some (.inl q)))
 (some (.inr (.inl ())))) (0))
 (Sum.elim (fun (_ : Unit) =>
 some ((10, 0))) some))))
 (cond (decide (97 <= a))
 (cond (decide (a <= 122))
 (some ((8, 0)))
 ((zeu).bind fun s =>
 Option.bind (
 lpO (fun (d : Int) =>
 cond (decide (d < 10))
 (zi s d fun t =>
 zg (IntKind.wrap .i32 a) fun u =>
 (xz t u).bind fun v =>
 cond v
 (some (.inr (.inr ((d, 0)))))
 (zg (IntKind.wrap .i64 (d + 1)) fun w =>
 some (.inl w)))
 (some (.inr (.inl ())))) (0))
 (Sum.elim (fun (_ : Unit) =>
 some ((10, 0))) some)))
 ((zeu).bind fun x =>
 Option.bind (
 lpO (fun (e : Int) =>
 cond (decide (e < 10))
 (zi x e fun y =>
 zg (IntKind.wrap .i32 a) fun z =>
 (xz y z).bind fun A =>
 cond A
 (some (.inr (.inr ((e, 0)))))
 (zg (IntKind.wrap .i64 (e + 1)) fun C =>
 some (.inl C)))
 (some (.inr (.inl ())))) (0))
 (Sum.elim (fun (_ : Unit) =>
 some ((10, 0))) some))))
def zc1 (a : List UInt8) : Option (Int) :=
 zi a (0) fun b =>
 zg (IntKind.wrap .u64 (↑(UInt8.toNat b) : Int)) fun c =>
 zi a (1) fun d =>
 zg (IntKind.wrap .u64 (↑(UInt8.toNat d) : Int)) fun e =>
 zg (IntKind.wrap .u64 (e * 2 ^ min (Int.toNat 8) (IntKind.bits IntKind.u64))) fun f =>
 zi a (2) fun g =>
 zg (IntKind.wrap .u64 (↑(UInt8.toNat g) : Int)) fun i =>
 zg (IntKind.wrap .u64 (i * 2 ^ min (Int.toNat 16) (IntKind.bits IntKind.u64))) fun j =>
 zi a (3) fun k =>
 zg (IntKind.wrap .u64 (↑(UInt8.toNat k) : Int)) fun l =>
 zg (IntKind.wrap .u64 (l * 2 ^ min (Int.toNat 24) (IntKind.bits IntKind.u64))) fun m =>
 zi a (4) fun n =>
 zg (IntKind.wrap .u64 (↑(UInt8.toNat n) : Int)) fun o =>
 zg (IntKind.wrap .u64 (o * 2 ^ min (Int.toNat 32) (IntKind.bits IntKind.u64))) fun p =>
 zi a (5) fun q =>
 zg (IntKind.wrap .u64 (↑(UInt8.toNat q) : Int)) fun s =>
 zg (IntKind.wrap .u64 (s * 2 ^ min (Int.toNat 40) (IntKind.bits IntKind.u64))) fun t =>
 zi a (6) fun u =>
 zg (IntKind.wrap .u64 (↑(UInt8.toNat u) : Int)) fun v =>
 zg (IntKind.wrap .u64 (v * 2 ^ min (Int.toNat 48) (IntKind.bits IntKind.u64))) fun w =>
 zi a (7) fun x =>
 zg (IntKind.wrap .u64 (↑(UInt8.toNat x) : Int)) fun y =>
 zg (IntKind.wrap .u64 (y * 2 ^ min (Int.toNat 56) (IntKind.bits IntKind.u64))) fun z =>
 some (bits BinOp.or IntKind.u64 (bits BinOp.or IntKind.u64 (bits BinOp.or IntKind.u64 (bits BinOp.or IntKind.u64 (bits BinOp.or IntKind.u64 (bits BinOp.or IntKind.u64 (bits BinOp.or IntKind.u64 c f) j) m) p) t) w) z)
def zx0 (m : List UInt8) : Option (Bool) :=
 Option.bind (
 lpO (fun (a : List UInt8) =>
 cond (decide (0 < (↑(List.length a) : Int)))
 (zi a (0) fun c =>
 cond (decide ((↑(UInt8.toNat c) : Int) < 128))
 (zk ((0 : Int) <= (1 : Int) /\ (1 : Int) <= (↑(List.length a) : Int)) (
 cond (decide (8 < (↑(List.length (List.drop (Int.toNat 1) (List.take (Int.toNat (↑(List.length a) : Int)) a))) : Int)))
 ((zc1 (List.drop (Int.toNat 1) (List.take (Int.toNat (↑(List.length a) : Int)) a))).bind fun d =>
 cond (decide (bits BinOp.and IntKind.u64 d 9259542123273814144 = 0))
 (zk ((0 : Int) <= (8 : Int) /\ (8 : Int) <= (↑(List.length (List.drop (Int.toNat (1 : Int)) (List.take (Int.toNat (↑(List.length a) : Int)) a))) : Int)) (
 cond (decide (16 < (↑(List.length (List.drop (Int.toNat 8) (List.take (Int.toNat (↑(List.length (List.drop (Int.toNat 1) (List.take (Int.toNat (↑(List.length a) : Int)) a))) : Int)) (List.drop (Int.toNat 1) (List.take (Int.toNat (↑(List.length a) : Int)) a))))) : Int)))
 ((zc1 (List.drop (Int.toNat 8) (List.take (Int.toNat (↑(List.length (List.drop (Int.toNat 1) (List.take (Int.toNat (↑(List.length a) : Int)) a))) : Int)) (List.drop (Int.toNat 1) (List.take (Int.toNat (↑(List.length a) : Int)) a))))).bind fun e =>
 zk ((0 : Int) <= (8 : Int) /\ (8 : Int) <= (↑(List.length (List.drop (Int.toNat (8 : Int)) (List.take (Int.toNat (↑(List.length (List.drop (Int.toNat (1 : Int)) (List.take (Int.toNat (↑(List.length a) : Int)) a))) : Int)) (List.drop (Int.toNat (1 : Int)) (List.take (Int.toNat (↑(List.length a) : Int)) a))))) : Int)) (
 (zc1 (List.drop (Int.toNat 8) (List.take (Int.toNat (↑(List.length (List.drop (Int.toNat 8) (List.take (Int.toNat (↑(List.length (List.drop (Int.toNat 1) (List.take (Int.toNat (↑(List.length a) : Int)) a))) : Int)) (List.drop (Int.toNat 1) (List.take (Int.toNat (↑(List.length a) : Int)) a))))) : Int)) (List.drop (Int.toNat 8) (List.take (Int.toNat (↑(List.length (List.drop (Int.toNat 1) (List.take (Int.toNat (↑(List.length a) : Int)) a))) : Int)) (List.drop (Int.toNat 1) (List.take (Int.toNat (↑(List.length a) : Int)) a))))))).bind fun f =>
 cond (decide (bits BinOp.and IntKind.u64 (bits BinOp.or IntKind.u64 e f) 9259542123273814144 = 0))
 (zk ((0 : Int) <= (16 : Int) /\ (16 : Int) <= (↑(List.length (List.drop (Int.toNat (8 : Int)) (List.take (Int.toNat (↑(List.length (List.drop (Int.toNat (1 : Int)) (List.take (Int.toNat (↑(List.length a) : Int)) a))) : Int)) (List.drop (Int.toNat (1 : Int)) (List.take (Int.toNat (↑(List.length a) : Int)) a))))) : Int)) (
 Option.bind (
 lpO (fun (b : List UInt8) =>
 cond (decide (32 < (↑(List.length b) : Int)))
 ((zc1 b).bind fun g =>
 zk ((0 : Int) <= (8 : Int) /\ (8 : Int) <= (↑(List.length b) : Int)) (
 (zc1 (List.drop (Int.toNat 8) (List.take (Int.toNat (↑(List.length b) : Int)) b))).bind fun i =>
 zk ((0 : Int) <= (16 : Int) /\ (16 : Int) <= (↑(List.length b) : Int)) (
 (zc1 (List.drop (Int.toNat 16) (List.take (Int.toNat (↑(List.length b) : Int)) b))).bind fun j =>
 zk ((0 : Int) <= (24 : Int) /\ (24 : Int) <= (↑(List.length b) : Int)) (
 (zc1 (List.drop (Int.toNat 24) (List.take (Int.toNat (↑(List.length b) : Int)) b))).bind fun k =>
 cond (decide (bits BinOp.and IntKind.u64 (bits BinOp.or IntKind.u64 (bits BinOp.or IntKind.u64 g i) (bits BinOp.or IntKind.u64 j k)) 9259542123273814144 = 0))
 (zk ((0 : Int) <= (32 : Int) /\ (32 : Int) <= (↑(List.length b) : Int)) (
 some (.inl (List.drop (Int.toNat 32) (List.take (Int.toNat (↑(List.length b) : Int)) b)))))
 (some (.inr (.inl b)))))))
 (some (.inr (.inl b)))) (List.drop (Int.toNat 16) (List.take (Int.toNat (↑(List.length (List.drop (Int.toNat 8) (List.take (Int.toNat (↑(List.length (List.drop (Int.toNat 1) (List.take (Int.toNat (↑(List.length a) : Int)) a))) : Int)) (List.drop (Int.toNat 1) (List.take (Int.toNat (↑(List.length a) : Int)) a))))) : Int)) (List.drop (Int.toNat 8) (List.take (Int.toNat (↑(List.length (List.drop (Int.toNat 1) (List.take (Int.toNat (↑(List.length a) : Int)) a))) : Int)) (List.drop (Int.toNat 1) (List.take (Int.toNat (↑(List.length a) : Int)) a)))))))
 (Sum.elim (fun (l : List UInt8) =>
 some (.inl l)) some)))
 (some (.inl (List.drop (Int.toNat 8) (List.take (Int.toNat (↑(List.length (List.drop (Int.toNat 1) (List.take (Int.toNat (↑(List.length a) : Int)) a))) : Int)) (List.drop (Int.toNat 1) (List.take (Int.toNat (↑(List.length a) : Int)) a))))))))
 (some (.inl (List.drop (Int.toNat 8) (List.take (Int.toNat (↑(List.length (List.drop (Int.toNat 1) (List.take (Int.toNat (↑(List.length a) : Int)) a))) : Int)) (List.drop (Int.toNat 1) (List.take (Int.toNat (↑(List.length a) : Int)) a))))))))
 (some (.inl (List.drop (Int.toNat 1) (List.take (Int.toNat (↑(List.length a) : Int)) a)))))
 (some (.inl (List.drop (Int.toNat 1) (List.take (Int.toNat (↑(List.length a) : Int)) a))))))
 (none))
 (some (.inr (.inl ())))) m)
 (Sum.elim (fun (_ : Unit) =>
 some (true)) some)
def zo0 (a : TK) : Option (Int) :=
 Option.bind (
 cond (decide (a.Kind = 1))
 (some (.inl ((0, a.S))))
 (cond (decide (a.Kind = 3))
 (some (.inl ((0, a.S))))
 (cond (decide (a.Kind = 2))
 (some (.inl ((a.N, []))))
 (some (.inl ((0, [])))))))
 (Sum.elim (fun (f : Int × List UInt8) =>
 cond (decide (a.Kind < 1))
 (some (2))
 (cond (decide (9 < a.Kind))
 (some (2))
 (cond (!(decide (a.Kind = a.Kind) && (decide (a.From = a.From) && (decide (a.To = a.To) && (decide (a.N = f.fst) && (decide (a.S = f.snd) && true))))))
 (some (2))
 (Option.bind (
 cond (decide (a.Kind = 1))
 (cond (decide ((↑(List.length a.S) : Int) <= 0))
 (some (.inr (6)))
 (zi (a.S) (0) fun g =>
 zg (IntKind.wrap .i64 (↑(UInt8.toNat g) : Int)) fun i =>
 (zcv i).bind fun j =>
 cond (!decide (j.fst = 8))
 (some (.inr (6)))
 (zi (a.S) (0) fun k =>
 zg (IntKind.wrap .i64 (↑(UInt8.toNat k) : Int)) fun l =>
 (zcv l).bind fun m =>
 Option.bind (
 lpO (fun (b : Int × Int) =>
 cond (decide (b.fst = 8))
 (zg (IntKind.wrap .i64 (b.snd + 1)) fun c =>
 cond (decide ((↑(List.length a.S) : Int) <= c))
 (some (.inl ((10, c))))
 (zi (a.S) c fun n =>
 zg (IntKind.wrap .i64 (↑(UInt8.toNat n) : Int)) fun o =>
 (zcv o).bind fun p =>
 some (.inl ((p.fst, c)))))
 (cond (decide (b.fst = 6))
 (zg (IntKind.wrap .i64 (b.snd + 1)) fun d =>
 cond (decide ((↑(List.length a.S) : Int) <= d))
 (some (.inl ((10, d))))
 (zi (a.S) d fun q =>
 zg (IntKind.wrap .i64 (↑(UInt8.toNat q) : Int)) fun s =>
 (zcv s).bind fun t =>
 some (.inl ((t.fst, d)))))
 (some (.inr (.inl ((decide (b.fst = 6), b))))))) ((m.fst, 0)))
 (Sum.elim (fun (e : Bool × Int × Int) =>
 zk ((0 : Int) <= (0 : Int) /\ 0 <= e.snd.snd /\ e.snd.snd <= (↑(List.length a.S) : Int)) (
 cond (!decide (List.drop (Int.toNat 0) (List.take (Int.toNat e.snd.snd) a.S) = a.S))
 (some (.inr (6)))
 (some (.inl (16))))) some))))
 (cond (decide (a.Kind = 3))
 ((zx0 (a.S)).bind fun u =>
 cond (!u)
 (some (.inr (6)))
 (some (.inl (2000))))
 (some (.inl (0)))))
 (Sum.elim (fun (v : Int) =>
 cond (decide (v < (↑(List.length a.S) : Int)))
 (some (3))
 (some (0))) some))))) some)
def zg8 (a : List UInt8) : Option (Bool) :=
 cond (decide (a = (ByteArray.mk #[118, 97, 114]).data.toList))
 (some (false))
 (cond (decide (a = (ByteArray.mk #[100, 101, 102]).data.toList))
 (some (false))
 (cond (decide (a = (ByteArray.mk #[111, 117, 116]).data.toList))
 (some (false))
 (cond (decide (a = (ByteArray.mk #[105, 102]).data.toList))
 (some (false))
 (cond (decide (a = (ByteArray.mk #[101, 108, 115, 101]).data.toList))
 (some (false))
 (cond (decide (a = (ByteArray.mk #[119, 104, 105, 108, 101]).data.toList))
 (some (false))
 (cond (decide (a = (ByteArray.mk #[101, 110, 100]).data.toList))
 (some (false))
 (cond (decide (a = (ByteArray.mk #[114, 101, 108, 101, 97, 115, 101]).data.toList))
 (some (false))
 (cond (decide (a = (ByteArray.mk #[105, 110, 116]).data.toList))
 (some (false))
 (cond (decide (a = (ByteArray.mk #[99, 104, 97, 114]).data.toList))
 (some (false))
 ((zll a).bind fun b =>
 cond (decide (b.snd = 0))
 (some (false))
 ((zo0 (TK.mk 1 0 0 0 a)).bind fun c =>
 some (decide (c = 0)))))))))))))
def jg (b : TL) (a : Int) : Option (Bool) :=
 cond (decide (0 <= a))
 (some (decide (a < (↑(List.length (List.map SV.str b.Names)) : Int))))
 (some (false))
def zp6 (c : TP) : Option (Int × Int) :=
 cond (decide (16 < (↑(List.length (List.map qa c.Channels)) : Int)))
 (some (((-1 : Int), 3)))
 (Option.bind (
 lpO (fun (a : Int × List (List UInt8)) =>
 cond (decide (a.fst < (↑(List.length (List.map qa c.Channels)) : Int)))
 (zi (c.Channels) (a.fst) fun b =>
 (zg8 (b.s_)).bind fun d =>
 cond (!d)
 (some (.inr (.inr ((a.fst, 24)))))
 (cond (inL (b.s_) (a.snd))
 (some (.inr (.inr ((a.fst, 8)))))
 (cond (inL (b.s_) (a.snd))
 ((jg (c.Lattice) (b.at_)).bind fun e =>
 cond (!e)
 (some (.inr (.inr ((a.fst, 7)))))
 (zg (IntKind.wrap .i64 (a.fst + 1)) fun f =>
 some (.inl ((f, a.snd)))))
 ((jg (c.Lattice) (b.at_)).bind fun g =>
 cond (!g)
 (some (.inr (.inr ((a.fst, 7)))))
 (zg (IntKind.wrap .i64 (a.fst + 1)) fun i =>
 some (.inl ((i, a.snd ++ [b.s_]))))))))
 (some (.inr (.inl ())))) ((0, [])))
 (Sum.elim (fun (_ : Unit) =>
 some ((0, 0))) some))
def zp0 (e : TL) (f : List Int) : Option (Int) :=
 (zax e).bind fun b =>
 cond (!decide (b.snd = 0))
 (some (b.snd))
 (Option.bind (
 lpO (fun (a : Int) =>
 cond (decide (a < (↑(List.length (List.map (SV.int .i64) f)) : Int)))
 (zi f a fun c =>
 cond (decide (c < 0))
 (some (.inr (.inr (7))))
 (cond (decide ((↑(List.length (List.map SV.str e.Names)) : Int) <= c))
 (some (.inr (.inr (7))))
 (zg (IntKind.wrap .i64 (a + 1)) fun d =>
 some (.inl d))))
 (some (.inr (.inl ())))) (0))
 (Sum.elim (fun (_ : Unit) =>
 some (0)) some))
def zkn (c : Int) : Option (Int) :=
 zi ((ByteArray.mk (List.toArray (List.append (List.append [(0 : UInt8), 1, 1, 2, 1, 2, 2, 3, 1, 2, 2, 3, 2, 3, 3, 4, 1, 2, 2, 3, 2, 3, 3, 4, 2, 3, 3, 4, 3, 4, 4, 5, 1, 2, 2, 3, 2, 3, 3, 4, 2, 3, 3, 4, 3, 4, 4, 5, 2, 3, 3, 4, 3, 4, 4, 5, 3, 4, 4, 5, 4, 5, 5, 6] [(1 : UInt8), 2, 2, 3, 2, 3, 3, 4, 2, 3, 3, 4, 3, 4, 4, 5, 2, 3, 3, 4, 3, 4, 4, 5, 3, 4, 4, 5, 4, 5, 5, 6, 2, 3, 3, 4, 3, 4, 4, 5, 3, 4, 4, 5, 4, 5, 5, 6, 3, 4, 4, 5, 4, 5, 5, 6, 4, 5, 5, 6, 5, 6, 6, 7]) (List.append [(1 : UInt8), 2, 2, 3, 2, 3, 3, 4, 2, 3, 3, 4, 3, 4, 4, 5, 2, 3, 3, 4, 3, 4, 4, 5, 3, 4, 4, 5, 4, 5, 5, 6, 2, 3, 3, 4, 3, 4, 4, 5, 3, 4, 4, 5, 4, 5, 5, 6, 3, 4, 4, 5, 4, 5, 5, 6, 4, 5, 5, 6, 5, 6, 6, 7] [(2 : UInt8), 3, 3, 4, 3, 4, 4, 5, 3, 4, 4, 5, 4, 5, 5, 6, 3, 4, 4, 5, 4, 5, 5, 6, 4, 5, 5, 6, 5, 6, 6, 7, 3, 4, 4, 5, 4, 5, 5, 6, 4, 5, 5, 6, 5, 6, 6, 7, 4, 5, 5, 6, 5, 6, 6, 7, 5, 6, 6, 7, 6, 7, 7, 8])))).data.toList) c fun a =>
 zg (IntKind.wrap .i64 (↑(UInt8.toNat a) : Int)) fun b =>
 some b
def zo9 (i : List Int) (g : Int) : Option (Int) :=
 Option.bind (
 lpO (fun (a : Int) =>
 zg (IntKind.wrap .i64 (g - 1)) fun b =>
 cond (decide (a < b))
 (zk (0 <= a /\ a < (↑(8 : Nat) : Int)) (
 zi i ((↑(Int.toNat a) : Int)) fun c =>
 (zkn c).bind fun d =>
 cond (decide (d < g))
 (zg (IntKind.wrap .i64 (a + 1)) fun e =>
 some (.inl e))
 (some (.inr (.inl a)))))
 (some (.inr (.inl a)))) (0))
 (Sum.elim (fun (f : Int) =>
 some f) some)
def zqs (d : TL) : Option (Int × Int) :=
 (zp0 d ([])).bind fun a =>
 cond (!decide (a = 0))
 (some ((0, a)))
 ((zeq d).bind fun b =>
 (zo9 (b.up_) (b.n_)).bind fun c =>
 some ((c, 0)))
def zmd (f : TL) (d : List Int) : Option (Int × Int) :=
 (zax f).bind fun b =>
 cond (!decide (b.snd = 0))
 (some (((-1 : Int), b.snd)))
 (cond (decide (64 < (↑(List.length (List.map (SV.int .i64) d)) : Int)))
 (some (((-1 : Int), 3)))
 (Option.bind (
 lpO (fun (a : Int) =>
 cond (decide (a < (↑(List.length (List.map (SV.int .i64) d)) : Int)))
 (zi d a fun c =>
 cond (decide (c < 0))
 (some (.inr (.inr ((a, 7)))))
 (cond (decide ((↑(List.length (List.map SV.str f.Names)) : Int) <= c))
 (some (.inr (.inr ((a, 7)))))
 (zg (IntKind.wrap .i64 (a + 1)) fun e =>
 some (.inl e))))
 (some (.inr (.inl ())))) (0))
 (Sum.elim (fun (_ : Unit) =>
 some ((0, 0))) some)))
def zc8 (c : TL) (d : Int) (b : Int) : Option (Bool) :=
 zi (c.Up) d fun a =>
 zk (0 <= b) (
 some (decide (bits BinOp.and IntKind.u8 (Int.fdiv a (2 ^ min (Int.toNat b) (IntKind.bits IntKind.u8))) 1 = 1)))
def zuv (b : Int) (c : TL) (d : Int) : Option (Bool) :=
 (zc8 c b d).bind fun a =>
 some (!a)
def zqo (e : List Int) (f : TL × Int) : Option (Int) :=
 Option.bind (
 lpO (fun (a : Int) =>
 cond (decide (a < (↑(List.length (List.map (SV.int .i64) e)) : Int)))
 (zi e a fun b =>
 (zuv b (f.fst) (f.snd)).bind fun c =>
 cond c
 (some (.inr (.inr a)))
 (zg (IntKind.wrap .i64 (a + 1)) fun d =>
 some (.inl d)))
 (some (.inr (.inl ())))) (0))
 (Sum.elim (fun (_ : Unit) =>
 some ((-1 : Int))) some)
def zie (c : TL) (e : List Int) (d : Int) : Option (Int × Int) :=
 (zmd c e).bind fun a =>
 cond (!decide (a.snd = 0))
 (some a)
 (cond (decide (d < 0))
 (some (((-1 : Int), 7)))
 (cond (decide ((↑(List.length (List.map SV.str c.Names)) : Int) <= d))
 (some (((-1 : Int), 7)))
 ((zqo e ((c, d))).bind fun b =>
 cond (decide (0 <= b))
 (some ((b, 25)))
 (some ((0, 0))))))
def zh7 (b : TL) (a : TY) : Option (Int) :=
 (zqs b).bind fun c =>
 cond (!decide (c.snd = 0))
 (some (c.snd))
 (cond (!decide (a.Kind = 1))
 (cond (!decide (a.Kind = 2))
 (some (7))
 (cond (decide (a.Rank < 0))
 (some (7))
 (cond (decide (2 < a.Rank))
 (some (7))
 ((jg b (a.Axes.fst)).bind fun i =>
 cond (!i)
 (some (7))
 ((jg b (a.Axes.snd)).bind fun j =>
 cond (!j)
 (some (7))
 ((jg b (a.Data)).bind fun k =>
 cond (!k)
 (some (7))
 (zk (0 <= a.Rank /\ a.Rank <= (↑(2 : Nat) : Int)) (
 Option.bind (
 lpO (fun (d : Int) =>
 cond (decide (d < (↑(List.length (List.drop (Int.toNat a.Rank) (List.take (Int.toNat (↑(2 : Nat) : Int)) [SV.int .i64 a.Axes.fst, SV.int .i64 a.Axes.snd]))) : Int)))
 (zi (List.drop (Int.toNat a.Rank) (List.take (Int.toNat (↑(2 : Nat) : Int)) [a.Axes.fst, a.Axes.snd])) d fun l =>
 cond (!decide (l = c.fst))
 (some (.inr (.inr (6))))
 (zg (IntKind.wrap .i64 (d + 1)) fun m =>
 some (.inl m)))
 (some (.inr (.inl ())))) (0))
 (Sum.elim (fun (_ : Unit) =>
 zk (0 <= a.Rank /\ a.Rank <= (↑(2 : Nat) : Int)) (
 (zie b (List.drop (Int.toNat 0) (List.take (Int.toNat a.Rank) [a.Axes.fst, a.Axes.snd])) (a.Data)).bind fun f =>
 cond (!decide (f.snd = 0))
 (some (f.snd))
 (some (0)))) some)))))))))
 (cond (decide (a.Rank < 0))
 (some (7))
 (cond (decide (2 < a.Rank))
 (some (7))
 ((jg b (a.Axes.fst)).bind fun n =>
 cond (!n)
 (some (7))
 ((jg b (a.Axes.snd)).bind fun o =>
 cond (!o)
 (some (7))
 ((jg b (a.Data)).bind fun p =>
 cond (!p)
 (some (7))
 (zk (0 <= a.Rank /\ a.Rank <= (↑(2 : Nat) : Int)) (
 Option.bind (
 lpO (fun (e : Int) =>
 cond (decide (e < (↑(List.length (List.drop (Int.toNat a.Rank) (List.take (Int.toNat (↑(2 : Nat) : Int)) [SV.int .i64 a.Axes.fst, SV.int .i64 a.Axes.snd]))) : Int)))
 (zi (List.drop (Int.toNat a.Rank) (List.take (Int.toNat (↑(2 : Nat) : Int)) [a.Axes.fst, a.Axes.snd])) e fun q =>
 cond (!decide (q = c.fst))
 (some (.inr (.inr (6))))
 (zg (IntKind.wrap .i64 (e + 1)) fun s =>
 some (.inl s)))
 (some (.inr (.inl ())))) (0))
 (Sum.elim (fun (_ : Unit) =>
 zk (0 <= a.Rank /\ a.Rank <= (↑(2 : Nat) : Int)) (
 (zie b (List.drop (Int.toNat 0) (List.take (Int.toNat a.Rank) [a.Axes.fst, a.Axes.snd])) (a.Data)).bind fun g =>
 cond (!decide (g.snd = 0))
 (some (g.snd))
 (some (0)))) some)))))))))
def zqk (c : TP) : Option (Int × Int) :=
 cond (decide (32 < (↑(List.length (List.map yp c.Vars)) : Int)))
 (some (((-1 : Int), 3)))
 (Option.bind (
 lpO (fun (a : Int × List (List UInt8)) =>
 cond (decide (a.fst < (↑(List.length (List.map yp c.Vars)) : Int)))
 (zi (c.Vars) (a.fst) fun b =>
 (zg8 (b.Name)).bind fun f =>
 cond (!f)
 (some (.inr (.inr ((a.fst, 24)))))
 (cond (inL (b.Name) (a.snd))
 (some (.inr (.inr ((a.fst, 8)))))
 (cond (inL (b.Name) (a.snd))
 ((zh7 (c.Lattice) (b.Type_)).bind fun d =>
 cond (!decide (d = 0))
 (some (.inr (.inr ((a.fst, d)))))
 (zg (IntKind.wrap .i64 (a.fst + 1)) fun g =>
 some (.inl ((g, a.snd)))))
 ((zh7 (c.Lattice) (b.Type_)).bind fun e =>
 cond (!decide (e = 0))
 (some (.inr (.inr ((a.fst, e)))))
 (zg (IntKind.wrap .i64 (a.fst + 1)) fun i =>
 some (.inl ((i, a.snd ++ [b.Name]))))))))
 (some (.inr (.inl ())))) ((0, [])))
 (Sum.elim (fun (_ : Unit) =>
 some ((0, 0))) some))
def zps (c : TP) : Option (Int × Int) :=
 cond (decide (64 < (↑(List.length (List.map wg c.Rules)) : Int)))
 (some (((-1 : Int), 3)))
 (Option.bind (
 lpO (fun (a : Int × List (Int × Int)) =>
 cond (decide (a.fst < (↑(List.length (List.map wg c.Rules)) : Int)))
 (zi (c.Rules) (a.fst) fun b =>
 (jg (c.Lattice) (b.From)).bind fun d =>
 cond (!d)
 (some (.inr (.inr ((a.fst, 7)))))
 ((jg (c.Lattice) (b.Goal)).bind fun e =>
 cond (!e)
 (some (.inr (.inr ((a.fst, 7)))))
 (cond (decide (b.From = b.Goal))
 (some (.inr (.inr ((a.fst, 25)))))
 (zi (c.Lattice.Up) (b.Goal) fun f =>
 zk (0 <= b.From) (
 cond (decide (bits BinOp.and IntKind.u8 (Int.fdiv f (2 ^ min (Int.toNat b.From) (IntKind.bits IntKind.u8))) 1 = 0))
 (some (.inr (.inr ((a.fst, 25)))))
 (cond (inL ((b.From, b.Goal)) (a.snd))
 (some (.inr (.inr ((a.fst, 8)))))
 (cond (decide (b.K < 2))
 (some (.inr (.inr ((a.fst, 3)))))
 (cond (decide (400 < b.K))
 (some (.inr (.inr ((a.fst, 3)))))
 (cond (inL ((b.From, b.Goal)) (a.snd))
 (zg (IntKind.wrap .i64 (a.fst + 1)) fun g =>
 some (.inl ((g, a.snd))))
 (zg (IntKind.wrap .i64 (a.fst + 1)) fun i =>
 some (.inl ((i, a.snd ++ [(b.From, b.Goal)])))))))))))))
 (some (.inr (.inl ())))) ((0, [])))
 (Sum.elim (fun (_ : Unit) =>
 some ((0, 0))) some))
def zh9 (f : TP) : Option (Int × Int × Int) :=
 Option.bind (
 (ztl f).bind fun b =>
 cond (!decide (b.snd = 0))
 (some (.inl ((1, b.snd, b.fst))))
 ((zp6 f).bind fun c =>
 cond (!decide (c.snd = 0))
 (some (.inl ((2, c.snd, c.fst))))
 ((zqk f).bind fun d =>
 cond (!decide (d.snd = 0))
 (some (.inl ((3, d.snd, d.fst))))
 ((zps f).bind fun a =>
 cond (!decide (a.snd = 0))
 (some (.inl ((4, a.snd, a.fst))))
 (some (.inl ((0, a.snd, a.fst))))))))
 (Sum.elim (fun (e : Int × Int × Int) =>
 some ((e.fst, e.snd.snd, e.snd.fst))) some)
def zlv (a : List Int) (b : Int) (c : Int) : Option (Bool) :=
 zi a b fun d =>
 zi a c fun e =>
 cond (!decide (d = e))
 (zi a b fun f =>
 zi a c fun g =>
 some (decide (f < g)))
 (some (decide (b < c)))
def zpu (c : Int) (d : Int) (e : List Int) : Option (Int) :=
 (zlv e c d).bind fun a =>
 cond a
 (some ((-1 : Int)))
 ((zlv e d c).bind fun b =>
 cond b
 (some (1))
 (some (0)))
def zkf (i : TL) (o : List Int) : Option (List Int) :=
 zk ((0 : Int) <= (↑(List.length (List.map SV.str i.Names)) : Int) /\ (↑(List.length (List.map SV.str i.Names)) : Int) = (↑(List.length (List.map SV.str i.Names)) : Int) /\ (↑(List.length (List.map SV.str i.Names)) : Int) <= (70368744177664 : Int) /\ (↑(List.length (List.map SV.str i.Names)) : Int) * (↑(8 : Nat) : Int) <= (70368744177664 : Int)) (
 Option.bind (
 lpO (fun (d : Int × List Int) =>
 cond (decide (d.fst < (↑(List.length (List.map SV.str i.Names)) : Int)))
 (Option.bind (
 lpO (fun (e : Int × List Int) =>
 cond (decide (e.fst < (↑(List.length (List.map SV.str i.Names)) : Int)))
 ((zc8 i (e.fst) (d.fst)).bind fun q =>
 cond q
 (zk (0 <= d.fst /\ d.fst < (↑(List.length (List.map (SV.int .i64) e.snd)) : Int)) (
 zi (e.snd) ((↑(Int.toNat d.fst) : Int)) fun s =>
 zg (IntKind.wrap .i64 (s + 1)) fun t =>
 zk (0 <= d.fst /\ d.fst < (↑(List.length (List.map (SV.int .i64) e.snd)) : Int)) (
 zi (e.snd) ((↑(Int.toNat d.fst) : Int)) fun _ =>
 zg (IntKind.wrap .i64 (e.fst + 1)) fun u =>
 some (.inl ((u, List.set e.snd (Int.toNat d.fst) t))))))
 (zg (IntKind.wrap .i64 (e.fst + 1)) fun v =>
 some (.inl ((v, e.snd)))))
 (some (.inr (.inl (e.snd))))) ((0, d.snd)))
 (Sum.elim (fun (P : List Int) =>
 zg (IntKind.wrap .i64 (d.fst + 1)) fun w =>
 some (.inl ((w, P)))) some))
 (some (.inr (.inl (d.snd))))) ((0, List.replicate (Int.toNat (↑(List.length (List.map SV.str i.Names)) : Int)) 0)))
 (Sum.elim (fun (Q : List Int) =>
 zk (List.length (List.map (SV.int .i64) o) <= (100000 : Nat)) (
 zg (IntKind.wrap .u64 (↑(List.length (List.map (SV.int .i64) o)) : Int)) fun x =>
 (yg x).bind fun y =>
 Option.bind (
 lpO (fun (_ : Unit) =>
 zg (IntKind.wrap .i64 ((↑(List.length (List.map (SV.int .i64) o)) : Int) - 0)) fun z =>
 cond (decide (z <= 12))
 (Option.bind (
 lpO (fun (g : Int × List Int) =>
 cond (decide (g.fst < (↑(List.length (List.map (SV.int .i64) o)) : Int)))
 (Option.bind (
 lpO (fun (a : Int × List Int) =>
 cond (decide (0 < a.fst))
 (zk (0 <= a.fst /\ a.fst < (↑(List.length (List.map (SV.int .i64) a.snd)) : Int)) (
 zi (a.snd) ((↑(Int.toNat a.fst) : Int)) fun A =>
 zg (IntKind.wrap .i64 (a.fst - 1)) fun k =>
 zk (0 <= k /\ k < (↑(List.length (List.map (SV.int .i64) a.snd)) : Int)) (
 zi (a.snd) ((↑(Int.toNat k) : Int)) fun C =>
 (zpu A C Q).bind fun p =>
 cond (decide (p < 0))
 (zg (IntKind.wrap .i64 (a.fst - 1)) fun j =>
 zg (IntKind.wrap .i64 (a.fst - 1)) fun l =>
 zk (0 <= l /\ l < (↑(List.length (List.map (SV.int .i64) a.snd)) : Int)) (
 zi (a.snd) ((↑(Int.toNat l) : Int)) fun m =>
 zk (0 <= a.fst /\ a.fst < (↑(List.length (List.map (SV.int .i64) a.snd)) : Int)) (
 zi (a.snd) ((↑(Int.toNat a.fst) : Int)) fun D =>
 zk (0 <= a.fst /\ a.fst < (↑(List.length (List.map (SV.int .i64) a.snd)) : Int)) (
 zi (a.snd) ((↑(Int.toNat a.fst) : Int)) fun _ =>
 zk (0 <= j /\ j < (↑(List.length (List.set (List.map (SV.int .i64) a.snd) (Int.toNat a.fst) (SV.int .i64 m))) : Int)) (
 zi (List.set a.snd (Int.toNat a.fst) m) ((↑(Int.toNat j) : Int)) fun _ =>
 zg (IntKind.wrap .i64 (a.fst - 1)) fun F =>
 some (.inl ((F, List.set (List.set a.snd (Int.toNat a.fst) m) (Int.toNat j) D))))))))
 (some (.inr (.inl ((decide (p < 0), a))))))))
 (some (.inr (.inl ((false, a)))))) g)
 (Sum.elim (fun (G : Bool × Int × List Int) =>
 zg (IntKind.wrap .i64 (g.fst + 1)) fun H =>
 some (.inl ((H, G.snd.snd)))) some))
 (some (.inr (.inl ((decide (g.fst < (↑(List.length (List.map (SV.int .i64) o)) : Int)), g)))))) ((1, o)))
 (Sum.elim (fun (b : Bool × Int × List Int) =>
 cond (decide ((↑(List.length (List.map (SV.int .i64) b.snd.snd)) : Int) < 2))
 (some (.inr (.inr (b.snd.snd))))
 (Option.bind (
 lpO (fun (c : Int) =>
 cond (decide (c < (↑(List.length (List.map (SV.int .i64) b.snd.snd)) : Int)))
 (zk (0 <= c /\ c < (↑(List.length (List.map (SV.int .i64) b.snd.snd)) : Int)) (
 zi (b.snd.snd) ((↑(Int.toNat c) : Int)) fun I =>
 zg (IntKind.wrap .i64 (c - 1)) fun n =>
 zk (0 <= n /\ n < (↑(List.length (List.map (SV.int .i64) b.snd.snd)) : Int)) (
 zi (b.snd.snd) ((↑(Int.toNat n) : Int)) fun J =>
 cond (decide (I = J))
 (zk (0 <= c /\ c <= (↑(List.length (List.map (SV.int .i64) b.snd.snd)) : Int)) (
 Option.bind (
 lpO (fun (f : Int) =>
 cond (decide (f < (↑(List.length (List.drop (Int.toNat c) (List.take (Int.toNat (↑(List.length (List.map (SV.int .i64) b.snd.snd)) : Int)) (List.map (SV.int .i64) b.snd.snd)))) : Int)))
 (zi (List.drop (Int.toNat c) (List.take (Int.toNat (↑(List.length (List.map (SV.int .i64) b.snd.snd)) : Int)) b.snd.snd)) f fun K =>
 zg (IntKind.wrap .i64 (f - 1)) fun L =>
 zi (List.drop (Int.toNat c) (List.take (Int.toNat (↑(List.length (List.map (SV.int .i64) b.snd.snd)) : Int)) b.snd.snd)) L fun M =>
 cond (!decide (K = M))
 (zi (List.drop (Int.toNat c) (List.take (Int.toNat (↑(List.length (List.map (SV.int .i64) b.snd.snd)) : Int)) b.snd.snd)) f fun _ =>
 zk (0 <= c /\ c < (↑(List.length (List.map (SV.int .i64) b.snd.snd)) : Int)) (
 none))
 (zg (IntKind.wrap .i64 (f + 1)) fun N =>
 some (.inl N)))
 (some (.inr (.inl ((decide (f < (↑(List.length (List.drop (Int.toNat c) (List.take (Int.toNat (↑(List.length (List.map (SV.int .i64) b.snd.snd)) : Int)) (List.map (SV.int .i64) b.snd.snd)))) : Int)), f)))))) (1))
 (Sum.elim (fun (_ : Bool × Int) =>
 none) some)))
 (zg (IntKind.wrap .i64 (c + 1)) fun O =>
 some (.inl O)))))
 (some (.inr (.inl ((decide (c < (↑(List.length (List.map (SV.int .i64) b.snd.snd)) : Int)), c)))))) (1))
 (Sum.elim (fun (_ : Bool × Int) =>
 some (.inr (.inr (b.snd.snd)))) some))) some))
 (cond (decide (y = 0))
 (none)
 (none))) (()))
 (Sum.elim (fun (_ : Unit) =>
 none) some))) some))
def zpf (c : TL) (d : List Int) : Option (List Int × Int) :=
 (zmd c d).bind fun a =>
 cond (!decide (a.snd = 0))
 (some (([], a.snd)))
 ((zkf c d).bind fun b =>
 some ((b, 0)))
def zom (b : TP) (f : Int) : Option (List Int × Int) :=
 (zh9 b).bind fun c =>
 cond (!decide (c.snd.snd = 0))
 (some (([], c.snd.snd)))
 ((jg (b.Lattice) f).bind fun g =>
 cond (!g)
 (some (([], 7)))
 (Option.bind (
 lpO (fun (a : Int × List Int) =>
 cond (decide (a.fst < (↑(List.length (List.map wg b.Rules)) : Int)))
 (zi (b.Rules) (a.fst) fun d =>
 cond (decide (d.From = f))
 (zk ((List.length (List.map (SV.int .i64) a.snd) + (1 : Nat)) * (8 : Nat) <= (70368744177664 : Nat)) (
 zg (IntKind.wrap .i64 (a.fst + 1)) fun i =>
 some (.inl ((i, a.snd ++ [d.Goal])))))
 (zg (IntKind.wrap .i64 (a.fst + 1)) fun j =>
 some (.inl ((j, a.snd)))))
 (some (.inr (.inl (a.snd))))) ((0, [])))
 (Sum.elim (fun (k : List Int) =>
 (zpf (b.Lattice) k).bind fun e =>
 some e) some)))
def zma (d : TL) (a : Int) (b : Int) : Option (Bool) :=
 cond (decide (0 <= a))
 (cond (decide (a < (↑(List.length (List.map (SV.int .u8) d.Up)) : Int)))
 (cond (decide (0 <= b))
 (zi (d.Up) a fun c =>
 zk (0 <= b) (
 some (decide (Int.tmod (Int.fdiv c (2 ^ min (Int.toNat b) (IntKind.bits IntKind.u8))) 2 = 1))))
 (some (false)))
 (some (false)))
 (some (false))
def zpm (c : TP) (j : Int) (k : Int) : Option (Int × Int) :=
 (zh9 c).bind fun d =>
 cond (!decide (d.snd.snd = 0))
 (some ((0, d.snd.snd)))
 ((jg (c.Lattice) j).bind fun e =>
 cond (!e)
 (some ((0, 7)))
 ((jg (c.Lattice) k).bind fun f =>
 cond (!f)
 (some ((0, 7)))
 (Option.bind (
 lpO (fun (a : Int) =>
 cond (decide (a < (↑(List.length (List.map wg c.Rules)) : Int)))
 (zi (c.Rules) a fun b =>
 cond (decide (b.From = j))
 (cond (decide (b.Goal = k))
 (some (.inr (.inr ((b.K, 0)))))
 (zg (IntKind.wrap .i64 (a + 1)) fun g =>
 some (.inl g)))
 (zg (IntKind.wrap .i64 (a + 1)) fun i =>
 some (.inl i)))
 (some (.inr (.inl ())))) (0))
 (Sum.elim (fun (_ : Unit) =>
 some ((0, 4))) some))))
def zs2 (j : TP) : Option (Bool) :=
 (Fz2 j).bind fun S =>
 cond S
 (some (true))
 ((zh9 j).bind fun T =>
 cond (!decide (T.snd.snd = 0))
 (some (true))
 (Option.bind (
 lpO (fun (a : Int × Int × List (List Bool)) =>
 cond (decide (a.fst < (↑(List.length (List.map SV.str j.Lattice.Names)) : Int)))
 ((zom j (a.fst)).bind fun e =>
 cond (!decide (e.snd = 0))
 (some (.inr (.inr (false))))
 (Option.bind (
 lpO (fun (b : Int × Int × List (List Bool)) =>
 cond (decide (b.fst < (↑(List.length (List.map (SV.int .i64) e.fst)) : Int)))
 (zi (e.fst) (b.fst) fun p =>
 cond (decide (p < 0))
 (some (.inr (.inr (.inr (.inr (false))))))
 (zi (e.fst) (b.fst) fun q =>
 cond (decide ((↑(List.length (List.map SV.str j.Lattice.Names)) : Int) <= q))
 (some (.inr (.inr (.inr (.inr (false))))))
 (zi (e.fst) (b.fst) fun s =>
 cond (decide (s = a.fst))
 (some (.inr (.inr (.inr (.inr (false))))))
 (zi (e.fst) (b.fst) fun t =>
 (zma (j.Lattice) t (a.fst)).bind fun u =>
 cond (!u)
 (some (.inr (.inr (.inr (.inr (false))))))
 (zi (e.fst) (b.fst) fun l =>
 zk (0 <= a.fst /\ a.fst < (↑(8 : Nat) : Int)) (
 zk (0 <= l /\ l < (↑(8 : Nat) : Int)) (
 zi (b.snd.snd) ((↑(Int.toNat a.fst) : Int)) fun v =>
 zi v ((↑(Int.toNat l) : Int)) fun w =>
 cond w
 (some (.inr (.inr (.inr (.inr (false))))))
 (zi (e.fst) (b.fst) fun k =>
 zk (0 <= a.fst /\ a.fst < (↑(8 : Nat) : Int)) (
 zk (0 <= k /\ k < (↑(8 : Nat) : Int)) (
 zi (b.snd.snd) ((↑(Int.toNat a.fst) : Int)) fun m =>
 zi m ((↑(Int.toNat k) : Int)) fun _ =>
 zg (IntKind.wrap .i64 (b.snd.fst + 1)) fun x =>
 zg (IntKind.wrap .i64 (b.fst + 1)) fun y =>
 some (.inl ((y, x, List.set b.snd.snd (Int.toNat a.fst) (List.set m (Int.toNat k) true))))))))))))))
 (some (.inr (.inl (b.snd))))) ((0, a.snd)))
 (Sum.elim (fun (n : Int × List (List Bool)) =>
 Option.bind (
 lpO (fun (c : Int) =>
 cond (decide (c < (↑(List.length (List.map SV.str j.Lattice.Names)) : Int)))
 ((zpm j (a.fst) c).bind fun f =>
 zk (0 <= a.fst /\ a.fst < (↑(8 : Nat) : Int)) (
 zk (0 <= c /\ c < (↑(8 : Nat) : Int)) (
 zi (n.snd) ((↑(Int.toNat a.fst) : Int)) fun z =>
 zi z ((↑(Int.toNat c) : Int)) fun A =>
 cond (!decide (f.snd = 0) == A)
 (some (.inr (.inr (.inr (.inr (false))))))
 (cond (decide (f.snd = 0))
 (cond (decide (f.fst < 2))
 (some (.inr (.inr (.inr (.inr (false))))))
 (cond (decide (400 < f.fst))
 (some (.inr (.inr (.inr (.inr (false))))))
 (cond (!decide (f.snd = 0))
 (cond (!decide (f.snd = 4))
 (some (.inr (.inr (.inr (.inr (false))))))
 (zg (IntKind.wrap .i64 (c + 1)) fun C =>
 some (.inl C)))
 (zg (IntKind.wrap .i64 (c + 1)) fun D =>
 some (.inl D)))))
 (cond (!decide (f.snd = 0))
 (cond (!decide (f.snd = 4))
 (some (.inr (.inr (.inr (.inr (false))))))
 (zg (IntKind.wrap .i64 (c + 1)) fun F =>
 some (.inl F)))
 (zg (IntKind.wrap .i64 (c + 1)) fun G =>
 some (.inl G)))))))
 (some (.inr (.inl ())))) (0))
 (Sum.elim (fun (_ : Unit) =>
 zg (IntKind.wrap .i64 (a.fst + 1)) fun H =>
 some (.inl ((H, n)))) some)) some)))
 (some (.inr (.inl (a.snd))))) ((0, 0, [[false, false, false, false, false, false, false, false], [false, false, false, false, false, false, false, false], [false, false, false, false, false, false, false, false], [false, false, false, false, false, false, false, false], [false, false, false, false, false, false, false, false], [false, false, false, false, false, false, false, false], [false, false, false, false, false, false, false, false], [false, false, false, false, false, false, false, false]])))
 (Sum.elim (fun (o : Int × List (List Bool)) =>
 Option.bind (
 lpO (fun (i : Int) =>
 cond (decide (i < (↑(List.length (List.map SV.str j.Lattice.Names)) : Int)))
 (Option.bind (
 lpO (fun (g : Int) =>
 cond (decide (g < (↑(List.length (List.map SV.str j.Lattice.Names)) : Int)))
 (Option.bind (
 lpO (fun (d : Int) =>
 cond (decide (d < (↑(List.length (List.map SV.str j.Lattice.Names)) : Int)))
 (zk (0 <= i /\ i < (↑(8 : Nat) : Int)) (
 zk (0 <= g /\ g < (↑(8 : Nat) : Int)) (
 zi (o.snd) ((↑(Int.toNat i) : Int)) fun I =>
 zi I ((↑(Int.toNat g) : Int)) fun J =>
 cond J
 (zk (0 <= g /\ g < (↑(8 : Nat) : Int)) (
 zk (0 <= d /\ d < (↑(8 : Nat) : Int)) (
 zi (o.snd) ((↑(Int.toNat g) : Int)) fun K =>
 zi K ((↑(Int.toNat d) : Int)) fun L =>
 cond L
 (cond (decide (d = i))
 (some (.inr (.inr (.inr (.inr (.inr (.inr (false))))))))
 ((zma (j.Lattice) d i).bind fun M =>
 cond (!M)
 (some (.inr (.inr (.inr (.inr (.inr (.inr (false))))))))
 (zg (IntKind.wrap .i64 (d + 1)) fun N =>
 some (.inl N))))
 (zg (IntKind.wrap .i64 (d + 1)) fun O =>
 some (.inl O)))))
 (zg (IntKind.wrap .i64 (d + 1)) fun P =>
 some (.inl P)))))
 (some (.inr (.inl ())))) (0))
 (Sum.elim (fun (_ : Unit) =>
 zg (IntKind.wrap .i64 (g + 1)) fun Q =>
 some (.inl Q)) some))
 (some (.inr (.inl ())))) (0))
 (Sum.elim (fun (_ : Unit) =>
 zg (IntKind.wrap .i64 (i + 1)) fun R =>
 some (.inl R)) some))
 (some (.inr (.inl ())))) (0))
 (Sum.elim (fun (_ : Unit) =>
 cond (decide (o.fst = (↑(List.length (List.map wg j.Rules)) : Int)))
 (some (true))
 (some (false))) some)) some)))
end Go.Sx.O
end
namespace Go.Sx.O
open Go
theorem zr1 {α τ : Type} {l : List α} (p : α -> Bool) {step : Int -> Option (Int ⊕ τ)} {d : τ} {g : Int -> τ}
 (h1 : ∀ (k : Nat) x, l[k]? = some x -> step (k : Int) = if p x then some (.inr (g k)) else some (.inl ((k : Int) + 1)))
 (h2 : step (l.length : Int) = some (.inr d)) :
 lpO step 0 = (match l.findIdx? p with | some i => some (g i) | none => some d) := by
 have key : ∀ j k, j + k = l.length -> lpO step (k : Int) = (match (l.drop k).findIdx? p with | some i => some (g ((k + i : Nat) : Int)) | none => some d) := by
  intro j
  induction j with
  | zero =>
    intro k hk
    rw [jn]
    have : k = l.length := by omega
    subst this
    rw [h2]
    simp
  | succ j ih =>
    intro k hk
    have hlt : k < l.length := by omega
    rw [jn, h1 k _ (List.getElem?_eq_getElem hlt), List.drop_eq_getElem_cons hlt, List.findIdx?_cons]
    split
    . simp
    . have := ih (k + 1) (by omega)
      simp only [Option.bind_some, Sum.elim_inl]
      push_cast at this
      rw [this]
      cases (l.drop (k + 1)).findIdx? p with
      | none => rfl
      | some i => simp; congr 1; omega
 have := key l.length 0 (by omega)
 simpa using this
open Go
theorem dropWhile_nil {α : Type} {p : α -> Bool} : ∀ {l : List α}, l.dropWhile p = [] ↔ ∀ x ∈ l, p x = true
 | [] => by simp
 | a :: l => by
   rw [List.dropWhile_cons]
   cases h : p a with
   | true => simp [h, dropWhile_nil (l := l)]
   | false => simp [h]
theorem zcg (l : List (List UInt8)) (s : List UInt8) (hl : l.length <= 1000000000) :
 zqp l s = some (match l.findIdx? (fun x => decide (s = x)) with | some i => (i : Int) | none => -1) := by
 unfold zqp
 rw [zr1 (l := l) (fun x => decide (s = x)) (d := .inl ()) (g := .inr) ?_ ?_]
 . cases l.findIdx? (fun x => decide (s = x)) <;> rfl
 . intro k x hx
   have hlt : k < l.length := by
    by_cases h : k < l.length
    . exact h
    . rw [List.getElem?_eq_none (by omega)] at hx; cases hx
   simp only [List.length_map, Int.ofNat_lt, hlt, decide_true, cond_true, zi, Int.toNat_natCast, hx, Option.bind_some, zg, Int.natCast_nonneg, if_true]
   rw [w64 (by omega) (by omega)]
   cases decide (s = x) <;> rfl
 . simp
theorem jN (l : List (List UInt8)) (s : List UInt8) (hl : l.length <= 1000000000) :
 zqn l s = some (decide (s ∈ l)) := by
 unfold zqn
 rw [zcg l s hl]
 cases h : l.findIdx? (fun x => decide (s = x)) with
 | none =>
   have := List.findIdx?_eq_none_iff.1 h
   simp only [Option.bind_some]
   congr 1
   have hn : s ∉ l := fun hm => by have := this s hm; simp at this
   simp [hn]
 | some i =>
   have := List.findIdx?_eq_some_iff_getElem.1 h
   obtain ⟨hi, h1, _⟩ := this
   have hm : s ∈ l := by
    have e : s = l[i] := by simpa using h1
    rw [e]; exact List.getElem_mem hi
   simp [hm]
def yC (set : List Bool) (c : UInt8) : Bool := set.getD c.toNat false
theorem zca (set : List Bool) (c : UInt8) (h : set.length = 256) : Fz6 set (c.toNat : Int) = some (yC set c) := by
 unfold Fz6
 have hc : c.toNat < 256 := c.toNat_lt
 have h2 : set[c.toNat]? = some (set[c.toNat]'(by omega)) := List.getElem?_eq_getElem _
 have h3 : (c.toNat : Int) < 256 := by omega
 simp [zk, zi, yC, h2, h3]
def xP (p : UInt8 -> Bool) (s : List UInt8) : List UInt8 := (s.reverse.dropWhile p).reverse
theorem zso {p : UInt8 -> Bool} {s : List UInt8} : (xP p s).dropWhile p = [] ↔ ∀ c ∈ s, p c = true := by
 unfold xP
 constructor
 . intro h c hc
   have h1 : ∀ c ∈ (s.reverse.dropWhile p).reverse, p c = true := dropWhile_nil.1 h
   have h2 : s.reverse.dropWhile p = [] := by
    cases e : s.reverse.dropWhile p with
    | nil => rfl
    | cons a r =>
      have := List.head?_dropWhile_not p s.reverse
      rw [e] at this
      simp at this
      rw [e] at h1
      rw [h1 a (by simp)] at this
      cases this
   exact dropWhile_nil.1 h2 c (by simpa using hc)
 . intro h
   have : s.reverse.dropWhile p = [] := dropWhile_nil.2 fun c hc => h c (by simpa using hc)
   rw [this]; rfl
theorem zcf (s : List UInt8) (set : List Bool) (h : set.length = 256) (hs : s.length <= 1000000000) : Fz7 s set = some (xP (yC set) s) := by
 unfold Fz7
 apply Tot.eq
 simp only [zy]
 refine Tot.loop (fun s => s.length) (fun r => r.length <= 1000000000 /\ xP (yC set) r = xP (yC set) s) ?_ ⟨hs, rfl⟩
 rintro r ⟨hr, he⟩
 simp only [tot_some, zH, zY, qD, qK, zy, Sum.elim_inl, Sum.elim_inr, decide_eq_true_eq, decide_eq_false_iff_not]
 refine ⟨fun h1 => ?_, fun h1 => ?_⟩
 . have h0 : r ≠ [] := by rintro rfl; simp at h1
   rw [w64 (by omega) (by omega)]
   have e1 : ((r.length : Int) - 1).toNat = r.length - 1 := by omega
   rw [e1]
   refine ⟨by omega, _, List.getElem?_eq_getElem (by omega), ?_⟩
   rw [zca set _ h]
   simp only [tot_some, Bool.not_eq_true', Bool.not_eq_false']
   have hr2 : r = r.dropLast ++ [r[r.length - 1]'(by omega)] := by
    rw [<- List.getLast_eq_getElem h0]; exact (List.dropLast_concat_getLast h0).symm
   refine ⟨fun h2 => ?_, fun h2 => ⟨⟨by omega, by omega⟩, ⟨by simp; omega, ?_⟩, by simp; omega⟩⟩
   . rw [<- he]
     unfold xP
     rw [hr2]
     simp [h2]
   . rw [<- he]
     simp only [Int.toNat_zero, List.drop_zero]
     rw [<- List.dropLast_eq_take]
     conv => rhs; rw [hr2]
     unfold xP
     simp [h2]
 . have h0 : r = [] := List.length_eq_zero_iff.1 (by omega)
   rw [<- he, h0]; rfl
theorem zcr (s : List UInt8) (set : List Bool) (h : set.length = 256) (hs : s.length <= 1000000000) : Fz8 s set = some (s.dropWhile (yC set)) := by
 unfold Fz8
 apply Tot.eq
 simp only [zy]
 refine Tot.loop (fun s => s.length) (fun r => r.length <= 1000000000 /\ r.dropWhile (yC set) = s.dropWhile (yC set)) ?_ ⟨hs, rfl⟩
 rintro r ⟨hr, he⟩
 simp only [tot_some, zH, zY, qD, qK, zy, Sum.elim_inl, Sum.elim_inr, decide_eq_true_eq, decide_eq_false_iff_not]
 cases r with
 | nil => simp [<- he]
 | cons a r =>
   refine ⟨fun h1 => ⟨by omega, a, rfl, ?_⟩, fun h1 => absurd h1 (by simp)⟩
   rw [zca set _ h]
   simp only [tot_some, Bool.not_eq_true', Bool.not_eq_false']
   refine ⟨fun h2 => ?_, fun h2 => ⟨by simp; omega, ⟨?_, ?_⟩, ?_⟩⟩
   . rw [<- he]; simp [h2]
   . simp at hr ⊢; omega
   . rw [<- he]; simp [h2]
   . simp
open Go
theorem zrv {set : List Bool} {c d : UInt8} (h : set.length = 256) : yC (set.set c.toNat true) d = (decide (d = c) || yC set d) := by
 have hc : c.toNat < 256 := c.toNat_lt
 unfold yC
 rw [List.getD_eq_getElem?_getD, List.getD_eq_getElem?_getD, List.getElem?_set]
 by_cases e : c.toNat = d.toNat
 . have : d = c := (UInt8.toNat_inj.1 e).symm
   subst this
   simp [h, hc]
 . have : d ≠ c := fun e' => e (by rw [e'])
   simp [e, this]
theorem zee (cs : List UInt8) (h : ∀ c ∈ cs, c.toNat < 128) (hs : cs.length <= 1000000000) : Tot (Fz5 cs) fun r => r.2 = true /\ r.1.length = 256 /\ ∀ d, yC r.1 d = decide (d ∈ cs) := by
 unfold Fz5
 simp only [zy]
 refine Tot.count cs.length (fun k s => s.1 = (k : Int) /\ s.2.length = 256 /\ ∀ d, yC s.2 d = decide (d ∈ cs.take k)) ?_ ⟨rfl, List.length_replicate, fun d => ?_⟩
 . rintro k ⟨i, set⟩ hk ⟨h0, h1, h2⟩
   simp only at h0 h1 h2
   subst h0
   simp only [tot_some, zH, zY, qD, qK, Sum.elim_inl, Sum.elim_inr, decide_eq_true_eq, decide_eq_false_iff_not, Int.toNat_natCast]
   refine ⟨fun hlt => ⟨by omega, _, List.getElem?_eq_getElem (by omega), fun h3 => ?_, fun h3 => ?_⟩, fun hlt => ?_⟩
   . have := h cs[k] (List.getElem_mem _)
     omega
   . have hc : cs[k].toNat < 256 := (cs[k]'(by omega)).toNat_lt
     refine ⟨⟨by omega, by omega⟩, by omega, _, List.getElem?_eq_getElem (by omega), ?_⟩
     rw [w64 (by omega) (by omega)]
     refine ⟨by omega, by omega, by simpa using h1, fun d => ?_⟩
     have hm : d ∈ cs.take (k + 1) ↔ d ∈ cs.take k \/ d = cs[k] := by
      rw [List.take_add_one, List.getElem?_eq_getElem (by omega), List.mem_append]
      simp
     rw [zrv h1, h2, Bool.eq_iff_iff]
     simp only [Bool.or_eq_true, decide_eq_true_eq, hm]
     exact or_comm
   . refine ⟨trivial, h1, fun d => ?_⟩
     rw [h2, List.take_of_length_le (by omega)]
 . unfold yC
   rw [List.getD_eq_getElem?_getD, List.getElem?_replicate]
   split <;> simp
theorem zrf (s cs : List UInt8) (h : ∀ c ∈ cs, c.toNat < 128) (h1 : 2 <= cs.length) (hs : cs.length <= 1000000000) (hl : s.length <= 1000000000) :
 zpe s cs = some ((xP (fun c => decide (c ∈ cs)) s).dropWhile (fun c => decide (c ∈ cs))) := by
 unfold zpe
 have e0 : (ByteArray.mk #[]).data.toList = [] := rfl
 simp only [e0]
 cases s with
 | nil => simp [xP]
 | cons a r =>
   have e1 : decide (a :: r = []) = false := by simp
   have e2 : decide (cs = []) = false := by cases cs <;> simp at h1 ⊢
   have e3 : decide ((cs.length : Int) = 1) = false := by simp; omega
   simp only [e1, e2, e3, cond_false]
   obtain ⟨x, hx, hx1, hx2, hx3⟩ := zee cs h hs
   have e4 : yC x.1 = fun c => decide (c ∈ cs) := funext hx3
   rw [hx]
   simp only [Option.bind_some, hx1, cond_true]
   rw [zcf _ _ hx2 hl]
   simp only [Option.bind_some]
   rw [zcr _ _ hx2 (by
    refine Nat.le_trans ?_ hl
    unfold xP
    rw [List.length_reverse]
    refine Nat.le_trans (List.dropWhile_sublist _).length_le (by simp))]
   rw [e4]
   rfl
def zww : List UInt8 := [97, 98, 99, 100, 101, 102, 103, 104, 105, 106, 107, 108, 109, 110, 111, 112, 113, 114, 115, 116, 117, 118, 119, 120, 121, 122, 48, 49, 50, 51, 52, 53, 54, 55, 56, 57, 45]
def zjl (s : List UInt8) : Bool := decide (s.length <= 16) && (match s with | [] => false | c :: _ => decide (97 <= c.toNat) && decide (c.toNat <= 122)) && s.all fun c => decide (c ∈ zww)
theorem zja (s : List UInt8) (hl : s.length <= 1000000000) : zqd s = some (zjl s) := by
 unfold zqd
 have e0 : (ByteArray.mk #[]).data.toList = [] := rfl
 simp only [e0]
 rw [zrf s _ (by decide) (by decide) (by decide) hl]
 cases s with
 | nil => rfl
 | cons a r =>
   have e1 : decide (a :: r = []) = false := by simp
   simp only [e1, cond_false, Option.bind_some]
   have e5 : zi (a :: r) 0 = fun f => (f a : Option Bool) := rfl
   simp only [e5]
   unfold zjl
   by_cases h1 : (16 : Int) < ((a :: r).length : Int)
   . have : ¬ (a :: r).length <= 16 := by omega
     simp only [h1, decide_true, cond_true, this, decide_false, Bool.false_and]
   . have h1' : (a :: r).length <= 16 := by omega
     simp only [h1, decide_false, cond_false, h1', decide_true, Bool.true_and]
     by_cases h2 : (a.toNat : Int) < 97
     . have : ¬ 97 <= a.toNat := by omega
       simp only [h2, decide_true, cond_true, this, decide_false, Bool.false_and]
     . have h2' : 97 <= a.toNat := by omega
       simp only [h2, decide_false, cond_false, h2', decide_true, Bool.true_and]
       by_cases h3 : (122 : Int) < (a.toNat : Int)
       . have : ¬ a.toNat <= 122 := by omega
         simp only [h3, decide_true, cond_true, this, decide_false, Bool.false_and]
       . have h3' : a.toNat <= 122 := by omega
         simp only [h3, decide_false, cond_false, h3', decide_true, Bool.true_and]
         congr 1
         rw [Bool.eq_iff_iff, decide_eq_true_eq, zso, List.all_eq_true]
         rfl
open Go
theorem zy2 : ∀ u : Fin 256, ∀ b : Fin 9, bits .and .u8 (Int.fdiv (u.val : Int) (2 ^ min b.val (IntKind.bits .u8))) 1 = if Nat.testBit u b then 1 else 0 := by decide +kernel
theorem zby {u : Int} {b : Nat} (h0 : 0 <= u) (h1 : u < 256) (hb : b <= 8) : bits .and .u8 (Int.fdiv u (2 ^ min b (IntKind.bits .u8))) 1 = if u.toNat.testBit b then 1 else 0 := by
 have := zy2 ⟨u.toNat, by omega⟩ ⟨b, by omega⟩
 simp only at this
 rw [Int.toNat_of_nonneg h0] at this
 exact this
theorem xD {u : Int} (h0 : 0 <= u) : BitVec.ofInt 8 u = BitVec.ofNat 8 u.toNat := by
 conv => lhs; rw [<- Int.toNat_of_nonneg h0]
 exact BitVec.ofInt_natCast 8 u.toNat
theorem zhq {n : Nat} (h : n < 256) : IntKind.wrap .u8 (n : Int) = n := by
 simp only [IntKind.wrap, IntKind.signed, IntKind.bits, Bool.false_and]
 have h3 : (2 : Int) ^ 8 = 256 := by decide
 simp only [h3]
 have : (n : Int) % 256 = n := by omega
 simp [this]
theorem zbc {a b : Int} (ha : 0 <= a) (ha' : a < 256) (hb : 0 <= b) (hb' : b < 256) : bits .and .u8 a b = ((a.toNat &&& b.toNat : Nat) : Int) := by
 have e : bits .and .u8 a b = IntKind.wrap .u8 ((BitVec.ofInt 8 a &&& BitVec.ofInt 8 b).toNat : Int) := rfl
 rw [e, xD ha, xD hb]
 rw [zhq (BitVec.isLt _)]
 rw [BitVec.toNat_and, BitVec.toNat_ofNat, BitVec.toNat_ofNat, Nat.mod_eq_of_lt (by omega), Nat.mod_eq_of_lt (by omega)]
theorem zn9 {a b : Int} (ha : 0 <= a) (ha' : a < 256) (hb : 0 <= b) (hb' : b < 256) : bits .or .u8 a b = ((a.toNat ||| b.toNat : Nat) : Int) := by
 have e : bits .or .u8 a b = IntKind.wrap .u8 ((BitVec.ofInt 8 a ||| BitVec.ofInt 8 b).toNat : Int) := rfl
 rw [e, xD ha, xD hb]
 rw [zhq (BitVec.isLt _)]
 rw [BitVec.toNat_or, BitVec.toNat_ofNat, BitVec.toNat_ofNat, Nat.mod_eq_of_lt (by omega), Nat.mod_eq_of_lt (by omega)]
theorem zav {a b : Int} (ha : 0 <= a) (ha' : a < 256) (hb : 0 <= b) (hb' : b < 256) : bits .andNot .u8 a b = 0 ↔ ∀ i, a.toNat.testBit i = true -> b.toNat.testBit i = true := by
 have e : bits .andNot .u8 a b = IntKind.wrap .u8 ((BitVec.ofInt 8 a &&& ~~~BitVec.ofInt 8 b).toNat : Int) := rfl
 rw [e, xD ha, xD hb]
 rw [zhq (BitVec.isLt _)]
 have hbit : ∀ i, (BitVec.ofNat 8 a.toNat &&& ~~~BitVec.ofNat 8 b.toNat).getLsbD i = (decide (i < 8) && a.toNat.testBit i && !(b.toNat.testBit i)) := by
  intro i
  rw [BitVec.getLsbD_and, BitVec.getLsbD_not, BitVec.getLsbD_ofNat, BitVec.getLsbD_ofNat]
  cases decide (i < 8) <;> simp
 have h8 : ∀ i, a.toNat.testBit i = true -> i < 8 := by
  intro i hi
  rcases Nat.lt_or_ge i 8 with g | g
  . exact g
  . rw [Nat.testBit_lt_two_pow (Nat.lt_of_lt_of_le (show a.toNat < 2 ^ 8 by omega) (Nat.pow_le_pow_right (by omega) g))] at hi
    cases hi
 constructor
 . intro h i hi
   have h0 : (BitVec.ofNat 8 a.toNat &&& ~~~BitVec.ofNat 8 b.toNat).toNat = 0 := Int.ofNat_eq_zero.1 h
   have h1 := hbit i
   rw [<- BitVec.testBit_toNat, h0, Nat.zero_testBit] at h1
   have := h8 i hi
   simp [this, hi] at h1
   exact h1
 . intro h
   have h1 : (BitVec.ofNat 8 a.toNat &&& ~~~BitVec.ofNat 8 b.toNat).toNat = 0 := by
    apply Nat.eq_of_testBit_eq
    intro i
    rw [BitVec.testBit_toNat, hbit i, Nat.zero_testBit]
    cases hi : a.toNat.testBit i with
    | false => simp
    | true => simp [h i hi]
   rw [h1]; rfl
theorem zf3 {a b : Nat} (h : a < 256) : a &&& b < 256 := Nat.lt_of_le_of_lt Nat.and_le_left h
theorem zzj {a b : Nat} (h : a < 256) (k : b < 256) : a ||| b < 256 := Nat.or_lt_two_pow (n := 8) h k
theorem zmu (ns : List (List UInt8)) (h : ns.length <= 20) (hn : ∀ s ∈ ns, s.length <= 1000) : Tot (zha ns) fun r => r.2 = 0 -> 1 <= ns.length /\ ns.length <= 8 := by
 unfold zha
 simp only [zH, tot_some, zy, List.length_map, decide_eq_true_eq, decide_eq_false_iff_not]
 refine ⟨fun _ h => absurd h (by decide), fun h1 => ⟨fun _ h => absurd h (by decide), fun h2 => ?_⟩⟩
 refine Tot.count ns.length (fun k s => s = (k : Int)) ?_ rfl
 rintro k _ hk rfl
 simp only [tot_some, zH, zY, qD, qK, zy, Sum.elim_inl, Sum.elim_inr, decide_eq_true_eq, decide_eq_false_iff_not, Int.toNat_natCast]
 refine ⟨fun hlt => ⟨by omega, _, List.getElem?_eq_getElem (by omega), ?_⟩, fun hlt => fun _ => by omega⟩
 rw [zja _ (by have := hn ns[k] (List.getElem_mem _); omega), tot_some]
 refine ⟨fun _ h => absurd h (by decide), fun _ => ⟨⟨by omega, by omega⟩, ?_⟩⟩
 rw [jN _ _ (by simp; omega), tot_some]
 refine ⟨fun _ h => absurd h (by decide), fun _ => ?_⟩
 rw [w64 (by omega) (by omega)]
 exact ⟨by omega, by omega⟩
open Go
def U8s (l : List Int) : Prop := ∀ x ∈ l, 0 <= x /\ x < 256
theorem U8s.get {l : List Int} (h : U8s l) {i : Nat} {x : Int} (hx : l[i]? = some x) : 0 <= x /\ x < 256 := h x (List.mem_of_getElem? hx)
theorem U8s.set {l : List Int} (h : U8s l) {i : Nat} {x : Int} (h0 : 0 <= x) (h1 : x < 256) : U8s (l.set i x) := by
 intro y hy
 rcases List.mem_or_eq_of_mem_set hy with g | g
 . exact h y g
 . subst g; exact ⟨h0, h1⟩
theorem zl6 {e : Int} : 0 <= IntKind.wrap .u8 e /\ IntKind.wrap .u8 e < 256 := by
 simp only [IntKind.wrap, IntKind.signed, IntKind.bits, Bool.false_and]
 have h3 : (2 : Int) ^ 8 = 256 := by decide
 simp only [h3]
 refine ⟨?_, ?_⟩ <;> simp <;> omega
theorem orU {a b : Int} (ha : 0 <= a) (ha' : a < 256) (hb : 0 <= b) (hb' : b < 256) : 0 <= bits .or .u8 a b /\ bits .or .u8 a b < 256 := by
 rw [zn9 ha ha' hb hb']
 have := zzj (a := a.toNat) (b := b.toNat) (by omega) (by omega)
 omega
theorem zN {α : Type} {l : List α} {i : Nat} (h : i < l.length) : ∃ x, l[i]? = some x := ⟨_, List.getElem?_eq_getElem h⟩
theorem ztc (l : TL) (hu : U8s l.Up) (hn : l.Names.length <= 8) (hl : l.Up.length <= 8) :
 Tot (zeq l) fun o => o.n_ = l.Names.length /\ o.up_.length = 8 /\ o.down_.length = 8 /\ U8s o.up_ /\ U8s o.down_ := by
 unfold zeq
 simp only [zy, List.length_map]
 refine Tot.count l.Up.length (fun k s => s.1 = (k : Int) /\ s.2.1.length = 8 /\ s.2.2.length = 8 /\ U8s s.2.1 /\ U8s s.2.2) ?_ ⟨rfl, rfl, rfl, by intro x hx; simp at hx; omega, by intro x hx; simp at hx; omega⟩
 rintro k ⟨i, up, down⟩ hk ⟨h0, h1, h2, h3, h4⟩
 simp only at h0 h1 h2 h3 h4
 subst h0
 simp only [tot_some, zH, zY, qD, qK, zy, Sum.elim_inl, Sum.elim_inr, decide_eq_true_eq, decide_eq_false_iff_not, Int.toNat_natCast]
 refine ⟨fun hlt => ?_, fun hlt => ⟨trivial, h1, h2, h3, h4⟩⟩
 obtain ⟨x, hx⟩ := zN (l := l.Up) (i := k) (by omega)
 obtain ⟨y, hy⟩ := zN (l := up) (i := k) (by omega)
 refine ⟨by omega, x, hx, ⟨by omega, by omega⟩, by omega, y, hy, ?_⟩
 have hx' := hu.get hx
 refine Tot.count l.Names.length (fun j s => s.1 = (j : Int) /\ s.2.length = 8 /\ U8s s.2) ?_ ⟨rfl, h2, h4⟩
 rintro j ⟨i', d⟩ hj ⟨g0, g1, g2⟩
 simp only at g0 g1 g2
 subst g0
 simp only [tot_some, zH, zY, qD, qK, zy, Sum.elim_inl, Sum.elim_inr, decide_eq_true_eq, decide_eq_false_iff_not, Int.toNat_natCast]
 refine ⟨fun hlt' => ?_, fun _ => ?_⟩
 . obtain ⟨z, hz⟩ := zN (l := d) (i := j) (by omega)
   have hz' := g2.get hz
   rw [w64 (by omega) (by omega)]
   refine ⟨⟨by omega, by omega⟩, by omega, z, hz, by omega, by omega, ⟨by omega, by omega⟩, by omega, z, hz, by omega, by omega, by simpa using g1, ?_⟩
   have hw := zl6 (e := bits .and .u8 (Int.fdiv x (2 ^ min j (IntKind.bits .u8))) 1 * 2 ^ min k (IntKind.bits .u8))
   have ho := orU hz'.1 hz'.2 hw.1 hw.2
   exact g2.set ho.1 ho.2
 . rw [w64 (by omega) (by omega)]
   exact ⟨by omega, by omega, by simpa using h1, g1, h3.set hx'.1 hx'.2, g2⟩
theorem zao (m : List Int) (n : Nat) (a b : Nat) (hm : m.length = 8) (hu : U8s m) (hn : n <= 8) (ha : a < n) (hb : b < n) : Tot (zh6 m n a b) fun _ => True := by
 unfold zh6
 obtain ⟨x, hx⟩ := zN (l := m) (i := a) (by omega)
 obtain ⟨y, hy⟩ := zN (l := m) (i := b) (by omega)
 simp only [tot_some, zH, zY, qD, qK, zy, Int.toNat_natCast]
 refine ⟨⟨by omega, by omega⟩, by omega, x, hx, ⟨by omega, by omega⟩, by omega, y, hy, ?_⟩
 refine Tot.count n (fun k s => s = (k : Int)) ?_ rfl
 rintro k _ hk rfl
 simp only [tot_some, zH, zY, qD, qK, zy, Sum.elim_inl, Sum.elim_inr, decide_eq_true_eq, decide_eq_false_iff_not, Int.toNat_natCast]
 refine ⟨fun hlt => ⟨by omega, fun _ => ?_, fun _ => ?_⟩, fun _ => trivial⟩
 . obtain ⟨z, hz⟩ := zN (l := m) (i := k) (by omega)
   rw [w64 (by omega) (by omega)]
   exact ⟨⟨by omega, by omega⟩, by omega, z, hz, fun _ => trivial, fun _ => ⟨by omega, by omega⟩⟩
 . rw [w64 (by omega) (by omega)]
   exact ⟨by omega, by omega⟩
theorem zeb (m : List Int) (n : Nat) (a b : Nat) (hm : m.length = 8) (hu : U8s m) (hn : n <= 8) (ha : a < n) (hb : b < n) : Tot (zp4 m n a b) fun _ => True := zao m n a b hm hu hn ha hb
theorem zo7 (x : Int) (h0 : 0 <= x) (h1 : x < 256) : Tot (zhu x) fun _ => True := by
 unfold zhu
 rw [qD]
 refine ⟨h0, ?_⟩
 have key : ∀ l : List UInt8, l.length = 256 -> ∃ y, l[x.toNat]? = some y /\ Tot (zg (IntKind.wrap .i64 (y.toNat : Int)) fun z => some z) fun _ => True := by
  intro l hl
  obtain ⟨y, hy⟩ := zN (l := l) (i := x.toNat) (by omega)
  exact ⟨y, hy, .mk trivial⟩
 exact key _ (by decide +kernel)
def up (l : TL) (a b : Nat) : Bool := (l.Up.getD a 0).toNat.testBit b
def xK (l : TL) (a b : Nat) : Prop := up l a b = true -> (b ≠ a -> up l b a = false) /\ ∀ i, i < l.Names.length -> up l b i = true -> up l a i = true
structure LatOK (l : TL) : Prop where
 pos : 1 <= l.Names.length
 le : l.Names.length <= 8
 len : l.Up.length = l.Names.length
 u8 : U8s l.Up
 self : ∀ a, a < l.Names.length -> up l a a = true
 row : ∀ a, a < l.Names.length -> ∀ b, b < l.Names.length -> xK l a b
theorem jz {l : TL} {a : Nat} {x : Int} (h : l.Up[a]? = some x) (b : Nat) : up l a b = x.toNat.testBit b := by
 unfold up; rw [List.getD_eq_getElem?_getD, h]; rfl
theorem zk9 (n : Nat) (h : n <= 8) (i : Nat) : (IntKind.wrap .u8 (IntKind.wrap .u8 (1 * 2 ^ min n (IntKind.bits .u8)) - 1)).toNat.testBit i = decide (i < n) := by
 have key : ∀ n : Fin 9, (IntKind.wrap .u8 (IntKind.wrap .u8 (1 * 2 ^ min n.val (IntKind.bits .u8)) - 1)).toNat = 2 ^ n.val - 1 := by decide +kernel
 rw [key ⟨n, by omega⟩]
 exact Nat.testBit_two_pow_sub_one n i
theorem zi4 (l : TL) (hu : U8s l.Up) (hn : l.Names.length <= 20) (hs : ∀ s ∈ l.Names, s.length <= 1000) : Tot (zax l) fun r => r.2 = 0 -> LatOK l := by
 unfold zax
 simp only [zy, List.length_map]
 refine (zmu l.Names hn hs).mono fun x53 h53 => ?_
 simp only [zH, tot_some, Bool.not_eq_true', Bool.not_eq_false', decide_eq_true_eq, decide_eq_false_iff_not]
 refine ⟨fun h h' => absurd h' h, fun h => ⟨fun _ h' => absurd h' (by decide), fun hlen => ?_⟩⟩
 obtain ⟨p1, p8⟩ := h53 h
 have hlen' : l.Up.length = l.Names.length := by omega
 rw [qK, zY, zY, zy]
 refine ⟨by omega, ?_⟩
 rw [Int.toNat_natCast]
 have hmask := zk9 l.Names.length p8
 have hm0 := zl6 (e := IntKind.wrap .u8 (1 * 2 ^ min l.Names.length (IntKind.bits .u8)) - 1)
 revert hmask hm0
 generalize IntKind.wrap .u8 (IntKind.wrap .u8 (1 * 2 ^ min l.Names.length (IntKind.bits .u8)) - 1) = mask
 intro hmask hm0
 refine Tot.count l.Names.length (fun k s => s = (k : Int) /\ (∀ a, a < k -> up l a a = true) /\ ∀ a, a < k -> ∀ b, b < l.Names.length -> xK l a b) ?_ ⟨rfl, fun a ha => absurd ha (by omega), fun a ha => absurd ha (by omega)⟩
 rintro k _ hk ⟨rfl, hself, hrow⟩
 simp only [zH, tot_some, zY, Sum.elim_inl, Sum.elim_inr, decide_eq_true_eq, decide_eq_false_iff_not]
 refine ⟨fun hlt => ?_, fun hlt => ?_⟩
 . -- a round
   simp only [qD, Int.toNat_natCast]
   obtain ⟨x, hx⟩ := zN (l := l.Up) (i := k) (by omega)
   have hx' := hu.get hx
   refine ⟨by omega, x, hx, ?_⟩
   rw [zy]
   refine (zo7 x hx'.1 hx'.2).mono fun x91 _ => ?_
   simp only [zH, tot_some, qK, Sum.elim_inl, Sum.elim_inr, decide_eq_true_eq, decide_eq_false_iff_not, Int.toNat_natCast]
   refine ⟨fun _ h' => absurd h' (by decide), fun _ => ⟨by omega, fun _ h' => absurd h' (by decide), fun hs => ?_⟩⟩
   rw [zby hx'.1 hx'.2 (by omega), <- jz hx] at hs
   have hkk : up l k k = true := by
    cases e : up l k k with
    | true => rfl
    | false => rw [e] at hs; simp at hs
   rw [zy]
   refine Tot.count l.Names.length (fun j s => s = (j : Int) /\ ∀ b, b < j -> xK l k b) ?_ ⟨rfl, fun b hb => absurd hb (by omega)⟩
   rintro j _ hj ⟨rfl, hr⟩
   have fin : (∀ b, b < l.Names.length -> xK l k b) -> k < l.Names.length /\ IntKind.wrap .i64 ((k : Int) + 1) = ((k + 1 : Nat) : Int) /\ (∀ a, a < k + 1 -> up l a a = true) /\ ∀ a, a < k + 1 -> ∀ b, b < l.Names.length -> xK l a b := by
    intro hall
    rw [w64 (by omega) (by omega)]
    refine ⟨by omega, by omega, fun a ha => ?_, fun a ha => ?_⟩
    . rcases Nat.lt_or_ge a k with g | g
      . exact hself a g
      . have : a = k := by omega
        subst this; exact hkk
    . rcases Nat.lt_or_ge a k with g | g
      . exact hrow a g
      . have : a = k := by omega
        subst this; exact hall
   have ext : ∀ {b}, xK l k j -> b < j + 1 -> xK l k b := by
    intro b h hb
    rcases Nat.lt_or_ge b j with g | g
    . exact hr b g
    . have : b = j := by omega
      subst this; exact h
   simp only [zH, tot_some, zY, qK, Sum.elim_inl, Sum.elim_inr, decide_eq_true_eq, decide_eq_false_iff_not, Bool.not_eq_true', Bool.not_eq_false', Int.toNat_natCast]
   refine ⟨fun hjl => ?_, fun hjl => ?_⟩
   . simp only [qD, Int.toNat_natCast]
     obtain ⟨y, hy⟩ := zN (l := l.Up) (i := j) (by omega)
     have hy' := hu.get hy
     refine ⟨by omega, y, hy, ?_⟩
     simp only [zH, tot_some, zY, qK, Sum.elim_inl, Sum.elim_inr, decide_eq_true_eq, decide_eq_false_iff_not, Bool.not_eq_true', Bool.not_eq_false', Int.toNat_natCast]
     rw [zby hx'.1 hx'.2 (by omega), <- jz hx]
     rw [w64 (e := (l.Names.length : Int) - 1) (by omega) (by omega)]
     have stay : xK l k j -> ((j : Int) = (l.Names.length : Int) - 1 -> k < l.Names.length /\ IntKind.wrap .i64 ((k : Int) + 1) = ((k + 1 : Nat) : Int) /\ (∀ a, a < k + 1 -> up l a a = true) /\ ∀ a, a < k + 1 -> ∀ b, b < l.Names.length -> xK l a b) /\ (¬ (j : Int) = (l.Names.length : Int) - 1 -> j < l.Names.length /\ IntKind.wrap .i64 ((j : Int) + 1) = ((j + 1 : Nat) : Int) /\ ∀ b, b < j + 1 -> xK l k b) := by
      intro hrow'
      refine ⟨fun e => fin fun b hb => ext hrow' (by omega), fun e => ?_⟩
      rw [w64 (by omega) (by omega)]
      exact ⟨by omega, by omega, fun b hb => ext hrow' hb⟩
     refine ⟨by omega, fun hb => ?_, fun hb => ⟨fun hne => ⟨by omega, fun _ h' => absurd h' (by decide), fun hba => ⟨fun _ h' => absurd h' (by decide), fun han => ?_⟩⟩, fun heq => ⟨fun _ h' => absurd h' (by decide), fun han => ?_⟩⟩⟩
     . refine stay fun hup => ?_
       rw [hup] at hb; simp at hb
     . refine stay fun _ => ⟨fun _ => ?_, fun i hi hyi => ?_⟩
       . rw [zby hy'.1 hy'.2 (by omega), <- jz hy] at hba
         cases e : up l j k with
         | false => rfl
         | true => rw [e] at hba; simp at hba
       . rw [zbc hy'.1 hy'.2 hm0.1 hm0.2] at han
         have hand := zf3 (a := y.toNat) (b := mask.toNat) (by omega)
         have := (zav (by omega) (by omega) hx'.1 hx'.2).1 han i (by
          rw [Int.toNat_natCast, Nat.testBit_and, hmask, <- jz hy, hyi]; simp [hi])
         rw [jz hx]; exact this
     . refine stay fun _ => ⟨fun hne => absurd (by omega) hne, fun i hi hyi => ?_⟩
       rw [zbc hy'.1 hy'.2 hm0.1 hm0.2] at han
       have hand := zf3 (a := y.toNat) (b := mask.toNat) (by omega)
       have := (zav (by omega) (by omega) hx'.1 hx'.2).1 han i (by
        rw [Int.toNat_natCast, Nat.testBit_and, hmask, <- jz hy, hyi]; simp [hi])
       rw [jz hx]; exact this
   . exact fin fun b hb => hr b (by omega)
 . -- the end
   have hk' : k = l.Names.length := by omega
   subst hk'
   have good : LatOK l := ⟨p1, p8, hlen', hu, hself, hrow⟩
   rw [zy]
   refine (ztc l hu p8 (by omega)).mono fun o ho => ?_
   obtain ⟨_, o1, o2, o3, o4⟩ := ho
   rw [zy]
   refine Tot.count l.Names.length (fun j s => s = (j : Int)) ?_ rfl
   rintro j _ hj rfl
   simp only [zH, tot_some, zY, zy, Sum.elim_inl, Sum.elim_inr, decide_eq_true_eq, decide_eq_false_iff_not]
   refine ⟨fun hlt => ?_, fun _ _ => good⟩
   refine Tot.count l.Names.length (fun i s => s = (i : Int)) ?_ rfl
   rintro i _ hi rfl
   simp only [zH, tot_some, zY, zy, Sum.elim_inl, Sum.elim_inr, decide_eq_true_eq, decide_eq_false_iff_not]
   refine ⟨fun hlt' => ?_, fun _ => ?_⟩
   . refine (zao _ _ _ _ o1 o3 p8 (by omega) (by omega)).mono fun b1 _ => ⟨fun _ h' => absurd h' (by decide), fun _ => ?_⟩
     refine (zeb _ _ _ _ o2 o4 p8 (by omega) (by omega)).mono fun b2 _ => ⟨fun _ h' => absurd h' (by decide), fun _ => ?_⟩
     rw [w64 (by omega) (by omega)]
     exact ⟨by omega, by omega⟩
   . rw [w64 (by omega) (by omega)]
     exact ⟨by omega, by omega⟩
end Go.Sx.O
noncomputable section
namespace Go.Sx.O
open Go
structure LatIn (l : TL) : Prop where
 u8 : U8s l.Up
 names : l.Names.length <= 20
 name : ∀ s ∈ l.Names, s.length <= 1000
def qW (l : TL) : Int × Int := (zax l).getD (0, 0)
theorem zbt {l : TL} (h : LatIn l) : zax l = some (qW l) := by
 obtain ⟨r, e, _⟩ := zi4 l h.u8 h.names h.name
 unfold qW; rw [e]; rfl
theorem jo {l : TL} (h : LatIn l) (k : (qW l).2 = 0) : LatOK l := by
 obtain ⟨r, e, q⟩ := zi4 l h.u8 h.names h.name
 have := zbt h
 rw [e] at this; cases this
 exact q k
def yi (l : TL) (a : Int) : Bool := decide (0 <= a) && decide (a < (l.Names.length : Int))
def zug (l : TL) (xs : List Int) : Int := if (qW l).2 = 0 then (if xs.all (yi l) then 0 else 7) else (qW l).2
theorem zmv {l : TL} (h : LatIn l) (xs : List Int) (hx : xs.length <= 1000000000) : zp0 l xs = some (zug l xs) := by
 unfold zp0 zug
 rw [zbt h]
 simp only [Option.bind_some]
 by_cases h0 : (qW l).2 = 0
 . simp only [h0, decide_true, Bool.not_true, cond_false, if_true]
   apply Tot.eq
   simp only [zy, List.length_map]
   refine Tot.count xs.length (fun k s => s = (k : Int) /\ (xs.take k).all (yi l) = true) ?_ ⟨rfl, by simp⟩
   rintro k _ hk ⟨rfl, hall⟩
   simp only [zH, tot_some, zY, qD, Sum.elim_inl, Sum.elim_inr, decide_eq_true_eq, decide_eq_false_iff_not, Int.toNat_natCast]
   refine ⟨fun hlt => ?_, fun hlt => ?_⟩
   . obtain ⟨x, hx'⟩ := zN (l := xs) (i := k) (by omega)
     have hm := List.mem_of_getElem? hx'
     have bad : yi l x = false -> (7 : Int) = if xs.all (yi l) = true then 0 else 7 := by
      intro e
      have : xs.all (yi l) = false := by
       rw [List.all_eq_false]; exact ⟨x, hm, by simp [e]⟩
      simp [this]
     refine ⟨by omega, x, hx', fun g => bad (by unfold yi; simp; omega), fun g1 => ⟨fun g => bad (by unfold yi; simp; omega), fun g2 => ?_⟩⟩
     rw [w64 (by omega) (by omega)]
     refine ⟨by omega, by omega, ?_⟩
     rw [List.take_add_one, hx', List.all_append, hall]
     simp [yi]; omega
   . rw [List.take_of_length_le (by omega)] at hall
     simp [hall]
 . simp only [h0, decide_false, Bool.not_false, cond_true, if_false]
def zs5 (l : TL) (a o : Int) : Bool := decide ((qW l).2 = 0) && yi l a && yi l o && up l a.toNat o.toNat
end Go.Sx.O
end
namespace Go.Sx.O
open Go
theorem zaq (x : Int) : Tot (zcx x) fun _ => True := by
 unfold zcx
 simp only [zH, tot_some, implies_true, and_self]
open Go
theorem zid {l : List UInt8} {c : UInt8} (h : c ∉ l) : Lib.indexByte l c = -1 := by
 induction l with
 | nil => rfl
 | cons a l ih =>
   simp only [List.mem_cons, not_or] at h
   have : (a == c) = false := by simp; exact fun e => h.1 e.symm
   simp [Lib.indexByte, this, ih h.2]
theorem zrm {r : Int} (h0 : 128 <= r) (h1 : r < 256) : ∃ x y, (Utf8.encode r).data.toList = [x, y] /\ 128 <= y.toNat := by
 refine ⟨UInt8.ofNat (0xC0 + r.toNat / 64), UInt8.ofNat (0x80 + r.toNat % 64), ?_, ?_⟩
 . have hv : Utf8.valid r = true := by unfold Utf8.valid; simp; omega
   unfold Utf8.encode
   simp only [hv, if_true]
   rw [if_neg (by omega), if_pos (by omega)]
 . rw [UInt8.toNat_ofNat']; omega
theorem zgk (s : List UInt8) (r : Int) (hs : ∀ c ∈ s, c.toNat < 128) (hl : s.length <= 1000) (h0 : 0 <= r) (h1 : r < 256) : Tot (zg9 s r) fun _ => True := by
 unfold zg9
 have e0 : decide (0 <= r) = true := by simp [h0]
 simp only [e0, cond_true]
 rw [zH]
 refine ⟨fun _ => ?_, fun h2 => ?_⟩
 . rw [zY, zy]
   unfold zc2 qb
   simp only [Option.bind_some, tot_some]
 . simp only [decide_eq_false_iff_not] at h2
   obtain ⟨x, y, exy, hy⟩ := zrm (r := r) (by omega) h1
   have e1 : decide (r = 65533) = false := by simp; omega
   simp only [e1, cond_false, exy]
   rw [zy]
   refine (zaq r).mono fun v _ => ?_
   rw [zH]
   refine ⟨fun _ => .mk trivial, fun _ => ?_⟩
   rw [zY]
   have e2 : IntKind.wrap .i64 (((List.length [x, y] : Nat) : Int) - 1) = 1 := rfl
   rw [e2, zy]
   refine Tot.loop (fun _ => 0) (fun _ => True) (fun _ _ => ?_) trivial
   rw [zH]
   refine ⟨fun h3 => ?_, fun _ => ?_⟩
   . simp only [decide_eq_true_eq] at h3
     obtain ⟨c, hc⟩ := zN (l := s) (i := 1) (by omega)
     have hc' := hs c (List.mem_of_getElem? hc)
     have e3 : (1 : Int).toNat = 1 := rfl
     simp only [qD, e3]
     refine ⟨by omega, c, hc, by omega, y, rfl, ?_⟩
     have e4 : decide ((c.toNat : Int) = (y.toNat : Int)) = false := by simp; omega
     simp only [e4, Bool.not_false, cond_true]
     rw [zY]
     have e5 : IntKind.wrap .i64 (1 + 1) = 2 := rfl
     rw [e5, qK]
     refine ⟨by omega, ?_⟩
     simp only [qD, e3]
     refine ⟨by omega, y, rfl, ?_⟩
     unfold zc2 qb
     simp only [Option.bind_some]
     have hn : ((y.toNat : Int).toNat.toUInt8) = y := by simp
     rw [hn, zid (fun hm => by
      have := hs y (List.mem_of_mem_take (List.mem_of_mem_drop hm))
      omega)]
     have e6 : decide ((-1 : Int) < 0) = true := rfl
     simp only [e6, cond_true, tot_some, Sum.elim_inr]
   . simp only [tot_some, Sum.elim_inr, Sum.elim_inl]
theorem zc3 (s : List UInt8) (r : Int) (hs : ∀ c ∈ s, c.toNat < 128) (hl : s.length <= 1000) (h0 : 0 <= r) (h1 : r < 256) : Tot (xz s r) fun _ => True := by
 unfold xz
 rw [zy]
 exact (zgk s r hs hl h0 h1).mono fun _ _ => .mk trivial
theorem zku {r : Int} (h0 : 0 <= r) (h1 : r < 256) : IntKind.wrap .i32 r = r := by
 simp only [IntKind.wrap, IntKind.signed, IntKind.bits]
 have h3 : (2 : Int) ^ 32 = 4294967296 := by decide
 have h4 : (2 : Int) ^ (32 - 1) = 2147483648 := by decide
 simp only [h3, h4, Bool.true_and, decide_eq_true_eq, ge_iff_le]
 split <;> omega
end Go.Sx.O
