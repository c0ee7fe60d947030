/-
  An own text of this claim.
-/
import Derived.Test.YtbpoodgegepfjaaGreatDoorA8
import Derived.Lib.Bytealg
namespace Go.Sx.O
structure TR where
 s_ : List UInt8
 at_ : Int
def qb (x : TR) : SV := .agg [SV.str x.s_, (SV.int .i64) x.at_]
theorem zzb {p : Nat -> Prop} (x : TR) : (qb x).nmd p := ⟨trivial, trivial, trivial⟩
structure TF where
 low_ : Int
 high_ : Int
def zyj (x : TF) : SV := .agg [(SV.int .i64) x.low_, (SV.int .i64) x.high_]
theorem zCn {p : Nat -> Prop} (x : TF) : (zyj x).nmd p := ⟨trivial, trivial, trivial⟩
structure TL where
 Names : List (List UInt8)
 Up : List (Int)
def qx (x : TL) : SV := .agg [(zm 1 SV.str) x.Names, (zm 1 (SV.int .u8)) x.Up]
theorem zr9 {p : Nat -> Prop} (x : TL) : (qx x).nmd p := ⟨(yf fun _ => trivial), (yf fun _ => trivial), trivial⟩
structure TU where
 From : Int
 Goal : Int
 K : Int
def yb (x : TU) : SV := .agg [(SV.int .i64) x.From, (SV.int .i64) x.Goal, (SV.int .i64) x.K]
theorem zy0 {p : Nat -> Prop} (x : TU) : (yb x).nmd p := ⟨trivial, trivial, trivial, trivial⟩
structure TG where
 Lattice : TL
 bottom_ : Int
def zzf (x : TG) : SV := .agg [qx x.Lattice, (SV.int .i64) x.bottom_]
theorem zCo {p : Nat -> Prop} (x : TG) : (zzf x).nmd p := ⟨(zr9 _), trivial, trivial⟩
structure TK where
 Kind : Int
 From : Int
 To : Int
 N : Int
 S : List UInt8
def zT (x : TK) : SV := .agg [(SV.int .i64) x.Kind, (SV.int .i64) x.From, (SV.int .i64) x.To, (SV.int .i64) x.N, SV.str x.S]
theorem zCm {p : Nat -> Prop} (x : TK) : (zT x).nmd p := ⟨trivial, trivial, trivial, trivial, trivial, trivial⟩
structure Tlattice_order where
 n_ : Int
 up_ : List (Int)
 down_ : List (Int)
def qi (x : Tlattice_order) : SV := .agg [(SV.int .i64) x.n_, (wc 8 1 (SV.int .u8)) x.up_, (wc 8 1 (SV.int .u8)) x.down_]
theorem ztf {p : Nat -> Prop} (x : Tlattice_order) : (qi x).nmd p := ⟨trivial, (yf fun _ => trivial), (yf fun _ => trivial), trivial⟩
structure TY where
 Kind : Int
 Rank : Int
 Axes : (Int) × (Int)
 Data : Int
def jz (x : TY) : SV := .agg [(SV.int .i64) x.Kind, (SV.int .i64) x.Rank, (yq 1 (SV.int .i64)) x.Axes, (SV.int .i64) x.Data]
theorem zml {p : Nat -> Prop} (x : TY) : (jz x).nmd p := ⟨trivial, trivial, ⟨trivial, trivial, trivial⟩, trivial, trivial⟩
structure TA where
 Kind : Int
 Rank : Int
 Lens : (Int) × (Int)
 Cells : List (Int)
def zly (x : TA) : SV := .agg [(SV.int .i64) x.Kind, (SV.int .i64) x.Rank, (yq 1 (SV.int .i64)) x.Lens, (zm 1 (SV.int .i64)) x.Cells]
theorem ztd {p : Nat -> Prop} (x : TA) : (zly x).nmd p := ⟨trivial, trivial, ⟨trivial, trivial, trivial⟩, (yf fun _ => trivial), trivial⟩
structure TV where
 Name : List UInt8
 Type_ : TY
def yw (x : TV) : SV := .agg [SV.str x.Name, jz x.Type_]
theorem zzr {p : Nat -> Prop} (x : TV) : (yw x).nmd p := ⟨trivial, (zml _), trivial⟩
structure TW where
 Name : List UInt8
 Value : TA
def zs9 (x : TW) : SV := .agg [SV.str x.Name, zly x.Value]
theorem zzt {p : Nat -> Prop} (x : TW) : (zs9 x).nmd p := ⟨trivial, (ztd _), trivial⟩
structure TE where
 Site : Int
 Fold : Int
 From : Int
 Goal : Int
 Cells : Int
 Value : (Int) × (Int)
def zl (x : TE) : SV := .agg [(SV.int .i64) x.Site, (SV.int .i64) x.Fold, (SV.int .i64) x.From, (SV.int .i64) x.Goal, (SV.int .i64) x.Cells, (yq 1 (SV.int .i64)) x.Value]
theorem zyg {p : Nat -> Prop} (x : TE) : (zl x).nmd p := ⟨trivial, trivial, trivial, trivial, trivial, ⟨trivial, trivial, trivial⟩, trivial⟩
structure TEvEvent where
 Kind : Int
 Site : Int
 Steps : Int
 Label : Int
 Channel : List UInt8
 Value : TA
 E : Int
def zc0 (x : TEvEvent) : SV := .agg [(SV.int .i64) x.Kind, (SV.int .i64) x.Site, (SV.int .i64) x.Steps, (SV.int .i64) x.Label, SV.str x.Channel, zly x.Value, (SV.int .i64) x.E]
theorem zmv {p : Nat -> Prop} (x : TEvEvent) : (zc0 x).nmd p := ⟨trivial, trivial, trivial, trivial, trivial, (ztd _), trivial, trivial⟩
structure TP where
 Lattice : TL
 Channels : List (TR)
 Vars : List (TV)
 Rules : List (TU)
def qd (x : TP) : SV := .agg [qx x.Lattice, (zm 2 qb) x.Channels, (zm 6 yw) x.Vars, (zm 3 yb) x.Rules]
theorem zCq {p : Nat -> Prop} (x : TP) : (qd x).nmd p := ⟨(zr9 _), (yf fun _ => (zzb _)), (yf fun _ => (zzr _)), (yf fun _ => (zy0 _)), trivial⟩
structure Tinvigilatorlaw28_Types where
 V : TY
 Y : TY
 From : Int
 Goal : Int
 PC : Int
 EC : Int
 Lower : Int
 Top : Int
def xY (x : Tinvigilatorlaw28_Types) : SV := .agg [jz x.V, jz x.Y, (SV.int .i64) x.From, (SV.int .i64) x.Goal, (SV.int .i64) x.PC, (SV.int .i64) x.EC, (SV.int .i64) x.Lower, (SV.int .i64) x.Top]
theorem zix {p : Nat -> Prop} (x : Tinvigilatorlaw28_Types) : (xY x).nmd p := ⟨(zml _), (zml _), trivial, trivial, trivial, trivial, trivial, trivial, trivial⟩
structure TC where
 Events : List (TEvEvent)
 Log : List (TE)
 Vars : List (TW)
 Steps : Int
def zz1 (x : TC) : SV := .agg [(zm 11 zc0) x.Events, (zm 7 zl) x.Log, (zm 6 zs9) x.Vars, (SV.int .i64) x.Steps]
theorem zCp {p : Nat -> Prop} (x : TC) : (zz1 x).nmd p := ⟨(yf fun _ => (zmv _)), (yf fun _ => (zyg _)), (yf fun _ => (zzt _)), trivial, trivial⟩
end Go.Sx.O
noncomputable section
namespace Go.Sx.O
def qc (a0 : List UInt8) (a1 : Int) : Option Int := some (Go.Lib.indexByte a0 a1.toNat.toUInt8)
def zA9 : List Int := [0, 1, 2, 2, 3, 3, 3, 3, 4, 4, 4, 4, 4]
def zwo (a0 : Int) : Option Int := if 0 <= a0 then zA9[a0.toNat]? else none
def leK (x y : Int × Int × Int) : Bool := decide (x.1 < y.1) || decide (x.1 = y.1) && (decide (x.2.1 < y.2.1) || decide (x.2.1 = y.2.1) && decide (x.2.2 <= y.2.2))
def zhk (x : Int × Int × Int) : List (Int × Int × Int) -> List (Int × Int × Int)
 | [] => [x]
 | y :: r => if leK x y = true then x :: y :: r else y :: zhk x r
def sortK : List (Int × Int × Int) -> List (Int × Int × Int)
 | [] => []
 | x :: r => zhk x (sortK r)
end Go.Sx.O
end
namespace Go.Sx.O
open Go
def inK (k : IntKind) (n : Int) : Prop := k.min <= n /\ n <= k.max
def yX {α : Type} (W : α -> Prop) (l : List α) : Prop := ∀ x ∈ l, W x
def zCs {α : Type} (W : α -> Prop) (l : List α) : Prop := (∀ x ∈ l, W x) /\ l.length <= 9223372036854775807
def w2 {α : Type} (W : α -> Prop) (p : α × α) : Prop := W p.1 /\ W p.2
def w3 {α : Type} (W : α -> Prop) (p : α × α × α) : Prop := W p.1 /\ W p.2.1 /\ W p.2.2
def wN {α : Type} (n : Nat) (W : α -> Prop) (l : List α) : Prop := l.length = n /\ ∀ x ∈ l, W x
structure W_TR (x : TR) : Prop where
 s_ : (fun _ => True) x.s_
 at_ : (inK .i64) x.at_
structure W_TF (x : TF) : Prop where
 low_ : (inK .i64) x.low_
 high_ : (inK .i64) x.high_
structure W_TL (x : TL) : Prop where
 Names : (yX (fun _ => True)) x.Names
 Up : (yX (inK .u8)) x.Up
structure W_TU (x : TU) : Prop where
 From : (inK .i64) x.From
 Goal : (inK .i64) x.Goal
 K : (inK .i64) x.K
structure W_TG (x : TG) : Prop where
 Lattice : W_TL x.Lattice
 bottom_ : (inK .i64) x.bottom_
structure W_TK (x : TK) : Prop where
 Kind : (inK .i64) x.Kind
 From : (inK .i64) x.From
 To : (inK .i64) x.To
 N : (inK .i64) x.N
 S : (fun _ => True) x.S
structure W_Tlattice_order (x : Tlattice_order) : Prop where
 n_ : (inK .i64) x.n_
 up_ : (wN 8 (inK .u8)) x.up_
 down_ : (wN 8 (inK .u8)) x.down_
structure W_TY (x : TY) : Prop where
 Kind : (inK .i64) x.Kind
 Rank : (inK .i64) x.Rank
 Axes : (w2 (inK .i64)) x.Axes
 Data : (inK .i64) x.Data
structure W_TA (x : TA) : Prop where
 Kind : (inK .i64) x.Kind
 Rank : (inK .i64) x.Rank
 Lens : (w2 (inK .i64)) x.Lens
 Cells : (yX (inK .i64)) x.Cells
structure W_TV (x : TV) : Prop where
 Name : (fun _ => True) x.Name
 Type_ : W_TY x.Type_
structure W_TW (x : TW) : Prop where
 Name : (fun _ => True) x.Name
 Value : W_TA x.Value
structure W_TE (x : TE) : Prop where
 Site : (inK .i64) x.Site
 Fold : (inK .i64) x.Fold
 From : (inK .i64) x.From
 Goal : (inK .i64) x.Goal
 Cells : (inK .i64) x.Cells
 Value : (w2 (inK .i64)) x.Value
structure W_TEvEvent (x : TEvEvent) : Prop where
 Kind : (inK .i64) x.Kind
 Site : (inK .i64) x.Site
 Steps : (inK .i64) x.Steps
 Label : (inK .i64) x.Label
 Channel : (fun _ => True) x.Channel
 Value : W_TA x.Value
 E : (inK .i64) x.E
structure W_TP (x : TP) : Prop where
 Lattice : W_TL x.Lattice
 Channels : (yX W_TR) x.Channels
 Vars : (yX W_TV) x.Vars
 Rules : (yX W_TU) x.Rules
structure W_Tinvigilatorlaw28_Types (x : Tinvigilatorlaw28_Types) : Prop where
 V : W_TY x.V
 Y : W_TY x.Y
 From : (inK .i64) x.From
 Goal : (inK .i64) x.Goal
 PC : (inK .i64) x.PC
 EC : (inK .i64) x.EC
 Lower : (inK .i64) x.Lower
 Top : (inK .i64) x.Top
structure W_TC (x : TC) : Prop where
 Events : (yX W_TEvEvent) x.Events
 Log : (yX W_TE) x.Log
 Vars : (yX W_TW) x.Vars
 Steps : (inK .i64) x.Steps
end Go.Sx.O
noncomputable section
namespace Go.Sx.O
def Fz0 (b : List (List UInt8)) : Option (Bool) :=
 Option.bind (
 lpO (fun (a : Int) =>
 cond (decide (a < (↑(List.length (List.map SV.str b)) : Int)))
 (cond (decide (a < 20))
 (zh b a fun c =>
 cond (decide (100 < (↑(List.length c) : Int)))
 (some (.inr (.inr (true))))
 (zg (IntKind.wrap .i64 (a + 1)) fun d =>
 some (.inl d)))
 (some (.inr (.inl ()))))
 (some (.inr (.inl ())))) (0))
 (Sum.elim (fun (_ : Unit) =>
 some (decide (12 < (↑(List.length (List.map SV.str b)) : Int)))) some)
def Fz1 (a : TL) : Option (Bool) :=
 (Fz0 (a.Names)).bind fun b =>
 cond b
 (some (true))
 (some (decide (12 < (↑(List.length (List.map (SV.int .u8) a.Up)) : Int))))
def Fz2 (a : TP) : Option (Bool) :=
 Option.bind (
 lpO (fun (s3 : Int) =>
 cond (decide (s3 < (↑(List.length (List.map qb a.Channels)) : Int)))
 (cond (decide (s3 < 25))
 (zh (a.Channels) s3 fun g =>
 cond (decide (100 < (↑(List.length g.s_) : Int)))
 (some (.inr (.inr (true))))
 (zg (IntKind.wrap .i64 (s3 + 1)) fun c =>
 some (.inl c)))
 (some (.inr (.inl ()))))
 (some (.inr (.inl ())))) (0))
 (Sum.elim (fun (_ : Unit) =>
 Option.bind (
 lpO (fun (b : Int) =>
 cond (decide (b < (↑(List.length (List.map yw a.Vars)) : Int)))
 (cond (decide (b < 45))
 (zh (a.Vars) b fun d =>
 cond (decide (100 < (↑(List.length d.Name) : Int)))
 (some (.inr (.inr (true))))
 (zg (IntKind.wrap .i64 (b + 1)) fun e =>
 some (.inl e)))
 (some (.inr (.inl ()))))
 (some (.inr (.inl ())))) (0))
 (Sum.elim (fun (_ : Unit) =>
 (Fz1 (a.Lattice)).bind fun f =>
 cond f
 (some (true))
 (cond (decide (20 < (↑(List.length (List.map qb a.Channels)) : Int)))
 (some (true))
 (cond (decide (40 < (↑(List.length (List.map yw a.Vars)) : Int)))
 (some (true))
 (some (decide (70 < (↑(List.length (List.map yb a.Rules)) : Int))))))) some)) some)
def Fz3 (f : List UInt8) (g : Int) : Option (List UInt8) :=
 Option.bind (
 lpO (fun (a : List UInt8) =>
 cond (decide (0 < (↑(List.length a) : Int)))
 (zg (IntKind.wrap .i64 ((↑(List.length a) : Int) - 1)) fun c =>
 zh a c fun d =>
 cond (decide ((↑(UInt8.toNat d) : Int) = g))
 (zg (IntKind.wrap .i64 ((↑(List.length a) : Int) - 1)) fun b =>
 zq (0 <= b /\ b <= (↑(List.length a) : Int)) (
 some (.inl (List.drop (Int.toNat 0) (List.take (Int.toNat b) a)))))
 (some (.inr (.inl a))))
 (some (.inr (.inl a)))) f)
 (Sum.elim (fun (e : List UInt8) =>
 some e) some)
def Fz4 (d : List UInt8) (e : Int) : Option (List UInt8) :=
 Option.bind (
 lpO (fun (a : List UInt8) =>
 cond (decide (0 < (↑(List.length a) : Int)))
 (zh a (0) fun b =>
 cond (decide ((↑(UInt8.toNat b) : Int) = e))
 (zq ((0 : Int) <= (1 : Int) /\ (1 : Int) <= (↑(List.length a) : Int)) (
 some (.inl (List.drop (Int.toNat 1) (List.take (Int.toNat (↑(List.length a) : Int)) a)))))
 (some (.inr (.inl a))))
 (some (.inr (.inl a)))) d)
 (Sum.elim (fun (c : List UInt8) =>
 some c) some)
def Fz5 (d : List UInt8) : Option (List Bool × Bool) :=
 Option.bind (
 lpO (fun (a : Int × List Bool) =>
 cond (decide (a.fst < (↑(List.length d) : Int)))
 (zh d (a.fst) fun b =>
 cond (decide (128 <= (↑(UInt8.toNat b) : Int)))
 (some (.inr (.inr ((a.snd, false)))))
 (zq ((0 : Int) <= (↑(UInt8.toNat b) : Int) /\ (↑(UInt8.toNat b) : Int) < (↑(256 : Nat) : Int)) (
 zh (a.snd) ((↑(Int.toNat (↑(UInt8.toNat b) : Int)) : Int)) fun _ =>
 zg (IntKind.wrap .i64 (a.fst + 1)) fun c =>
 some (.inl ((c, List.set a.snd (Int.toNat (↑(UInt8.toNat b) : Int)) true))))))
 (some (.inr (.inl (a.snd))))) ((0, List.replicate 256 false)))
 (Sum.elim (fun (e : List Bool) =>
 some ((e, true))) some)
def Fz6 (c : List Bool) (a : Int) : Option (Bool) :=
 zq (0 <= a /\ a < (↑(256 : Nat) : Int)) (
 zh c ((↑(Int.toNat a) : Int)) fun b =>
 some b)
def Fz7 (g : List UInt8) (i : List Bool) : Option (List UInt8) :=
 Option.bind (
 lpO (fun (a : List UInt8) =>
 cond (decide (0 < (↑(List.length a) : Int)))
 (zg (IntKind.wrap .i64 ((↑(List.length a) : Int) - 1)) fun c =>
 zh a c fun d =>
 (Fz6 i ((↑(UInt8.toNat d) : Int))).bind fun e =>
 cond (!e)
 (some (.inr (.inl a)))
 (zg (IntKind.wrap .i64 ((↑(List.length a) : Int) - 1)) fun b =>
 zq (0 <= b /\ b <= (↑(List.length a) : Int)) (
 some (.inl (List.drop (Int.toNat 0) (List.take (Int.toNat b) a))))))
 (some (.inr (.inl a)))) g)
 (Sum.elim (fun (f : List UInt8) =>
 some f) some)
def Fz8 (e : List UInt8) (f : List Bool) : Option (List UInt8) :=
 Option.bind (
 lpO (fun (a : List UInt8) =>
 cond (decide (0 < (↑(List.length a) : Int)))
 (zh a (0) fun b =>
 (Fz6 f ((↑(UInt8.toNat b) : Int))).bind fun c =>
 cond (!c)
 (some (.inr (.inl a)))
 (zq ((0 : Int) <= (1 : Int) /\ (1 : Int) <= (↑(List.length a) : Int)) (
 some (.inl (List.drop (Int.toNat 1) (List.take (Int.toNat (↑(List.length a) : Int)) a))))))
 (some (.inr (.inl a)))) e)
 (Sum.elim (fun (d : List UInt8) =>
 some d) some)
def Fz9 (a : Int) : Option (Bool) :=
 some (!decide (bits BinOp.and IntKind.u8 a 192 = 128))
def zvz (a : List UInt8) : Option (Int × Int) :=
 cond (decide ((↑(List.length a) : Int) < 1))
 (some ((65533, 0)))
 (zh a (0) fun _ =>
 none)
def zri (a : List UInt8) : Option (Int × Int) :=
 cond (!decide (a = (ByteArray.mk #[]).data.toList))
 (zh a (0) fun b =>
 cond (decide ((↑(UInt8.toNat b) : Int) < 128))
 (zh a (0) fun c =>
 zg (IntKind.wrap .i32 (↑(UInt8.toNat c) : Int)) fun d =>
 some ((d, 1)))
 ((zvz a).bind fun e =>
 some e))
 ((zvz a).bind fun f =>
 some f)
def zyw (a : List UInt8) : Option (Int × Int) :=
 cond (decide ((↑(List.length a) : Int) = 0))
 (some ((65533, 0)))
 (zg (IntKind.wrap .i64 ((↑(List.length a) : Int) - 1)) fun d =>
 zh a d fun i =>
 zg (IntKind.wrap .i32 (↑(UInt8.toNat i) : Int)) fun e =>
 cond (decide (e < 128))
 (some ((e, 1)))
 (zg (IntKind.wrap .i64 ((↑(List.length a) : Int) - 4)) fun j =>
 zg (IntKind.wrap .i64 (d - 1)) fun k =>
 Option.bind (
 lpO (fun (b : Int) =>
 cond (decide (max j 0 <= b))
 (zh a b fun l =>
 (Fz9 ((↑(UInt8.toNat l) : Int))).bind fun m =>
 cond m
 (some (.inr (.inl b)))
 (zg (IntKind.wrap .i64 (b - 1)) fun n =>
 some (.inl n)))
 (some (.inr (.inl b)))) k)
 (Sum.elim (fun (c : Int) =>
 cond (decide (c < 0))
 (zq ((0 : Int) <= (0 : Int) /\ (0 : Int) <= (↑(List.length a) : Int) /\ (↑(List.length a) : Int) <= (↑(List.length a) : Int)) (
 (zri (List.drop (Int.toNat 0) (List.take (Int.toNat (↑(List.length a) : Int)) a))).bind fun f =>
 zg (IntKind.wrap .i64 (0 + f.snd)) fun o =>
 cond (!decide (o = (↑(List.length a) : Int)))
 (some ((65533, 1)))
 (some f)))
 (zq (0 <= c /\ c <= (↑(List.length a) : Int) /\ (↑(List.length a) : Int) <= (↑(List.length a) : Int)) (
 (zri (List.drop (Int.toNat c) (List.take (Int.toNat (↑(List.length a) : Int)) a))).bind fun g =>
 zg (IntKind.wrap .i64 (c + g.snd)) fun p =>
 cond (!decide (p = (↑(List.length a) : Int)))
 (some ((65533, 1)))
 (some g)))) some)))
def zc7 (b : List UInt8) (c : Int) : Option (Int) :=
 (qc b c).bind fun a =>
 some a
def zdk (a : Int) : Option (Bool) :=
 cond (decide (0 <= a))
 (cond (decide (a < 55296))
 (some (true))
 (cond (decide (57343 < a))
 (cond (decide (a <= 1114111))
 (some (true))
 (some (false)))
 (some (false))))
 (cond (decide (57343 < a))
 (cond (decide (a <= 1114111))
 (some (true))
 (some (false)))
 (some (false)))
def zh3 (d : List UInt8) (c : Int) : Option (Int) :=
 cond (decide (0 <= c))
 (cond (decide (c < 128))
 (zg (IntKind.wrap .u8 c) fun p =>
 (zc7 d p).bind fun q =>
 some q)
 (cond (decide (c = 65533))
 (none)
 ((zdk c).bind fun s =>
 cond (!s)
 (some ((-1 : Int)))
 (zg (IntKind.wrap .i64 ((↑(List.length (Utf8.encode c).data.toList) : Int) - 1)) fun a =>
 Option.bind (
 lpO (fun (_ : Unit) =>
 cond (decide (a < (↑(List.length d) : Int)))
 (zh d a fun t =>
 zh ((Utf8.encode c).data.toList) a fun u =>
 cond (!decide ((↑(UInt8.toNat t) : Int) = (↑(UInt8.toNat u) : Int)))
 (zg (IntKind.wrap .i64 (a + 1)) fun j =>
 zq (0 <= j /\ j <= (↑(List.length d) : Int)) (
 zh ((Utf8.encode c).data.toList) a fun v =>
 (zc7 (List.drop (Int.toNat j) (List.take (Int.toNat (↑(List.length d) : Int)) d)) ((↑(UInt8.toNat v) : Int))).bind fun l =>
 cond (decide (l < 0))
 (some (.inr (.inr ((-1 : Int)))))
 (zg (IntKind.wrap .i64 (l + 1)) fun w =>
 zg (IntKind.wrap .i64 (a + w)) fun m =>
 Option.bind (
 lpO (fun (e : Int) =>
 cond (decide (e < (↑(List.length (Utf8.encode c).data.toList) : Int)))
 (zg (IntKind.wrap .i64 (m - e)) fun x =>
 zh d x fun y =>
 zg (IntKind.wrap .i64 (a - e)) fun z =>
 zh ((Utf8.encode c).data.toList) z fun A =>
 cond (!decide ((↑(UInt8.toNat y) : Int) = (↑(UInt8.toNat A) : Int)))
 (none)
 (zg (IntKind.wrap .i64 (e + 1)) fun C =>
 some (.inl C)))
 (some (.inr (.inl ())))) (1))
 (Sum.elim (fun (_ : Unit) =>
 zg (IntKind.wrap .i64 (m - a)) fun D =>
 some (.inr (.inr D))) some))))
 (Option.bind (
 lpO (fun (f : Int) =>
 cond (decide (f < (↑(List.length (Utf8.encode c).data.toList) : Int)))
 (zg (IntKind.wrap .i64 (a - f)) fun F =>
 zh d F fun G =>
 zg (IntKind.wrap .i64 (a - f)) fun H =>
 zh ((Utf8.encode c).data.toList) H fun I =>
 cond (!decide ((↑(UInt8.toNat G) : Int) = (↑(UInt8.toNat I) : Int)))
 (none)
 (zg (IntKind.wrap .i64 (f + 1)) fun J =>
 some (.inl J)))
 (some (.inr (.inl ())))) (1))
 (Sum.elim (fun (_ : Unit) =>
 zg (IntKind.wrap .i64 (a - a)) fun K =>
 some (.inr (.inr K))) some)))
 (some (.inr (.inl ())))) (()))
 (Sum.elim (fun (_ : Unit) =>
 some ((-1 : Int))) some)))))
 (cond (decide (c = 65533))
 (none)
 ((zdk c).bind fun L =>
 cond (!L)
 (some ((-1 : Int)))
 (zg (IntKind.wrap .i64 ((↑(List.length (Utf8.encode c).data.toList) : Int) - 1)) fun b =>
 Option.bind (
 lpO (fun (_ : Unit) =>
 cond (decide (b < (↑(List.length d) : Int)))
 (zh d b fun M =>
 zh ((Utf8.encode c).data.toList) b fun N =>
 cond (!decide ((↑(UInt8.toNat M) : Int) = (↑(UInt8.toNat N) : Int)))
 (zg (IntKind.wrap .i64 (b + 1)) fun k =>
 zq (0 <= k /\ k <= (↑(List.length d) : Int)) (
 zh ((Utf8.encode c).data.toList) b fun O =>
 (zc7 (List.drop (Int.toNat k) (List.take (Int.toNat (↑(List.length d) : Int)) d)) ((↑(UInt8.toNat O) : Int))).bind fun n =>
 cond (decide (n < 0))
 (some (.inr (.inr ((-1 : Int)))))
 (zg (IntKind.wrap .i64 (n + 1)) fun P =>
 zg (IntKind.wrap .i64 (b + P)) fun o =>
 Option.bind (
 lpO (fun (g : Int) =>
 cond (decide (g < (↑(List.length (Utf8.encode c).data.toList) : Int)))
 (zg (IntKind.wrap .i64 (o - g)) fun Q =>
 zh d Q fun R =>
 zg (IntKind.wrap .i64 (b - g)) fun S =>
 zh ((Utf8.encode c).data.toList) S fun T =>
 cond (!decide ((↑(UInt8.toNat R) : Int) = (↑(UInt8.toNat T) : Int)))
 (none)
 (zg (IntKind.wrap .i64 (g + 1)) fun U =>
 some (.inl U)))
 (some (.inr (.inl ())))) (1))
 (Sum.elim (fun (_ : Unit) =>
 zg (IntKind.wrap .i64 (o - b)) fun V =>
 some (.inr (.inr V))) some))))
 (Option.bind (
 lpO (fun (i : Int) =>
 cond (decide (i < (↑(List.length (Utf8.encode c).data.toList) : Int)))
 (zg (IntKind.wrap .i64 (b - i)) fun W =>
 zh d W fun X =>
 zg (IntKind.wrap .i64 (b - i)) fun Y =>
 zh ((Utf8.encode c).data.toList) Y fun Z =>
 cond (!decide ((↑(UInt8.toNat X) : Int) = (↑(UInt8.toNat Z) : Int)))
 (none)
 (zg (IntKind.wrap .i64 (i + 1)) fun a2 =>
 some (.inl a2)))
 (some (.inr (.inl ())))) (1))
 (Sum.elim (fun (_ : Unit) =>
 zg (IntKind.wrap .i64 (b - b)) fun a3 =>
 some (.inr (.inr a3))) some)))
 (some (.inr (.inl ())))) (()))
 (Sum.elim (fun (_ : Unit) =>
 some ((-1 : Int))) some))))
def xu (b : List UInt8) (c : Int) : Option (Bool) :=
 (zh3 b c).bind fun a =>
 some (decide (0 <= a))
def zv8 (m : List UInt8) (l : List UInt8) : Option (List UInt8) :=
 Option.bind (
 lpO (fun (a : List UInt8) =>
 cond (decide (0 < (↑(List.length a) : Int)))
 (zg (IntKind.wrap .i64 ((↑(List.length a) : Int) - 1)) fun f =>
 zh a f fun g =>
 zg (IntKind.wrap .i32 (↑(UInt8.toNat g) : Int)) fun d =>
 cond (decide (128 <= d))
 ((zyw a).bind fun e =>
 (xu l (e.fst)).bind fun i =>
 cond (!i)
 (some (.inr (.inl a)))
 (zg (IntKind.wrap .i64 ((↑(List.length a) : Int) - e.snd)) fun b =>
 zq (0 <= b /\ b <= (↑(List.length a) : Int)) (
 some (.inl (List.drop (Int.toNat 0) (List.take (Int.toNat b) a))))))
 ((xu l d).bind fun j =>
 cond (!j)
 (some (.inr (.inl a)))
 (zg (IntKind.wrap .i64 ((↑(List.length a) : Int) - 1)) fun c =>
 zq (0 <= c /\ c <= (↑(List.length a) : Int)) (
 some (.inl (List.drop (Int.toNat 0) (List.take (Int.toNat c) a)))))))
 (some (.inr (.inl a)))) m)
 (Sum.elim (fun (k : List UInt8) =>
 some k) some)
def zt9 (e : List UInt8) (f : List UInt8) : Option (List UInt8) :=
 Option.bind (
 lpO (fun (a : List UInt8) =>
 cond (decide (0 < (↑(List.length a) : Int)))
 ((zri a).bind fun b =>
 (xu f (b.fst)).bind fun c =>
 cond (!c)
 (some (.inr (.inl a)))
 (zq (0 <= b.snd /\ b.snd <= (↑(List.length a) : Int)) (
 some (.inl (List.drop (Int.toNat b.snd) (List.take (Int.toNat (↑(List.length a) : Int)) a))))))
 (some (.inr (.inl a)))) e)
 (Sum.elim (fun (d : List UInt8) =>
 some d) some)
def zp7 (b : List UInt8) (a : List UInt8) : Option (List UInt8) :=
 cond (decide (b = (ByteArray.mk #[]).data.toList))
 (some b)
 (cond (decide (a = (ByteArray.mk #[]).data.toList))
 (some b)
 (cond (decide ((↑(List.length a) : Int) = 1))
 (zh a (0) fun n =>
 cond (decide ((↑(UInt8.toNat n) : Int) < 128))
 (zh a (0) fun o =>
 (Fz3 b ((↑(UInt8.toNat o) : Int))).bind fun p =>
 zh a (0) fun q =>
 (Fz4 p ((↑(UInt8.toNat q) : Int))).bind fun s =>
 some s)
 ((Fz5 a).bind fun c =>
 cond (c.snd)
 ((Fz7 b (c.fst)).bind fun e =>
 (Fz8 e (c.fst)).bind fun f =>
 some f)
 ((zv8 b a).bind fun g =>
 (zt9 g a).bind fun i =>
 some i)))
 ((Fz5 a).bind fun d =>
 cond (d.snd)
 ((Fz7 b (d.fst)).bind fun j =>
 (Fz8 j (d.fst)).bind fun k =>
 some k)
 ((zv8 b a).bind fun l =>
 (zt9 l a).bind fun m =>
 some m))))
def zo8 (a : List UInt8) : Option (Bool) :=
 cond (decide (a = (ByteArray.mk #[]).data.toList))
 (some (false))
 (cond (decide (16 < (↑(List.length a) : Int)))
 (some (false))
 (zh a (0) fun c =>
 cond (decide ((↑(UInt8.toNat c) : Int) < 97))
 (some (false))
 (zh a (0) fun d =>
 cond (decide (122 < (↑(UInt8.toNat d) : Int)))
 (some (false))
 ((zp7 a ((ByteArray.mk #[97, 98, 99, 100, 101, 102, 103, 104, 105, 106, 107, 108, 109, 110, 111, 112, 113, 114, 115, 116, 117, 118, 119, 120, 121, 122, 48, 49, 50, 51, 52, 53, 54, 55, 56, 57, 45]).data.toList)).bind fun b =>
 some (decide (b = (ByteArray.mk #[]).data.toList))))))
def zpq (d : List (List UInt8)) (e : List UInt8) : Option (Int) :=
 Option.bind (
 lpO (fun (a : Int) =>
 cond (decide (a < (↑(List.length (List.map SV.str d)) : Int)))
 (zh d a fun b =>
 cond (decide (e = b))
 (some (.inr (.inr a)))
 (zg (IntKind.wrap .i64 (a + 1)) fun c =>
 some (.inl c)))
 (some (.inr (.inl ())))) (0))
 (Sum.elim (fun (_ : Unit) =>
 some ((-1 : Int))) some)
def zq6 (b : List (List UInt8)) (c : List UInt8) : Option (Bool) :=
 (zpq b c).bind fun a =>
 some (decide (0 <= a))
def zhq (b : List (List UInt8)) : Option (Int × Int) :=
 cond (decide ((↑(List.length (List.map SV.str b)) : Int) < 1))
 (some (((-1 : Int), 3)))
 (cond (decide (8 < (↑(List.length (List.map SV.str b)) : Int)))
 (some (((-1 : Int), 3)))
 (Option.bind (
 lpO (fun (a : Int) =>
 cond (decide (a < (↑(List.length (List.map SV.str b)) : Int)))
 (zh b a fun c =>
 (zo8 c).bind fun d =>
 cond (!d)
 (some (.inr (.inr ((a, 6)))))
 (zq (0 <= a /\ a <= (↑(List.length (List.map SV.str b)) : Int)) (
 (zq6 (List.drop (Int.toNat 0) (List.take (Int.toNat a) b)) c).bind fun e =>
 cond e
 (some (.inr (.inr ((a, 8)))))
 (zg (IntKind.wrap .i64 (a + 1)) fun f =>
 some (.inl f)))))
 (some (.inr (.inl ())))) (0))
 (Sum.elim (fun (_ : Unit) =>
 some ((0, 0))) some)))
def zh9 (c : Int) : Option (Int) :=
 zh ((ByteArray.mk (List.toArray (List.append (List.append [(0 : UInt8), 1, 2, 2, 3, 3, 3, 3, 4, 4, 4, 4, 4, 4, 4, 4, 5, 5, 5, 5, 5, 5, 5, 5, 5, 5, 5, 5, 5, 5, 5, 5, 6, 6, 6, 6, 6, 6, 6, 6, 6, 6, 6, 6, 6, 6, 6, 6, 6, 6, 6, 6, 6, 6, 6, 6, 6, 6, 6, 6, 6, 6, 6, 6] [(7 : UInt8), 7, 7, 7, 7, 7, 7, 7, 7, 7, 7, 7, 7, 7, 7, 7, 7, 7, 7, 7, 7, 7, 7, 7, 7, 7, 7, 7, 7, 7, 7, 7, 7, 7, 7, 7, 7, 7, 7, 7, 7, 7, 7, 7, 7, 7, 7, 7, 7, 7, 7, 7, 7, 7, 7, 7, 7, 7, 7, 7, 7, 7, 7, 7]) (List.append [(8 : UInt8), 8, 8, 8, 8, 8, 8, 8, 8, 8, 8, 8, 8, 8, 8, 8, 8, 8, 8, 8, 8, 8, 8, 8, 8, 8, 8, 8, 8, 8, 8, 8, 8, 8, 8, 8, 8, 8, 8, 8, 8, 8, 8, 8, 8, 8, 8, 8, 8, 8, 8, 8, 8, 8, 8, 8, 8, 8, 8, 8, 8, 8, 8, 8] [(8 : UInt8), 8, 8, 8, 8, 8, 8, 8, 8, 8, 8, 8, 8, 8, 8, 8, 8, 8, 8, 8, 8, 8, 8, 8, 8, 8, 8, 8, 8, 8, 8, 8, 8, 8, 8, 8, 8, 8, 8, 8, 8, 8, 8, 8, 8, 8, 8, 8, 8, 8, 8, 8, 8, 8, 8, 8, 8, 8, 8, 8, 8, 8, 8, 8])))).data.toList) c fun a =>
 zg (IntKind.wrap .i64 (↑(UInt8.toNat a) : Int)) fun b =>
 some b
def zfv (e : TL) : Option (Tlattice_order) :=
 Option.bind (
 lpO (fun (b : Int × List Int × List Int) =>
 cond (decide (b.fst < (↑(List.length (List.map (SV.int .u8) e.Up)) : Int)))
 (zh (e.Up) (b.fst) fun c =>
 zq (0 <= b.fst /\ b.fst < (↑(8 : Nat) : Int)) (
 zh (b.snd.fst) ((↑(Int.toNat b.fst) : Int)) fun _ =>
 Option.bind (
 lpO (fun (a : Int × List Int) =>
 cond (decide (a.fst < (↑(List.length (List.map SV.str e.Names)) : Int)))
 (zq (0 <= a.fst /\ a.fst < (↑(8 : Nat) : Int)) (
 zh (a.snd) ((↑(Int.toNat a.fst) : Int)) fun f =>
 zq (0 <= a.fst) (
 zq (0 <= b.fst) (
 zg (IntKind.wrap .u8 (bits BinOp.and IntKind.u8 (Int.fdiv c (2 ^ min (Int.toNat a.fst) (IntKind.bits IntKind.u8))) 1 * 2 ^ min (Int.toNat b.fst) (IntKind.bits IntKind.u8))) fun g =>
 zq (0 <= a.fst /\ a.fst < (↑(8 : Nat) : Int)) (
 zh (a.snd) ((↑(Int.toNat a.fst) : Int)) fun _ =>
 zg (IntKind.wrap .i64 (a.fst + 1)) fun i =>
 some (.inl ((i, List.set a.snd (Int.toNat a.fst) (bits BinOp.or IntKind.u8 f g)))))))))
 (some (.inr (.inl (a.snd))))) ((0, b.snd.snd)))
 (Sum.elim (fun (j : List Int) =>
 zg (IntKind.wrap .i64 (b.fst + 1)) fun k =>
 some (.inl ((k, List.set b.snd.fst (Int.toNat b.fst) c, j)))) some)))
 (some (.inr (.inl (b.snd))))) ((0, [0, 0, 0, 0, 0, 0, 0, 0], [0, 0, 0, 0, 0, 0, 0, 0])))
 (Sum.elim (fun (d : List Int × List Int) =>
 some (Tlattice_order.mk (↑(List.length (List.map SV.str e.Names)) : Int) d.fst d.snd)) some)
def zg7 (d : List Int) (k : Int) (e : Int) (f : Int) : Option (Int) :=
 zq (0 <= e /\ e < (↑(8 : Nat) : Int)) (
 zh d ((↑(Int.toNat e) : Int)) fun b =>
 zq (0 <= f /\ f < (↑(8 : Nat) : Int)) (
 zh d ((↑(Int.toNat f) : Int)) fun c =>
 Option.bind (
 lpO (fun (a : Int) =>
 cond (decide (a < k))
 (zq (0 <= a) (
 cond (decide (bits BinOp.and IntKind.u8 (Int.fdiv (bits BinOp.and IntKind.u8 b c) (2 ^ min (Int.toNat a) (IntKind.bits IntKind.u8))) 1 = 1))
 (zq (0 <= a /\ a < (↑(8 : Nat) : Int)) (
 zh d ((↑(Int.toNat a) : Int)) fun g =>
 cond (decide (g = bits BinOp.and IntKind.u8 b c))
 (some (.inr (.inr a)))
 (zg (IntKind.wrap .i64 (a + 1)) fun i =>
 some (.inl i))))
 (zg (IntKind.wrap .i64 (a + 1)) fun j =>
 some (.inl j))))
 (some (.inr (.inl ())))) (0))
 (Sum.elim (fun (_ : Unit) =>
 some ((-1 : Int))) some)))
def zqw (d : List Int) (k : Int) (e : Int) (f : Int) : Option (Int) :=
 zq (0 <= e /\ e < (↑(8 : Nat) : Int)) (
 zh d ((↑(Int.toNat e) : Int)) fun b =>
 zq (0 <= f /\ f < (↑(8 : Nat) : Int)) (
 zh d ((↑(Int.toNat f) : Int)) fun c =>
 Option.bind (
 lpO (fun (a : Int) =>
 cond (decide (a < k))
 (zq (0 <= a) (
 cond (decide (bits BinOp.and IntKind.u8 (Int.fdiv (bits BinOp.and IntKind.u8 b c) (2 ^ min (Int.toNat a) (IntKind.bits IntKind.u8))) 1 = 1))
 (zq (0 <= a /\ a < (↑(8 : Nat) : Int)) (
 zh d ((↑(Int.toNat a) : Int)) fun g =>
 cond (decide (g = bits BinOp.and IntKind.u8 b c))
 (some (.inr (.inr a)))
 (zg (IntKind.wrap .i64 (a + 1)) fun i =>
 some (.inl i))))
 (zg (IntKind.wrap .i64 (a + 1)) fun j =>
 some (.inl j))))
 (some (.inr (.inl ())))) (0))
 (Sum.elim (fun (_ : Unit) =>
 some ((-1 : Int))) some)))
def zax (c : TL) : Option (Int × Int) :=
 (zhq (c.Names)).bind fun j =>
 cond (!decide (j.snd = 0))
 (some j)
 (cond (!decide ((↑(List.length (List.map (SV.int .u8) c.Up)) : Int) = (↑(List.length (List.map SV.str c.Names)) : Int)))
 (some (((-1 : Int), 6)))
 (zq ((0 : Int) <= (↑(List.length (List.map SV.str c.Names)) : Int)) (
 zg (IntKind.wrap .u8 (1 * 2 ^ min (Int.toNat (↑(List.length (List.map SV.str c.Names)) : Int)) (IntKind.bits IntKind.u8))) fun C =>
 zg (IntKind.wrap .u8 (C - 1)) fun k =>
 Option.bind (
 lpO (fun (a : Int) =>
 cond (decide (a < (↑(List.length (List.map (SV.int .u8) c.Up)) : Int)))
 (zh (c.Up) a fun e =>
 (zh9 e).bind fun l =>
 cond (decide ((↑(List.length (List.map SV.str c.Names)) : Int) < l))
 (some (.inr (.inr ((a, 6)))))
 (zq (0 <= a) (
 cond (decide (bits BinOp.and IntKind.u8 (Int.fdiv e (2 ^ min (Int.toNat a) (IntKind.bits IntKind.u8))) 1 = 0))
 (some (.inr (.inr ((a, 6)))))
 (Option.bind (
 lpO (fun (b : Int) =>
 cond (decide (b < (↑(List.length (List.map (SV.int .u8) c.Up)) : Int)))
 (zh (c.Up) b fun g =>
 zq (0 <= b) (
 cond (decide (bits BinOp.and IntKind.u8 (Int.fdiv e (2 ^ min (Int.toNat b) (IntKind.bits IntKind.u8))) 1 = 0))
 (zg (IntKind.wrap .i64 ((↑(List.length (List.map SV.str c.Names)) : Int) - 1)) fun m =>
 cond (decide (b = m))
 (zg (IntKind.wrap .i64 (a + 1)) fun n =>
 some (.inr (.inr (.inl n))))
 (zg (IntKind.wrap .i64 (b + 1)) fun o =>
 some (.inl o)))
 (cond (!decide (b = a))
 (zq (0 <= a) (
 cond (decide (bits BinOp.and IntKind.u8 (Int.fdiv g (2 ^ min (Int.toNat a) (IntKind.bits IntKind.u8))) 1 = 1))
 (some (.inr (.inr (.inr (.inr ((a, 6)))))))
 (cond (!decide (bits BinOp.andNot IntKind.u8 (bits BinOp.and IntKind.u8 g k) e = 0))
 (some (.inr (.inr (.inr (.inr ((a, 6)))))))
 (zg (IntKind.wrap .i64 ((↑(List.length (List.map SV.str c.Names)) : Int) - 1)) fun p =>
 cond (decide (b = p))
 (zg (IntKind.wrap .i64 (a + 1)) fun q =>
 some (.inr (.inr (.inl q))))
 (zg (IntKind.wrap .i64 (b + 1)) fun s =>
 some (.inl s))))))
 (cond (!decide (bits BinOp.andNot IntKind.u8 (bits BinOp.and IntKind.u8 g k) e = 0))
 (some (.inr (.inr (.inr (.inr ((a, 6)))))))
 (zg (IntKind.wrap .i64 ((↑(List.length (List.map SV.str c.Names)) : Int) - 1)) fun t =>
 cond (decide (b = t))
 (zg (IntKind.wrap .i64 (a + 1)) fun u =>
 some (.inr (.inr (.inl u))))
 (zg (IntKind.wrap .i64 (b + 1)) fun v =>
 some (.inl v)))))))
 (some (.inr (.inl ())))) (0))
 (Sum.elim (fun (_ : Unit) =>
 zg (IntKind.wrap .i64 (a + 1)) fun w =>
 some (.inl w)) some)))))
 (some (.inr (.inl ())))) (0))
 (Sum.elim (fun (_ : Unit) =>
 (zfv c).bind fun i =>
 Option.bind (
 lpO (fun (d : Int) =>
 cond (decide (d < (↑(List.length (List.map SV.str c.Names)) : Int)))
 (Option.bind (
 lpO (fun (f : Int) =>
 cond (decide (f < (↑(List.length (List.map SV.str c.Names)) : Int)))
 ((zg7 (i.up_) ((↑(List.length (List.map SV.str c.Names)) : Int)) d f).bind fun x =>
 cond (decide (x < 0))
 (some (.inr (.inr (.inr (.inr ((d, 4)))))))
 ((zqw (i.down_) ((↑(List.length (List.map SV.str c.Names)) : Int)) d f).bind fun y =>
 cond (decide (y < 0))
 (some (.inr (.inr (.inr (.inr ((d, 4)))))))
 (zg (IntKind.wrap .i64 (f + 1)) fun z =>
 some (.inl z))))
 (some (.inr (.inl ())))) (0))
 (Sum.elim (fun (_ : Unit) =>
 zg (IntKind.wrap .i64 (d + 1)) fun A =>
 some (.inl A)) some))
 (some (.inr (.inl ())))) (0))
 (Sum.elim (fun (_ : Unit) =>
 some ((0, 0))) some)) some))))
def zu9 (b : TP) : Option (Int × Int) :=
 (zax (b.Lattice)).bind fun a =>
 some a
def zk5 (a : List UInt8) : Option (Int × Int) :=
 Option.bind (
 cond (decide ([(110 : UInt8), (101 : UInt8), (103 : UInt8)] = a))
 (some (.inr ((1, 0))))
 (cond (decide ([(97 : UInt8), (98 : UInt8), (115 : UInt8)] = a))
 (some (.inr ((2, 0))))
 (cond (decide ([(110 : UInt8), (111 : UInt8), (116 : UInt8)] = a))
 (some (.inr ((3, 0))))
 (cond (decide ([(115 : UInt8), (104 : UInt8), (97 : UInt8), (112 : UInt8), (101 : UInt8)] = a))
 (some (.inr ((4, 0))))
 (cond (decide ([(114 : UInt8), (97 : UInt8), (118 : UInt8), (101 : UInt8), (108 : UInt8)] = a))
 (some (.inr ((5, 0))))
 (cond (decide ([(114 : UInt8), (101 : UInt8), (118 : UInt8), (101 : UInt8), (114 : UInt8), (115 : UInt8), (101 : UInt8)] = a))
 (some (.inr ((6, 0))))
 (cond (decide ([(102 : UInt8), (108 : UInt8), (105 : UInt8), (112 : UInt8)] = a))
 (some (.inr ((7, 0))))
 (cond (decide ([(105 : UInt8), (111 : UInt8), (116 : UInt8), (97 : UInt8)] = a))
 (some (.inr ((8, 0))))
 (cond (decide ([(115 : UInt8), (117 : UInt8), (109 : UInt8)] = a))
 (some (.inr ((9, 0))))
 (cond (decide ([(108 : UInt8), (101 : UInt8), (97 : UInt8), (115 : UInt8), (116 : UInt8)] = a))
 (some (.inr ((10, 0))))
 (cond (decide ([(109 : UInt8), (111 : UInt8), (115 : UInt8), (116 : UInt8)] = a))
 (some (.inr ((11, 0))))
 (cond (decide ([(99 : UInt8), (111 : UInt8), (117 : UInt8), (110 : UInt8), (116 : UInt8)] = a))
 (some (.inr ((12, 0))))
 (cond (decide ([(115 : UInt8), (99 : UInt8), (97 : UInt8), (110 : UInt8)] = a))
 (some (.inr ((13, 0))))
 (cond (decide ([(103 : UInt8), (114 : UInt8), (97 : UInt8), (100 : UInt8), (101 : UInt8)] = a))
 (some (.inr ((14, 0))))
 (cond (decide ([(97 : UInt8), (100 : UInt8), (100 : UInt8)] = a))
 (some (.inr ((15, 0))))
 (cond (decide ([(115 : UInt8), (117 : UInt8), (98 : UInt8)] = a))
 (some (.inr ((16, 0))))
 (cond (decide ([(109 : UInt8), (117 : UInt8), (108 : UInt8)] = a))
 (some (.inr ((17, 0))))
 (cond (decide ([(100 : UInt8), (105 : UInt8), (118 : UInt8)] = a))
 (some (.inr ((18, 0))))
 (cond (decide ([(109 : UInt8), (111 : UInt8), (100 : UInt8)] = a))
 (some (.inr ((19, 0))))
 (cond (decide ([(112 : UInt8), (108 : UInt8), (117 : UInt8), (115 : UInt8)] = a))
 (some (.inr ((20, 0))))
 (cond (decide ([(109 : UInt8), (105 : UInt8), (110 : UInt8), (117 : UInt8), (115 : UInt8)] = a))
 (some (.inr ((21, 0))))
 (cond (decide ([(116 : UInt8), (105 : UInt8), (109 : UInt8), (101 : UInt8), (115 : UInt8)] = a))
 (some (.inr ((22, 0))))
 (cond (decide ([(101 : UInt8), (113 : UInt8)] = a))
 (some (.inr ((23, 0))))
 (cond (decide ([(110 : UInt8), (101 : UInt8)] = a))
 (some (.inr ((24, 0))))
 (cond (decide ([(108 : UInt8), (116 : UInt8)] = a))
 (some (.inr ((25, 0))))
 (cond (decide ([(108 : UInt8), (101 : UInt8)] = a))
 (some (.inr ((26, 0))))
 (cond (decide ([(103 : UInt8), (116 : UInt8)] = a))
 (some (.inr ((27, 0))))
 (cond (decide ([(103 : UInt8), (101 : UInt8)] = a))
 (some (.inr ((28, 0))))
 (cond (decide ([(97 : UInt8), (110 : UInt8), (100 : UInt8)] = a))
 (some (.inr ((29, 0))))
 (cond (decide ([(111 : UInt8), (114 : UInt8)] = a))
 (some (.inr ((30, 0))))
 (cond (decide ([(109 : UInt8), (105 : UInt8), (110 : UInt8)] = a))
 (some (.inr ((31, 0))))
 (cond (decide ([(109 : UInt8), (97 : UInt8), (120 : UInt8)] = a))
 (some (.inr ((32, 0))))
 (cond (decide ([(116 : UInt8), (97 : UInt8), (107 : UInt8), (101 : UInt8)] = a))
 (some (.inr ((33, 0))))
 (cond (decide ([(100 : UInt8), (114 : UInt8), (111 : UInt8), (112 : UInt8)] = a))
 (some (.inr ((34, 0))))
 (cond (decide ([(102 : UInt8), (105 : UInt8), (108 : UInt8), (108 : UInt8)] = a))
 (some (.inr ((35, 0))))
 (cond (decide ([(103 : UInt8), (114 : UInt8), (105 : UInt8), (100 : UInt8)] = a))
 (some (.inr ((36, 0))))
 (cond (decide ([(99 : UInt8), (97 : UInt8), (116 : UInt8)] = a))
 (some (.inr ((37, 0))))
 (cond (decide ([(97 : UInt8), (116 : UInt8)] = a))
 (some (.inr ((38, 0))))
 (cond (decide ([(105 : UInt8), (110 : UInt8)] = a))
 (some (.inr ((39, 0))))
 (cond (decide ([(112 : UInt8), (105 : UInt8), (99 : UInt8), (107 : UInt8)] = a))
 (some (.inr ((40, 0))))
 (some (.inl ()))))))))))))))))))))))))))))))))))))))))))
 (Sum.elim (fun (_ : Unit) =>
 some ((0, 4))) some)
def zqb (a : Int) : Option (Bool) :=
 zg (IntKind.wrap .i32 a) fun b =>
 zg (IntKind.wrap .i64 b) fun c =>
 cond (decide (a = c))
 (zg (IntKind.wrap .i32 a) fun d =>
 (zdk d).bind fun e =>
 some e)
 (some (false))
def zfn : Option (List (List UInt8)) :=
 some ([[], (ByteArray.mk #[32]).data.toList, (ByteArray.mk #[10]).data.toList, (ByteArray.mk #[40, 91]).data.toList, (ByteArray.mk #[41, 93]).data.toList, (ByteArray.mk #[34]).data.toList, [], (ByteArray.mk #[45]).data.toList, [], (ByteArray.mk #[60, 61]).data.toList])
def zcx (a : Int) : Option (Int × Int) :=
 (zqb a).bind fun f =>
 cond (!f)
 (some ((0, 7)))
 (cond (decide (48 <= a))
 (cond (decide (a <= 57))
 (some ((6, 0)))
 (cond (decide (97 <= a))
 (cond (decide (a <= 122))
 (some ((8, 0)))
 ((zfn).bind fun g =>
 Option.bind (
 lpO (fun (b : Int) =>
 cond (decide (b < 10))
 (zh g b fun i =>
 zg (IntKind.wrap .i32 a) fun j =>
 (xu i j).bind fun k =>
 cond k
 (some (.inr (.inr ((b, 0)))))
 (zg (IntKind.wrap .i64 (b + 1)) fun l =>
 some (.inl l)))
 (some (.inr (.inl ())))) (0))
 (Sum.elim (fun (_ : Unit) =>
 some ((10, 0))) some)))
 ((zfn).bind fun m =>
 Option.bind (
 lpO (fun (c : Int) =>
 cond (decide (c < 10))
 (zh m c fun n =>
 zg (IntKind.wrap .i32 a) fun o =>
 (xu n o).bind fun p =>
 cond p
 (some (.inr (.inr ((c, 0)))))
 (zg (IntKind.wrap .i64 (c + 1)) fun q =>
 some (.inl q)))
 (some (.inr (.inl ())))) (0))
 (Sum.elim (fun (_ : Unit) =>
 some ((10, 0))) some))))
 (cond (decide (97 <= a))
 (cond (decide (a <= 122))
 (some ((8, 0)))
 ((zfn).bind fun s =>
 Option.bind (
 lpO (fun (d : Int) =>
 cond (decide (d < 10))
 (zh s d fun t =>
 zg (IntKind.wrap .i32 a) fun u =>
 (xu t u).bind fun v =>
 cond v
 (some (.inr (.inr ((d, 0)))))
 (zg (IntKind.wrap .i64 (d + 1)) fun w =>
 some (.inl w)))
 (some (.inr (.inl ())))) (0))
 (Sum.elim (fun (_ : Unit) =>
 some ((10, 0))) some)))
 ((zfn).bind fun x =>
 Option.bind (
 lpO (fun (e : Int) =>
 cond (decide (e < 10))
 (zh x e fun y =>
 zg (IntKind.wrap .i32 a) fun z =>
 (xu y z).bind fun A =>
 cond A
 (some (.inr (.inr ((e, 0)))))
 (zg (IntKind.wrap .i64 (e + 1)) fun C =>
 some (.inl C)))
 (some (.inr (.inl ())))) (0))
 (Sum.elim (fun (_ : Unit) =>
 some ((10, 0))) some))))
def zc8 (a : List UInt8) : Option (Int) :=
 zh a (0) fun b =>
 zg (IntKind.wrap .u64 (↑(UInt8.toNat b) : Int)) fun c =>
 zh a (1) fun d =>
 zg (IntKind.wrap .u64 (↑(UInt8.toNat d) : Int)) fun e =>
 zg (IntKind.wrap .u64 (e * 2 ^ min (Int.toNat 8) (IntKind.bits IntKind.u64))) fun f =>
 zh a (2) fun g =>
 zg (IntKind.wrap .u64 (↑(UInt8.toNat g) : Int)) fun i =>
 zg (IntKind.wrap .u64 (i * 2 ^ min (Int.toNat 16) (IntKind.bits IntKind.u64))) fun j =>
 zh a (3) fun k =>
 zg (IntKind.wrap .u64 (↑(UInt8.toNat k) : Int)) fun l =>
 zg (IntKind.wrap .u64 (l * 2 ^ min (Int.toNat 24) (IntKind.bits IntKind.u64))) fun m =>
 zh a (4) fun n =>
 zg (IntKind.wrap .u64 (↑(UInt8.toNat n) : Int)) fun o =>
 zg (IntKind.wrap .u64 (o * 2 ^ min (Int.toNat 32) (IntKind.bits IntKind.u64))) fun p =>
 zh a (5) fun q =>
 zg (IntKind.wrap .u64 (↑(UInt8.toNat q) : Int)) fun s =>
 zg (IntKind.wrap .u64 (s * 2 ^ min (Int.toNat 40) (IntKind.bits IntKind.u64))) fun t =>
 zh a (6) fun u =>
 zg (IntKind.wrap .u64 (↑(UInt8.toNat u) : Int)) fun v =>
 zg (IntKind.wrap .u64 (v * 2 ^ min (Int.toNat 48) (IntKind.bits IntKind.u64))) fun w =>
 zh a (7) fun x =>
 zg (IntKind.wrap .u64 (↑(UInt8.toNat x) : Int)) fun y =>
 zg (IntKind.wrap .u64 (y * 2 ^ min (Int.toNat 56) (IntKind.bits IntKind.u64))) fun z =>
 some (bits BinOp.or IntKind.u64 (bits BinOp.or IntKind.u64 (bits BinOp.or IntKind.u64 (bits BinOp.or IntKind.u64 (bits BinOp.or IntKind.u64 (bits BinOp.or IntKind.u64 (bits BinOp.or IntKind.u64 c f) j) m) p) t) w) z)
def zzq (m : List UInt8) : Option (Bool) :=
 Option.bind (
 lpO (fun (a : List UInt8) =>
 cond (decide (0 < (↑(List.length a) : Int)))
 (zh a (0) fun c =>
 cond (decide ((↑(UInt8.toNat c) : Int) < 128))
 (zq ((0 : Int) <= (1 : Int) /\ (1 : Int) <= (↑(List.length a) : Int)) (
 cond (decide (8 < (↑(List.length (List.drop (Int.toNat 1) (List.take (Int.toNat (↑(List.length a) : Int)) a))) : Int)))
 ((zc8 (List.drop (Int.toNat 1) (List.take (Int.toNat (↑(List.length a) : Int)) a))).bind fun d =>
 cond (decide (bits BinOp.and IntKind.u64 d 9259542123273814144 = 0))
 (zq ((0 : Int) <= (8 : Int) /\ (8 : Int) <= (↑(List.length (List.drop (Int.toNat (1 : Int)) (List.take (Int.toNat (↑(List.length a) : Int)) a))) : Int)) (
 cond (decide (16 < (↑(List.length (List.drop (Int.toNat 8) (List.take (Int.toNat (↑(List.length (List.drop (Int.toNat 1) (List.take (Int.toNat (↑(List.length a) : Int)) a))) : Int)) (List.drop (Int.toNat 1) (List.take (Int.toNat (↑(List.length a) : Int)) a))))) : Int)))
 ((zc8 (List.drop (Int.toNat 8) (List.take (Int.toNat (↑(List.length (List.drop (Int.toNat 1) (List.take (Int.toNat (↑(List.length a) : Int)) a))) : Int)) (List.drop (Int.toNat 1) (List.take (Int.toNat (↑(List.length a) : Int)) a))))).bind fun e =>
 zq ((0 : Int) <= (8 : Int) /\ (8 : Int) <= (↑(List.length (List.drop (Int.toNat (8 : Int)) (List.take (Int.toNat (↑(List.length (List.drop (Int.toNat (1 : Int)) (List.take (Int.toNat (↑(List.length a) : Int)) a))) : Int)) (List.drop (Int.toNat (1 : Int)) (List.take (Int.toNat (↑(List.length a) : Int)) a))))) : Int)) (
 (zc8 (List.drop (Int.toNat 8) (List.take (Int.toNat (↑(List.length (List.drop (Int.toNat 8) (List.take (Int.toNat (↑(List.length (List.drop (Int.toNat 1) (List.take (Int.toNat (↑(List.length a) : Int)) a))) : Int)) (List.drop (Int.toNat 1) (List.take (Int.toNat (↑(List.length a) : Int)) a))))) : Int)) (List.drop (Int.toNat 8) (List.take (Int.toNat (↑(List.length (List.drop (Int.toNat 1) (List.take (Int.toNat (↑(List.length a) : Int)) a))) : Int)) (List.drop (Int.toNat 1) (List.take (Int.toNat (↑(List.length a) : Int)) a))))))).bind fun f =>
 cond (decide (bits BinOp.and IntKind.u64 (bits BinOp.or IntKind.u64 e f) 9259542123273814144 = 0))
 (zq ((0 : Int) <= (16 : Int) /\ (16 : Int) <= (↑(List.length (List.drop (Int.toNat (8 : Int)) (List.take (Int.toNat (↑(List.length (List.drop (Int.toNat (1 : Int)) (List.take (Int.toNat (↑(List.length a) : Int)) a))) : Int)) (List.drop (Int.toNat (1 : Int)) (List.take (Int.toNat (↑(List.length a) : Int)) a))))) : Int)) (
 Option.bind (
 lpO (fun (b : List UInt8) =>
 cond (decide (32 < (↑(List.length b) : Int)))
 ((zc8 b).bind fun g =>
 zq ((0 : Int) <= (8 : Int) /\ (8 : Int) <= (↑(List.length b) : Int)) (
 (zc8 (List.drop (Int.toNat 8) (List.take (Int.toNat (↑(List.length b) : Int)) b))).bind fun i =>
 zq ((0 : Int) <= (16 : Int) /\ (16 : Int) <= (↑(List.length b) : Int)) (
 (zc8 (List.drop (Int.toNat 16) (List.take (Int.toNat (↑(List.length b) : Int)) b))).bind fun j =>
 zq ((0 : Int) <= (24 : Int) /\ (24 : Int) <= (↑(List.length b) : Int)) (
 (zc8 (List.drop (Int.toNat 24) (List.take (Int.toNat (↑(List.length b) : Int)) b))).bind fun k =>
 cond (decide (bits BinOp.and IntKind.u64 (bits BinOp.or IntKind.u64 (bits BinOp.or IntKind.u64 g i) (bits BinOp.or IntKind.u64 j k)) 9259542123273814144 = 0))
 (zq ((0 : Int) <= (32 : Int) /\ (32 : Int) <= (↑(List.length b) : Int)) (
 some (.inl (List.drop (Int.toNat 32) (List.take (Int.toNat (↑(List.length b) : Int)) b)))))
 (some (.inr (.inl b)))))))
 (some (.inr (.inl b)))) (List.drop (Int.toNat 16) (List.take (Int.toNat (↑(List.length (List.drop (Int.toNat 8) (List.take (Int.toNat (↑(List.length (List.drop (Int.toNat 1) (List.take (Int.toNat (↑(List.length a) : Int)) a))) : Int)) (List.drop (Int.toNat 1) (List.take (Int.toNat (↑(List.length a) : Int)) a))))) : Int)) (List.drop (Int.toNat 8) (List.take (Int.toNat (↑(List.length (List.drop (Int.toNat 1) (List.take (Int.toNat (↑(List.length a) : Int)) a))) : Int)) (List.drop (Int.toNat 1) (List.take (Int.toNat (↑(List.length a) : Int)) a)))))))
 (Sum.elim (fun (l : List UInt8) =>
 some (.inl l)) some)))
 (some (.inl (List.drop (Int.toNat 8) (List.take (Int.toNat (↑(List.length (List.drop (Int.toNat 1) (List.take (Int.toNat (↑(List.length a) : Int)) a))) : Int)) (List.drop (Int.toNat 1) (List.take (Int.toNat (↑(List.length a) : Int)) a))))))))
 (some (.inl (List.drop (Int.toNat 8) (List.take (Int.toNat (↑(List.length (List.drop (Int.toNat 1) (List.take (Int.toNat (↑(List.length a) : Int)) a))) : Int)) (List.drop (Int.toNat 1) (List.take (Int.toNat (↑(List.length a) : Int)) a))))))))
 (some (.inl (List.drop (Int.toNat 1) (List.take (Int.toNat (↑(List.length a) : Int)) a)))))
 (some (.inl (List.drop (Int.toNat 1) (List.take (Int.toNat (↑(List.length a) : Int)) a))))))
 (none))
 (some (.inr (.inl ())))) m)
 (Sum.elim (fun (_ : Unit) =>
 some (true)) some)
def zqs (a : TK) : Option (Int) :=
 Option.bind (
 cond (decide (a.Kind = 1))
 (some (.inl ((0, a.S))))
 (cond (decide (a.Kind = 3))
 (some (.inl ((0, a.S))))
 (cond (decide (a.Kind = 2))
 (some (.inl ((a.N, []))))
 (some (.inl ((0, [])))))))
 (Sum.elim (fun (f : Int × List UInt8) =>
 cond (decide (a.Kind < 1))
 (some (2))
 (cond (decide (9 < a.Kind))
 (some (2))
 (cond (!(decide (a.Kind = a.Kind) && (decide (a.From = a.From) && (decide (a.To = a.To) && (decide (a.N = f.fst) && (decide (a.S = f.snd) && true))))))
 (some (2))
 (Option.bind (
 cond (decide (a.Kind = 1))
 (cond (decide ((↑(List.length a.S) : Int) <= 0))
 (some (.inr (6)))
 (zh (a.S) (0) fun g =>
 zg (IntKind.wrap .i64 (↑(UInt8.toNat g) : Int)) fun i =>
 (zcx i).bind fun j =>
 cond (!decide (j.fst = 8))
 (some (.inr (6)))
 (zh (a.S) (0) fun k =>
 zg (IntKind.wrap .i64 (↑(UInt8.toNat k) : Int)) fun l =>
 (zcx l).bind fun m =>
 Option.bind (
 lpO (fun (b : Int × Int) =>
 cond (decide (b.fst = 8))
 (zg (IntKind.wrap .i64 (b.snd + 1)) fun c =>
 cond (decide ((↑(List.length a.S) : Int) <= c))
 (some (.inl ((10, c))))
 (zh (a.S) c fun n =>
 zg (IntKind.wrap .i64 (↑(UInt8.toNat n) : Int)) fun o =>
 (zcx o).bind fun p =>
 some (.inl ((p.fst, c)))))
 (cond (decide (b.fst = 6))
 (zg (IntKind.wrap .i64 (b.snd + 1)) fun d =>
 cond (decide ((↑(List.length a.S) : Int) <= d))
 (some (.inl ((10, d))))
 (zh (a.S) d fun q =>
 zg (IntKind.wrap .i64 (↑(UInt8.toNat q) : Int)) fun s =>
 (zcx s).bind fun t =>
 some (.inl ((t.fst, d)))))
 (some (.inr (.inl ((decide (b.fst = 6), b))))))) ((m.fst, 0)))
 (Sum.elim (fun (e : Bool × Int × Int) =>
 zq ((0 : Int) <= (0 : Int) /\ 0 <= e.snd.snd /\ e.snd.snd <= (↑(List.length a.S) : Int)) (
 cond (!decide (List.drop (Int.toNat 0) (List.take (Int.toNat e.snd.snd) a.S) = a.S))
 (some (.inr (6)))
 (some (.inl (16))))) some))))
 (cond (decide (a.Kind = 3))
 ((zzq (a.S)).bind fun u =>
 cond (!u)
 (some (.inr (6)))
 (some (.inl (2000))))
 (some (.inl (0)))))
 (Sum.elim (fun (v : Int) =>
 cond (decide (v < (↑(List.length a.S) : Int)))
 (some (3))
 (some (0))) some))))) some)
def zg9 (a : List UInt8) : Option (Bool) :=
 cond (decide (a = (ByteArray.mk #[118, 97, 114]).data.toList))
 (some (false))
 (cond (decide (a = (ByteArray.mk #[100, 101, 102]).data.toList))
 (some (false))
 (cond (decide (a = (ByteArray.mk #[111, 117, 116]).data.toList))
 (some (false))
 (cond (decide (a = (ByteArray.mk #[105, 102]).data.toList))
 (some (false))
 (cond (decide (a = (ByteArray.mk #[101, 108, 115, 101]).data.toList))
 (some (false))
 (cond (decide (a = (ByteArray.mk #[119, 104, 105, 108, 101]).data.toList))
 (some (false))
 (cond (decide (a = (ByteArray.mk #[101, 110, 100]).data.toList))
 (some (false))
 (cond (decide (a = (ByteArray.mk #[114, 101, 108, 101, 97, 115, 101]).data.toList))
 (some (false))
 (cond (decide (a = (ByteArray.mk #[105, 110, 116]).data.toList))
 (some (false))
 (cond (decide (a = (ByteArray.mk #[99, 104, 97, 114]).data.toList))
 (some (false))
 ((zk5 a).bind fun b =>
 cond (decide (b.snd = 0))
 (some (false))
 ((zqs (TK.mk 1 0 0 0 a)).bind fun c =>
 some (decide (c = 0)))))))))))))
def jK (b : TL) (a : Int) : Option (Bool) :=
 cond (decide (0 <= a))
 (some (decide (a < (↑(List.length (List.map SV.str b.Names)) : Int))))
 (some (false))
def zqk (c : TP) : Option (Int × Int) :=
 cond (decide (16 < (↑(List.length (List.map qb c.Channels)) : Int)))
 (some (((-1 : Int), 3)))
 (Option.bind (
 lpO (fun (a : Int × List (List UInt8)) =>
 cond (decide (a.fst < (↑(List.length (List.map qb c.Channels)) : Int)))
 (zh (c.Channels) (a.fst) fun b =>
 (zg9 (b.s_)).bind fun d =>
 cond (!d)
 (some (.inr (.inr ((a.fst, 24)))))
 (cond (inL (b.s_) (a.snd))
 (some (.inr (.inr ((a.fst, 8)))))
 (cond (inL (b.s_) (a.snd))
 ((jK (c.Lattice) (b.at_)).bind fun e =>
 cond (!e)
 (some (.inr (.inr ((a.fst, 7)))))
 (zg (IntKind.wrap .i64 (a.fst + 1)) fun f =>
 some (.inl ((f, a.snd)))))
 ((jK (c.Lattice) (b.at_)).bind fun g =>
 cond (!g)
 (some (.inr (.inr ((a.fst, 7)))))
 (zg (IntKind.wrap .i64 (a.fst + 1)) fun i =>
 some (.inl ((i, a.snd ++ [b.s_]))))))))
 (some (.inr (.inl ())))) ((0, [])))
 (Sum.elim (fun (_ : Unit) =>
 some ((0, 0))) some))
def zq2 (e : TL) (f : List Int) : Option (Int) :=
 (zax e).bind fun b =>
 cond (!decide (b.snd = 0))
 (some (b.snd))
 (Option.bind (
 lpO (fun (a : Int) =>
 cond (decide (a < (↑(List.length (List.map (SV.int .i64) f)) : Int)))
 (zh f a fun c =>
 cond (decide (c < 0))
 (some (.inr (.inr (7))))
 (cond (decide ((↑(List.length (List.map SV.str e.Names)) : Int) <= c))
 (some (.inr (.inr (7))))
 (zg (IntKind.wrap .i64 (a + 1)) fun d =>
 some (.inl d))))
 (some (.inr (.inl ())))) (0))
 (Sum.elim (fun (_ : Unit) =>
 some (0)) some))
def zmc (c : Int) : Option (Int) :=
 zh ((ByteArray.mk (List.toArray (List.append (List.append [(0 : UInt8), 1, 1, 2, 1, 2, 2, 3, 1, 2, 2, 3, 2, 3, 3, 4, 1, 2, 2, 3, 2, 3, 3, 4, 2, 3, 3, 4, 3, 4, 4, 5, 1, 2, 2, 3, 2, 3, 3, 4, 2, 3, 3, 4, 3, 4, 4, 5, 2, 3, 3, 4, 3, 4, 4, 5, 3, 4, 4, 5, 4, 5, 5, 6] [(1 : UInt8), 2, 2, 3, 2, 3, 3, 4, 2, 3, 3, 4, 3, 4, 4, 5, 2, 3, 3, 4, 3, 4, 4, 5, 3, 4, 4, 5, 4, 5, 5, 6, 2, 3, 3, 4, 3, 4, 4, 5, 3, 4, 4, 5, 4, 5, 5, 6, 3, 4, 4, 5, 4, 5, 5, 6, 4, 5, 5, 6, 5, 6, 6, 7]) (List.append [(1 : UInt8), 2, 2, 3, 2, 3, 3, 4, 2, 3, 3, 4, 3, 4, 4, 5, 2, 3, 3, 4, 3, 4, 4, 5, 3, 4, 4, 5, 4, 5, 5, 6, 2, 3, 3, 4, 3, 4, 4, 5, 3, 4, 4, 5, 4, 5, 5, 6, 3, 4, 4, 5, 4, 5, 5, 6, 4, 5, 5, 6, 5, 6, 6, 7] [(2 : UInt8), 3, 3, 4, 3, 4, 4, 5, 3, 4, 4, 5, 4, 5, 5, 6, 3, 4, 4, 5, 4, 5, 5, 6, 4, 5, 5, 6, 5, 6, 6, 7, 3, 4, 4, 5, 4, 5, 5, 6, 4, 5, 5, 6, 5, 6, 6, 7, 4, 5, 5, 6, 5, 6, 6, 7, 5, 6, 6, 7, 6, 7, 7, 8])))).data.toList) c fun a =>
 zg (IntKind.wrap .i64 (↑(UInt8.toNat a) : Int)) fun b =>
 some b
def zqe (i : List Int) (g : Int) : Option (Int) :=
 Option.bind (
 lpO (fun (a : Int) =>
 zg (IntKind.wrap .i64 (g - 1)) fun b =>
 cond (decide (a < b))
 (zq (0 <= a /\ a < (↑(8 : Nat) : Int)) (
 zh i ((↑(Int.toNat a) : Int)) fun c =>
 (zmc c).bind fun d =>
 cond (decide (d < g))
 (zg (IntKind.wrap .i64 (a + 1)) fun e =>
 some (.inl e))
 (some (.inr (.inl a)))))
 (some (.inr (.inl a)))) (0))
 (Sum.elim (fun (f : Int) =>
 some f) some)
def zqa (d : TL) : Option (Int × Int) :=
 (zq2 d ([])).bind fun a =>
 cond (!decide (a = 0))
 (some ((0, a)))
 ((zfv d).bind fun b =>
 (zqe (b.up_) (b.n_)).bind fun c =>
 some ((c, 0)))
def zp8 (f : TL) (d : List Int) : Option (Int × Int) :=
 (zax f).bind fun b =>
 cond (!decide (b.snd = 0))
 (some (((-1 : Int), b.snd)))
 (cond (decide (64 < (↑(List.length (List.map (SV.int .i64) d)) : Int)))
 (some (((-1 : Int), 3)))
 (Option.bind (
 lpO (fun (a : Int) =>
 cond (decide (a < (↑(List.length (List.map (SV.int .i64) d)) : Int)))
 (zh d a fun c =>
 cond (decide (c < 0))
 (some (.inr (.inr ((a, 7)))))
 (cond (decide ((↑(List.length (List.map SV.str f.Names)) : Int) <= c))
 (some (.inr (.inr ((a, 7)))))
 (zg (IntKind.wrap .i64 (a + 1)) fun e =>
 some (.inl e))))
 (some (.inr (.inl ())))) (0))
 (Sum.elim (fun (_ : Unit) =>
 some ((0, 0))) some)))
def zmm (c : TL) (d : Int) (b : Int) : Option (Bool) :=
 zh (c.Up) d fun a =>
 zq (0 <= b) (
 some (decide (bits BinOp.and IntKind.u8 (Int.fdiv a (2 ^ min (Int.toNat b) (IntKind.bits IntKind.u8))) 1 = 1)))
def zuo (b : Int) (c : TL) (d : Int) : Option (Bool) :=
 (zmm c b d).bind fun a =>
 some (!a)
def zo6 (e : List Int) (f : TL × Int) : Option (Int) :=
 Option.bind (
 lpO (fun (a : Int) =>
 cond (decide (a < (↑(List.length (List.map (SV.int .i64) e)) : Int)))
 (zh e a fun b =>
 (zuo b (f.fst) (f.snd)).bind fun c =>
 cond c
 (some (.inr (.inr a)))
 (zg (IntKind.wrap .i64 (a + 1)) fun d =>
 some (.inl d)))
 (some (.inr (.inl ())))) (0))
 (Sum.elim (fun (_ : Unit) =>
 some ((-1 : Int))) some)
def zig (c : TL) (e : List Int) (d : Int) : Option (Int × Int) :=
 (zp8 c e).bind fun a =>
 cond (!decide (a.snd = 0))
 (some a)
 (cond (decide (d < 0))
 (some (((-1 : Int), 7)))
 (cond (decide ((↑(List.length (List.map SV.str c.Names)) : Int) <= d))
 (some (((-1 : Int), 7)))
 ((zo6 e ((c, d))).bind fun b =>
 cond (decide (0 <= b))
 (some ((b, 25)))
 (some ((0, 0))))))
def zhv (b : TL) (a : TY) : Option (Int) :=
 (zqa b).bind fun c =>
 cond (!decide (c.snd = 0))
 (some (c.snd))
 (cond (!decide (a.Kind = 1))
 (cond (!decide (a.Kind = 2))
 (some (7))
 (cond (decide (a.Rank < 0))
 (some (7))
 (cond (decide (2 < a.Rank))
 (some (7))
 ((jK b (a.Axes.fst)).bind fun i =>
 cond (!i)
 (some (7))
 ((jK b (a.Axes.snd)).bind fun j =>
 cond (!j)
 (some (7))
 ((jK b (a.Data)).bind fun k =>
 cond (!k)
 (some (7))
 (zq (0 <= a.Rank /\ a.Rank <= (↑(2 : Nat) : Int)) (
 Option.bind (
 lpO (fun (d : Int) =>
 cond (decide (d < (↑(List.length (List.drop (Int.toNat a.Rank) (List.take (Int.toNat (↑(2 : Nat) : Int)) [SV.int .i64 a.Axes.fst, SV.int .i64 a.Axes.snd]))) : Int)))
 (zh (List.drop (Int.toNat a.Rank) (List.take (Int.toNat (↑(2 : Nat) : Int)) [a.Axes.fst, a.Axes.snd])) d fun l =>
 cond (!decide (l = c.fst))
 (some (.inr (.inr (6))))
 (zg (IntKind.wrap .i64 (d + 1)) fun m =>
 some (.inl m)))
 (some (.inr (.inl ())))) (0))
 (Sum.elim (fun (_ : Unit) =>
 zq (0 <= a.Rank /\ a.Rank <= (↑(2 : Nat) : Int)) (
 (zig b (List.drop (Int.toNat 0) (List.take (Int.toNat a.Rank) [a.Axes.fst, a.Axes.snd])) (a.Data)).bind fun f =>
 cond (!decide (f.snd = 0))
 (some (f.snd))
 (some (0)))) some)))))))))
 (cond (decide (a.Rank < 0))
 (some (7))
 (cond (decide (2 < a.Rank))
 (some (7))
 ((jK b (a.Axes.fst)).bind fun n =>
 cond (!n)
 (some (7))
 ((jK b (a.Axes.snd)).bind fun o =>
 cond (!o)
 (some (7))
 ((jK b (a.Data)).bind fun p =>
 cond (!p)
 (some (7))
 (zq (0 <= a.Rank /\ a.Rank <= (↑(2 : Nat) : Int)) (
 Option.bind (
 lpO (fun (e : Int) =>
 cond (decide (e < (↑(List.length (List.drop (Int.toNat a.Rank) (List.take (Int.toNat (↑(2 : Nat) : Int)) [SV.int .i64 a.Axes.fst, SV.int .i64 a.Axes.snd]))) : Int)))
 (zh (List.drop (Int.toNat a.Rank) (List.take (Int.toNat (↑(2 : Nat) : Int)) [a.Axes.fst, a.Axes.snd])) e fun q =>
 cond (!decide (q = c.fst))
 (some (.inr (.inr (6))))
 (zg (IntKind.wrap .i64 (e + 1)) fun s =>
 some (.inl s)))
 (some (.inr (.inl ())))) (0))
 (Sum.elim (fun (_ : Unit) =>
 zq (0 <= a.Rank /\ a.Rank <= (↑(2 : Nat) : Int)) (
 (zig b (List.drop (Int.toNat 0) (List.take (Int.toNat a.Rank) [a.Axes.fst, a.Axes.snd])) (a.Data)).bind fun g =>
 cond (!decide (g.snd = 0))
 (some (g.snd))
 (some (0)))) some)))))))))
def zq4 (c : TP) : Option (Int × Int) :=
 cond (decide (32 < (↑(List.length (List.map yw c.Vars)) : Int)))
 (some (((-1 : Int), 3)))
 (Option.bind (
 lpO (fun (a : Int × List (List UInt8)) =>
 cond (decide (a.fst < (↑(List.length (List.map yw c.Vars)) : Int)))
 (zh (c.Vars) (a.fst) fun b =>
 (zg9 (b.Name)).bind fun f =>
 cond (!f)
 (some (.inr (.inr ((a.fst, 24)))))
 (cond (inL (b.Name) (a.snd))
 (some (.inr (.inr ((a.fst, 8)))))
 (cond (inL (b.Name) (a.snd))
 ((zhv (c.Lattice) (b.Type_)).bind fun d =>
 cond (!decide (d = 0))
 (some (.inr (.inr ((a.fst, d)))))
 (zg (IntKind.wrap .i64 (a.fst + 1)) fun g =>
 some (.inl ((g, a.snd)))))
 ((zhv (c.Lattice) (b.Type_)).bind fun e =>
 cond (!decide (e = 0))
 (some (.inr (.inr ((a.fst, e)))))
 (zg (IntKind.wrap .i64 (a.fst + 1)) fun i =>
 some (.inl ((i, a.snd ++ [b.Name]))))))))
 (some (.inr (.inl ())))) ((0, [])))
 (Sum.elim (fun (_ : Unit) =>
 some ((0, 0))) some))
def zpp (c : TP) : Option (Int × Int) :=
 cond (decide (64 < (↑(List.length (List.map yb c.Rules)) : Int)))
 (some (((-1 : Int), 3)))
 (Option.bind (
 lpO (fun (a : Int × List (Int × Int)) =>
 cond (decide (a.fst < (↑(List.length (List.map yb c.Rules)) : Int)))
 (zh (c.Rules) (a.fst) fun b =>
 (jK (c.Lattice) (b.From)).bind fun d =>
 cond (!d)
 (some (.inr (.inr ((a.fst, 7)))))
 ((jK (c.Lattice) (b.Goal)).bind fun e =>
 cond (!e)
 (some (.inr (.inr ((a.fst, 7)))))
 (cond (decide (b.From = b.Goal))
 (some (.inr (.inr ((a.fst, 25)))))
 (zh (c.Lattice.Up) (b.Goal) fun f =>
 zq (0 <= b.From) (
 cond (decide (bits BinOp.and IntKind.u8 (Int.fdiv f (2 ^ min (Int.toNat b.From) (IntKind.bits IntKind.u8))) 1 = 0))
 (some (.inr (.inr ((a.fst, 25)))))
 (cond (inL ((b.From, b.Goal)) (a.snd))
 (some (.inr (.inr ((a.fst, 8)))))
 (cond (decide (b.K < 2))
 (some (.inr (.inr ((a.fst, 3)))))
 (cond (decide (400 < b.K))
 (some (.inr (.inr ((a.fst, 3)))))
 (cond (inL ((b.From, b.Goal)) (a.snd))
 (zg (IntKind.wrap .i64 (a.fst + 1)) fun g =>
 some (.inl ((g, a.snd))))
 (zg (IntKind.wrap .i64 (a.fst + 1)) fun i =>
 some (.inl ((i, a.snd ++ [(b.From, b.Goal)])))))))))))))
 (some (.inr (.inl ())))) ((0, [])))
 (Sum.elim (fun (_ : Unit) =>
 some ((0, 0))) some))
def zif (f : TP) : Option (Int × Int × Int) :=
 Option.bind (
 (zu9 f).bind fun b =>
 cond (!decide (b.snd = 0))
 (some (.inl ((1, b.snd, b.fst))))
 ((zqk f).bind fun c =>
 cond (!decide (c.snd = 0))
 (some (.inl ((2, c.snd, c.fst))))
 ((zq4 f).bind fun d =>
 cond (!decide (d.snd = 0))
 (some (.inl ((3, d.snd, d.fst))))
 ((zpp f).bind fun a =>
 cond (!decide (a.snd = 0))
 (some (.inl ((4, a.snd, a.fst))))
 (some (.inl ((0, a.snd, a.fst))))))))
 (Sum.elim (fun (e : Int × Int × Int) =>
 some ((e.fst, e.snd.snd, e.snd.fst))) some)
def zpy (a : Int) : Option (List UInt8 × Int) :=
 cond (decide (a < 1))
 (some (((ByteArray.mk #[]).data.toList, 2)))
 (cond (decide (4 < a))
 (some (((ByteArray.mk #[]).data.toList, 2)))
 (zp0 a [
 some (([], 0)),
 some (([(115 : UInt8), (117 : UInt8), (109 : UInt8)], 0)),
 some (([(99 : UInt8), (111 : UInt8), (117 : UInt8), (110 : UInt8), (116 : UInt8)], 0)),
 some (([(108 : UInt8), (101 : UInt8), (97 : UInt8), (115 : UInt8), (116 : UInt8)], 0)),
 some (([(109 : UInt8), (111 : UInt8), (115 : UInt8), (116 : UInt8)], 0))]))
def zqd (b : TP) (e : Int) (f : Int) : Option (Int × Int) :=
 (zif b).bind fun d =>
 cond (!decide (d.snd.snd = 0))
 (some ((0, d.snd.snd)))
 ((jK (b.Lattice) e).bind fun g =>
 cond (!g)
 (some ((0, 7)))
 ((jK (b.Lattice) f).bind fun i =>
 cond (!i)
 (some ((0, 7)))
 (Option.bind (
 lpO (fun (a : Int) =>
 cond (decide (a < (↑(List.length (List.map yb b.Rules)) : Int)))
 (zh (b.Rules) a fun c =>
 cond (decide (c.From = e))
 (cond (decide (c.Goal = f))
 (some (.inr (.inr ((c.K, 0)))))
 (zg (IntKind.wrap .i64 (a + 1)) fun j =>
 some (.inl j)))
 (zg (IntKind.wrap .i64 (a + 1)) fun k =>
 some (.inl k)))
 (some (.inr (.inl ())))) (0))
 (Sum.elim (fun (_ : Unit) =>
 some ((0, 4))) some))))
def zrb (a : TE) (b : Int) : Option (Bool) :=
 cond (decide (a.Cells < b))
 (some (decide (a.Value.fst = 0) && (decide (a.Value.snd = 0) && true)))
 (cond (!decide (a.Value.fst = 1))
 (some (false))
 (cond (!decide (a.Fold = 2))
 (some (true))
 (cond (decide (0 <= a.Value.snd))
 (some (decide (a.Value.snd <= a.Cells)))
 (some (false)))))
def zpm (e : TP) (a : TE) : Option (Int) :=
 (zif e).bind fun c =>
 cond (!decide (c.snd.snd = 0))
 (some (c.snd.snd))
 ((zpy (a.Fold)).bind fun d =>
 cond (!decide (d.snd = 0))
 (some (d.snd))
 ((zqd e (a.From) (a.Goal)).bind fun b =>
 cond (decide (a.Site < 0))
 (some (7))
 (cond (decide (1000000000 < a.Site))
 (some (7))
 (cond (decide (a.Cells < 0))
 (some (7))
 (cond (decide (400 < a.Cells))
 (some (7))
 (cond (!decide (b.snd = 0))
 (some (b.snd))
 ((zrb a (b.fst)).bind fun f =>
 cond (!f)
 (some (6))
 (some (0)))))))))
def zkf (f : TP) (e : List TE) : Option (Int × Int) :=
 (zif f).bind fun b =>
 cond (!decide (b.snd.snd = 0))
 (some (((-1 : Int), b.snd.snd)))
 (cond (decide (2000 < (↑(List.length (List.map zl e)) : Int)))
 (some (((-1 : Int), 3)))
 (Option.bind (
 lpO (fun (a : Int) =>
 cond (decide (a < (↑(List.length (List.map zl e)) : Int)))
 (zh e a fun c =>
 (zpm f c).bind fun d =>
 cond (!decide (d = 0))
 (some (.inr (.inr ((a, d)))))
 (cond (decide (c.Site = 0))
 (some (.inr (.inr ((a, 6)))))
 (zg (IntKind.wrap .i64 (a + 1)) fun g =>
 some (.inl g))))
 (some (.inr (.inl ())))) (0))
 (Sum.elim (fun (_ : Unit) =>
 some ((0, 0))) some)))
def zia (F : TP) (j : List TE) : Option (List (Int × Int × Int × Int × Int) × Int) :=
 (zkf F j).bind fun g =>
 cond (!decide (g.snd = 0))
 (some (([], g.snd)))
 (Option.bind (
 lpO (fun (b : Int × List (Int × Int × Int) × List ((Int × Int × Int) × Int × Int × Int × Int × Int)) =>
 cond (decide (b.fst < (↑(List.length (List.map zl j)) : Int)))
 (zh j (b.fst) fun a =>
 ui (b.snd.snd) ((a.From, a.Goal, a.Fold))
 (zq ((List.length (List.map (wv (1 : Nat) (SV.int .i64)) b.snd.fst) + (1 : Nat)) * (24 : Nat) <= (70368744177664 : Nat)) (
 cond (decide (a.Value.fst = 0))
 (ui (b.snd.snd) ((a.From, a.Goal, a.Fold))
 (zg (IntKind.wrap .i64 (b.fst + 1)) fun k =>
 some (.inl ((k, b.snd.fst ++ [(a.From, a.Goal, a.Fold)], b.snd.snd ++ [((a.From, a.Goal, a.Fold), a.From, a.Goal, a.Fold, 1, 1)])))) fun l G =>
 zg (IntKind.wrap .i64 (b.fst + 1)) fun m =>
 some (.inl ((m, b.snd.fst ++ [(a.From, a.Goal, a.Fold)], List.set b.snd.snd l ((a.From, a.Goal, a.Fold), a.From, a.Goal, a.Fold, 1, 1)))))
 (ui (b.snd.snd) ((a.From, a.Goal, a.Fold))
 (zg (IntKind.wrap .i64 (b.fst + 1)) fun n =>
 some (.inl ((n, b.snd.fst ++ [(a.From, a.Goal, a.Fold)], b.snd.snd ++ [((a.From, a.Goal, a.Fold), a.From, a.Goal, a.Fold, 1, 0)])))) fun o H =>
 zg (IntKind.wrap .i64 (b.fst + 1)) fun p =>
 some (.inl ((p, b.snd.fst ++ [(a.From, a.Goal, a.Fold)], List.set b.snd.snd o ((a.From, a.Goal, a.Fold), a.From, a.Goal, a.Fold, 1, 0))))))) fun J c =>
 zg (IntKind.wrap .i64 (c.snd.snd.snd.fst + 1)) fun f =>
 cond (decide (a.Value.fst = 0))
 (zg (IntKind.wrap .i64 (c.snd.snd.snd.snd + 1)) fun i =>
 ui (b.snd.snd) ((a.From, a.Goal, a.Fold))
 (zg (IntKind.wrap .i64 (b.fst + 1)) fun w =>
 some (.inl ((w, b.snd.fst, b.snd.snd ++ [((a.From, a.Goal, a.Fold), c.fst, c.snd.fst, c.snd.snd.fst, f, i)])))) fun y K =>
 zg (IntKind.wrap .i64 (b.fst + 1)) fun z =>
 some (.inl ((z, b.snd.fst, List.set b.snd.snd y ((a.From, a.Goal, a.Fold), c.fst, c.snd.fst, c.snd.snd.fst, f, i)))))
 (ui (b.snd.snd) ((a.From, a.Goal, a.Fold))
 (zg (IntKind.wrap .i64 (b.fst + 1)) fun A =>
 some (.inl ((A, b.snd.fst, b.snd.snd ++ [((a.From, a.Goal, a.Fold), c.fst, c.snd.fst, c.snd.snd.fst, f, c.snd.snd.snd.snd)])))) fun C L =>
 zg (IntKind.wrap .i64 (b.fst + 1)) fun D =>
 some (.inl ((D, b.snd.fst, List.set b.snd.snd C ((a.From, a.Goal, a.Fold), c.fst, c.snd.fst, c.snd.snd.fst, f, c.snd.snd.snd.snd))))))
 (some (.inr (.inl (b.snd))))) ((0, [], [])))
 (Sum.elim (fun (e : List (Int × Int × Int) × List ((Int × Int × Int) × Int × Int × Int × Int × Int)) =>
 zq (List.length e.fst <= (1000000 : Nat)) (
 Option.bind (
 lpO (fun (d : Int × List (Int × Int × Int × Int × Int)) =>
 cond (decide (d.fst < (↑(List.length (List.map s3 (sortK e.fst))) : Int)))
 (zq (0 <= d.fst /\ d.fst < (↑(List.length (List.map s3 (sortK e.fst))) : Int)) (
 zh (sortK e.fst) ((↑(Int.toNat d.fst) : Int)) fun q =>
 ui (e.snd) q
 (zq ((List.length (List.map (fun (x : Int × Int × Int × Int × Int) => SV.agg [SV.int .i64 x.fst, SV.int .i64 x.snd.fst, SV.int .i64 x.snd.snd.fst, SV.int .i64 x.snd.snd.snd.fst, SV.int .i64 x.snd.snd.snd.snd]) d.snd) + (1 : Nat)) * (40 : Nat) <= (70368744177664 : Nat)) (
 zg (IntKind.wrap .i64 (d.fst + 1)) fun s =>
 some (.inl ((s, d.snd ++ [(0, 0, 0, 0, 0)]))))) fun I t =>
 zq ((List.length (List.map (fun (x : Int × Int × Int × Int × Int) => SV.agg [SV.int .i64 x.fst, SV.int .i64 x.snd.fst, SV.int .i64 x.snd.snd.fst, SV.int .i64 x.snd.snd.snd.fst, SV.int .i64 x.snd.snd.snd.snd]) d.snd) + (1 : Nat)) * (40 : Nat) <= (70368744177664 : Nat)) (
 zg (IntKind.wrap .i64 (d.fst + 1)) fun u =>
 some (.inl ((u, d.snd ++ [t]))))))
 (some (.inr (.inl (d.snd))))) ((0, [])))
 (Sum.elim (fun (v : List (Int × Int × Int × Int × Int)) =>
 some ((v, 0))) some))) some))
def zqo (e : TP) (f : Int) (g : List (List TE)) : Option (Int) :=
 Option.bind (
 lpO (fun (a : Int) =>
 cond (decide (a < (↑(List.length (List.map (zm 7 zl) g)) : Int)))
 (zh g a fun c =>
 (zkf e c).bind fun b =>
 cond (!decide (b.snd = 0))
 (some (.inr (.inr (b.snd))))
 (zg (IntKind.wrap .i64 (a + 1)) fun d =>
 some (.inl d)))
 (some (.inr (.inl ())))) (0))
 (Sum.elim (fun (_ : Unit) =>
 cond (decide (f < 0))
 (some (7))
 (cond (decide ((↑(List.length (List.map SV.str e.Lattice.Names)) : Int) <= f))
 (some (7))
 (some (0)))) some)
def zpa (j : TP) (g : List TE) (i : Int) : Option (List TE) :=
 Option.bind (
 lpO (fun (a : Int × List TE) =>
 cond (decide (a.fst < (↑(List.length (List.map zl g)) : Int)))
 (zh g (a.fst) fun b =>
 zh (j.Lattice.Up) (b.Goal) fun c =>
 zq (0 <= i) (
 cond (decide (bits BinOp.and IntKind.u8 (Int.fdiv c (2 ^ min (Int.toNat i) (IntKind.bits IntKind.u8))) 1 = 1))
 (zq ((List.length (List.map zl a.snd) + (1 : Nat)) * (56 : Nat) <= (70368744177664 : Nat)) (
 zg (IntKind.wrap .i64 (a.fst + 1)) fun d =>
 some (.inl ((d, a.snd ++ [b])))))
 (zg (IntKind.wrap .i64 (a.fst + 1)) fun e =>
 some (.inl ((e, a.snd))))))
 (some (.inr (.inl (a.snd))))) ((0, [])))
 (Sum.elim (fun (f : List TE) =>
 some f) some)
def zdl (c : TP) (d : List TE) (e : Int) : Option (List TE × Int) :=
 (zqo c e ([d])).bind fun a =>
 cond (!decide (a = 0))
 (some (([], a)))
 ((zpa c d e).bind fun b =>
 some ((b, 0)))
def zcl (d : TL) (a : Int) (b : Int) : Option (Bool) :=
 cond (decide (0 <= a))
 (cond (decide (a < (↑(List.length (List.map (SV.int .u8) d.Up)) : Int)))
 (cond (decide (0 <= b))
 (zh (d.Up) a fun c =>
 zq (0 <= b) (
 some (decide (Int.tmod (Int.fdiv c (2 ^ min (Int.toNat b) (IntKind.bits IntKind.u8))) 2 = 1))))
 (some (false)))
 (some (false)))
 (some (false))
def zmu (d : List TE) (f : List TE) : Option (Bool) :=
 cond (!decide ((↑(List.length (List.map zl d)) : Int) = (↑(List.length (List.map zl f)) : Int)))
 (some (false))
 (Option.bind (
 lpO (fun (c : Int) =>
 cond (decide (c < (↑(List.length (List.map zl d)) : Int)))
 (zh d c fun a =>
 zh f c fun b =>
 cond (!(decide (a.Site = b.Site) && (decide (a.Fold = b.Fold) && (decide (a.From = b.From) && (decide (a.Goal = b.Goal) && (decide (a.Cells = b.Cells) && (decide (a.Value.fst = b.Value.fst) && (decide (a.Value.snd = b.Value.snd) && true) && true)))))))
 (some (.inr (.inr (false))))
 (zg (IntKind.wrap .i64 (c + 1)) fun e =>
 some (.inl e)))
 (some (.inr (.inl ())))) (0))
 (Sum.elim (fun (_ : Unit) =>
 some (true)) some))
def zvd (j : TP) (l : List TE) (m : List TE) : Option (Bool) :=
 (Fz2 j).bind fun c4 =>
 cond c4
 (some (true))
 (cond (decide (40 < (↑(List.length (List.map zl l)) : Int)))
 (some (true))
 (cond (decide (40 < (↑(List.length (List.map zl m)) : Int)))
 (some (true))
 (zq (((0 : Nat) + List.length (List.map zl l)) * (56 : Nat) <= (70368744177664 : Nat)) (
 zq ((List.length ([] ++ List.map zl l) + List.length (List.map zl m)) * (56 : Nat) <= (70368744177664 : Nat)) (
 (zia j l).bind fun g =>
 (zia j m).bind fun i =>
 (zia j ([] ++ l ++ m)).bind fun a =>
 cond (!decide (g.snd = 0))
 (cond (!decide (a.snd = 0))
 (some (true))
 (some (false)))
 (cond (!decide (i.snd = 0))
 (cond (!decide (a.snd = 0))
 (some (true))
 (some (false)))
 (cond (!decide (a.snd = 0))
 (some (false))
 (Option.bind (
 lpO (fun (b : Int × Int) =>
 cond (decide (b.fst < (↑(List.length (List.map (fun (x : Int × Int × Int × Int × Int) => SV.agg [SV.int .i64 x.fst, SV.int .i64 x.snd.fst, SV.int .i64 x.snd.snd.fst, SV.int .i64 x.snd.snd.snd.fst, SV.int .i64 x.snd.snd.snd.snd]) a.fst)) : Int)))
 (Option.bind (
 lpO (fun (c : Int × Int × Int) =>
 cond (decide (c.fst < (↑(List.length (List.map (fun (x : Int × Int × Int × Int × Int) => SV.agg [SV.int .i64 x.fst, SV.int .i64 x.snd.fst, SV.int .i64 x.snd.snd.fst, SV.int .i64 x.snd.snd.snd.fst, SV.int .i64 x.snd.snd.snd.snd]) g.fst)) : Int)))
 (zh (g.fst) (c.fst) fun u =>
 zh (a.fst) (b.fst) fun v =>
 cond (decide (u.fst = v.fst))
 (zh (g.fst) (c.fst) fun w =>
 zh (a.fst) (b.fst) fun y =>
 cond (decide (w.snd.fst = y.snd.fst))
 (zh (g.fst) (c.fst) fun z =>
 zh (a.fst) (b.fst) fun A =>
 cond (decide (z.snd.snd.fst = A.snd.snd.fst))
 (zh (g.fst) (c.fst) fun C =>
 zg (IntKind.wrap .i64 (c.snd.fst + C.snd.snd.snd.fst)) fun D =>
 zh (g.fst) (c.fst) fun F =>
 zg (IntKind.wrap .i64 (c.snd.snd + F.snd.snd.snd.snd)) fun G =>
 zg (IntKind.wrap .i64 (c.fst + 1)) fun H =>
 some (.inl ((H, D, G))))
 (zg (IntKind.wrap .i64 (c.fst + 1)) fun I =>
 some (.inl ((I, c.snd)))))
 (zg (IntKind.wrap .i64 (c.fst + 1)) fun J =>
 some (.inl ((J, c.snd)))))
 (zg (IntKind.wrap .i64 (c.fst + 1)) fun K =>
 some (.inl ((K, c.snd)))))
 (some (.inr (.inl (c.snd))))) ((0, 0, 0)))
 (Sum.elim (fun (L : Int × Int) =>
 Option.bind (
 lpO (fun (d : Int × Int × Int) =>
 cond (decide (d.fst < (↑(List.length (List.map (fun (x : Int × Int × Int × Int × Int) => SV.agg [SV.int .i64 x.fst, SV.int .i64 x.snd.fst, SV.int .i64 x.snd.snd.fst, SV.int .i64 x.snd.snd.snd.fst, SV.int .i64 x.snd.snd.snd.snd]) i.fst)) : Int)))
 (zh (i.fst) (d.fst) fun M =>
 zh (a.fst) (b.fst) fun N =>
 cond (decide (M.fst = N.fst))
 (zh (i.fst) (d.fst) fun O =>
 zh (a.fst) (b.fst) fun P =>
 cond (decide (O.snd.fst = P.snd.fst))
 (zh (i.fst) (d.fst) fun Q =>
 zh (a.fst) (b.fst) fun R =>
 cond (decide (Q.snd.snd.fst = R.snd.snd.fst))
 (zh (i.fst) (d.fst) fun S =>
 zg (IntKind.wrap .i64 (d.snd.fst + S.snd.snd.snd.fst)) fun T =>
 zh (i.fst) (d.fst) fun U =>
 zg (IntKind.wrap .i64 (d.snd.snd + U.snd.snd.snd.snd)) fun V =>
 zg (IntKind.wrap .i64 (d.fst + 1)) fun W =>
 some (.inl ((W, T, V))))
 (zg (IntKind.wrap .i64 (d.fst + 1)) fun X =>
 some (.inl ((X, d.snd)))))
 (zg (IntKind.wrap .i64 (d.fst + 1)) fun Y =>
 some (.inl ((Y, d.snd)))))
 (zg (IntKind.wrap .i64 (d.fst + 1)) fun Z =>
 some (.inl ((Z, d.snd)))))
 (some (.inr (.inl (d.snd))))) ((0, L)))
 (Sum.elim (fun (p : Int × Int) =>
 zh (a.fst) (b.fst) fun a3 =>
 zh (a.fst) (b.fst) fun a4 =>
 cond (!(decide (p.fst = a3.snd.snd.snd.fst) && (decide (p.snd = a4.snd.snd.snd.snd) && true)))
 (some (.inr (.inr (false))))
 (zh (a.fst) (b.fst) fun a5 =>
 zh (a.fst) (b.fst) fun a6 =>
 cond (decide (a6.snd.snd.snd.fst < a5.snd.snd.snd.snd))
 (some (.inr (.inr (false))))
 (zh (a.fst) (b.fst) fun a7 =>
 cond (decide (a7.snd.snd.snd.fst < 1))
 (some (.inr (.inr (false))))
 (zh (a.fst) (b.fst) fun a8 =>
 zg (IntKind.wrap .i64 (b.snd + a8.snd.snd.snd.fst)) fun a9 =>
 zg (IntKind.wrap .i64 (b.fst + 1)) fun b0 =>
 some (.inl ((b0, a9))))))) some)) some))
 (some (.inr (.inl (b.snd))))) ((0, 0)))
 (Sum.elim (fun (b1 : Int) =>
 cond (!decide (b1 = (↑(List.length ([] ++ List.map zl l ++ List.map zl m)) : Int)))
 (some (false))
 (Option.bind (
 lpO (fun (f : Int) =>
 cond (decide (f < (↑(List.length (List.map SV.str j.Lattice.Names)) : Int)))
 ((zdl j ([] ++ l ++ m) f).bind fun k =>
 cond (!decide (k.snd = 0))
 (some (.inr (.inr (false))))
 (Option.bind (
 lpO (fun (e : Int × Bool) =>
 cond (decide (e.fst < (↑(List.length (List.map SV.str j.Lattice.Names)) : Int)))
 (cond (e.snd)
 ((zcl (j.Lattice) (e.fst) f).bind fun q =>
 (zcl (j.Lattice) f (e.fst)).bind fun b2 =>
 cond (!b2)
 (zg (IntKind.wrap .i64 (e.fst + 1)) fun b3 =>
 some (.inl ((b3, q))))
 ((zdl j ([] ++ l ++ m) (e.fst)).bind fun n =>
 (zdl j (n.fst) f).bind fun s =>
 cond (!decide (n.snd = 0))
 (some (.inr (.inr (.inr (.inr (false))))))
 (cond (!decide (s.snd = 0))
 (some (.inr (.inr (.inr (.inr (false))))))
 (cond (decide ((↑(List.length (List.map zl n.fst)) : Int) < (↑(List.length (List.map zl k.fst)) : Int)))
 (some (.inr (.inr (.inr (.inr (false))))))
 ((zmu (s.fst) (k.fst)).bind fun b4 =>
 cond (!b4)
 (some (.inr (.inr (.inr (.inr (false))))))
 (zg (IntKind.wrap .i64 (e.fst + 1)) fun b5 =>
 some (.inl ((b5, q)))))))))
 ((zcl (j.Lattice) f (e.fst)).bind fun b6 =>
 cond (!b6)
 (zg (IntKind.wrap .i64 (e.fst + 1)) fun b7 =>
 some (.inl ((b7, false))))
 ((zdl j ([] ++ l ++ m) (e.fst)).bind fun o =>
 (zdl j (o.fst) f).bind fun t =>
 cond (!decide (o.snd = 0))
 (some (.inr (.inr (.inr (.inr (false))))))
 (cond (!decide (t.snd = 0))
 (some (.inr (.inr (.inr (.inr (false))))))
 (cond (decide ((↑(List.length (List.map zl o.fst)) : Int) < (↑(List.length (List.map zl k.fst)) : Int)))
 (some (.inr (.inr (.inr (.inr (false))))))
 ((zmu (t.fst) (k.fst)).bind fun b8 =>
 cond (!b8)
 (some (.inr (.inr (.inr (.inr (false))))))
 (zg (IntKind.wrap .i64 (e.fst + 1)) fun b9 =>
 some (.inl ((b9, false))))))))))
 (some (.inr (.inl (e.snd))))) ((0, true)))
 (Sum.elim (fun (c0 : Bool) =>
 cond c0
 (cond (!decide ((↑(List.length (List.map zl k.fst)) : Int) = (↑(List.length ([] ++ List.map zl l ++ List.map zl m)) : Int)))
 (some (.inr (.inr (false))))
 (zg (IntKind.wrap .i64 (f + 1)) fun c2 =>
 some (.inl c2)))
 (zg (IntKind.wrap .i64 (f + 1)) fun c3 =>
 some (.inl c3))) some)))
 (some (.inr (.inl ())))) (0))
 (Sum.elim (fun (_ : Unit) =>
 some (true)) some))) some)))))))))
end Go.Sx.O
end
namespace Go.Sx.O
open Go
theorem zti {α τ : Type} {l : List α} (p : α -> Bool) {step : Int -> Option (Int ⊕ τ)} {d : τ} {g : Int -> τ}
 (h1 : ∀ (k : Nat) x, l[k]? = some x -> step (k : Int) = if p x then some (.inr (g k)) else some (.inl ((k : Int) + 1)))
 (h2 : step (l.length : Int) = some (.inr d)) :
 lpO step 0 = (match l.findIdx? p with | some i => some (g i) | none => some d) := by
 have key : ∀ j k, j + k = l.length -> lpO step (k : Int) = (match (l.drop k).findIdx? p with | some i => some (g ((k + i : Nat) : Int)) | none => some d) := by
  intro j
  induction j with
  | zero =>
    intro k hk
    rw [jr]
    have : k = l.length := by omega
    subst this
    rw [h2]
    simp
  | succ j ih =>
    intro k hk
    have hlt : k < l.length := by omega
    rw [jr, h1 k _ (List.getElem?_eq_getElem hlt), List.drop_eq_getElem_cons hlt, List.findIdx?_cons]
    split
    . simp
    . have := ih (k + 1) (by omega)
      simp only [Option.bind_some, Sum.elim_inl]
      push_cast at this
      rw [this]
      cases (l.drop (k + 1)).findIdx? p with
      | none => rfl
      | some i => simp; congr 1; omega
 have := key l.length 0 (by omega)
 simpa using this
open Go
theorem dropWhile_nil {α : Type} {p : α -> Bool} : ∀ {l : List α}, l.dropWhile p = [] ↔ ∀ x ∈ l, p x = true
 | [] => by simp
 | a :: l => by
   rw [List.dropWhile_cons]
   cases h : p a with
   | true => simp [h, dropWhile_nil (l := l)]
   | false => simp [h]
theorem zde (l : List (List UInt8)) (s : List UInt8) (hl : l.length <= 1000000000) :
 zpq l s = some (match l.findIdx? (fun x => decide (s = x)) with | some i => (i : Int) | none => -1) := by
 unfold zpq
 rw [zti (l := l) (fun x => decide (s = x)) (d := .inl ()) (g := .inr) ?_ ?_]
 . cases l.findIdx? (fun x => decide (s = x)) <;> rfl
 . intro k x hx
   have hlt : k < l.length := by
    by_cases h : k < l.length
    . exact h
    . rw [List.getElem?_eq_none (by omega)] at hx; cases hx
   simp only [List.length_map, Int.ofNat_lt, hlt, decide_true, cond_true, zh, Int.toNat_natCast, hx, Option.bind_some, zg, Int.natCast_nonneg, if_true]
   rw [w64 (by omega) (by omega)]
   cases decide (s = x) <;> rfl
 . simp
theorem jS (l : List (List UInt8)) (s : List UInt8) (hl : l.length <= 1000000000) :
 zq6 l s = some (decide (s ∈ l)) := by
 unfold zq6
 rw [zde l s hl]
 cases h : l.findIdx? (fun x => decide (s = x)) with
 | none =>
   have := List.findIdx?_eq_none_iff.1 h
   simp only [Option.bind_some]
   congr 1
   have hn : s ∉ l := fun hm => by have := this s hm; simp at this
   simp [hn]
 | some i =>
   have := List.findIdx?_eq_some_iff_getElem.1 h
   obtain ⟨hi, h1, _⟩ := this
   have hm : s ∈ l := by
    have e : s = l[i] := by simpa using h1
    rw [e]; exact List.getElem_mem hi
   simp [hm]
def yH (set : List Bool) (c : UInt8) : Bool := set.getD c.toNat false
theorem zch (set : List Bool) (c : UInt8) (h : set.length = 256) : Fz6 set (c.toNat : Int) = some (yH set c) := by
 unfold Fz6
 have hc : c.toNat < 256 := c.toNat_lt
 have h2 : set[c.toNat]? = some (set[c.toNat]'(by omega)) := List.getElem?_eq_getElem _
 have h3 : (c.toNat : Int) < 256 := by omega
 simp [zq, zh, yH, h2, h3]
def xG (p : UInt8 -> Bool) (s : List UInt8) : List UInt8 := (s.reverse.dropWhile p).reverse
theorem zsd {p : UInt8 -> Bool} {s : List UInt8} : (xG p s).dropWhile p = [] ↔ ∀ c ∈ s, p c = true := by
 unfold xG
 constructor
 . intro h c hc
   have h1 : ∀ c ∈ (s.reverse.dropWhile p).reverse, p c = true := dropWhile_nil.1 h
   have h2 : s.reverse.dropWhile p = [] := by
    cases e : s.reverse.dropWhile p with
    | nil => rfl
    | cons a r =>
      have := List.head?_dropWhile_not p s.reverse
      rw [e] at this
      simp at this
      rw [e] at h1
      rw [h1 a (by simp)] at this
      cases this
   exact dropWhile_nil.1 h2 c (by simpa using hc)
 . intro h
   have : s.reverse.dropWhile p = [] := dropWhile_nil.2 fun c hc => h c (by simpa using hc)
   rw [this]; rfl
theorem zci (s : List UInt8) (set : List Bool) (h : set.length = 256) (hs : s.length <= 1000000000) : Fz7 s set = some (xG (yH set) s) := by
 unfold Fz7
 apply Tot.eq
 simp only [zB]
 refine Tot.loop (fun s => s.length) (fun r => r.length <= 1000000000 /\ xG (yH set) r = xG (yH set) s) ?_ ⟨hs, rfl⟩
 rintro r ⟨hr, he⟩
 simp only [zw, zJ, ql, qE, wb, zB, Sum.elim_inl, Sum.elim_inr, decide_eq_true_eq, decide_eq_false_iff_not]
 refine ⟨fun h1 => ?_, fun h1 => ?_⟩
 . have h0 : r ≠ [] := by rintro rfl; simp at h1
   rw [w64 (by omega) (by omega)]
   have e1 : ((r.length : Int) - 1).toNat = r.length - 1 := by omega
   rw [e1]
   refine ⟨by omega, _, List.getElem?_eq_getElem (by omega), ?_⟩
   rw [zch set _ h]
   simp only [zw, Bool.not_eq_true', Bool.not_eq_false']
   have hr2 : r = r.dropLast ++ [r[r.length - 1]'(by omega)] := by
    rw [<- List.getLast_eq_getElem h0]; exact (List.dropLast_concat_getLast h0).symm
   refine ⟨fun h2 => ?_, fun h2 => ⟨⟨by omega, by omega⟩, ⟨by simp; omega, ?_⟩, by simp; omega⟩⟩
   . rw [<- he]
     unfold xG
     rw [hr2]
     simp [h2]
   . rw [<- he]
     simp only [Int.toNat_zero, List.drop_zero]
     rw [<- List.dropLast_eq_take]
     conv => rhs; rw [hr2]
     unfold xG
     simp [h2]
 . have h0 : r = [] := List.length_eq_zero_iff.1 (by omega)
   rw [<- he, h0]; rfl
theorem zdh (s : List UInt8) (set : List Bool) (h : set.length = 256) (hs : s.length <= 1000000000) : Fz8 s set = some (s.dropWhile (yH set)) := by
 unfold Fz8
 apply Tot.eq
 simp only [zB]
 refine Tot.loop (fun s => s.length) (fun r => r.length <= 1000000000 /\ r.dropWhile (yH set) = s.dropWhile (yH set)) ?_ ⟨hs, rfl⟩
 rintro r ⟨hr, he⟩
 simp only [zw, zJ, ql, qE, wb, zB, Sum.elim_inl, Sum.elim_inr, decide_eq_true_eq, decide_eq_false_iff_not]
 cases r with
 | nil => simp [<- he]
 | cons a r =>
   refine ⟨fun h1 => ⟨by omega, a, rfl, ?_⟩, fun h1 => absurd h1 (by simp)⟩
   rw [zch set _ h]
   simp only [zw, Bool.not_eq_true', Bool.not_eq_false']
   refine ⟨fun h2 => ?_, fun h2 => ⟨by simp; omega, ⟨?_, ?_⟩, ?_⟩⟩
   . rw [<- he]; simp [h2]
   . simp at hr ⊢; omega
   . rw [<- he]; simp [h2]
   . simp
open Go
theorem zrv {set : List Bool} {c d : UInt8} (h : set.length = 256) : yH (set.set c.toNat true) d = (decide (d = c) || yH set d) := by
 have hc : c.toNat < 256 := c.toNat_lt
 unfold yH
 rw [List.getD_eq_getElem?_getD, List.getD_eq_getElem?_getD, List.getElem?_set]
 by_cases e : c.toNat = d.toNat
 . have : d = c := (UInt8.toNat_inj.1 e).symm
   subst this
   simp [h, hc]
 . have : d ≠ c := fun e' => e (by rw [e'])
   simp [e, this]
theorem zeb (cs : List UInt8) (h : ∀ c ∈ cs, c.toNat < 128) (hs : cs.length <= 1000000000) : Tot (Fz5 cs) fun r => r.2 = true /\ r.1.length = 256 /\ ∀ d, yH r.1 d = decide (d ∈ cs) := by
 unfold Fz5
 simp only [zB]
 refine Tot.count cs.length (fun k s => s.1 = (k : Int) /\ s.2.length = 256 /\ ∀ d, yH s.2 d = decide (d ∈ cs.take k)) ?_ ⟨rfl, List.length_replicate, fun d => ?_⟩
 . rintro k ⟨i, set⟩ hk ⟨h0, h1, h2⟩
   simp only at h0 h1 h2
   subst h0
   simp only [zw, zJ, ql, qE, wb, Sum.elim_inl, Sum.elim_inr, decide_eq_true_eq, decide_eq_false_iff_not, Int.toNat_natCast]
   refine ⟨fun hlt => ⟨by omega, _, List.getElem?_eq_getElem (by omega), fun h3 => ?_, fun h3 => ?_⟩, fun hlt => ?_⟩
   . have := h cs[k] (List.getElem_mem _)
     omega
   . have hc : cs[k].toNat < 256 := (cs[k]'(by omega)).toNat_lt
     refine ⟨⟨by omega, by omega⟩, by omega, _, List.getElem?_eq_getElem (by omega), ?_⟩
     rw [w64 (by omega) (by omega)]
     refine ⟨by omega, by omega, by simpa using h1, fun d => ?_⟩
     have hm : d ∈ cs.take (k + 1) ↔ d ∈ cs.take k \/ d = cs[k] := by
      rw [List.take_add_one, List.getElem?_eq_getElem (by omega), List.mem_append]
      simp
     rw [zrv h1, h2, Bool.eq_iff_iff]
     simp only [Bool.or_eq_true, decide_eq_true_eq, hm]
     exact or_comm
   . refine ⟨trivial, h1, fun d => ?_⟩
     rw [h2, List.take_of_length_le (by omega)]
 . unfold yH
   rw [List.getD_eq_getElem?_getD, List.getElem?_replicate]
   split <;> simp
theorem zsi (s cs : List UInt8) (h : ∀ c ∈ cs, c.toNat < 128) (h1 : 2 <= cs.length) (hs : cs.length <= 1000000000) (hl : s.length <= 1000000000) :
 zp7 s cs = some ((xG (fun c => decide (c ∈ cs)) s).dropWhile (fun c => decide (c ∈ cs))) := by
 unfold zp7
 have e0 : (ByteArray.mk #[]).data.toList = [] := rfl
 simp only [e0]
 cases s with
 | nil => simp [xG]
 | cons a r =>
   have e1 : decide (a :: r = []) = false := by simp
   have e2 : decide (cs = []) = false := by cases cs <;> simp at h1 ⊢
   have e3 : decide ((cs.length : Int) = 1) = false := by simp; omega
   simp only [e1, e2, e3, cond_false]
   obtain ⟨x, hx, hx1, hx2, hx3⟩ := zeb cs h hs
   have e4 : yH x.1 = fun c => decide (c ∈ cs) := funext hx3
   rw [hx]
   simp only [Option.bind_some, hx1, cond_true]
   rw [zci _ _ hx2 hl]
   simp only [Option.bind_some]
   rw [zdh _ _ hx2 (by
    refine Nat.le_trans ?_ hl
    unfold xG
    rw [List.length_reverse]
    refine Nat.le_trans (List.dropWhile_sublist _).length_le (by simp))]
   rw [e4]
   rfl
def zxh : List UInt8 := [97, 98, 99, 100, 101, 102, 103, 104, 105, 106, 107, 108, 109, 110, 111, 112, 113, 114, 115, 116, 117, 118, 119, 120, 121, 122, 48, 49, 50, 51, 52, 53, 54, 55, 56, 57, 45]
def zju (s : List UInt8) : Bool := decide (s.length <= 16) && (match s with | [] => false | c :: _ => decide (97 <= c.toNat) && decide (c.toNat <= 122)) && s.all fun c => decide (c ∈ zxh)
theorem ziv (s : List UInt8) (hl : s.length <= 1000000000) : zo8 s = some (zju s) := by
 unfold zo8
 have e0 : (ByteArray.mk #[]).data.toList = [] := rfl
 simp only [e0]
 rw [zsi s _ (by decide) (by decide) (by decide) hl]
 cases s with
 | nil => rfl
 | cons a r =>
   have e1 : decide (a :: r = []) = false := by simp
   simp only [e1, cond_false, Option.bind_some]
   have e5 : zh (a :: r) 0 = fun f => (f a : Option Bool) := rfl
   simp only [e5]
   unfold zju
   by_cases h1 : (16 : Int) < ((a :: r).length : Int)
   . have : ¬ (a :: r).length <= 16 := by omega
     simp only [h1, decide_true, cond_true, this, decide_false, Bool.false_and]
   . have h1' : (a :: r).length <= 16 := by omega
     simp only [h1, decide_false, cond_false, h1', decide_true, Bool.true_and]
     by_cases h2 : (a.toNat : Int) < 97
     . have : ¬ 97 <= a.toNat := by omega
       simp only [h2, decide_true, cond_true, this, decide_false, Bool.false_and]
     . have h2' : 97 <= a.toNat := by omega
       simp only [h2, decide_false, cond_false, h2', decide_true, Bool.true_and]
       by_cases h3 : (122 : Int) < (a.toNat : Int)
       . have : ¬ a.toNat <= 122 := by omega
         simp only [h3, decide_true, cond_true, this, decide_false, Bool.false_and]
       . have h3' : a.toNat <= 122 := by omega
         simp only [h3, decide_false, cond_false, h3', decide_true, Bool.true_and]
         congr 1
         rw [Bool.eq_iff_iff, decide_eq_true_eq, zsd, List.all_eq_true]
         rfl
open Go
theorem zx9 : ∀ u : Fin 256, ∀ b : Fin 9, bits .and .u8 (Int.fdiv (u.val : Int) (2 ^ min b.val (IntKind.bits .u8))) 1 = if Nat.testBit u b then 1 else 0 := by decide +kernel
theorem zcc {u : Int} {b : Nat} (h0 : 0 <= u) (h1 : u < 256) (hb : b <= 8) : bits .and .u8 (Int.fdiv u (2 ^ min b (IntKind.bits .u8))) 1 = if u.toNat.testBit b then 1 else 0 := by
 have := zx9 ⟨u.toNat, by omega⟩ ⟨b, by omega⟩
 simp only at this
 rw [Int.toNat_of_nonneg h0] at this
 exact this
theorem xE {u : Int} (h0 : 0 <= u) : BitVec.ofInt 8 u = BitVec.ofNat 8 u.toNat := by
 conv => lhs; rw [<- Int.toNat_of_nonneg h0]
 exact BitVec.ofInt_natCast 8 u.toNat
theorem zie {n : Nat} (h : n < 256) : IntKind.wrap .u8 (n : Int) = n := by
 simp only [IntKind.wrap, IntKind.signed, IntKind.bits, Bool.false_and]
 have h3 : (2 : Int) ^ 8 = 256 := by decide
 simp only [h3]
 have : (n : Int) % 256 = n := by omega
 simp [this]
theorem zb1 {a b : Int} (ha : 0 <= a) (ha' : a < 256) (hb : 0 <= b) (hb' : b < 256) : bits .and .u8 a b = ((a.toNat &&& b.toNat : Nat) : Int) := by
 have e : bits .and .u8 a b = IntKind.wrap .u8 ((BitVec.ofInt 8 a &&& BitVec.ofInt 8 b).toNat : Int) := rfl
 rw [e, xE ha, xE hb]
 rw [zie (BitVec.isLt _)]
 rw [BitVec.toNat_and, BitVec.toNat_ofNat, BitVec.toNat_ofNat, Nat.mod_eq_of_lt (by omega), Nat.mod_eq_of_lt (by omega)]
theorem zoj {a b : Int} (ha : 0 <= a) (ha' : a < 256) (hb : 0 <= b) (hb' : b < 256) : bits .or .u8 a b = ((a.toNat ||| b.toNat : Nat) : Int) := by
 have e : bits .or .u8 a b = IntKind.wrap .u8 ((BitVec.ofInt 8 a ||| BitVec.ofInt 8 b).toNat : Int) := rfl
 rw [e, xE ha, xE hb]
 rw [zie (BitVec.isLt _)]
 rw [BitVec.toNat_or, BitVec.toNat_ofNat, BitVec.toNat_ofNat, Nat.mod_eq_of_lt (by omega), Nat.mod_eq_of_lt (by omega)]
theorem za0 {a b : Int} (ha : 0 <= a) (ha' : a < 256) (hb : 0 <= b) (hb' : b < 256) : bits .andNot .u8 a b = 0 ↔ ∀ i, a.toNat.testBit i = true -> b.toNat.testBit i = true := by
 have e : bits .andNot .u8 a b = IntKind.wrap .u8 ((BitVec.ofInt 8 a &&& ~~~BitVec.ofInt 8 b).toNat : Int) := rfl
 rw [e, xE ha, xE hb]
 rw [zie (BitVec.isLt _)]
 have hbit : ∀ i, (BitVec.ofNat 8 a.toNat &&& ~~~BitVec.ofNat 8 b.toNat).getLsbD i = (decide (i < 8) && a.toNat.testBit i && !(b.toNat.testBit i)) := by
  intro i
  rw [BitVec.getLsbD_and, BitVec.getLsbD_not, BitVec.getLsbD_ofNat, BitVec.getLsbD_ofNat]
  cases decide (i < 8) <;> simp
 have h8 : ∀ i, a.toNat.testBit i = true -> i < 8 := by
  intro i hi
  rcases Nat.lt_or_ge i 8 with g | g
  . exact g
  . rw [Nat.testBit_lt_two_pow (Nat.lt_of_lt_of_le (show a.toNat < 2 ^ 8 by omega) (Nat.pow_le_pow_right (by omega) g))] at hi
    cases hi
 constructor
 . intro h i hi
   have h0 : (BitVec.ofNat 8 a.toNat &&& ~~~BitVec.ofNat 8 b.toNat).toNat = 0 := Int.ofNat_eq_zero.1 h
   have h1 := hbit i
   rw [<- BitVec.testBit_toNat, h0, Nat.zero_testBit] at h1
   have := h8 i hi
   simp [this, hi] at h1
   exact h1
 . intro h
   have h1 : (BitVec.ofNat 8 a.toNat &&& ~~~BitVec.ofNat 8 b.toNat).toNat = 0 := by
    apply Nat.eq_of_testBit_eq
    intro i
    rw [BitVec.testBit_toNat, hbit i, Nat.zero_testBit]
    cases hi : a.toNat.testBit i with
    | false => simp
    | true => simp [h i hi]
   rw [h1]; rfl
theorem zg3 {a b : Nat} (h : a < 256) : a &&& b < 256 := Nat.lt_of_le_of_lt Nat.and_le_left h
theorem zAp {a b : Nat} (h : a < 256) (k : b < 256) : a ||| b < 256 := Nat.or_lt_two_pow (n := 8) h k
theorem znm (ns : List (List UInt8)) (h : ns.length <= 20) (hn : ∀ s ∈ ns, s.length <= 1000) : Tot (zhq ns) fun r => r.2 = 0 -> 1 <= ns.length /\ ns.length <= 8 := by
 unfold zhq
 simp only [zJ, zw, zB, List.length_map, decide_eq_true_eq, decide_eq_false_iff_not]
 refine ⟨fun _ h => absurd h (by decide), fun h1 => ⟨fun _ h => absurd h (by decide), fun h2 => ?_⟩⟩
 refine Tot.count ns.length (fun k s => s = (k : Int)) ?_ rfl
 rintro k _ hk rfl
 simp only [zw, zJ, ql, qE, wb, zB, Sum.elim_inl, Sum.elim_inr, decide_eq_true_eq, decide_eq_false_iff_not, Int.toNat_natCast]
 refine ⟨fun hlt => ⟨by omega, _, List.getElem?_eq_getElem (by omega), ?_⟩, fun hlt => fun _ => by omega⟩
 rw [ziv _ (by have := hn ns[k] (List.getElem_mem _); omega), zw]
 refine ⟨fun _ h => absurd h (by decide), fun _ => ⟨⟨by omega, by omega⟩, ?_⟩⟩
 rw [jS _ _ (by simp; omega), zw]
 refine ⟨fun _ h => absurd h (by decide), fun _ => ?_⟩
 rw [w64 (by omega) (by omega)]
 exact ⟨by omega, by omega⟩
open Go
def U8s (l : List Int) : Prop := ∀ x ∈ l, 0 <= x /\ x < 256
theorem U8s.get {l : List Int} (h : U8s l) {i : Nat} {x : Int} (hx : l[i]? = some x) : 0 <= x /\ x < 256 := h x (List.mem_of_getElem? hx)
theorem U8s.set {l : List Int} (h : U8s l) {i : Nat} {x : Int} (h0 : 0 <= x) (h1 : x < 256) : U8s (l.set i x) := by
 intro y hy
 rcases List.mem_or_eq_of_mem_set hy with g | g
 . exact h y g
 . subst g; exact ⟨h0, h1⟩
theorem zm5 {e : Int} : 0 <= IntKind.wrap .u8 e /\ IntKind.wrap .u8 e < 256 := by
 simp only [IntKind.wrap, IntKind.signed, IntKind.bits, Bool.false_and]
 have h3 : (2 : Int) ^ 8 = 256 := by decide
 simp only [h3]
 refine ⟨?_, ?_⟩ <;> simp <;> omega
theorem orU {a b : Int} (ha : 0 <= a) (ha' : a < 256) (hb : 0 <= b) (hb' : b < 256) : 0 <= bits .or .u8 a b /\ bits .or .u8 a b < 256 := by
 rw [zoj ha ha' hb hb']
 have := zAp (a := a.toNat) (b := b.toNat) (by omega) (by omega)
 omega
theorem zN {α : Type} {l : List α} {i : Nat} (h : i < l.length) : ∃ x, l[i]? = some x := ⟨_, List.getElem?_eq_getElem h⟩
theorem zvo (l : TL) (hu : U8s l.Up) (hn : l.Names.length <= 8) (hl : l.Up.length <= 8) :
 Tot (zfv l) fun o => o.n_ = l.Names.length /\ o.up_.length = 8 /\ o.down_.length = 8 /\ U8s o.up_ /\ U8s o.down_ := by
 unfold zfv
 simp only [zB, List.length_map]
 refine Tot.count l.Up.length (fun k s => s.1 = (k : Int) /\ s.2.1.length = 8 /\ s.2.2.length = 8 /\ U8s s.2.1 /\ U8s s.2.2) ?_ ⟨rfl, rfl, rfl, by intro x hx; simp at hx; omega, by intro x hx; simp at hx; omega⟩
 rintro k ⟨i, up, down⟩ hk ⟨h0, h1, h2, h3, h4⟩
 simp only at h0 h1 h2 h3 h4
 subst h0
 simp only [zw, zJ, ql, qE, wb, zB, Sum.elim_inl, Sum.elim_inr, decide_eq_true_eq, decide_eq_false_iff_not, Int.toNat_natCast]
 refine ⟨fun hlt => ?_, fun hlt => ⟨trivial, h1, h2, h3, h4⟩⟩
 obtain ⟨x, hx⟩ := zN (l := l.Up) (i := k) (by omega)
 obtain ⟨y, hy⟩ := zN (l := up) (i := k) (by omega)
 refine ⟨by omega, x, hx, ⟨by omega, by omega⟩, by omega, y, hy, ?_⟩
 have hx' := hu.get hx
 refine Tot.count l.Names.length (fun j s => s.1 = (j : Int) /\ s.2.length = 8 /\ U8s s.2) ?_ ⟨rfl, h2, h4⟩
 rintro j ⟨i', d⟩ hj ⟨g0, g1, g2⟩
 simp only at g0 g1 g2
 subst g0
 simp only [zw, zJ, ql, qE, wb, zB, Sum.elim_inl, Sum.elim_inr, decide_eq_true_eq, decide_eq_false_iff_not, Int.toNat_natCast]
 refine ⟨fun hlt' => ?_, fun _ => ?_⟩
 . obtain ⟨z, hz⟩ := zN (l := d) (i := j) (by omega)
   have hz' := g2.get hz
   rw [w64 (by omega) (by omega)]
   refine ⟨⟨by omega, by omega⟩, by omega, z, hz, by omega, by omega, ⟨by omega, by omega⟩, by omega, z, hz, by omega, by omega, by simpa using g1, ?_⟩
   have hw := zm5 (e := bits .and .u8 (Int.fdiv x (2 ^ min j (IntKind.bits .u8))) 1 * 2 ^ min k (IntKind.bits .u8))
   have ho := orU hz'.1 hz'.2 hw.1 hw.2
   exact g2.set ho.1 ho.2
 . rw [w64 (by omega) (by omega)]
   exact ⟨by omega, by omega, by simpa using h1, g1, h3.set hx'.1 hx'.2, g2⟩
theorem zao (m : List Int) (n : Nat) (a b : Nat) (hm : m.length = 8) (hu : U8s m) (hn : n <= 8) (ha : a < n) (hb : b < n) : Tot (zg7 m n a b) fun _ => True := by
 unfold zg7
 obtain ⟨x, hx⟩ := zN (l := m) (i := a) (by omega)
 obtain ⟨y, hy⟩ := zN (l := m) (i := b) (by omega)
 simp only [zw, zJ, ql, qE, wb, zB, Int.toNat_natCast]
 refine ⟨⟨by omega, by omega⟩, by omega, x, hx, ⟨by omega, by omega⟩, by omega, y, hy, ?_⟩
 refine Tot.count n (fun k s => s = (k : Int)) ?_ rfl
 rintro k _ hk rfl
 simp only [zw, zJ, ql, qE, wb, zB, Sum.elim_inl, Sum.elim_inr, decide_eq_true_eq, decide_eq_false_iff_not, Int.toNat_natCast]
 refine ⟨fun hlt => ⟨by omega, fun _ => ?_, fun _ => ?_⟩, fun _ => trivial⟩
 . obtain ⟨z, hz⟩ := zN (l := m) (i := k) (by omega)
   rw [w64 (by omega) (by omega)]
   exact ⟨⟨by omega, by omega⟩, by omega, z, hz, fun _ => trivial, fun _ => ⟨by omega, by omega⟩⟩
 . rw [w64 (by omega) (by omega)]
   exact ⟨by omega, by omega⟩
theorem zec (m : List Int) (n : Nat) (a b : Nat) (hm : m.length = 8) (hu : U8s m) (hn : n <= 8) (ha : a < n) (hb : b < n) : Tot (zqw m n a b) fun _ => True := zao m n a b hm hu hn ha hb
theorem zqm (x : Int) (h0 : 0 <= x) (h1 : x < 256) : Tot (zh9 x) fun _ => True := by
 unfold zh9
 rw [qE]
 refine ⟨h0, ?_⟩
 have key : ∀ l : List UInt8, l.length = 256 -> ∃ y, l[x.toNat]? = some y /\ Tot (zg (IntKind.wrap .i64 (y.toNat : Int)) fun z => some z) fun _ => True := by
  intro l hl
  obtain ⟨y, hy⟩ := zN (l := l) (i := x.toNat) (by omega)
  exact ⟨y, hy, .mk trivial⟩
 exact key _ (by decide +kernel)
def up (l : TL) (a b : Nat) : Bool := (l.Up.getD a 0).toNat.testBit b
def xH (l : TL) (a b : Nat) : Prop := up l a b = true -> (b ≠ a -> up l b a = false) /\ ∀ i, i < l.Names.length -> up l b i = true -> up l a i = true
structure LatOK (l : TL) : Prop where
 pos : 1 <= l.Names.length
 le : l.Names.length <= 8
 len : l.Up.length = l.Names.length
 u8 : U8s l.Up
 self : ∀ a, a < l.Names.length -> up l a a = true
 row : ∀ a, a < l.Names.length -> ∀ b, b < l.Names.length -> xH l a b
theorem jD {l : TL} {a : Nat} {x : Int} (h : l.Up[a]? = some x) (b : Nat) : up l a b = x.toNat.testBit b := by
 unfold up; rw [List.getD_eq_getElem?_getD, h]; rfl
theorem zlr (n : Nat) (h : n <= 8) (i : Nat) : (IntKind.wrap .u8 (IntKind.wrap .u8 (1 * 2 ^ min n (IntKind.bits .u8)) - 1)).toNat.testBit i = decide (i < n) := by
 have key : ∀ n : Fin 9, (IntKind.wrap .u8 (IntKind.wrap .u8 (1 * 2 ^ min n.val (IntKind.bits .u8)) - 1)).toNat = 2 ^ n.val - 1 := by decide +kernel
 rw [key ⟨n, by omega⟩]
 exact Nat.testBit_two_pow_sub_one n i
theorem zit (l : TL) (hu : U8s l.Up) (hn : l.Names.length <= 20) (hs : ∀ s ∈ l.Names, s.length <= 1000) : Tot (zax l) fun r => r.2 = 0 -> LatOK l := by
 unfold zax
 simp only [zB, List.length_map]
 refine (znm l.Names hn hs).mono fun x53 h53 => ?_
 simp only [zJ, zw, Bool.not_eq_true', Bool.not_eq_false', decide_eq_true_eq, decide_eq_false_iff_not]
 refine ⟨fun h h' => absurd h' h, fun h => ⟨fun _ h' => absurd h' (by decide), fun hlen => ?_⟩⟩
 obtain ⟨p1, p8⟩ := h53 h
 have hlen' : l.Up.length = l.Names.length := by omega
 rw [wb, ql, ql, zB]
 refine ⟨by omega, ?_⟩
 rw [Int.toNat_natCast]
 have hmask := zlr l.Names.length p8
 have hm0 := zm5 (e := IntKind.wrap .u8 (1 * 2 ^ min l.Names.length (IntKind.bits .u8)) - 1)
 revert hmask hm0
 generalize IntKind.wrap .u8 (IntKind.wrap .u8 (1 * 2 ^ min l.Names.length (IntKind.bits .u8)) - 1) = mask
 intro hmask hm0
 refine Tot.count l.Names.length (fun k s => s = (k : Int) /\ (∀ a, a < k -> up l a a = true) /\ ∀ a, a < k -> ∀ b, b < l.Names.length -> xH l a b) ?_ ⟨rfl, fun a ha => absurd ha (by omega), fun a ha => absurd ha (by omega)⟩
 rintro k _ hk ⟨rfl, hself, hrow⟩
 simp only [zJ, zw, ql, Sum.elim_inl, Sum.elim_inr, decide_eq_true_eq, decide_eq_false_iff_not]
 refine ⟨fun hlt => ?_, fun hlt => ?_⟩
 . -- a round
   simp only [qE, Int.toNat_natCast]
   obtain ⟨x, hx⟩ := zN (l := l.Up) (i := k) (by omega)
   have hx' := hu.get hx
   refine ⟨by omega, x, hx, ?_⟩
   rw [zB]
   refine (zqm x hx'.1 hx'.2).mono fun x91 _ => ?_
   simp only [zJ, zw, wb, Sum.elim_inl, Sum.elim_inr, decide_eq_true_eq, decide_eq_false_iff_not, Int.toNat_natCast]
   refine ⟨fun _ h' => absurd h' (by decide), fun _ => ⟨by omega, fun _ h' => absurd h' (by decide), fun hs => ?_⟩⟩
   rw [zcc hx'.1 hx'.2 (by omega), <- jD hx] at hs
   have hkk : up l k k = true := by
    cases e : up l k k with
    | true => rfl
    | false => rw [e] at hs; simp at hs
   rw [zB]
   refine Tot.count l.Names.length (fun j s => s = (j : Int) /\ ∀ b, b < j -> xH l k b) ?_ ⟨rfl, fun b hb => absurd hb (by omega)⟩
   rintro j _ hj ⟨rfl, hr⟩
   have fin : (∀ b, b < l.Names.length -> xH l k b) -> k < l.Names.length /\ IntKind.wrap .i64 ((k : Int) + 1) = ((k + 1 : Nat) : Int) /\ (∀ a, a < k + 1 -> up l a a = true) /\ ∀ a, a < k + 1 -> ∀ b, b < l.Names.length -> xH l a b := by
    intro hall
    rw [w64 (by omega) (by omega)]
    refine ⟨by omega, by omega, fun a ha => ?_, fun a ha => ?_⟩
    . rcases Nat.lt_or_ge a k with g | g
      . exact hself a g
      . have : a = k := by omega
        subst this; exact hkk
    . rcases Nat.lt_or_ge a k with g | g
      . exact hrow a g
      . have : a = k := by omega
        subst this; exact hall
   have ext : ∀ {b}, xH l k j -> b < j + 1 -> xH l k b := by
    intro b h hb
    rcases Nat.lt_or_ge b j with g | g
    . exact hr b g
    . have : b = j := by omega
      subst this; exact h
   simp only [zJ, zw, ql, wb, Sum.elim_inl, Sum.elim_inr, decide_eq_true_eq, decide_eq_false_iff_not, Bool.not_eq_true', Bool.not_eq_false', Int.toNat_natCast]
   refine ⟨fun hjl => ?_, fun hjl => ?_⟩
   . simp only [qE, Int.toNat_natCast]
     obtain ⟨y, hy⟩ := zN (l := l.Up) (i := j) (by omega)
     have hy' := hu.get hy
     refine ⟨by omega, y, hy, ?_⟩
     simp only [zJ, zw, ql, wb, Sum.elim_inl, Sum.elim_inr, decide_eq_true_eq, decide_eq_false_iff_not, Bool.not_eq_true', Bool.not_eq_false', Int.toNat_natCast]
     rw [zcc hx'.1 hx'.2 (by omega), <- jD hx]
     rw [w64 (e := (l.Names.length : Int) - 1) (by omega) (by omega)]
     have stay : xH l k j -> ((j : Int) = (l.Names.length : Int) - 1 -> k < l.Names.length /\ IntKind.wrap .i64 ((k : Int) + 1) = ((k + 1 : Nat) : Int) /\ (∀ a, a < k + 1 -> up l a a = true) /\ ∀ a, a < k + 1 -> ∀ b, b < l.Names.length -> xH l a b) /\ (¬ (j : Int) = (l.Names.length : Int) - 1 -> j < l.Names.length /\ IntKind.wrap .i64 ((j : Int) + 1) = ((j + 1 : Nat) : Int) /\ ∀ b, b < j + 1 -> xH l k b) := by
      intro hrow'
      refine ⟨fun e => fin fun b hb => ext hrow' (by omega), fun e => ?_⟩
      rw [w64 (by omega) (by omega)]
      exact ⟨by omega, by omega, fun b hb => ext hrow' hb⟩
     refine ⟨by omega, fun hb => ?_, fun hb => ⟨fun hne => ⟨by omega, fun _ h' => absurd h' (by decide), fun hba => ⟨fun _ h' => absurd h' (by decide), fun han => ?_⟩⟩, fun heq => ⟨fun _ h' => absurd h' (by decide), fun han => ?_⟩⟩⟩
     . refine stay fun hup => ?_
       rw [hup] at hb; simp at hb
     . refine stay fun _ => ⟨fun _ => ?_, fun i hi hyi => ?_⟩
       . rw [zcc hy'.1 hy'.2 (by omega), <- jD hy] at hba
         cases e : up l j k with
         | false => rfl
         | true => rw [e] at hba; simp at hba
       . rw [zb1 hy'.1 hy'.2 hm0.1 hm0.2] at han
         have hand := zg3 (a := y.toNat) (b := mask.toNat) (by omega)
         have := (za0 (by omega) (by omega) hx'.1 hx'.2).1 han i (by
          rw [Int.toNat_natCast, Nat.testBit_and, hmask, <- jD hy, hyi]; simp [hi])
         rw [jD hx]; exact this
     . refine stay fun _ => ⟨fun hne => absurd (by omega) hne, fun i hi hyi => ?_⟩
       rw [zb1 hy'.1 hy'.2 hm0.1 hm0.2] at han
       have hand := zg3 (a := y.toNat) (b := mask.toNat) (by omega)
       have := (za0 (by omega) (by omega) hx'.1 hx'.2).1 han i (by
        rw [Int.toNat_natCast, Nat.testBit_and, hmask, <- jD hy, hyi]; simp [hi])
       rw [jD hx]; exact this
   . exact fin fun b hb => hr b (by omega)
 . -- the end
   have hk' : k = l.Names.length := by omega
   subst hk'
   have good : LatOK l := ⟨p1, p8, hlen', hu, hself, hrow⟩
   rw [zB]
   refine (zvo l hu p8 (by omega)).mono fun o ho => ?_
   obtain ⟨_, o1, o2, o3, o4⟩ := ho
   rw [zB]
   refine Tot.count l.Names.length (fun j s => s = (j : Int)) ?_ rfl
   rintro j _ hj rfl
   simp only [zJ, zw, ql, zB, Sum.elim_inl, Sum.elim_inr, decide_eq_true_eq, decide_eq_false_iff_not]
   refine ⟨fun hlt => ?_, fun _ _ => good⟩
   refine Tot.count l.Names.length (fun i s => s = (i : Int)) ?_ rfl
   rintro i _ hi rfl
   simp only [zJ, zw, ql, zB, Sum.elim_inl, Sum.elim_inr, decide_eq_true_eq, decide_eq_false_iff_not]
   refine ⟨fun hlt' => ?_, fun _ => ?_⟩
   . refine (zao _ _ _ _ o1 o3 p8 (by omega) (by omega)).mono fun b1 _ => ⟨fun _ h' => absurd h' (by decide), fun _ => ?_⟩
     refine (zec _ _ _ _ o2 o4 p8 (by omega) (by omega)).mono fun b2 _ => ⟨fun _ h' => absurd h' (by decide), fun _ => ?_⟩
     rw [w64 (by omega) (by omega)]
     exact ⟨by omega, by omega⟩
   . rw [w64 (by omega) (by omega)]
     exact ⟨by omega, by omega⟩
end Go.Sx.O
noncomputable section
namespace Go.Sx.O
open Go
structure LatIn (l : TL) : Prop where
 u8 : U8s l.Up
 names : l.Names.length <= 20
 name : ∀ s ∈ l.Names, s.length <= 1000
def wx (l : TL) : Int × Int := (zax l).getD (0, 0)
theorem zcd {l : TL} (h : LatIn l) : zax l = some (wx l) := by
 obtain ⟨r, e, _⟩ := zit l h.u8 h.names h.name
 unfold wx; rw [e]; rfl
theorem uD {l : TL} (h : LatIn l) (k : (wx l).2 = 0) : LatOK l := by
 obtain ⟨r, e, q⟩ := zit l h.u8 h.names h.name
 have := zcd h
 rw [e] at this; cases this
 exact q k
def yn (l : TL) (a : Int) : Bool := decide (0 <= a) && decide (a < (l.Names.length : Int))
def zve (l : TL) (xs : List Int) : Int := if (wx l).2 = 0 then (if xs.all (yn l) then 0 else 7) else (wx l).2
theorem znr {l : TL} (h : LatIn l) (xs : List Int) (hx : xs.length <= 1000000000) : zq2 l xs = some (zve l xs) := by
 unfold zq2 zve
 rw [zcd h]
 simp only [Option.bind_some]
 by_cases h0 : (wx l).2 = 0
 . simp only [h0, decide_true, Bool.not_true, cond_false, if_true]
   apply Tot.eq
   simp only [zB, List.length_map]
   refine Tot.count xs.length (fun k s => s = (k : Int) /\ (xs.take k).all (yn l) = true) ?_ ⟨rfl, by simp⟩
   rintro k _ hk ⟨rfl, hall⟩
   simp only [zJ, zw, ql, qE, Sum.elim_inl, Sum.elim_inr, decide_eq_true_eq, decide_eq_false_iff_not, Int.toNat_natCast]
   refine ⟨fun hlt => ?_, fun hlt => ?_⟩
   . obtain ⟨x, hx'⟩ := zN (l := xs) (i := k) (by omega)
     have hm := List.mem_of_getElem? hx'
     have bad : yn l x = false -> (7 : Int) = if xs.all (yn l) = true then 0 else 7 := by
      intro e
      have : xs.all (yn l) = false := by
       rw [List.all_eq_false]; exact ⟨x, hm, by simp [e]⟩
      simp [this]
     refine ⟨by omega, x, hx', fun g => bad (by unfold yn; simp; omega), fun g1 => ⟨fun g => bad (by unfold yn; simp; omega), fun g2 => ?_⟩⟩
     rw [w64 (by omega) (by omega)]
     refine ⟨by omega, by omega, ?_⟩
     rw [List.take_add_one, hx', List.all_append, hall]
     simp [yn]; omega
   . rw [List.take_of_length_le (by omega)] at hall
     simp [hall]
 . simp only [h0, decide_false, Bool.not_false, cond_true, if_false]
def zzh (l : TL) (a o : Int) : Bool := decide ((wx l).2 = 0) && yn l a && yn l o && up l a.toNat o.toNat
end Go.Sx.O
end
namespace Go.Sx.O
open Go
theorem zam (x : Int) : Tot (zdk x) fun _ => True := by
 unfold zdk
 simp only [zJ, zw, implies_true, and_self]
open Go
theorem zhc {l : List UInt8} {c : UInt8} (h : c ∉ l) : Lib.indexByte l c = -1 := by
 induction l with
 | nil => rfl
 | cons a l ih =>
   simp only [List.mem_cons, not_or] at h
   have : (a == c) = false := by simp; exact fun e => h.1 e.symm
   simp [Lib.indexByte, this, ih h.2]
theorem zsa {r : Int} (h0 : 128 <= r) (h1 : r < 256) : ∃ x y, (Utf8.encode r).data.toList = [x, y] /\ 128 <= y.toNat := by
 refine ⟨UInt8.ofNat (0xC0 + r.toNat / 64), UInt8.ofNat (0x80 + r.toNat % 64), ?_, ?_⟩
 . have hv : Utf8.valid r = true := by unfold Utf8.valid; simp; omega
   unfold Utf8.encode
   simp only [hv, if_true]
   rw [if_neg (by omega), if_pos (by omega)]
 . rw [UInt8.toNat_ofNat']; omega
theorem zg1 (s : List UInt8) (r : Int) (hs : ∀ c ∈ s, c.toNat < 128) (hl : s.length <= 1000) (h0 : 0 <= r) (h1 : r < 256) : Tot (zh3 s r) fun _ => True := by
 unfold zh3
 have e0 : decide (0 <= r) = true := by simp [h0]
 simp only [e0, cond_true]
 rw [zJ]
 refine ⟨fun _ => ?_, fun h2 => ?_⟩
 . rw [ql, zB]
   unfold zc7 qc
   simp only [Option.bind_some, zw]
 . simp only [decide_eq_false_iff_not] at h2
   obtain ⟨x, y, exy, hy⟩ := zsa (r := r) (by omega) h1
   have e1 : decide (r = 65533) = false := by simp; omega
   simp only [e1, cond_false, exy]
   rw [zB]
   refine (zam r).mono fun v _ => ?_
   rw [zJ]
   refine ⟨fun _ => .mk trivial, fun _ => ?_⟩
   rw [ql]
   have e2 : IntKind.wrap .i64 (((List.length [x, y] : Nat) : Int) - 1) = 1 := rfl
   rw [e2, zB]
   refine Tot.loop (fun _ => 0) (fun _ => True) (fun _ _ => ?_) trivial
   rw [zJ]
   refine ⟨fun h3 => ?_, fun _ => ?_⟩
   . simp only [decide_eq_true_eq] at h3
     obtain ⟨c, hc⟩ := zN (l := s) (i := 1) (by omega)
     have hc' := hs c (List.mem_of_getElem? hc)
     have e3 : (1 : Int).toNat = 1 := rfl
     simp only [qE, e3]
     refine ⟨by omega, c, hc, by omega, y, rfl, ?_⟩
     have e4 : decide ((c.toNat : Int) = (y.toNat : Int)) = false := by simp; omega
     simp only [e4, Bool.not_false, cond_true]
     rw [ql]
     have e5 : IntKind.wrap .i64 (1 + 1) = 2 := rfl
     rw [e5, wb]
     refine ⟨by omega, ?_⟩
     simp only [qE, e3]
     refine ⟨by omega, y, rfl, ?_⟩
     unfold zc7 qc
     simp only [Option.bind_some]
     have hn : ((y.toNat : Int).toNat.toUInt8) = y := by simp
     rw [hn, zhc (fun hm => by
      have := hs y (List.mem_of_mem_take (List.mem_of_mem_drop hm))
      omega)]
     have e6 : decide ((-1 : Int) < 0) = true := rfl
     simp only [e6, cond_true, zw, Sum.elim_inr]
   . simp only [zw, Sum.elim_inr, Sum.elim_inl]
theorem zdj (s : List UInt8) (r : Int) (hs : ∀ c ∈ s, c.toNat < 128) (hl : s.length <= 1000) (h0 : 0 <= r) (h1 : r < 256) : Tot (xu s r) fun _ => True := by
 unfold xu
 rw [zB]
 exact (zg1 s r hs hl h0 h1).mono fun _ _ => .mk trivial
theorem zj0 {r : Int} (h0 : 0 <= r) (h1 : r < 256) : IntKind.wrap .i32 r = r := by
 simp only [IntKind.wrap, IntKind.signed, IntKind.bits]
 have h3 : (2 : Int) ^ 32 = 4294967296 := by decide
 have h4 : (2 : Int) ^ (32 - 1) = 2147483648 := by decide
 simp only [h3, h4, Bool.true_and, decide_eq_true_eq, ge_iff_le]
 split <;> omega
end Go.Sx.O
