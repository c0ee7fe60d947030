/-
  An own text of this claim.
-/
import Derived.Test.YtllpglmfggapmaaGreatDoorA6
import Derived.Lib.Bytealg
namespace Go.Sx.O
structure TR where
 s_ : List UInt8
 at_ : Int
def zU (x : TR) : SV := .agg [SV.str x.s_, (SV.int .i64) x.at_]
theorem zCj {p : Nat -> Prop} (x : TR) : (zU x).nmd p := ⟨trivial, trivial, trivial⟩
structure TF where
 low_ : Int
 high_ : Int
def zA6 (x : TF) : SV := .agg [(SV.int .i64) x.low_, (SV.int .i64) x.high_]
theorem zGu {p : Nat -> Prop} (x : TF) : (zA6 x).nmd p := ⟨trivial, trivial, trivial⟩
structure TL where
 Names : List (List UInt8)
 Up : List (Int)
def zA (x : TL) : SV := .agg [(zd 1 SV.str) x.Names, (zd 1 (SV.int .u8)) x.Up]
theorem zu7 {p : Nat -> Prop} (x : TL) : (zA x).nmd p := ⟨(ye fun _ => trivial), (ye fun _ => trivial), trivial⟩
structure TU where
 From : Int
 Goal : Int
 K : Int
def wF (x : TU) : SV := .agg [(SV.int .i64) x.From, (SV.int .i64) x.Goal, (SV.int .i64) x.K]
theorem zB3 {p : Nat -> Prop} (x : TU) : (wF x).nmd p := ⟨trivial, trivial, trivial, trivial⟩
structure TG where
 Lattice : TL
 bottom_ : Int
def yU (x : TG) : SV := .agg [zA x.Lattice, (SV.int .i64) x.bottom_]
theorem zGv {p : Nat -> Prop} (x : TG) : (yU x).nmd p := ⟨(zu7 _), trivial, trivial⟩
structure TK where
 Kind : Int
 From : Int
 To : Int
 N : Int
 S : List UInt8
def zZ (x : TK) : SV := .agg [(SV.int .i64) x.Kind, (SV.int .i64) x.From, (SV.int .i64) x.To, (SV.int .i64) x.N, SV.str x.S]
theorem zG0 {p : Nat -> Prop} (x : TK) : (zZ x).nmd p := ⟨trivial, trivial, trivial, trivial, trivial, trivial⟩
structure Tlattice_order where
 n_ : Int
 up_ : List (Int)
 down_ : List (Int)
def qp (x : Tlattice_order) : SV := .agg [(SV.int .i64) x.n_, (zo 8 1 (SV.int .u8)) x.up_, (zo 8 1 (SV.int .u8)) x.down_]
theorem zun {p : Nat -> Prop} (x : Tlattice_order) : (qp x).nmd p := ⟨trivial, (ye fun _ => trivial), (ye fun _ => trivial), trivial⟩
structure TY where
 Kind : Int
 Rank : Int
 Axes : (Int) × (Int)
 Data : Int
def qf (x : TY) : SV := .agg [(SV.int .i64) x.Kind, (SV.int .i64) x.Rank, (zX 1 (SV.int .i64)) x.Axes, (SV.int .i64) x.Data]
theorem zo5 {p : Nat -> Prop} (x : TY) : (qf x).nmd p := ⟨trivial, trivial, ⟨trivial, trivial, trivial⟩, trivial, trivial⟩
structure TA where
 Kind : Int
 Rank : Int
 Lens : (Int) × (Int)
 Cells : List (Int)
def zJ (x : TA) : SV := .agg [(SV.int .i64) x.Kind, (SV.int .i64) x.Rank, (zX 1 (SV.int .i64)) x.Lens, (zd 1 (SV.int .i64)) x.Cells]
theorem zvc {p : Nat -> Prop} (x : TA) : (zJ x).nmd p := ⟨trivial, trivial, ⟨trivial, trivial, trivial⟩, (ye fun _ => trivial), trivial⟩
structure TV where
 Name : List UInt8
 Type_ : TY
def zY (x : TV) : SV := .agg [SV.str x.Name, qf x.Type_]
theorem zCf {p : Nat -> Prop} (x : TV) : (zY x).nmd p := ⟨trivial, (zo5 _), trivial⟩
structure TW where
 Name : List UInt8
 Value : TA
def zj (x : TW) : SV := .agg [SV.str x.Name, zJ x.Value]
theorem zCg {p : Nat -> Prop} (x : TW) : (zj x).nmd p := ⟨trivial, (zvc _), trivial⟩
structure TE where
 Site : Int
 Fold : Int
 From : Int
 Goal : Int
 Cells : Int
 Value : (Int) × (Int)
def zuz (x : TE) : SV := .agg [(SV.int .i64) x.Site, (SV.int .i64) x.Fold, (SV.int .i64) x.From, (SV.int .i64) x.Goal, (SV.int .i64) x.Cells, (zX 1 (SV.int .i64)) x.Value]
theorem zCk {p : Nat -> Prop} (x : TE) : (zuz x).nmd p := ⟨trivial, trivial, trivial, trivial, trivial, ⟨trivial, trivial, trivial⟩, trivial⟩
structure TEvEvent where
 Kind : Int
 Site : Int
 Steps : Int
 Label : Int
 Channel : List UInt8
 Value : TA
 E : Int
def zd5 (x : TEvEvent) : SV := .agg [(SV.int .i64) x.Kind, (SV.int .i64) x.Site, (SV.int .i64) x.Steps, (SV.int .i64) x.Label, SV.str x.Channel, zJ x.Value, (SV.int .i64) x.E]
theorem zod {p : Nat -> Prop} (x : TEvEvent) : (zd5 x).nmd p := ⟨trivial, trivial, trivial, trivial, trivial, (zvc _), trivial, trivial⟩
structure TP where
 Lattice : TL
 Channels : List (TR)
 Vars : List (TV)
 Rules : List (TU)
def zF (x : TP) : SV := .agg [zA x.Lattice, (zd 2 zU) x.Channels, (zd 6 zY) x.Vars, (zd 3 wF) x.Rules]
theorem zGy {p : Nat -> Prop} (x : TP) : (zF x).nmd p := ⟨(zu7 _), (ye fun _ => (zCj _)), (ye fun _ => (zCf _)), (ye fun _ => (zB3 _)), trivial⟩
structure Tinvigilatorlaw28_Types where
 V : TY
 Y : TY
 From : Int
 Goal : Int
 PC : Int
 EC : Int
 Lower : Int
 Top : Int
def un (x : Tinvigilatorlaw28_Types) : SV := .agg [qf x.V, qf x.Y, (SV.int .i64) x.From, (SV.int .i64) x.Goal, (SV.int .i64) x.PC, (SV.int .i64) x.EC, (SV.int .i64) x.Lower, (SV.int .i64) x.Top]
theorem zka {p : Nat -> Prop} (x : Tinvigilatorlaw28_Types) : (un x).nmd p := ⟨(zo5 _), (zo5 _), trivial, trivial, trivial, trivial, trivial, trivial, trivial⟩
structure TC where
 Events : List (TEvEvent)
 Log : List (TE)
 Vars : List (TW)
 Steps : Int
def zBd (x : TC) : SV := .agg [(zd 11 zd5) x.Events, (zd 7 zuz) x.Log, (zd 6 zj) x.Vars, (SV.int .i64) x.Steps]
theorem zGw {p : Nat -> Prop} (x : TC) : (zBd x).nmd p := ⟨(ye fun _ => (zod _)), (ye fun _ => (zCk _)), (ye fun _ => (zCg _)), trivial, trivial⟩
end Go.Sx.O
noncomputable section
namespace Go.Sx.O
def qm (a0 : List UInt8) (a1 : Int) : Option Int := some (Go.Lib.indexByte a0 a1.toNat.toUInt8)
def zFy : List Int := [0, 1, 2, 2, 3, 3, 3, 3, 4, 4, 4, 4, 4]
def zy6 (a0 : Int) : Option Int := if 0 <= a0 then zFy[a0.toNat]? else none
end Go.Sx.O
end
namespace Go.Sx.O
open Go
def inK (k : IntKind) (n : Int) : Prop := k.min <= n /\ n <= k.max
def yS {α : Type} (W : α -> Prop) (l : List α) : Prop := ∀ x ∈ l, W x
def zG3 {α : Type} (W : α -> Prop) (l : List α) : Prop := (∀ x ∈ l, W x) /\ l.length <= 9223372036854775807
def w2 {α : Type} (W : α -> Prop) (p : α × α) : Prop := W p.1 /\ W p.2
def w3 {α : Type} (W : α -> Prop) (p : α × α × α) : Prop := W p.1 /\ W p.2.1 /\ W p.2.2
def wN {α : Type} (n : Nat) (W : α -> Prop) (l : List α) : Prop := l.length = n /\ ∀ x ∈ l, W x
structure W_TR (x : TR) : Prop where
 s_ : (fun _ => True) x.s_
 at_ : (inK .i64) x.at_
structure W_TF (x : TF) : Prop where
 low_ : (inK .i64) x.low_
 high_ : (inK .i64) x.high_
structure W_TL (x : TL) : Prop where
 Names : (yS (fun _ => True)) x.Names
 Up : (yS (inK .u8)) x.Up
structure W_TU (x : TU) : Prop where
 From : (inK .i64) x.From
 Goal : (inK .i64) x.Goal
 K : (inK .i64) x.K
structure W_TG (x : TG) : Prop where
 Lattice : W_TL x.Lattice
 bottom_ : (inK .i64) x.bottom_
structure W_TK (x : TK) : Prop where
 Kind : (inK .i64) x.Kind
 From : (inK .i64) x.From
 To : (inK .i64) x.To
 N : (inK .i64) x.N
 S : (fun _ => True) x.S
structure W_Tlattice_order (x : Tlattice_order) : Prop where
 n_ : (inK .i64) x.n_
 up_ : (wN 8 (inK .u8)) x.up_
 down_ : (wN 8 (inK .u8)) x.down_
structure W_TY (x : TY) : Prop where
 Kind : (inK .i64) x.Kind
 Rank : (inK .i64) x.Rank
 Axes : (w2 (inK .i64)) x.Axes
 Data : (inK .i64) x.Data
structure W_TA (x : TA) : Prop where
 Kind : (inK .i64) x.Kind
 Rank : (inK .i64) x.Rank
 Lens : (w2 (inK .i64)) x.Lens
 Cells : (yS (inK .i64)) x.Cells
structure W_TV (x : TV) : Prop where
 Name : (fun _ => True) x.Name
 Type_ : W_TY x.Type_
structure W_TW (x : TW) : Prop where
 Name : (fun _ => True) x.Name
 Value : W_TA x.Value
structure W_TE (x : TE) : Prop where
 Site : (inK .i64) x.Site
 Fold : (inK .i64) x.Fold
 From : (inK .i64) x.From
 Goal : (inK .i64) x.Goal
 Cells : (inK .i64) x.Cells
 Value : (w2 (inK .i64)) x.Value
structure W_TEvEvent (x : TEvEvent) : Prop where
 Kind : (inK .i64) x.Kind
 Site : (inK .i64) x.Site
 Steps : (inK .i64) x.Steps
 Label : (inK .i64) x.Label
 Channel : (fun _ => True) x.Channel
 Value : W_TA x.Value
 E : (inK .i64) x.E
structure W_TP (x : TP) : Prop where
 Lattice : W_TL x.Lattice
 Channels : (yS W_TR) x.Channels
 Vars : (yS W_TV) x.Vars
 Rules : (yS W_TU) x.Rules
structure W_Tinvigilatorlaw28_Types (x : Tinvigilatorlaw28_Types) : Prop where
 V : W_TY x.V
 Y : W_TY x.Y
 From : (inK .i64) x.From
 Goal : (inK .i64) x.Goal
 PC : (inK .i64) x.PC
 EC : (inK .i64) x.EC
 Lower : (inK .i64) x.Lower
 Top : (inK .i64) x.Top
structure W_TC (x : TC) : Prop where
 Events : (yS W_TEvEvent) x.Events
 Log : (yS W_TE) x.Log
 Vars : (yS W_TW) x.Vars
 Steps : (inK .i64) x.Steps
end Go.Sx.O
noncomputable section
namespace Go.Sx.O
def Fz0 (b : List (List UInt8)) : Option (Bool) :=
 Option.bind (
 lpO (fun (a : Int) =>
 cond (decide (a < (↑(List.length (List.map SV.str b)) : Int)))
 (cond (decide (a < 20))
 (zh b a fun c =>
 cond (decide (100 < (↑(List.length c) : Int)))
 (some (.inr (.inr (true))))
 (zg (IntKind.wrap .i64 (a + 1)) fun d =>
 some (.inl d)))
 (some (.inr (.inl ()))))
 (some (.inr (.inl ())))) (0))
 (Sum.elim (fun (_ : Unit) =>
 some (decide (12 < (↑(List.length (List.map SV.str b)) : Int)))) some)
def Fz1 (a : TL) : Option (Bool) :=
 (Fz0 (a.Names)).bind fun b =>
 cond b
 (some (true))
 (some (decide (12 < (↑(List.length (List.map (SV.int .u8) a.Up)) : Int))))
def Fz2 (a : TP) : Option (Bool) :=
 Option.bind (
 lpO (fun (c : Int) =>
 cond (decide (c < (↑(List.length (List.map zU a.Channels)) : Int)))
 (cond (decide (c < 25))
 (zh (a.Channels) c fun i =>
 cond (decide (100 < (↑(List.length i.s_) : Int)))
 (some (.inr (.inr (true))))
 (zg (IntKind.wrap .i64 (c + 1)) fun d =>
 some (.inl d)))
 (some (.inr (.inl ()))))
 (some (.inr (.inl ())))) (0))
 (Sum.elim (fun (_ : Unit) =>
 Option.bind (
 lpO (fun (b : Int) =>
 cond (decide (b < (↑(List.length (List.map zY a.Vars)) : Int)))
 (cond (decide (b < 45))
 (zh (a.Vars) b fun e =>
 cond (decide (100 < (↑(List.length e.Name) : Int)))
 (some (.inr (.inr (true))))
 (zg (IntKind.wrap .i64 (b + 1)) fun f =>
 some (.inl f)))
 (some (.inr (.inl ()))))
 (some (.inr (.inl ())))) (0))
 (Sum.elim (fun (_ : Unit) =>
 (Fz1 (a.Lattice)).bind fun g =>
 cond g
 (some (true))
 (cond (decide (20 < (↑(List.length (List.map zU a.Channels)) : Int)))
 (some (true))
 (cond (decide (40 < (↑(List.length (List.map zY a.Vars)) : Int)))
 (some (true))
 (some (decide (70 < (↑(List.length (List.map wF a.Rules)) : Int))))))) some)) some)
def Fz3 (b : List TW) : Option (Bool) :=
 Option.bind (
 lpO (fun (a : Int × Int) =>
 cond (decide (a.fst < (↑(List.length (List.map zj b)) : Int)))
 (cond (decide (a.fst < 50))
 (zh b (a.fst) fun c =>
 zg (IntKind.wrap .i64 (a.snd + (↑(List.length (List.map (SV.int .i64) c.Value.Cells)) : Int))) fun d =>
 zh b (a.fst) fun e =>
 cond (decide (100 < (↑(List.length e.Name) : Int)))
 (some (.inr (.inr (true))))
 (zg (IntKind.wrap .i64 (a.fst + 1)) fun f =>
 some (.inl ((f, d)))))
 (some (.inr (.inl (a.snd)))))
 (some (.inr (.inl (a.snd))))) ((0, 0)))
 (Sum.elim (fun (g : Int) =>
 cond (decide (1000 < g))
 (some (true))
 (some (decide (40 < (↑(List.length (List.map zj b)) : Int))))) some)
def Fz4 (d : TP) (e : List TW) (f : List TW) : Option (Bool) :=
 (Fz2 d).bind fun a =>
 cond a
 (some (true))
 ((Fz3 e).bind fun b =>
 cond b
 (some (true))
 ((Fz3 f).bind fun c =>
 some c))
def Fz5 (a : Int) : Option (Bool) :=
 cond (decide (97 <= a))
 (some (decide (a <= 122)))
 (some (false))
def Fz6 (a : Int) : Option (Bool) :=
 cond (decide (48 <= a))
 (some (decide (a <= 57)))
 (some (false))
def Fz7 (b : List UInt8) : Option (Bool) :=
 cond (decide ((↑(List.length b) : Int) < 1))
 (some (false))
 (cond (decide (16 < (↑(List.length b) : Int)))
 (some (false))
 (zh b (0) fun c =>
 (Fz5 ((↑(UInt8.toNat c) : Int))).bind fun d =>
 cond (!d)
 (some (false))
 (Option.bind (
 lpO (fun (a : Int) =>
 cond (decide (a < (↑(List.length b) : Int)))
 (zh b a fun e =>
 (Fz5 ((↑(UInt8.toNat e) : Int))).bind fun f =>
 cond (!f)
 (zh b a fun g =>
 (Fz6 ((↑(UInt8.toNat g) : Int))).bind fun i =>
 cond (!i)
 (zh b a fun j =>
 cond (!decide ((↑(UInt8.toNat j) : Int) = 45))
 (some (.inr (.inr (false))))
 (zg (IntKind.wrap .i64 (a + 1)) fun k =>
 some (.inl k)))
 (zg (IntKind.wrap .i64 (a + 1)) fun l =>
 some (.inl l)))
 (zg (IntKind.wrap .i64 (a + 1)) fun m =>
 some (.inl m)))
 (some (.inr (.inl ())))) (0))
 (Sum.elim (fun (_ : Unit) =>
 some (true)) some))))
def Fz8 (b : List (List UInt8)) : Option (Int × Int) :=
 cond (decide ((↑(List.length (List.map SV.str b)) : Int) < 1))
 (some (((-1 : Int), 3)))
 (cond (decide (8 < (↑(List.length (List.map SV.str b)) : Int)))
 (some (((-1 : Int), 3)))
 (Option.bind (
 lpO (fun (a : Int) =>
 cond (decide (a < (↑(List.length (List.map SV.str b)) : Int)))
 (zh b a fun d =>
 (Fz7 d).bind fun e =>
 cond (!e)
 (some (.inr (.inr ((a, 6)))))
 (Option.bind (
 lpO (fun (c : Int) =>
 cond (decide (c < a))
 (zh b c fun f =>
 zh b a fun g =>
 cond (decide (f = g))
 (some (.inr (.inr (.inr (.inr ((a, 8)))))))
 (zg (IntKind.wrap .i64 (c + 1)) fun i =>
 some (.inl i)))
 (some (.inr (.inl ())))) (0))
 (Sum.elim (fun (_ : Unit) =>
 zg (IntKind.wrap .i64 (a + 1)) fun j =>
 some (.inl j)) some)))
 (some (.inr (.inl ())))) (0))
 (Sum.elim (fun (_ : Unit) =>
 some ((0, 0))) some)))
def Fz9 (d : TL) (a : Int) (b : Int) : Option (Bool) :=
 cond (decide (0 <= a))
 (cond (decide (a < (↑(List.length (List.map (SV.int .u8) d.Up)) : Int)))
 (cond (decide (0 <= b))
 (zh (d.Up) a fun c =>
 zk (0 <= b) (
 some (decide (Int.tmod (Int.fdiv c (2 ^ min (Int.toNat b) (IntKind.bits IntKind.u8))) 2 = 1))))
 (some (false)))
 (some (false)))
 (some (false))
def zr2 (b : TL) (e : Int) : Option (Bool) :=
 zh (b.Up) e fun p =>
 zg (IntKind.wrap .i64 p) fun f =>
 zk ((0 : Int) <= (↑(List.length (List.map SV.str b.Names)) : Int)) (
 cond (decide (0 < Int.fdiv f (2 ^ min (Int.toNat (↑(List.length (List.map SV.str b.Names)) : Int)) (IntKind.bits IntKind.i64))))
 (some (false))
 ((Fz9 b e e).bind fun g =>
 cond (!g)
 (some (false))
 (Option.bind (
 lpO (fun (a : Int) =>
 cond (decide (a < (↑(List.length (List.map SV.str b.Names)) : Int)))
 ((Fz9 b e a).bind fun i =>
 cond (!i)
 (zg (IntKind.wrap .i64 (a + 1)) fun j =>
 some (.inl j))
 (zh (b.Up) a fun k =>
 zg (IntKind.wrap .i64 k) fun c =>
 zk ((0 : Int) <= (↑(List.length (List.map SV.str b.Names)) : Int)) (
 zg (IntKind.wrap .i64 (1 * 2 ^ min (Int.toNat (↑(List.length (List.map SV.str b.Names)) : Int)) (IntKind.bits IntKind.i64))) fun l =>
 zg (IntKind.wrap .i64 (l - 1)) fun d =>
 cond (!decide (a = e))
 ((Fz9 b a e).bind fun m =>
 cond m
 (some (.inr (.inr (false))))
 (cond (!decide (bits BinOp.and IntKind.i64 (bits BinOp.and IntKind.i64 c d) f = bits BinOp.and IntKind.i64 c d))
 (some (.inr (.inr (false))))
 (zg (IntKind.wrap .i64 (a + 1)) fun n =>
 some (.inl n))))
 (cond (!decide (bits BinOp.and IntKind.i64 (bits BinOp.and IntKind.i64 c d) f = bits BinOp.and IntKind.i64 c d))
 (some (.inr (.inr (false))))
 (zg (IntKind.wrap .i64 (a + 1)) fun o =>
 some (.inl o))))))
 (some (.inr (.inl ())))) (0))
 (Sum.elim (fun (_ : Unit) =>
 some (true)) some))))
def zo8 (c : TL) : Option (List Int) :=
 zk ((0 : Int) <= (↑(List.length (List.map SV.str c.Names)) : Int) /\ (↑(List.length (List.map SV.str c.Names)) : Int) = (↑(List.length (List.map SV.str c.Names)) : Int) /\ (↑(List.length (List.map SV.str c.Names)) : Int) <= (70368744177664 : Int) /\ (↑(List.length (List.map SV.str c.Names)) : Int) * (↑(1 : Nat) : Int) <= (70368744177664 : Int)) (
 Option.bind (
 lpO (fun (b : Int × List Int) =>
 cond (decide (b.fst < (↑(List.length (List.map SV.str c.Names)) : Int)))
 (Option.bind (
 lpO (fun (a : Int × List Int) =>
 cond (decide (a.fst < (↑(List.length (List.map SV.str c.Names)) : Int)))
 ((Fz9 c (b.fst) (a.fst)).bind fun d =>
 cond d
 (zk (0 <= a.fst /\ a.fst < (↑(List.length (List.map (SV.int .u8) a.snd)) : Int)) (
 zh (a.snd) ((↑(Int.toNat a.fst) : Int)) fun e =>
 zk (0 <= b.fst) (
 zg (IntKind.wrap .u8 (1 * 2 ^ min (Int.toNat b.fst) (IntKind.bits IntKind.u8))) fun f =>
 zk (0 <= a.fst /\ a.fst < (↑(List.length (List.map (SV.int .u8) a.snd)) : Int)) (
 zh (a.snd) ((↑(Int.toNat a.fst) : Int)) fun _ =>
 zg (IntKind.wrap .i64 (a.fst + 1)) fun g =>
 some (.inl ((g, List.set a.snd (Int.toNat a.fst) (bits BinOp.or IntKind.u8 e f))))))))
 (zg (IntKind.wrap .i64 (a.fst + 1)) fun i =>
 some (.inl ((i, a.snd)))))
 (some (.inr (.inl (a.snd))))) ((0, b.snd)))
 (Sum.elim (fun (j : List Int) =>
 zg (IntKind.wrap .i64 (b.fst + 1)) fun k =>
 some (.inl ((k, j)))) some))
 (some (.inr (.inl (b.snd))))) ((0, List.replicate (Int.toNat (↑(List.length (List.map SV.str c.Names)) : Int)) 0)))
 (Sum.elim (fun (l : List Int) =>
 some l) some))
def zji (b : List Int) (g : Int) (i : Int) : Option (Int) :=
 zh b g fun c =>
 zh b i fun d =>
 Option.bind (
 lpO (fun (a : Int) =>
 cond (decide (a < (↑(List.length (List.map (SV.int .u8) b)) : Int)))
 (zh b a fun e =>
 cond (decide (e = bits BinOp.and IntKind.u8 c d))
 (some (.inr (.inr a)))
 (zg (IntKind.wrap .i64 (a + 1)) fun f =>
 some (.inl f)))
 (some (.inr (.inl ())))) (0))
 (Sum.elim (fun (_ : Unit) =>
 some ((-1 : Int))) some)
def zfx (b : TL) : Option (Int × Int) :=
 (Fz8 (b.Names)).bind fun e =>
 cond (!decide (e.snd = 0))
 (some e)
 (cond (!decide ((↑(List.length (List.map (SV.int .u8) b.Up)) : Int) = (↑(List.length (List.map SV.str b.Names)) : Int)))
 (some (((-1 : Int), 6)))
 (Option.bind (
 lpO (fun (d : Int) =>
 cond (decide (d < (↑(List.length (List.map SV.str b.Names)) : Int)))
 ((zr2 b d).bind fun f =>
 cond (!f)
 (some (.inr (.inr ((d, 6)))))
 (zg (IntKind.wrap .i64 (d + 1)) fun g =>
 some (.inl g)))
 (some (.inr (.inl ())))) (0))
 (Sum.elim (fun (_ : Unit) =>
 (zo8 b).bind fun i =>
 Option.bind (
 lpO (fun (a : Int) =>
 cond (decide (a < (↑(List.length (List.map SV.str b.Names)) : Int)))
 (Option.bind (
 lpO (fun (c : Int) =>
 cond (decide (c < (↑(List.length (List.map SV.str b.Names)) : Int)))
 ((zji (b.Up) a c).bind fun j =>
 cond (decide (j < 0))
 (some (.inr (.inr (.inr (.inr ((a, 4)))))))
 ((zji i a c).bind fun k =>
 cond (decide (k < 0))
 (some (.inr (.inr (.inr (.inr ((a, 4)))))))
 (zg (IntKind.wrap .i64 (c + 1)) fun l =>
 some (.inl l))))
 (some (.inr (.inl ())))) (0))
 (Sum.elim (fun (_ : Unit) =>
 zg (IntKind.wrap .i64 (a + 1)) fun m =>
 some (.inl m)) some))
 (some (.inr (.inl ())))) (0))
 (Sum.elim (fun (_ : Unit) =>
 some ((0, 0))) some)) some)))
def ztp : Option (List (List UInt8)) :=
 some ([(ByteArray.mk #[110, 101, 103]).data.toList, (ByteArray.mk #[97, 98, 115]).data.toList, (ByteArray.mk #[110, 111, 116]).data.toList, (ByteArray.mk #[115, 104, 97, 112, 101]).data.toList, (ByteArray.mk #[114, 97, 118, 101, 108]).data.toList, (ByteArray.mk #[114, 101, 118, 101, 114, 115, 101]).data.toList, (ByteArray.mk #[102, 108, 105, 112]).data.toList, (ByteArray.mk #[105, 111, 116, 97]).data.toList, (ByteArray.mk #[115, 117, 109]).data.toList, (ByteArray.mk #[108, 101, 97, 115, 116]).data.toList, (ByteArray.mk #[109, 111, 115, 116]).data.toList, (ByteArray.mk #[99, 111, 117, 110, 116]).data.toList, (ByteArray.mk #[115, 99, 97, 110]).data.toList, (ByteArray.mk #[103, 114, 97, 100, 101]).data.toList, (ByteArray.mk #[97, 100, 100]).data.toList, (ByteArray.mk #[115, 117, 98]).data.toList, (ByteArray.mk #[109, 117, 108]).data.toList, (ByteArray.mk #[100, 105, 118]).data.toList, (ByteArray.mk #[109, 111, 100]).data.toList, (ByteArray.mk #[112, 108, 117, 115]).data.toList, (ByteArray.mk #[109, 105, 110, 117, 115]).data.toList, (ByteArray.mk #[116, 105, 109, 101, 115]).data.toList, (ByteArray.mk #[101, 113]).data.toList, (ByteArray.mk #[110, 101]).data.toList, (ByteArray.mk #[108, 116]).data.toList, (ByteArray.mk #[108, 101]).data.toList, (ByteArray.mk #[103, 116]).data.toList, (ByteArray.mk #[103, 101]).data.toList, (ByteArray.mk #[97, 110, 100]).data.toList, (ByteArray.mk #[111, 114]).data.toList, (ByteArray.mk #[109, 105, 110]).data.toList, (ByteArray.mk #[109, 97, 120]).data.toList, (ByteArray.mk #[116, 97, 107, 101]).data.toList, (ByteArray.mk #[100, 114, 111, 112]).data.toList, (ByteArray.mk #[102, 105, 108, 108]).data.toList, (ByteArray.mk #[103, 114, 105, 100]).data.toList, (ByteArray.mk #[99, 97, 116]).data.toList, (ByteArray.mk #[97, 116]).data.toList, (ByteArray.mk #[105, 110]).data.toList, (ByteArray.mk #[112, 105, 99, 107]).data.toList])
def zsf (f : List UInt8) : Option (Int × Int) :=
 (ztp).bind fun b =>
 Option.bind (
 lpO (fun (a : Int) =>
 cond (decide (a < (↑(List.length (List.map SV.str b)) : Int)))
 (zh b a fun c =>
 cond (decide (c = f))
 (zg (IntKind.wrap .i64 (a + 1)) fun d =>
 some (.inr (.inr ((d, 0)))))
 (zg (IntKind.wrap .i64 (a + 1)) fun e =>
 some (.inl e)))
 (some (.inr (.inl ())))) (0))
 (Sum.elim (fun (_ : Unit) =>
 some ((0, 4))) some)
def zox (a : Int) : Option (Bool) :=
 cond (decide (97 <= a))
 (some (decide (a <= 122)))
 (some (false))
def ztu (a : Int) : Option (Bool) :=
 cond (decide (48 <= a))
 (some (decide (a <= 57)))
 (some (false))
def zb9 (b : List UInt8) : Option (Bool) :=
 cond (decide (b = (ByteArray.mk #[]).data.toList))
 (some (false))
 (zh b (0) fun c =>
 (zox ((↑(UInt8.toNat c) : Int))).bind fun d =>
 cond (!d)
 (some (false))
 (Option.bind (
 lpO (fun (a : Int) =>
 cond (decide (a < (↑(List.length b) : Int)))
 (zh b a fun e =>
 (zox ((↑(UInt8.toNat e) : Int))).bind fun f =>
 cond (!f)
 (zh b a fun g =>
 (ztu ((↑(UInt8.toNat g) : Int))).bind fun i =>
 cond (!i)
 (some (.inr (.inr (false))))
 (zg (IntKind.wrap .i64 (a + 1)) fun j =>
 some (.inl j)))
 (zg (IntKind.wrap .i64 (a + 1)) fun k =>
 some (.inl k)))
 (some (.inr (.inl ())))) (0))
 (Sum.elim (fun (_ : Unit) =>
 some (true)) some)))
def zgw (a : List UInt8) : Option (List Int × Bool) :=
 Option.bind (
 lpO (fun (_ : Unit) =>
 cond (decide (0 < (↑(List.length a) : Int)))
 (none)
 (some (.inr (.inl ())))) (()))
 (Sum.elim (fun (_ : Unit) =>
 some (([], true))) some)
def zry (a : TK) : Option (Int) :=
 cond (decide (a.Kind < 1))
 (some (2))
 (cond (decide (9 < a.Kind))
 (some (2))
 (cond (!decide (a.Kind = 2))
 (cond (!decide (a.N = 0))
 (some (2))
 (cond (!decide (a.Kind = 1))
 (cond (!decide (a.Kind = 3))
 (cond (!decide (a.S = (ByteArray.mk #[]).data.toList))
 (some (2))
 (cond (decide (a.Kind = 1))
 ((zb9 (a.S)).bind fun b =>
 cond (!b)
 (some (6))
 (cond (decide (16 < (↑(List.length a.S) : Int)))
 (some (3))
 (some (0))))
 (cond (decide (a.Kind = 3))
 ((zgw (a.S)).bind fun c =>
 cond (!c.snd)
 (some (6))
 (cond (decide (2000 < (↑(List.length a.S) : Int)))
 (some (3))
 (some (0))))
 (some (0)))))
 (cond (decide (a.Kind = 1))
 ((zb9 (a.S)).bind fun d =>
 cond (!d)
 (some (6))
 (cond (decide (16 < (↑(List.length a.S) : Int)))
 (some (3))
 (some (0))))
 (cond (decide (a.Kind = 3))
 ((zgw (a.S)).bind fun e =>
 cond (!e.snd)
 (some (6))
 (cond (decide (2000 < (↑(List.length a.S) : Int)))
 (some (3))
 (some (0))))
 (some (0)))))
 (cond (decide (a.Kind = 1))
 ((zb9 (a.S)).bind fun f =>
 cond (!f)
 (some (6))
 (cond (decide (16 < (↑(List.length a.S) : Int)))
 (some (3))
 (some (0))))
 (cond (decide (a.Kind = 3))
 ((zgw (a.S)).bind fun g =>
 cond (!g.snd)
 (some (6))
 (cond (decide (2000 < (↑(List.length a.S) : Int)))
 (some (3))
 (some (0))))
 (some (0))))))
 (cond (!decide (a.Kind = 1))
 (cond (!decide (a.Kind = 3))
 (cond (!decide (a.S = (ByteArray.mk #[]).data.toList))
 (some (2))
 (cond (decide (a.Kind = 1))
 ((zb9 (a.S)).bind fun i =>
 cond (!i)
 (some (6))
 (cond (decide (16 < (↑(List.length a.S) : Int)))
 (some (3))
 (some (0))))
 (cond (decide (a.Kind = 3))
 ((zgw (a.S)).bind fun j =>
 cond (!j.snd)
 (some (6))
 (cond (decide (2000 < (↑(List.length a.S) : Int)))
 (some (3))
 (some (0))))
 (some (0)))))
 (cond (decide (a.Kind = 1))
 ((zb9 (a.S)).bind fun k =>
 cond (!k)
 (some (6))
 (cond (decide (16 < (↑(List.length a.S) : Int)))
 (some (3))
 (some (0))))
 (cond (decide (a.Kind = 3))
 ((zgw (a.S)).bind fun l =>
 cond (!l.snd)
 (some (6))
 (cond (decide (2000 < (↑(List.length a.S) : Int)))
 (some (3))
 (some (0))))
 (some (0)))))
 (cond (decide (a.Kind = 1))
 ((zb9 (a.S)).bind fun m =>
 cond (!m)
 (some (6))
 (cond (decide (16 < (↑(List.length a.S) : Int)))
 (some (3))
 (some (0))))
 (cond (decide (a.Kind = 3))
 ((zgw (a.S)).bind fun n =>
 cond (!n.snd)
 (some (6))
 (cond (decide (2000 < (↑(List.length a.S) : Int)))
 (some (3))
 (some (0))))
 (some (0)))))))
def zub (d : List UInt8) : Option (Bool) :=
 Option.bind (
 lpO (fun (a : Int) =>
 cond (decide (a < (↑(10 : Nat) : Int)))
 (zk (0 <= a /\ a < (↑(10 : Nat) : Int)) (
 zh ([(ByteArray.mk #[118, 97, 114]).data.toList, (ByteArray.mk #[100, 101, 102]).data.toList, (ByteArray.mk #[111, 117, 116]).data.toList, (ByteArray.mk #[105, 102]).data.toList, (ByteArray.mk #[101, 108, 115, 101]).data.toList, (ByteArray.mk #[119, 104, 105, 108, 101]).data.toList, (ByteArray.mk #[101, 110, 100]).data.toList, (ByteArray.mk #[114, 101, 108, 101, 97, 115, 101]).data.toList, (ByteArray.mk #[105, 110, 116]).data.toList, (ByteArray.mk #[99, 104, 97, 114]).data.toList]) ((↑(Int.toNat a) : Int)) fun b =>
 cond (decide (b = d))
 (some (.inr (.inr (true))))
 (zg (IntKind.wrap .i64 (a + 1)) fun c =>
 some (.inl c))))
 (some (.inr (.inl ())))) (0))
 (Sum.elim (fun (_ : Unit) =>
 some (false)) some)
def zrm (a : List UInt8) : Option (Bool) :=
 (zsf a).bind fun b =>
 (zry (TK.mk 1 0 0 0 a)).bind fun c =>
 cond (decide (c = 0))
 (cond (!decide (b.snd = 0))
 ((zub a).bind fun d =>
 some (!d))
 (some (false)))
 (some (false))
def zl5 (e : List UInt8) (f : List (List UInt8)) : Option (Int) :=
 (zrm e).bind fun b =>
 cond (!b)
 (some (24))
 (Option.bind (
 lpO (fun (a : Int) =>
 cond (decide (a < (↑(List.length (List.map SV.str f)) : Int)))
 (zh f a fun c =>
 cond (decide (c = e))
 (some (.inr (.inr (8))))
 (zg (IntKind.wrap .i64 (a + 1)) fun d =>
 some (.inl d)))
 (some (.inr (.inl ())))) (0))
 (Sum.elim (fun (_ : Unit) =>
 some (0)) some))
def ur (b : TL) (a : Int) : Option (Bool) :=
 cond (decide (0 <= a))
 (some (decide (a < (↑(List.length (List.map SV.str b.Names)) : Int))))
 (some (false))
def ztn (c : TP) : Option (Int × Int) :=
 cond (decide (16 < (↑(List.length (List.map zU c.Channels)) : Int)))
 (some (((-1 : Int), 3)))
 (Option.bind (
 lpO (fun (a : Int × List (List UInt8)) =>
 cond (decide (a.fst < (↑(List.length (List.map zU c.Channels)) : Int)))
 (zh (c.Channels) (a.fst) fun d =>
 (zl5 (d.s_) (a.snd)).bind fun b =>
 cond (decide (b = 0))
 (zh (c.Channels) (a.fst) fun e =>
 (ur (c.Lattice) (e.at_)).bind fun f =>
 cond (!f)
 (some (.inr (.inr ((a.fst, 7)))))
 (cond (!decide (b = 0))
 (some (.inr (.inr ((a.fst, b)))))
 (zh (c.Channels) (a.fst) fun g =>
 zk ((List.length (List.map SV.str a.snd) + (1 : Nat)) * (16 : Nat) <= (70368744177664 : Nat)) (
 zg (IntKind.wrap .i64 (a.fst + 1)) fun i =>
 some (.inl ((i, a.snd ++ [g.s_])))))))
 (cond (!decide (b = 0))
 (some (.inr (.inr ((a.fst, b)))))
 (zh (c.Channels) (a.fst) fun j =>
 zk ((List.length (List.map SV.str a.snd) + (1 : Nat)) * (16 : Nat) <= (70368744177664 : Nat)) (
 zg (IntKind.wrap .i64 (a.fst + 1)) fun k =>
 some (.inl ((k, a.snd ++ [j.s_])))))))
 (some (.inr (.inl ())))) ((0, [])))
 (Sum.elim (fun (_ : Unit) =>
 some ((0, 0))) some))
def zs5 (b : TL) (c : Int) (d : Int) : Option (Int) :=
 (zfx b).bind fun a =>
 cond (decide (a.snd = 0))
 (cond (decide (c < 0))
 (some (7))
 (cond (decide ((↑(List.length (List.map SV.str b.Names)) : Int) <= c))
 (some (7))
 (cond (decide (d < 0))
 (some (7))
 (cond (decide ((↑(List.length (List.map SV.str b.Names)) : Int) <= d))
 (some (7))
 (some (a.snd))))))
 (some (a.snd))
def zov (c : TL) : Option (Int × Int) :=
 (zs5 c (0) (0)).bind fun b =>
 cond (!decide (b = 0))
 (some ((0, b)))
 ((zo8 c).bind fun d =>
 Option.bind (
 lpO (fun (a : Int × Int) =>
 cond (decide (a.fst < (↑(List.length (List.map SV.str c.Names)) : Int)))
 ((zji d (a.fst) (a.snd)).bind fun e =>
 zg (IntKind.wrap .i64 (a.fst + 1)) fun f =>
 some (.inl ((f, e))))
 (some (.inr (.inl (a.snd))))) ((0, 0)))
 (Sum.elim (fun (g : Int) =>
 some ((g, 0))) some))
def znz (b : TL) (a : TY) : Option (Int) :=
 (zfx b).bind fun g =>
 cond (!decide (g.snd = 0))
 (some (g.snd))
 (cond (!decide (a.Kind = 1))
 (cond (!decide (a.Kind = 2))
 (some (7))
 (cond (decide (a.Rank < 0))
 (some (7))
 (cond (decide (2 < a.Rank))
 (some (7))
 ((ur b (a.Axes.fst)).bind fun i =>
 cond (!i)
 (some (7))
 ((ur b (a.Axes.snd)).bind fun j =>
 cond (!j)
 (some (7))
 ((ur b (a.Data)).bind fun k =>
 cond (!k)
 (some (7))
 ((zov b).bind fun l =>
 Option.bind (
 lpO (fun (c : Int) =>
 cond (decide (c < 2))
 (zk (0 <= c /\ c < (↑(2 : Nat) : Int)) (
 zh ([a.Axes.fst, a.Axes.snd]) ((↑(Int.toNat c) : Int)) fun m =>
 cond (!decide (m = l.fst))
 (some (.inr (.inr (6))))
 (zg (IntKind.wrap .i64 (c + 1)) fun n =>
 some (.inl n))))
 (some (.inr (.inl ())))) (a.Rank))
 (Sum.elim (fun (_ : Unit) =>
 Option.bind (
 lpO (fun (d : Int) =>
 cond (decide (d < a.Rank))
 (zk (0 <= d /\ d < (↑(2 : Nat) : Int)) (
 zh ([a.Axes.fst, a.Axes.snd]) ((↑(Int.toNat d) : Int)) fun o =>
 (Fz9 b o (a.Data)).bind fun p =>
 cond (!p)
 (some (.inr (.inr (25))))
 (zg (IntKind.wrap .i64 (d + 1)) fun q =>
 some (.inl q))))
 (some (.inr (.inl ())))) (0))
 (Sum.elim (fun (_ : Unit) =>
 some (0)) some)) some))))))))
 (cond (decide (a.Rank < 0))
 (some (7))
 (cond (decide (2 < a.Rank))
 (some (7))
 ((ur b (a.Axes.fst)).bind fun s =>
 cond (!s)
 (some (7))
 ((ur b (a.Axes.snd)).bind fun t =>
 cond (!t)
 (some (7))
 ((ur b (a.Data)).bind fun u =>
 cond (!u)
 (some (7))
 ((zov b).bind fun v =>
 Option.bind (
 lpO (fun (e : Int) =>
 cond (decide (e < 2))
 (zk (0 <= e /\ e < (↑(2 : Nat) : Int)) (
 zh ([a.Axes.fst, a.Axes.snd]) ((↑(Int.toNat e) : Int)) fun w =>
 cond (!decide (w = v.fst))
 (some (.inr (.inr (6))))
 (zg (IntKind.wrap .i64 (e + 1)) fun x =>
 some (.inl x))))
 (some (.inr (.inl ())))) (a.Rank))
 (Sum.elim (fun (_ : Unit) =>
 Option.bind (
 lpO (fun (f : Int) =>
 cond (decide (f < a.Rank))
 (zk (0 <= f /\ f < (↑(2 : Nat) : Int)) (
 zh ([a.Axes.fst, a.Axes.snd]) ((↑(Int.toNat f) : Int)) fun y =>
 (Fz9 b y (a.Data)).bind fun z =>
 cond (!z)
 (some (.inr (.inr (25))))
 (zg (IntKind.wrap .i64 (f + 1)) fun A =>
 some (.inl A))))
 (some (.inr (.inl ())))) (0))
 (Sum.elim (fun (_ : Unit) =>
 some (0)) some)) some))))))))
def zrh (b : TP) : Option (Int × Int) :=
 cond (decide (32 < (↑(List.length (List.map zY b.Vars)) : Int)))
 (some (((-1 : Int), 3)))
 (Option.bind (
 lpO (fun (a : Int × List (List UInt8)) =>
 cond (decide (a.fst < (↑(List.length (List.map zY b.Vars)) : Int)))
 (zh (b.Vars) (a.fst) fun e =>
 (zl5 (e.Name) (a.snd)).bind fun c =>
 cond (decide (c = 0))
 (zh (b.Vars) (a.fst) fun f =>
 (znz (b.Lattice) (f.Type_)).bind fun d =>
 cond (!decide (d = 0))
 (some (.inr (.inr ((a.fst, d)))))
 (zh (b.Vars) (a.fst) fun g =>
 zk ((List.length (List.map SV.str a.snd) + (1 : Nat)) * (16 : Nat) <= (70368744177664 : Nat)) (
 zg (IntKind.wrap .i64 (a.fst + 1)) fun i =>
 some (.inl ((i, a.snd ++ [g.Name]))))))
 (cond (!decide (c = 0))
 (some (.inr (.inr ((a.fst, c)))))
 (zh (b.Vars) (a.fst) fun j =>
 zk ((List.length (List.map SV.str a.snd) + (1 : Nat)) * (16 : Nat) <= (70368744177664 : Nat)) (
 zg (IntKind.wrap .i64 (a.fst + 1)) fun k =>
 some (.inl ((k, a.snd ++ [j.Name])))))))
 (some (.inr (.inl ())))) ((0, [])))
 (Sum.elim (fun (_ : Unit) =>
 some ((0, 0))) some))
def zrl (d : TP) : Option (Int × Int) :=
 cond (decide (64 < (↑(List.length (List.map wF d.Rules)) : Int)))
 (some (((-1 : Int), 3)))
 (Option.bind (
 lpO (fun (a : Int) =>
 cond (decide (a < (↑(List.length (List.map wF d.Rules)) : Int)))
 (zh (d.Rules) a fun b =>
 (ur (d.Lattice) (b.From)).bind fun e =>
 cond (!e)
 (some (.inr (.inr ((a, 7)))))
 ((ur (d.Lattice) (b.Goal)).bind fun f =>
 cond (!f)
 (some (.inr (.inr ((a, 7)))))
 (cond (decide (b.From = b.Goal))
 (some (.inr (.inr ((a, 25)))))
 ((Fz9 (d.Lattice) (b.Goal) (b.From)).bind fun g =>
 cond (!g)
 (some (.inr (.inr ((a, 25)))))
 (Option.bind (
 lpO (fun (c : Int) =>
 cond (decide (c < a))
 (zh (d.Rules) c fun i =>
 cond (decide (i.From = b.From))
 (zh (d.Rules) c fun j =>
 cond (decide (j.Goal = b.Goal))
 (some (.inr (.inr (.inr (.inr ((a, 8)))))))
 (zg (IntKind.wrap .i64 (c + 1)) fun k =>
 some (.inl k)))
 (zg (IntKind.wrap .i64 (c + 1)) fun l =>
 some (.inl l)))
 (some (.inr (.inl ())))) (0))
 (Sum.elim (fun (_ : Unit) =>
 cond (decide (b.K < 2))
 (some (.inr (.inr ((a, 3)))))
 (cond (decide (400 < b.K))
 (some (.inr (.inr ((a, 3)))))
 (zg (IntKind.wrap .i64 (a + 1)) fun m =>
 some (.inl m)))) some))))))
 (some (.inr (.inl ())))) (0))
 (Sum.elim (fun (_ : Unit) =>
 some ((0, 0))) some))
def zt1 (e : TP) : Option (Int × Int × Int) :=
 (zfx (e.Lattice)).bind fun a =>
 cond (!decide (a.snd = 0))
 (some ((1, a)))
 ((ztn e).bind fun b =>
 cond (!decide (b.snd = 0))
 (some ((2, b)))
 ((zrh e).bind fun c =>
 cond (!decide (c.snd = 0))
 (some ((3, c)))
 ((zrl e).bind fun d =>
 cond (!decide (d.snd = 0))
 (some ((4, d)))
 (some ((0, 0, 0))))))
def zmh (g : Int) (f : Int × Int) : Option (Int) :=
 Option.bind (
 lpO (fun (a : Int × Int) =>
 cond (decide (a.fst < g))
 (zk (0 <= a.fst /\ a.fst < (↑(2 : Nat) : Int)) (
 zh ([f.fst, f.snd]) ((↑(Int.toNat a.fst) : Int)) fun b =>
 zg (IntKind.wrap .i64 (a.snd * b)) fun c =>
 zg (IntKind.wrap .i64 (a.fst + 1)) fun d =>
 some (.inl ((d, c)))))
 (some (.inr (.inl (a.snd))))) ((0, 1)))
 (Sum.elim (fun (e : Int) =>
 some e) some)
def zss (d : Int) (c : Int × Int) : Option (Int) :=
 cond (decide (d < 0))
 (some (7))
 (cond (decide (2 < d))
 (some (7))
 (Option.bind (
 lpO (fun (a : Int) =>
 cond (decide (a < d))
 (zk (0 <= a /\ a < (↑(2 : Nat) : Int)) (
 zh ([c.fst, c.snd]) ((↑(Int.toNat a) : Int)) fun e =>
 cond (decide (e < 0))
 (some (.inr (.inr (7))))
 (zg (IntKind.wrap .i64 (a + 1)) fun f =>
 some (.inl f))))
 (some (.inr (.inl ())))) (0))
 (Sum.elim (fun (_ : Unit) =>
 Option.bind (
 lpO (fun (b : Int) =>
 cond (decide (b < 2))
 (zk (0 <= b /\ b < (↑(2 : Nat) : Int)) (
 zh ([c.fst, c.snd]) ((↑(Int.toNat b) : Int)) fun g =>
 cond (!decide (g = 0))
 (some (.inr (.inr (6))))
 (zg (IntKind.wrap .i64 (b + 1)) fun i =>
 some (.inl i))))
 (some (.inr (.inl ())))) d)
 (Sum.elim (fun (_ : Unit) =>
 cond (decide (400 < c.fst))
 (some (15))
 (cond (decide (400 < c.snd))
 (some (15))
 ((zmh d c).bind fun j =>
 cond (decide (400 < j))
 (some (15))
 (some (0))))) some)) some)))
def znc (c : Int) (d : Int × Int) : Option (Int × Int) :=
 (zss c d).bind fun a =>
 cond (!decide (a = 0))
 (some ((0, a)))
 ((zmh c d).bind fun b =>
 some ((b, 0)))
def zjc (a : Int) : Option (Bool) :=
 cond (decide (0 <= a))
 (cond (decide (a <= 1114111))
 (cond (decide (a < 55296))
 (some (true))
 (some (decide (57343 < a))))
 (some (false)))
 (some (false))
def zbv (c : TA) : Option (Int) :=
 cond (!decide (c.Kind = 1))
 (cond (!decide (c.Kind = 2))
 (some (2))
 ((znc (c.Rank) (c.Lens)).bind fun d =>
 cond (decide (d.snd = 0))
 (cond (!decide ((↑(List.length (List.map (SV.int .i64) c.Cells)) : Int) = d.fst))
 (Option.bind (
 lpO (fun (_ : Unit) =>
 cond (decide (0 < (↑(List.length (List.map (SV.int .i64) c.Cells)) : Int)))
 (some (.inr (.inl ())))
 (some (.inr (.inl ())))) (()))
 (Sum.elim (fun (_ : Unit) =>
 some (6)) some))
 (Option.bind (
 lpO (fun (a : Int × Int) =>
 cond (decide (a.fst < (↑(List.length (List.map (SV.int .i64) c.Cells)) : Int)))
 (cond (decide (a.snd = 0))
 (cond (decide (c.Kind = 2))
 (zh (c.Cells) (a.fst) fun f =>
 (zjc f).bind fun g =>
 cond (!g)
 (zg (IntKind.wrap .i64 (a.fst + 1)) fun i =>
 some (.inl ((i, 7))))
 (zg (IntKind.wrap .i64 (a.fst + 1)) fun j =>
 some (.inl ((j, a.snd)))))
 (zg (IntKind.wrap .i64 (a.fst + 1)) fun k =>
 some (.inl ((k, a.snd)))))
 (some (.inr (.inl (a.snd)))))
 (some (.inr (.inl (a.snd))))) ((0, d.snd)))
 (Sum.elim (fun (l : Int) =>
 some l) some)))
 (Option.bind (
 lpO (fun (_ : Unit) =>
 cond (decide (0 < (↑(List.length (List.map (SV.int .i64) c.Cells)) : Int)))
 (some (.inr (.inl ())))
 (some (.inr (.inl ())))) (()))
 (Sum.elim (fun (_ : Unit) =>
 some (d.snd)) some))))
 ((znc (c.Rank) (c.Lens)).bind fun e =>
 cond (decide (e.snd = 0))
 (cond (!decide ((↑(List.length (List.map (SV.int .i64) c.Cells)) : Int) = e.fst))
 (Option.bind (
 lpO (fun (_ : Unit) =>
 cond (decide (0 < (↑(List.length (List.map (SV.int .i64) c.Cells)) : Int)))
 (some (.inr (.inl ())))
 (some (.inr (.inl ())))) (()))
 (Sum.elim (fun (_ : Unit) =>
 some (6)) some))
 (Option.bind (
 lpO (fun (b : Int × Int) =>
 cond (decide (b.fst < (↑(List.length (List.map (SV.int .i64) c.Cells)) : Int)))
 (cond (decide (b.snd = 0))
 (cond (decide (c.Kind = 2))
 (zh (c.Cells) (b.fst) fun m =>
 (zjc m).bind fun n =>
 cond (!n)
 (zg (IntKind.wrap .i64 (b.fst + 1)) fun o =>
 some (.inl ((o, 7))))
 (zg (IntKind.wrap .i64 (b.fst + 1)) fun p =>
 some (.inl ((p, b.snd)))))
 (zg (IntKind.wrap .i64 (b.fst + 1)) fun q =>
 some (.inl ((q, b.snd)))))
 (some (.inr (.inl (b.snd)))))
 (some (.inr (.inl (b.snd))))) ((0, e.snd)))
 (Sum.elim (fun (s : Int) =>
 some s) some)))
 (Option.bind (
 lpO (fun (_ : Unit) =>
 cond (decide (0 < (↑(List.length (List.map (SV.int .i64) c.Cells)) : Int)))
 (some (.inr (.inl ())))
 (some (.inr (.inl ())))) (()))
 (Sum.elim (fun (_ : Unit) =>
 some (e.snd)) some)))
def zog (g : TP) (c : List TW) : Option (Int × Int) :=
 (zt1 g).bind fun d =>
 cond (decide (d.snd.snd = 0))
 (cond (!decide ((↑(List.length (List.map zj c)) : Int) = (↑(List.length (List.map zY g.Vars)) : Int)))
 (some (((-1 : Int), 3)))
 (cond (!decide (d.snd.snd = 0))
 (some (((-1 : Int), d.snd.snd)))
 (Option.bind (
 lpO (fun (a : Int) =>
 cond (decide (a < (↑(List.length (List.map zj c)) : Int)))
 (zh c a fun i =>
 zh (g.Vars) a fun j =>
 cond (!decide (i.Name = j.Name))
 (some (.inr (.inr ((a, 24)))))
 (zh c a fun k =>
 (zbv (k.Value)).bind fun e =>
 cond (decide (e = 0))
 (zh c a fun l =>
 zh (g.Vars) a fun m =>
 cond (!decide (l.Value.Kind = m.Type_.Kind))
 (some (.inr (.inr ((a, 21)))))
 (zh c a fun n =>
 zh (g.Vars) a fun o =>
 cond (!decide (n.Value.Rank = o.Type_.Rank))
 (some (.inr (.inr ((a, 22)))))
 (cond (!decide (e = 0))
 (some (.inr (.inr ((a, e)))))
 (zg (IntKind.wrap .i64 (a + 1)) fun p =>
 some (.inl p)))))
 (cond (!decide (e = 0))
 (some (.inr (.inr ((a, e)))))
 (zg (IntKind.wrap .i64 (a + 1)) fun q =>
 some (.inl q)))))
 (some (.inr (.inl ())))) (0))
 (Sum.elim (fun (_ : Unit) =>
 some ((0, 0))) some))))
 (cond (!decide (d.snd.snd = 0))
 (some (((-1 : Int), d.snd.snd)))
 (Option.bind (
 lpO (fun (b : Int) =>
 cond (decide (b < (↑(List.length (List.map zj c)) : Int)))
 (zh c b fun s =>
 zh (g.Vars) b fun t =>
 cond (!decide (s.Name = t.Name))
 (some (.inr (.inr ((b, 24)))))
 (zh c b fun u =>
 (zbv (u.Value)).bind fun f =>
 cond (decide (f = 0))
 (zh c b fun v =>
 zh (g.Vars) b fun w =>
 cond (!decide (v.Value.Kind = w.Type_.Kind))
 (some (.inr (.inr ((b, 21)))))
 (zh c b fun x =>
 zh (g.Vars) b fun y =>
 cond (!decide (x.Value.Rank = y.Type_.Rank))
 (some (.inr (.inr ((b, 22)))))
 (cond (!decide (f = 0))
 (some (.inr (.inr ((b, f)))))
 (zg (IntKind.wrap .i64 (b + 1)) fun z =>
 some (.inl z)))))
 (cond (!decide (f = 0))
 (some (.inr (.inr ((b, f)))))
 (zg (IntKind.wrap .i64 (b + 1)) fun A =>
 some (.inl A)))))
 (some (.inr (.inl ())))) (0))
 (Sum.elim (fun (_ : Unit) =>
 some ((0, 0))) some)))
def zCp (f : List UInt8) (g : Int) : Option (List UInt8) :=
 Option.bind (
 lpO (fun (a : List UInt8) =>
 cond (decide (0 < (↑(List.length a) : Int)))
 (zg (IntKind.wrap .i64 ((↑(List.length a) : Int) - 1)) fun c =>
 zh a c fun d =>
 cond (decide ((↑(UInt8.toNat d) : Int) = g))
 (zg (IntKind.wrap .i64 ((↑(List.length a) : Int) - 1)) fun b =>
 zk (0 <= b /\ b <= (↑(List.length a) : Int)) (
 some (.inl (List.drop (Int.toNat 0) (List.take (Int.toNat b) a)))))
 (some (.inr (.inl a))))
 (some (.inr (.inl a)))) f)
 (Sum.elim (fun (e : List UInt8) =>
 some e) some)
def zBp (d : List UInt8) (e : Int) : Option (List UInt8) :=
 Option.bind (
 lpO (fun (a : List UInt8) =>
 cond (decide (0 < (↑(List.length a) : Int)))
 (zh a (0) fun b =>
 cond (decide ((↑(UInt8.toNat b) : Int) = e))
 (zk ((0 : Int) <= (1 : Int) /\ (1 : Int) <= (↑(List.length a) : Int)) (
 some (.inl (List.drop (Int.toNat 1) (List.take (Int.toNat (↑(List.length a) : Int)) a)))))
 (some (.inr (.inl a))))
 (some (.inr (.inl a)))) d)
 (Sum.elim (fun (c : List UInt8) =>
 some c) some)
def zm5 (e : List UInt8) : Option (List Bool × Bool) :=
 Option.bind (
 lpO (fun (a : Int × List Bool) =>
 cond (decide (a.fst < (↑(List.length e) : Int)))
 (zh e (a.fst) fun b =>
 cond (decide (128 <= (↑(UInt8.toNat b) : Int)))
 (some (.inr (.inr ((a.snd, false)))))
 (zk ((0 : Int) <= (↑(UInt8.toNat b) : Int) /\ (↑(UInt8.toNat b) : Int) < (↑(256 : Nat) : Int)) (
 zh (a.snd) ((↑(Int.toNat (↑(UInt8.toNat b) : Int)) : Int)) fun _ =>
 zg (IntKind.wrap .i64 (a.fst + 1)) fun c =>
 some (.inl ((c, List.set a.snd (Int.toNat (↑(UInt8.toNat b) : Int)) true))))))
 (some (.inr (.inl (a.snd))))) ((0, List.replicate 256 false)))
 (Sum.elim (fun (d : List Bool) =>
 some ((d, true))) some)
def znm (c : List Bool) (a : Int) : Option (Bool) :=
 zk (0 <= a /\ a < (↑(256 : Nat) : Int)) (
 zh c ((↑(Int.toNat a) : Int)) fun b =>
 some b)
def znl (g : List UInt8) (i : List Bool) : Option (List UInt8) :=
 Option.bind (
 lpO (fun (a : List UInt8) =>
 cond (decide (0 < (↑(List.length a) : Int)))
 (zg (IntKind.wrap .i64 ((↑(List.length a) : Int) - 1)) fun c =>
 zh a c fun d =>
 (znm i ((↑(UInt8.toNat d) : Int))).bind fun e =>
 cond (!e)
 (some (.inr (.inl a)))
 (zg (IntKind.wrap .i64 ((↑(List.length a) : Int) - 1)) fun b =>
 zk (0 <= b /\ b <= (↑(List.length a) : Int)) (
 some (.inl (List.drop (Int.toNat 0) (List.take (Int.toNat b) a))))))
 (some (.inr (.inl a)))) g)
 (Sum.elim (fun (f : List UInt8) =>
 some f) some)
def zma (e : List UInt8) (f : List Bool) : Option (List UInt8) :=
 Option.bind (
 lpO (fun (a : List UInt8) =>
 cond (decide (0 < (↑(List.length a) : Int)))
 (zh a (0) fun b =>
 (znm f ((↑(UInt8.toNat b) : Int))).bind fun c =>
 cond (!c)
 (some (.inr (.inl a)))
 (zk ((0 : Int) <= (1 : Int) /\ (1 : Int) <= (↑(List.length a) : Int)) (
 some (.inl (List.drop (Int.toNat 1) (List.take (Int.toNat (↑(List.length a) : Int)) a))))))
 (some (.inr (.inl a)))) e)
 (Sum.elim (fun (d : List UInt8) =>
 some d) some)
def zym (a : Int) : Option (Bool) :=
 some (!decide (bits BinOp.and IntKind.u8 a 192 = 128))
def zwx (a : List UInt8) : Option (Int × Int) :=
 cond (decide ((↑(List.length a) : Int) < 1))
 (some ((65533, 0)))
 (zh a (0) fun _ =>
 none)
def zsx (a : List UInt8) : Option (Int × Int) :=
 cond (!decide (a = (ByteArray.mk #[]).data.toList))
 (zh a (0) fun b =>
 cond (decide ((↑(UInt8.toNat b) : Int) < 128))
 (zh a (0) fun c =>
 zg (IntKind.wrap .i32 (↑(UInt8.toNat c) : Int)) fun d =>
 some ((d, 1)))
 ((zwx a).bind fun e =>
 some e))
 ((zwx a).bind fun f =>
 some f)
def zCm (a : List UInt8) : Option (Int × Int) :=
 cond (decide ((↑(List.length a) : Int) = 0))
 (some ((65533, 0)))
 (zg (IntKind.wrap .i64 ((↑(List.length a) : Int) - 1)) fun d =>
 zh a d fun i =>
 zg (IntKind.wrap .i32 (↑(UInt8.toNat i) : Int)) fun e =>
 cond (decide (e < 128))
 (some ((e, 1)))
 (zg (IntKind.wrap .i64 ((↑(List.length a) : Int) - 4)) fun j =>
 zg (IntKind.wrap .i64 (d - 1)) fun k =>
 Option.bind (
 lpO (fun (b : Int) =>
 cond (decide (max j 0 <= b))
 (zh a b fun l =>
 (zym ((↑(UInt8.toNat l) : Int))).bind fun m =>
 cond m
 (some (.inr (.inl b)))
 (zg (IntKind.wrap .i64 (b - 1)) fun n =>
 some (.inl n)))
 (some (.inr (.inl b)))) k)
 (Sum.elim (fun (c : Int) =>
 cond (decide (c < 0))
 (zk ((0 : Int) <= (0 : Int) /\ (0 : Int) <= (↑(List.length a) : Int) /\ (↑(List.length a) : Int) <= (↑(List.length a) : Int)) (
 (zsx (List.drop (Int.toNat 0) (List.take (Int.toNat (↑(List.length a) : Int)) a))).bind fun f =>
 zg (IntKind.wrap .i64 (0 + f.snd)) fun o =>
 cond (!decide (o = (↑(List.length a) : Int)))
 (some ((65533, 1)))
 (some f)))
 (zk (0 <= c /\ c <= (↑(List.length a) : Int) /\ (↑(List.length a) : Int) <= (↑(List.length a) : Int)) (
 (zsx (List.drop (Int.toNat c) (List.take (Int.toNat (↑(List.length a) : Int)) a))).bind fun g =>
 zg (IntKind.wrap .i64 (c + g.snd)) fun p =>
 cond (!decide (p = (↑(List.length a) : Int)))
 (some ((65533, 1)))
 (some g)))) some)))
def zd7 (b : List UInt8) (c : Int) : Option (Int) :=
 (qm b c).bind fun a =>
 some a
def zaj (a : Int) : Option (Bool) :=
 cond (decide (0 <= a))
 (cond (decide (a < 55296))
 (some (true))
 (cond (decide (57343 < a))
 (cond (decide (a <= 1114111))
 (some (true))
 (some (false)))
 (some (false))))
 (cond (decide (57343 < a))
 (cond (decide (a <= 1114111))
 (some (true))
 (some (false)))
 (some (false)))
def zjd (d : List UInt8) (c : Int) : Option (Int) :=
 cond (decide (0 <= c))
 (cond (decide (c < 128))
 (zg (IntKind.wrap .u8 c) fun p =>
 (zd7 d p).bind fun q =>
 some q)
 (cond (decide (c = 65533))
 (none)
 ((zaj c).bind fun s =>
 cond (!s)
 (some ((-1 : Int)))
 (zg (IntKind.wrap .i64 ((↑(List.length (Utf8.encode c).data.toList) : Int) - 1)) fun a =>
 Option.bind (
 lpO (fun (_ : Unit) =>
 cond (decide (a < (↑(List.length d) : Int)))
 (zh d a fun t =>
 zh ((Utf8.encode c).data.toList) a fun u =>
 cond (!decide ((↑(UInt8.toNat t) : Int) = (↑(UInt8.toNat u) : Int)))
 (zg (IntKind.wrap .i64 (a + 1)) fun j =>
 zk (0 <= j /\ j <= (↑(List.length d) : Int)) (
 zh ((Utf8.encode c).data.toList) a fun v =>
 (zd7 (List.drop (Int.toNat j) (List.take (Int.toNat (↑(List.length d) : Int)) d)) ((↑(UInt8.toNat v) : Int))).bind fun l =>
 cond (decide (l < 0))
 (some (.inr (.inr ((-1 : Int)))))
 (zg (IntKind.wrap .i64 (l + 1)) fun w =>
 zg (IntKind.wrap .i64 (a + w)) fun m =>
 Option.bind (
 lpO (fun (e : Int) =>
 cond (decide (e < (↑(List.length (Utf8.encode c).data.toList) : Int)))
 (zg (IntKind.wrap .i64 (m - e)) fun x =>
 zh d x fun y =>
 zg (IntKind.wrap .i64 (a - e)) fun z =>
 zh ((Utf8.encode c).data.toList) z fun A =>
 cond (!decide ((↑(UInt8.toNat y) : Int) = (↑(UInt8.toNat A) : Int)))
 (none)
 (zg (IntKind.wrap .i64 (e + 1)) fun C =>
 some (.inl C)))
 (some (.inr (.inl ())))) (1))
 (Sum.elim (fun (_ : Unit) =>
 zg (IntKind.wrap .i64 (m - a)) fun D =>
 some (.inr (.inr D))) some))))
 (Option.bind (
 lpO (fun (f : Int) =>
 cond (decide (f < (↑(List.length (Utf8.encode c).data.toList) : Int)))
 (zg (IntKind.wrap .i64 (a - f)) fun F =>
 zh d F fun G =>
 zg (IntKind.wrap .i64 (a - f)) fun H =>
 zh ((Utf8.encode c).data.toList) H fun I =>
 cond (!decide ((↑(UInt8.toNat G) : Int) = (↑(UInt8.toNat I) : Int)))
 (none)
 (zg (IntKind.wrap .i64 (f + 1)) fun J =>
 some (.inl J)))
 (some (.inr (.inl ())))) (1))
 (Sum.elim (fun (_ : Unit) =>
 zg (IntKind.wrap .i64 (a - a)) fun K =>
 some (.inr (.inr K))) some)))
 (some (.inr (.inl ())))) (()))
 (Sum.elim (fun (_ : Unit) =>
 some ((-1 : Int))) some)))))
 (cond (decide (c = 65533))
 (none)
 ((zaj c).bind fun L =>
 cond (!L)
 (some ((-1 : Int)))
 (zg (IntKind.wrap .i64 ((↑(List.length (Utf8.encode c).data.toList) : Int) - 1)) fun b =>
 Option.bind (
 lpO (fun (_ : Unit) =>
 cond (decide (b < (↑(List.length d) : Int)))
 (zh d b fun M =>
 zh ((Utf8.encode c).data.toList) b fun N =>
 cond (!decide ((↑(UInt8.toNat M) : Int) = (↑(UInt8.toNat N) : Int)))
 (zg (IntKind.wrap .i64 (b + 1)) fun k =>
 zk (0 <= k /\ k <= (↑(List.length d) : Int)) (
 zh ((Utf8.encode c).data.toList) b fun O =>
 (zd7 (List.drop (Int.toNat k) (List.take (Int.toNat (↑(List.length d) : Int)) d)) ((↑(UInt8.toNat O) : Int))).bind fun n =>
 cond (decide (n < 0))
 (some (.inr (.inr ((-1 : Int)))))
 (zg (IntKind.wrap .i64 (n + 1)) fun P =>
 zg (IntKind.wrap .i64 (b + P)) fun o =>
 Option.bind (
 lpO (fun (g : Int) =>
 cond (decide (g < (↑(List.length (Utf8.encode c).data.toList) : Int)))
 (zg (IntKind.wrap .i64 (o - g)) fun Q =>
 zh d Q fun R =>
 zg (IntKind.wrap .i64 (b - g)) fun S =>
 zh ((Utf8.encode c).data.toList) S fun T =>
 cond (!decide ((↑(UInt8.toNat R) : Int) = (↑(UInt8.toNat T) : Int)))
 (none)
 (zg (IntKind.wrap .i64 (g + 1)) fun U =>
 some (.inl U)))
 (some (.inr (.inl ())))) (1))
 (Sum.elim (fun (_ : Unit) =>
 zg (IntKind.wrap .i64 (o - b)) fun V =>
 some (.inr (.inr V))) some))))
 (Option.bind (
 lpO (fun (i : Int) =>
 cond (decide (i < (↑(List.length (Utf8.encode c).data.toList) : Int)))
 (zg (IntKind.wrap .i64 (b - i)) fun W =>
 zh d W fun X =>
 zg (IntKind.wrap .i64 (b - i)) fun Y =>
 zh ((Utf8.encode c).data.toList) Y fun Z =>
 cond (!decide ((↑(UInt8.toNat X) : Int) = (↑(UInt8.toNat Z) : Int)))
 (none)
 (zg (IntKind.wrap .i64 (i + 1)) fun a2 =>
 some (.inl a2)))
 (some (.inr (.inl ())))) (1))
 (Sum.elim (fun (_ : Unit) =>
 zg (IntKind.wrap .i64 (b - b)) fun a3 =>
 some (.inr (.inr a3))) some)))
 (some (.inr (.inl ())))) (()))
 (Sum.elim (fun (_ : Unit) =>
 some ((-1 : Int))) some))))
def xE (b : List UInt8) (c : Int) : Option (Bool) :=
 (zjd b c).bind fun a =>
 some (decide (0 <= a))
def zx8 (m : List UInt8) (l : List UInt8) : Option (List UInt8) :=
 Option.bind (
 lpO (fun (a : List UInt8) =>
 cond (decide (0 < (↑(List.length a) : Int)))
 (zg (IntKind.wrap .i64 ((↑(List.length a) : Int) - 1)) fun f =>
 zh a f fun g =>
 zg (IntKind.wrap .i32 (↑(UInt8.toNat g) : Int)) fun d =>
 cond (decide (128 <= d))
 ((zCm a).bind fun e =>
 (xE l (e.fst)).bind fun i =>
 cond (!i)
 (some (.inr (.inl a)))
 (zg (IntKind.wrap .i64 ((↑(List.length a) : Int) - e.snd)) fun b =>
 zk (0 <= b /\ b <= (↑(List.length a) : Int)) (
 some (.inl (List.drop (Int.toNat 0) (List.take (Int.toNat b) a))))))
 ((xE l d).bind fun j =>
 cond (!j)
 (some (.inr (.inl a)))
 (zg (IntKind.wrap .i64 ((↑(List.length a) : Int) - 1)) fun c =>
 zk (0 <= c /\ c <= (↑(List.length a) : Int)) (
 some (.inl (List.drop (Int.toNat 0) (List.take (Int.toNat c) a)))))))
 (some (.inr (.inl a)))) m)
 (Sum.elim (fun (k : List UInt8) =>
 some k) some)
def zxt (e : List UInt8) (f : List UInt8) : Option (List UInt8) :=
 Option.bind (
 lpO (fun (a : List UInt8) =>
 cond (decide (0 < (↑(List.length a) : Int)))
 ((zsx a).bind fun b =>
 (xE f (b.fst)).bind fun c =>
 cond (!c)
 (some (.inr (.inl a)))
 (zk (0 <= b.snd /\ b.snd <= (↑(List.length a) : Int)) (
 some (.inl (List.drop (Int.toNat b.snd) (List.take (Int.toNat (↑(List.length a) : Int)) a))))))
 (some (.inr (.inl a)))) e)
 (Sum.elim (fun (d : List UInt8) =>
 some d) some)
def zs1 (b : List UInt8) (a : List UInt8) : Option (List UInt8) :=
 cond (decide (b = (ByteArray.mk #[]).data.toList))
 (some b)
 (cond (decide (a = (ByteArray.mk #[]).data.toList))
 (some b)
 (cond (decide ((↑(List.length a) : Int) = 1))
 (zh a (0) fun e =>
 cond (decide ((↑(UInt8.toNat e) : Int) < 128))
 (zh a (0) fun f =>
 (zCp b ((↑(UInt8.toNat f) : Int))).bind fun g =>
 zh a (0) fun i =>
 (zBp g ((↑(UInt8.toNat i) : Int))).bind fun j =>
 some j)
 ((zm5 a).bind fun c =>
 cond (c.snd)
 ((znl b (c.fst)).bind fun k =>
 (zma k (c.fst)).bind fun l =>
 some l)
 ((zx8 b a).bind fun m =>
 (zxt m a).bind fun n =>
 some n)))
 ((zm5 a).bind fun d =>
 cond (d.snd)
 ((znl b (d.fst)).bind fun o =>
 (zma o (d.fst)).bind fun p =>
 some p)
 ((zx8 b a).bind fun q =>
 (zxt q a).bind fun s =>
 some s))))
def ztt (a : List UInt8) : Option (Bool) :=
 cond (decide (a = (ByteArray.mk #[]).data.toList))
 (some (false))
 (cond (decide (16 < (↑(List.length a) : Int)))
 (some (false))
 (zh a (0) fun b =>
 cond (decide ((↑(UInt8.toNat b) : Int) < 97))
 (some (false))
 (zh a (0) fun c =>
 cond (decide (122 < (↑(UInt8.toNat c) : Int)))
 (some (false))
 ((zs1 a ((ByteArray.mk #[97, 98, 99, 100, 101, 102, 103, 104, 105, 106, 107, 108, 109, 110, 111, 112, 113, 114, 115, 116, 117, 118, 119, 120, 121, 122, 48, 49, 50, 51, 52, 53, 54, 55, 56, 57, 45]).data.toList)).bind fun d =>
 some (decide (d = (ByteArray.mk #[]).data.toList))))))
def zsv (d : List (List UInt8)) (e : List UInt8) : Option (Int) :=
 Option.bind (
 lpO (fun (a : Int) =>
 cond (decide (a < (↑(List.length (List.map SV.str d)) : Int)))
 (zh d a fun b =>
 cond (decide (e = b))
 (some (.inr (.inr a)))
 (zg (IntKind.wrap .i64 (a + 1)) fun c =>
 some (.inl c)))
 (some (.inr (.inl ())))) (0))
 (Sum.elim (fun (_ : Unit) =>
 some ((-1 : Int))) some)
def ztd (b : List (List UInt8)) (c : List UInt8) : Option (Bool) :=
 (zsv b c).bind fun a =>
 some (decide (0 <= a))
def zja (b : List (List UInt8)) : Option (Int × Int) :=
 cond (decide ((↑(List.length (List.map SV.str b)) : Int) < 1))
 (some (((-1 : Int), 3)))
 (cond (decide (8 < (↑(List.length (List.map SV.str b)) : Int)))
 (some (((-1 : Int), 3)))
 (Option.bind (
 lpO (fun (a : Int) =>
 cond (decide (a < (↑(List.length (List.map SV.str b)) : Int)))
 (zh b a fun c =>
 (ztt c).bind fun d =>
 cond (!d)
 (some (.inr (.inr ((a, 6)))))
 (zk (0 <= a /\ a <= (↑(List.length (List.map SV.str b)) : Int)) (
 (ztd (List.drop (Int.toNat 0) (List.take (Int.toNat a) b)) c).bind fun e =>
 cond e
 (some (.inr (.inr ((a, 8)))))
 (zg (IntKind.wrap .i64 (a + 1)) fun f =>
 some (.inl f)))))
 (some (.inr (.inl ())))) (0))
 (Sum.elim (fun (_ : Unit) =>
 some ((0, 0))) some)))
def ziz (c : Int) : Option (Int) :=
 zh ((ByteArray.mk (List.toArray (List.append (List.append [(0 : UInt8), 1, 2, 2, 3, 3, 3, 3, 4, 4, 4, 4, 4, 4, 4, 4, 5, 5, 5, 5, 5, 5, 5, 5, 5, 5, 5, 5, 5, 5, 5, 5, 6, 6, 6, 6, 6, 6, 6, 6, 6, 6, 6, 6, 6, 6, 6, 6, 6, 6, 6, 6, 6, 6, 6, 6, 6, 6, 6, 6, 6, 6, 6, 6] [(7 : UInt8), 7, 7, 7, 7, 7, 7, 7, 7, 7, 7, 7, 7, 7, 7, 7, 7, 7, 7, 7, 7, 7, 7, 7, 7, 7, 7, 7, 7, 7, 7, 7, 7, 7, 7, 7, 7, 7, 7, 7, 7, 7, 7, 7, 7, 7, 7, 7, 7, 7, 7, 7, 7, 7, 7, 7, 7, 7, 7, 7, 7, 7, 7, 7]) (List.append [(8 : UInt8), 8, 8, 8, 8, 8, 8, 8, 8, 8, 8, 8, 8, 8, 8, 8, 8, 8, 8, 8, 8, 8, 8, 8, 8, 8, 8, 8, 8, 8, 8, 8, 8, 8, 8, 8, 8, 8, 8, 8, 8, 8, 8, 8, 8, 8, 8, 8, 8, 8, 8, 8, 8, 8, 8, 8, 8, 8, 8, 8, 8, 8, 8, 8] [(8 : UInt8), 8, 8, 8, 8, 8, 8, 8, 8, 8, 8, 8, 8, 8, 8, 8, 8, 8, 8, 8, 8, 8, 8, 8, 8, 8, 8, 8, 8, 8, 8, 8, 8, 8, 8, 8, 8, 8, 8, 8, 8, 8, 8, 8, 8, 8, 8, 8, 8, 8, 8, 8, 8, 8, 8, 8, 8, 8, 8, 8, 8, 8, 8, 8])))).data.toList) c fun a =>
 zg (IntKind.wrap .i64 (↑(UInt8.toNat a) : Int)) fun b =>
 some b
def zf1 (e : TL) : Option (Tlattice_order) :=
 Option.bind (
 lpO (fun (b : Int × List Int × List Int) =>
 cond (decide (b.fst < (↑(List.length (List.map (SV.int .u8) e.Up)) : Int)))
 (zh (e.Up) (b.fst) fun c =>
 zk (0 <= b.fst /\ b.fst < (↑(8 : Nat) : Int)) (
 zh (b.snd.fst) ((↑(Int.toNat b.fst) : Int)) fun _ =>
 Option.bind (
 lpO (fun (a : Int × List Int) =>
 cond (decide (a.fst < (↑(List.length (List.map SV.str e.Names)) : Int)))
 (zk (0 <= a.fst /\ a.fst < (↑(8 : Nat) : Int)) (
 zh (a.snd) ((↑(Int.toNat a.fst) : Int)) fun f =>
 zk (0 <= a.fst) (
 zk (0 <= b.fst) (
 zg (IntKind.wrap .u8 (bits BinOp.and IntKind.u8 (Int.fdiv c (2 ^ min (Int.toNat a.fst) (IntKind.bits IntKind.u8))) 1 * 2 ^ min (Int.toNat b.fst) (IntKind.bits IntKind.u8))) fun g =>
 zk (0 <= a.fst /\ a.fst < (↑(8 : Nat) : Int)) (
 zh (a.snd) ((↑(Int.toNat a.fst) : Int)) fun _ =>
 zg (IntKind.wrap .i64 (a.fst + 1)) fun i =>
 some (.inl ((i, List.set a.snd (Int.toNat a.fst) (bits BinOp.or IntKind.u8 f g)))))))))
 (some (.inr (.inl (a.snd))))) ((0, b.snd.snd)))
 (Sum.elim (fun (j : List Int) =>
 zg (IntKind.wrap .i64 (b.fst + 1)) fun k =>
 some (.inl ((k, List.set b.snd.fst (Int.toNat b.fst) c, j)))) some)))
 (some (.inr (.inl (b.snd))))) ((0, [0, 0, 0, 0, 0, 0, 0, 0], [0, 0, 0, 0, 0, 0, 0, 0])))
 (Sum.elim (fun (d : List Int × List Int) =>
 some (Tlattice_order.mk (↑(List.length (List.map SV.str e.Names)) : Int) d.fst d.snd)) some)
def zis (d : List Int) (k : Int) (e : Int) (f : Int) : Option (Int) :=
 zk (0 <= e /\ e < (↑(8 : Nat) : Int)) (
 zh d ((↑(Int.toNat e) : Int)) fun b =>
 zk (0 <= f /\ f < (↑(8 : Nat) : Int)) (
 zh d ((↑(Int.toNat f) : Int)) fun c =>
 Option.bind (
 lpO (fun (a : Int) =>
 cond (decide (a < k))
 (zk (0 <= a) (
 cond (decide (bits BinOp.and IntKind.u8 (Int.fdiv (bits BinOp.and IntKind.u8 b c) (2 ^ min (Int.toNat a) (IntKind.bits IntKind.u8))) 1 = 1))
 (zk (0 <= a /\ a < (↑(8 : Nat) : Int)) (
 zh d ((↑(Int.toNat a) : Int)) fun g =>
 cond (decide (g = bits BinOp.and IntKind.u8 b c))
 (some (.inr (.inr a)))
 (zg (IntKind.wrap .i64 (a + 1)) fun i =>
 some (.inl i))))
 (zg (IntKind.wrap .i64 (a + 1)) fun j =>
 some (.inl j))))
 (some (.inr (.inl ())))) (0))
 (Sum.elim (fun (_ : Unit) =>
 some ((-1 : Int))) some)))
def zs6 (d : List Int) (k : Int) (e : Int) (f : Int) : Option (Int) :=
 zk (0 <= e /\ e < (↑(8 : Nat) : Int)) (
 zh d ((↑(Int.toNat e) : Int)) fun b =>
 zk (0 <= f /\ f < (↑(8 : Nat) : Int)) (
 zh d ((↑(Int.toNat f) : Int)) fun c =>
 Option.bind (
 lpO (fun (a : Int) =>
 cond (decide (a < k))
 (zk (0 <= a) (
 cond (decide (bits BinOp.and IntKind.u8 (Int.fdiv (bits BinOp.and IntKind.u8 b c) (2 ^ min (Int.toNat a) (IntKind.bits IntKind.u8))) 1 = 1))
 (zk (0 <= a /\ a < (↑(8 : Nat) : Int)) (
 zh d ((↑(Int.toNat a) : Int)) fun g =>
 cond (decide (g = bits BinOp.and IntKind.u8 b c))
 (some (.inr (.inr a)))
 (zg (IntKind.wrap .i64 (a + 1)) fun i =>
 some (.inl i))))
 (zg (IntKind.wrap .i64 (a + 1)) fun j =>
 some (.inl j))))
 (some (.inr (.inl ())))) (0))
 (Sum.elim (fun (_ : Unit) =>
 some ((-1 : Int))) some)))
def zag (c : TL) : Option (Int × Int) :=
 (zja (c.Names)).bind fun i =>
 cond (!decide (i.snd = 0))
 (some i)
 (cond (!decide ((↑(List.length (List.map (SV.int .u8) c.Up)) : Int) = (↑(List.length (List.map SV.str c.Names)) : Int)))
 (some (((-1 : Int), 6)))
 (zk ((0 : Int) <= (↑(List.length (List.map SV.str c.Names)) : Int)) (
 zg (IntKind.wrap .u8 (1 * 2 ^ min (Int.toNat (↑(List.length (List.map SV.str c.Names)) : Int)) (IntKind.bits IntKind.u8))) fun l =>
 zg (IntKind.wrap .u8 (l - 1)) fun j =>
 Option.bind (
 lpO (fun (a : Int) =>
 cond (decide (a < (↑(List.length (List.map (SV.int .u8) c.Up)) : Int)))
 (zh (c.Up) a fun e =>
 (ziz e).bind fun m =>
 cond (decide ((↑(List.length (List.map SV.str c.Names)) : Int) < m))
 (some (.inr (.inr ((a, 6)))))
 (zk (0 <= a) (
 cond (decide (bits BinOp.and IntKind.u8 (Int.fdiv e (2 ^ min (Int.toNat a) (IntKind.bits IntKind.u8))) 1 = 0))
 (some (.inr (.inr ((a, 6)))))
 (Option.bind (
 lpO (fun (b : Int) =>
 cond (decide (b < (↑(List.length (List.map (SV.int .u8) c.Up)) : Int)))
 (zh (c.Up) b fun g =>
 zk (0 <= b) (
 cond (decide (bits BinOp.and IntKind.u8 (Int.fdiv e (2 ^ min (Int.toNat b) (IntKind.bits IntKind.u8))) 1 = 0))
 (zg (IntKind.wrap .i64 ((↑(List.length (List.map SV.str c.Names)) : Int) - 1)) fun n =>
 cond (decide (b = n))
 (zg (IntKind.wrap .i64 (a + 1)) fun o =>
 some (.inr (.inr (.inl o))))
 (zg (IntKind.wrap .i64 (b + 1)) fun p =>
 some (.inl p)))
 (cond (!decide (b = a))
 (zk (0 <= a) (
 cond (decide (bits BinOp.and IntKind.u8 (Int.fdiv g (2 ^ min (Int.toNat a) (IntKind.bits IntKind.u8))) 1 = 1))
 (some (.inr (.inr (.inr (.inr ((a, 6)))))))
 (cond (!decide (bits BinOp.andNot IntKind.u8 (bits BinOp.and IntKind.u8 g j) e = 0))
 (some (.inr (.inr (.inr (.inr ((a, 6)))))))
 (zg (IntKind.wrap .i64 ((↑(List.length (List.map SV.str c.Names)) : Int) - 1)) fun q =>
 cond (decide (b = q))
 (zg (IntKind.wrap .i64 (a + 1)) fun s =>
 some (.inr (.inr (.inl s))))
 (zg (IntKind.wrap .i64 (b + 1)) fun t =>
 some (.inl t))))))
 (cond (!decide (bits BinOp.andNot IntKind.u8 (bits BinOp.and IntKind.u8 g j) e = 0))
 (some (.inr (.inr (.inr (.inr ((a, 6)))))))
 (zg (IntKind.wrap .i64 ((↑(List.length (List.map SV.str c.Names)) : Int) - 1)) fun u =>
 cond (decide (b = u))
 (zg (IntKind.wrap .i64 (a + 1)) fun v =>
 some (.inr (.inr (.inl v))))
 (zg (IntKind.wrap .i64 (b + 1)) fun w =>
 some (.inl w)))))))
 (some (.inr (.inl ())))) (0))
 (Sum.elim (fun (_ : Unit) =>
 zg (IntKind.wrap .i64 (a + 1)) fun x =>
 some (.inl x)) some)))))
 (some (.inr (.inl ())))) (0))
 (Sum.elim (fun (_ : Unit) =>
 (zf1 c).bind fun k =>
 Option.bind (
 lpO (fun (d : Int) =>
 cond (decide (d < (↑(List.length (List.map SV.str c.Names)) : Int)))
 (Option.bind (
 lpO (fun (f : Int) =>
 cond (decide (f < (↑(List.length (List.map SV.str c.Names)) : Int)))
 ((zis (k.up_) ((↑(List.length (List.map SV.str c.Names)) : Int)) d f).bind fun y =>
 cond (decide (y < 0))
 (some (.inr (.inr (.inr (.inr ((d, 4)))))))
 ((zs6 (k.down_) ((↑(List.length (List.map SV.str c.Names)) : Int)) d f).bind fun z =>
 cond (decide (z < 0))
 (some (.inr (.inr (.inr (.inr ((d, 4)))))))
 (zg (IntKind.wrap .i64 (f + 1)) fun A =>
 some (.inl A))))
 (some (.inr (.inl ())))) (0))
 (Sum.elim (fun (_ : Unit) =>
 zg (IntKind.wrap .i64 (d + 1)) fun C =>
 some (.inl C)) some))
 (some (.inr (.inl ())))) (0))
 (Sum.elim (fun (_ : Unit) =>
 some ((0, 0))) some)) some))))
def zwp (b : TP) : Option (Int × Int) :=
 (zag (b.Lattice)).bind fun a =>
 some a
def zot (a : List UInt8) : Option (Int × Int) :=
 Option.bind (
 cond (decide ([(110 : UInt8), (101 : UInt8), (103 : UInt8)] = a))
 (some (.inr ((1, 0))))
 (cond (decide ([(97 : UInt8), (98 : UInt8), (115 : UInt8)] = a))
 (some (.inr ((2, 0))))
 (cond (decide ([(110 : UInt8), (111 : UInt8), (116 : UInt8)] = a))
 (some (.inr ((3, 0))))
 (cond (decide ([(115 : UInt8), (104 : UInt8), (97 : UInt8), (112 : UInt8), (101 : UInt8)] = a))
 (some (.inr ((4, 0))))
 (cond (decide ([(114 : UInt8), (97 : UInt8), (118 : UInt8), (101 : UInt8), (108 : UInt8)] = a))
 (some (.inr ((5, 0))))
 (cond (decide ([(114 : UInt8), (101 : UInt8), (118 : UInt8), (101 : UInt8), (114 : UInt8), (115 : UInt8), (101 : UInt8)] = a))
 (some (.inr ((6, 0))))
 (cond (decide ([(102 : UInt8), (108 : UInt8), (105 : UInt8), (112 : UInt8)] = a))
 (some (.inr ((7, 0))))
 (cond (decide ([(105 : UInt8), (111 : UInt8), (116 : UInt8), (97 : UInt8)] = a))
 (some (.inr ((8, 0))))
 (cond (decide ([(115 : UInt8), (117 : UInt8), (109 : UInt8)] = a))
 (some (.inr ((9, 0))))
 (cond (decide ([(108 : UInt8), (101 : UInt8), (97 : UInt8), (115 : UInt8), (116 : UInt8)] = a))
 (some (.inr ((10, 0))))
 (cond (decide ([(109 : UInt8), (111 : UInt8), (115 : UInt8), (116 : UInt8)] = a))
 (some (.inr ((11, 0))))
 (cond (decide ([(99 : UInt8), (111 : UInt8), (117 : UInt8), (110 : UInt8), (116 : UInt8)] = a))
 (some (.inr ((12, 0))))
 (cond (decide ([(115 : UInt8), (99 : UInt8), (97 : UInt8), (110 : UInt8)] = a))
 (some (.inr ((13, 0))))
 (cond (decide ([(103 : UInt8), (114 : UInt8), (97 : UInt8), (100 : UInt8), (101 : UInt8)] = a))
 (some (.inr ((14, 0))))
 (cond (decide ([(97 : UInt8), (100 : UInt8), (100 : UInt8)] = a))
 (some (.inr ((15, 0))))
 (cond (decide ([(115 : UInt8), (117 : UInt8), (98 : UInt8)] = a))
 (some (.inr ((16, 0))))
 (cond (decide ([(109 : UInt8), (117 : UInt8), (108 : UInt8)] = a))
 (some (.inr ((17, 0))))
 (cond (decide ([(100 : UInt8), (105 : UInt8), (118 : UInt8)] = a))
 (some (.inr ((18, 0))))
 (cond (decide ([(109 : UInt8), (111 : UInt8), (100 : UInt8)] = a))
 (some (.inr ((19, 0))))
 (cond (decide ([(112 : UInt8), (108 : UInt8), (117 : UInt8), (115 : UInt8)] = a))
 (some (.inr ((20, 0))))
 (cond (decide ([(109 : UInt8), (105 : UInt8), (110 : UInt8), (117 : UInt8), (115 : UInt8)] = a))
 (some (.inr ((21, 0))))
 (cond (decide ([(116 : UInt8), (105 : UInt8), (109 : UInt8), (101 : UInt8), (115 : UInt8)] = a))
 (some (.inr ((22, 0))))
 (cond (decide ([(101 : UInt8), (113 : UInt8)] = a))
 (some (.inr ((23, 0))))
 (cond (decide ([(110 : UInt8), (101 : UInt8)] = a))
 (some (.inr ((24, 0))))
 (cond (decide ([(108 : UInt8), (116 : UInt8)] = a))
 (some (.inr ((25, 0))))
 (cond (decide ([(108 : UInt8), (101 : UInt8)] = a))
 (some (.inr ((26, 0))))
 (cond (decide ([(103 : UInt8), (116 : UInt8)] = a))
 (some (.inr ((27, 0))))
 (cond (decide ([(103 : UInt8), (101 : UInt8)] = a))
 (some (.inr ((28, 0))))
 (cond (decide ([(97 : UInt8), (110 : UInt8), (100 : UInt8)] = a))
 (some (.inr ((29, 0))))
 (cond (decide ([(111 : UInt8), (114 : UInt8)] = a))
 (some (.inr ((30, 0))))
 (cond (decide ([(109 : UInt8), (105 : UInt8), (110 : UInt8)] = a))
 (some (.inr ((31, 0))))
 (cond (decide ([(109 : UInt8), (97 : UInt8), (120 : UInt8)] = a))
 (some (.inr ((32, 0))))
 (cond (decide ([(116 : UInt8), (97 : UInt8), (107 : UInt8), (101 : UInt8)] = a))
 (some (.inr ((33, 0))))
 (cond (decide ([(100 : UInt8), (114 : UInt8), (111 : UInt8), (112 : UInt8)] = a))
 (some (.inr ((34, 0))))
 (cond (decide ([(102 : UInt8), (105 : UInt8), (108 : UInt8), (108 : UInt8)] = a))
 (some (.inr ((35, 0))))
 (cond (decide ([(103 : UInt8), (114 : UInt8), (105 : UInt8), (100 : UInt8)] = a))
 (some (.inr ((36, 0))))
 (cond (decide ([(99 : UInt8), (97 : UInt8), (116 : UInt8)] = a))
 (some (.inr ((37, 0))))
 (cond (decide ([(97 : UInt8), (116 : UInt8)] = a))
 (some (.inr ((38, 0))))
 (cond (decide ([(105 : UInt8), (110 : UInt8)] = a))
 (some (.inr ((39, 0))))
 (cond (decide ([(112 : UInt8), (105 : UInt8), (99 : UInt8), (107 : UInt8)] = a))
 (some (.inr ((40, 0))))
 (some (.inl ()))))))))))))))))))))))))))))))))))))))))))
 (Sum.elim (fun (_ : Unit) =>
 some ((0, 4))) some)
def zua (a : Int) : Option (Bool) :=
 zg (IntKind.wrap .i32 a) fun b =>
 zg (IntKind.wrap .i64 b) fun c =>
 cond (decide (a = c))
 (zg (IntKind.wrap .i32 a) fun d =>
 (zaj d).bind fun e =>
 some e)
 (some (false))
def zgp : Option (List (List UInt8)) :=
 some ([[], (ByteArray.mk #[32]).data.toList, (ByteArray.mk #[10]).data.toList, (ByteArray.mk #[40, 91]).data.toList, (ByteArray.mk #[41, 93]).data.toList, (ByteArray.mk #[34]).data.toList, [], (ByteArray.mk #[45]).data.toList, [], (ByteArray.mk #[60, 61]).data.toList])
def zc6 (a : Int) : Option (Int × Int) :=
 (zua a).bind fun f =>
 cond (!f)
 (some ((0, 7)))
 (cond (decide (48 <= a))
 (cond (decide (a <= 57))
 (some ((6, 0)))
 (cond (decide (97 <= a))
 (cond (decide (a <= 122))
 (some ((8, 0)))
 ((zgp).bind fun g =>
 Option.bind (
 lpO (fun (b : Int) =>
 cond (decide (b < 10))
 (zh g b fun i =>
 zg (IntKind.wrap .i32 a) fun j =>
 (xE i j).bind fun k =>
 cond k
 (some (.inr (.inr ((b, 0)))))
 (zg (IntKind.wrap .i64 (b + 1)) fun l =>
 some (.inl l)))
 (some (.inr (.inl ())))) (0))
 (Sum.elim (fun (_ : Unit) =>
 some ((10, 0))) some)))
 ((zgp).bind fun m =>
 Option.bind (
 lpO (fun (c : Int) =>
 cond (decide (c < 10))
 (zh m c fun n =>
 zg (IntKind.wrap .i32 a) fun o =>
 (xE n o).bind fun p =>
 cond p
 (some (.inr (.inr ((c, 0)))))
 (zg (IntKind.wrap .i64 (c + 1)) fun q =>
 some (.inl q)))
 (some (.inr (.inl ())))) (0))
 (Sum.elim (fun (_ : Unit) =>
 some ((10, 0))) some))))
 (cond (decide (97 <= a))
 (cond (decide (a <= 122))
 (some ((8, 0)))
 ((zgp).bind fun s =>
 Option.bind (
 lpO (fun (d : Int) =>
 cond (decide (d < 10))
 (zh s d fun t =>
 zg (IntKind.wrap .i32 a) fun u =>
 (xE t u).bind fun v =>
 cond v
 (some (.inr (.inr ((d, 0)))))
 (zg (IntKind.wrap .i64 (d + 1)) fun w =>
 some (.inl w)))
 (some (.inr (.inl ())))) (0))
 (Sum.elim (fun (_ : Unit) =>
 some ((10, 0))) some)))
 ((zgp).bind fun x =>
 Option.bind (
 lpO (fun (e : Int) =>
 cond (decide (e < 10))
 (zh x e fun y =>
 zg (IntKind.wrap .i32 a) fun z =>
 (xE y z).bind fun A =>
 cond A
 (some (.inr (.inr ((e, 0)))))
 (zg (IntKind.wrap .i64 (e + 1)) fun C =>
 some (.inl C)))
 (some (.inr (.inl ())))) (0))
 (Sum.elim (fun (_ : Unit) =>
 some ((10, 0))) some))))
def zdu (a : List UInt8) : Option (Int) :=
 zh a (0) fun b =>
 zg (IntKind.wrap .u64 (↑(UInt8.toNat b) : Int)) fun c =>
 zh a (1) fun d =>
 zg (IntKind.wrap .u64 (↑(UInt8.toNat d) : Int)) fun e =>
 zg (IntKind.wrap .u64 (e * 2 ^ min (Int.toNat 8) (IntKind.bits IntKind.u64))) fun f =>
 zh a (2) fun g =>
 zg (IntKind.wrap .u64 (↑(UInt8.toNat g) : Int)) fun i =>
 zg (IntKind.wrap .u64 (i * 2 ^ min (Int.toNat 16) (IntKind.bits IntKind.u64))) fun j =>
 zh a (3) fun k =>
 zg (IntKind.wrap .u64 (↑(UInt8.toNat k) : Int)) fun l =>
 zg (IntKind.wrap .u64 (l * 2 ^ min (Int.toNat 24) (IntKind.bits IntKind.u64))) fun m =>
 zh a (4) fun n =>
 zg (IntKind.wrap .u64 (↑(UInt8.toNat n) : Int)) fun o =>
 zg (IntKind.wrap .u64 (o * 2 ^ min (Int.toNat 32) (IntKind.bits IntKind.u64))) fun p =>
 zh a (5) fun q =>
 zg (IntKind.wrap .u64 (↑(UInt8.toNat q) : Int)) fun s =>
 zg (IntKind.wrap .u64 (s * 2 ^ min (Int.toNat 40) (IntKind.bits IntKind.u64))) fun t =>
 zh a (6) fun u =>
 zg (IntKind.wrap .u64 (↑(UInt8.toNat u) : Int)) fun v =>
 zg (IntKind.wrap .u64 (v * 2 ^ min (Int.toNat 48) (IntKind.bits IntKind.u64))) fun w =>
 zh a (7) fun x =>
 zg (IntKind.wrap .u64 (↑(UInt8.toNat x) : Int)) fun y =>
 zg (IntKind.wrap .u64 (y * 2 ^ min (Int.toNat 56) (IntKind.bits IntKind.u64))) fun z =>
 some (bits BinOp.or IntKind.u64 (bits BinOp.or IntKind.u64 (bits BinOp.or IntKind.u64 (bits BinOp.or IntKind.u64 (bits BinOp.or IntKind.u64 (bits BinOp.or IntKind.u64 (bits BinOp.or IntKind.u64 c f) j) m) p) t) w) z)
def zBg (m : List UInt8) : Option (Bool) :=
 Option.bind (
 lpO (fun (a : List UInt8) =>
 cond (decide (0 < (↑(List.length a) : Int)))
 (zh a (0) fun c =>
 cond (decide ((↑(UInt8.toNat c) : Int) < 128))
 (zk ((0 : Int) <= (1 : Int) /\ (1 : Int) <= (↑(List.length a) : Int)) (
 cond (decide (8 < (↑(List.length (List.drop (Int.toNat 1) (List.take (Int.toNat (↑(List.length a) : Int)) a))) : Int)))
 ((zdu (List.drop (Int.toNat 1) (List.take (Int.toNat (↑(List.length a) : Int)) a))).bind fun d =>
 cond (decide (bits BinOp.and IntKind.u64 d 9259542123273814144 = 0))
 (zk ((0 : Int) <= (8 : Int) /\ (8 : Int) <= (↑(List.length (List.drop (Int.toNat (1 : Int)) (List.take (Int.toNat (↑(List.length a) : Int)) a))) : Int)) (
 cond (decide (16 < (↑(List.length (List.drop (Int.toNat 8) (List.take (Int.toNat (↑(List.length (List.drop (Int.toNat 1) (List.take (Int.toNat (↑(List.length a) : Int)) a))) : Int)) (List.drop (Int.toNat 1) (List.take (Int.toNat (↑(List.length a) : Int)) a))))) : Int)))
 ((zdu (List.drop (Int.toNat 8) (List.take (Int.toNat (↑(List.length (List.drop (Int.toNat 1) (List.take (Int.toNat (↑(List.length a) : Int)) a))) : Int)) (List.drop (Int.toNat 1) (List.take (Int.toNat (↑(List.length a) : Int)) a))))).bind fun e =>
 zk ((0 : Int) <= (8 : Int) /\ (8 : Int) <= (↑(List.length (List.drop (Int.toNat (8 : Int)) (List.take (Int.toNat (↑(List.length (List.drop (Int.toNat (1 : Int)) (List.take (Int.toNat (↑(List.length a) : Int)) a))) : Int)) (List.drop (Int.toNat (1 : Int)) (List.take (Int.toNat (↑(List.length a) : Int)) a))))) : Int)) (
 (zdu (List.drop (Int.toNat 8) (List.take (Int.toNat (↑(List.length (List.drop (Int.toNat 8) (List.take (Int.toNat (↑(List.length (List.drop (Int.toNat 1) (List.take (Int.toNat (↑(List.length a) : Int)) a))) : Int)) (List.drop (Int.toNat 1) (List.take (Int.toNat (↑(List.length a) : Int)) a))))) : Int)) (List.drop (Int.toNat 8) (List.take (Int.toNat (↑(List.length (List.drop (Int.toNat 1) (List.take (Int.toNat (↑(List.length a) : Int)) a))) : Int)) (List.drop (Int.toNat 1) (List.take (Int.toNat (↑(List.length a) : Int)) a))))))).bind fun f =>
 cond (decide (bits BinOp.and IntKind.u64 (bits BinOp.or IntKind.u64 e f) 9259542123273814144 = 0))
 (zk ((0 : Int) <= (16 : Int) /\ (16 : Int) <= (↑(List.length (List.drop (Int.toNat (8 : Int)) (List.take (Int.toNat (↑(List.length (List.drop (Int.toNat (1 : Int)) (List.take (Int.toNat (↑(List.length a) : Int)) a))) : Int)) (List.drop (Int.toNat (1 : Int)) (List.take (Int.toNat (↑(List.length a) : Int)) a))))) : Int)) (
 Option.bind (
 lpO (fun (b : List UInt8) =>
 cond (decide (32 < (↑(List.length b) : Int)))
 ((zdu b).bind fun g =>
 zk ((0 : Int) <= (8 : Int) /\ (8 : Int) <= (↑(List.length b) : Int)) (
 (zdu (List.drop (Int.toNat 8) (List.take (Int.toNat (↑(List.length b) : Int)) b))).bind fun i =>
 zk ((0 : Int) <= (16 : Int) /\ (16 : Int) <= (↑(List.length b) : Int)) (
 (zdu (List.drop (Int.toNat 16) (List.take (Int.toNat (↑(List.length b) : Int)) b))).bind fun j =>
 zk ((0 : Int) <= (24 : Int) /\ (24 : Int) <= (↑(List.length b) : Int)) (
 (zdu (List.drop (Int.toNat 24) (List.take (Int.toNat (↑(List.length b) : Int)) b))).bind fun k =>
 cond (decide (bits BinOp.and IntKind.u64 (bits BinOp.or IntKind.u64 (bits BinOp.or IntKind.u64 g i) (bits BinOp.or IntKind.u64 j k)) 9259542123273814144 = 0))
 (zk ((0 : Int) <= (32 : Int) /\ (32 : Int) <= (↑(List.length b) : Int)) (
 some (.inl (List.drop (Int.toNat 32) (List.take (Int.toNat (↑(List.length b) : Int)) b)))))
 (some (.inr (.inl b)))))))
 (some (.inr (.inl b)))) (List.drop (Int.toNat 16) (List.take (Int.toNat (↑(List.length (List.drop (Int.toNat 8) (List.take (Int.toNat (↑(List.length (List.drop (Int.toNat 1) (List.take (Int.toNat (↑(List.length a) : Int)) a))) : Int)) (List.drop (Int.toNat 1) (List.take (Int.toNat (↑(List.length a) : Int)) a))))) : Int)) (List.drop (Int.toNat 8) (List.take (Int.toNat (↑(List.length (List.drop (Int.toNat 1) (List.take (Int.toNat (↑(List.length a) : Int)) a))) : Int)) (List.drop (Int.toNat 1) (List.take (Int.toNat (↑(List.length a) : Int)) a)))))))
 (Sum.elim (fun (l : List UInt8) =>
 some (.inl l)) some)))
 (some (.inl (List.drop (Int.toNat 8) (List.take (Int.toNat (↑(List.length (List.drop (Int.toNat 1) (List.take (Int.toNat (↑(List.length a) : Int)) a))) : Int)) (List.drop (Int.toNat 1) (List.take (Int.toNat (↑(List.length a) : Int)) a))))))))
 (some (.inl (List.drop (Int.toNat 8) (List.take (Int.toNat (↑(List.length (List.drop (Int.toNat 1) (List.take (Int.toNat (↑(List.length a) : Int)) a))) : Int)) (List.drop (Int.toNat 1) (List.take (Int.toNat (↑(List.length a) : Int)) a))))))))
 (some (.inl (List.drop (Int.toNat 1) (List.take (Int.toNat (↑(List.length a) : Int)) a)))))
 (some (.inl (List.drop (Int.toNat 1) (List.take (Int.toNat (↑(List.length a) : Int)) a))))))
 (none))
 (some (.inr (.inl ())))) m)
 (Sum.elim (fun (_ : Unit) =>
 some (true)) some)
def zrn (a : TK) : Option (Int) :=
 Option.bind (
 cond (decide (a.Kind = 1))
 (some (.inl ((0, a.S))))
 (cond (decide (a.Kind = 3))
 (some (.inl ((0, a.S))))
 (cond (decide (a.Kind = 2))
 (some (.inl ((a.N, []))))
 (some (.inl ((0, [])))))))
 (Sum.elim (fun (f : Int × List UInt8) =>
 cond (decide (a.Kind < 1))
 (some (2))
 (cond (decide (9 < a.Kind))
 (some (2))
 (cond (!(decide (a.Kind = a.Kind) && (decide (a.From = a.From) && (decide (a.To = a.To) && (decide (a.N = f.fst) && (decide (a.S = f.snd) && true))))))
 (some (2))
 (Option.bind (
 cond (decide (a.Kind = 1))
 (cond (decide ((↑(List.length a.S) : Int) <= 0))
 (some (.inr (6)))
 (zh (a.S) (0) fun g =>
 zg (IntKind.wrap .i64 (↑(UInt8.toNat g) : Int)) fun i =>
 (zc6 i).bind fun j =>
 cond (!decide (j.fst = 8))
 (some (.inr (6)))
 (zh (a.S) (0) fun k =>
 zg (IntKind.wrap .i64 (↑(UInt8.toNat k) : Int)) fun l =>
 (zc6 l).bind fun m =>
 Option.bind (
 lpO (fun (b : Int × Int) =>
 cond (decide (b.fst = 8))
 (zg (IntKind.wrap .i64 (b.snd + 1)) fun c =>
 cond (decide ((↑(List.length a.S) : Int) <= c))
 (some (.inl ((10, c))))
 (zh (a.S) c fun n =>
 zg (IntKind.wrap .i64 (↑(UInt8.toNat n) : Int)) fun o =>
 (zc6 o).bind fun p =>
 some (.inl ((p.fst, c)))))
 (cond (decide (b.fst = 6))
 (zg (IntKind.wrap .i64 (b.snd + 1)) fun d =>
 cond (decide ((↑(List.length a.S) : Int) <= d))
 (some (.inl ((10, d))))
 (zh (a.S) d fun q =>
 zg (IntKind.wrap .i64 (↑(UInt8.toNat q) : Int)) fun s =>
 (zc6 s).bind fun t =>
 some (.inl ((t.fst, d)))))
 (some (.inr (.inl ((decide (b.fst = 6), b))))))) ((m.fst, 0)))
 (Sum.elim (fun (e : Bool × Int × Int) =>
 zk ((0 : Int) <= (0 : Int) /\ 0 <= e.snd.snd /\ e.snd.snd <= (↑(List.length a.S) : Int)) (
 cond (!decide (List.drop (Int.toNat 0) (List.take (Int.toNat e.snd.snd) a.S) = a.S))
 (some (.inr (6)))
 (some (.inl (16))))) some))))
 (cond (decide (a.Kind = 3))
 ((zBg (a.S)).bind fun u =>
 cond (!u)
 (some (.inr (6)))
 (some (.inl (2000))))
 (some (.inl (0)))))
 (Sum.elim (fun (v : Int) =>
 cond (decide (v < (↑(List.length a.S) : Int)))
 (some (3))
 (some (0))) some))))) some)
def zje (a : List UInt8) : Option (Bool) :=
 cond (decide (a = (ByteArray.mk #[118, 97, 114]).data.toList))
 (some (false))
 (cond (decide (a = (ByteArray.mk #[100, 101, 102]).data.toList))
 (some (false))
 (cond (decide (a = (ByteArray.mk #[111, 117, 116]).data.toList))
 (some (false))
 (cond (decide (a = (ByteArray.mk #[105, 102]).data.toList))
 (some (false))
 (cond (decide (a = (ByteArray.mk #[101, 108, 115, 101]).data.toList))
 (some (false))
 (cond (decide (a = (ByteArray.mk #[119, 104, 105, 108, 101]).data.toList))
 (some (false))
 (cond (decide (a = (ByteArray.mk #[101, 110, 100]).data.toList))
 (some (false))
 (cond (decide (a = (ByteArray.mk #[114, 101, 108, 101, 97, 115, 101]).data.toList))
 (some (false))
 (cond (decide (a = (ByteArray.mk #[105, 110, 116]).data.toList))
 (some (false))
 (cond (decide (a = (ByteArray.mk #[99, 104, 97, 114]).data.toList))
 (some (false))
 ((zot a).bind fun b =>
 cond (decide (b.snd = 0))
 (some (false))
 ((zrn (TK.mk 1 0 0 0 a)).bind fun c =>
 some (decide (c = 0)))))))))))))
def xz (b : TL) (a : Int) : Option (Bool) :=
 cond (decide (0 <= a))
 (some (decide (a < (↑(List.length (List.map SV.str b.Names)) : Int))))
 (some (false))
def ztf (c : TP) : Option (Int × Int) :=
 cond (decide (16 < (↑(List.length (List.map zU c.Channels)) : Int)))
 (some (((-1 : Int), 3)))
 (Option.bind (
 lpO (fun (a : Int × List (List UInt8)) =>
 cond (decide (a.fst < (↑(List.length (List.map zU c.Channels)) : Int)))
 (zh (c.Channels) (a.fst) fun b =>
 (zje (b.s_)).bind fun d =>
 cond (!d)
 (some (.inr (.inr ((a.fst, 24)))))
 (cond (inL (b.s_) (a.snd))
 (some (.inr (.inr ((a.fst, 8)))))
 (cond (inL (b.s_) (a.snd))
 ((xz (c.Lattice) (b.at_)).bind fun e =>
 cond (!e)
 (some (.inr (.inr ((a.fst, 7)))))
 (zg (IntKind.wrap .i64 (a.fst + 1)) fun f =>
 some (.inl ((f, a.snd)))))
 ((xz (c.Lattice) (b.at_)).bind fun g =>
 cond (!g)
 (some (.inr (.inr ((a.fst, 7)))))
 (zg (IntKind.wrap .i64 (a.fst + 1)) fun i =>
 some (.inl ((i, a.snd ++ [b.s_]))))))))
 (some (.inr (.inl ())))) ((0, [])))
 (Sum.elim (fun (_ : Unit) =>
 some ((0, 0))) some))
def zrp (e : TL) (f : List Int) : Option (Int) :=
 (zag e).bind fun b =>
 cond (!decide (b.snd = 0))
 (some (b.snd))
 (Option.bind (
 lpO (fun (a : Int) =>
 cond (decide (a < (↑(List.length (List.map (SV.int .i64) f)) : Int)))
 (zh f a fun c =>
 cond (decide (c < 0))
 (some (.inr (.inr (7))))
 (cond (decide ((↑(List.length (List.map SV.str e.Names)) : Int) <= c))
 (some (.inr (.inr (7))))
 (zg (IntKind.wrap .i64 (a + 1)) fun d =>
 some (.inl d))))
 (some (.inr (.inl ())))) (0))
 (Sum.elim (fun (_ : Unit) =>
 some (0)) some))
def zoq (c : Int) : Option (Int) :=
 zh ((ByteArray.mk (List.toArray (List.append (List.append [(0 : UInt8), 1, 1, 2, 1, 2, 2, 3, 1, 2, 2, 3, 2, 3, 3, 4, 1, 2, 2, 3, 2, 3, 3, 4, 2, 3, 3, 4, 3, 4, 4, 5, 1, 2, 2, 3, 2, 3, 3, 4, 2, 3, 3, 4, 3, 4, 4, 5, 2, 3, 3, 4, 3, 4, 4, 5, 3, 4, 4, 5, 4, 5, 5, 6] [(1 : UInt8), 2, 2, 3, 2, 3, 3, 4, 2, 3, 3, 4, 3, 4, 4, 5, 2, 3, 3, 4, 3, 4, 4, 5, 3, 4, 4, 5, 4, 5, 5, 6, 2, 3, 3, 4, 3, 4, 4, 5, 3, 4, 4, 5, 4, 5, 5, 6, 3, 4, 4, 5, 4, 5, 5, 6, 4, 5, 5, 6, 5, 6, 6, 7]) (List.append [(1 : UInt8), 2, 2, 3, 2, 3, 3, 4, 2, 3, 3, 4, 3, 4, 4, 5, 2, 3, 3, 4, 3, 4, 4, 5, 3, 4, 4, 5, 4, 5, 5, 6, 2, 3, 3, 4, 3, 4, 4, 5, 3, 4, 4, 5, 4, 5, 5, 6, 3, 4, 4, 5, 4, 5, 5, 6, 4, 5, 5, 6, 5, 6, 6, 7] [(2 : UInt8), 3, 3, 4, 3, 4, 4, 5, 3, 4, 4, 5, 4, 5, 5, 6, 3, 4, 4, 5, 4, 5, 5, 6, 4, 5, 5, 6, 5, 6, 6, 7, 3, 4, 4, 5, 4, 5, 5, 6, 4, 5, 5, 6, 5, 6, 6, 7, 4, 5, 5, 6, 5, 6, 6, 7, 5, 6, 6, 7, 6, 7, 7, 8])))).data.toList) c fun a =>
 zg (IntKind.wrap .i64 (↑(UInt8.toNat a) : Int)) fun b =>
 some b
def ztj (i : List Int) (g : Int) : Option (Int) :=
 Option.bind (
 lpO (fun (a : Int) =>
 zg (IntKind.wrap .i64 (g - 1)) fun b =>
 cond (decide (a < b))
 (zk (0 <= a /\ a < (↑(8 : Nat) : Int)) (
 zh i ((↑(Int.toNat a) : Int)) fun c =>
 (zoq c).bind fun d =>
 cond (decide (d < g))
 (zg (IntKind.wrap .i64 (a + 1)) fun e =>
 some (.inl e))
 (some (.inr (.inl a)))))
 (some (.inr (.inl a)))) (0))
 (Sum.elim (fun (f : Int) =>
 some f) some)
def zm9 (d : TL) : Option (Int × Int) :=
 (zrp d ([])).bind fun a =>
 cond (!decide (a = 0))
 (some ((0, a)))
 ((zf1 d).bind fun b =>
 (ztj (b.up_) (b.n_)).bind fun c =>
 some ((c, 0)))
def zr9 (f : TL) (d : List Int) : Option (Int × Int) :=
 (zag f).bind fun b =>
 cond (!decide (b.snd = 0))
 (some (((-1 : Int), b.snd)))
 (cond (decide (64 < (↑(List.length (List.map (SV.int .i64) d)) : Int)))
 (some (((-1 : Int), 3)))
 (Option.bind (
 lpO (fun (a : Int) =>
 cond (decide (a < (↑(List.length (List.map (SV.int .i64) d)) : Int)))
 (zh d a fun c =>
 cond (decide (c < 0))
 (some (.inr (.inr ((a, 7)))))
 (cond (decide ((↑(List.length (List.map SV.str f.Names)) : Int) <= c))
 (some (.inr (.inr ((a, 7)))))
 (zg (IntKind.wrap .i64 (a + 1)) fun e =>
 some (.inl e))))
 (some (.inr (.inl ())))) (0))
 (Sum.elim (fun (_ : Unit) =>
 some ((0, 0))) some)))
def zm6 (c : TL) (d : Int) (b : Int) : Option (Bool) :=
 zh (c.Up) d fun a =>
 zk (0 <= b) (
 some (decide (bits BinOp.and IntKind.u8 (Int.fdiv a (2 ^ min (Int.toNat b) (IntKind.bits IntKind.u8))) 1 = 1)))
def zwu (b : Int) (c : TL) (d : Int) : Option (Bool) :=
 (zm6 c b d).bind fun a =>
 some (!a)
def zs0 (e : List Int) (f : TL × Int) : Option (Int) :=
 Option.bind (
 lpO (fun (a : Int) =>
 cond (decide (a < (↑(List.length (List.map (SV.int .i64) e)) : Int)))
 (zh e a fun b =>
 (zwu b (f.fst) (f.snd)).bind fun c =>
 cond c
 (some (.inr (.inr a)))
 (zg (IntKind.wrap .i64 (a + 1)) fun d =>
 some (.inl d)))
 (some (.inr (.inl ())))) (0))
 (Sum.elim (fun (_ : Unit) =>
 some ((-1 : Int))) some)
def zjl (c : TL) (e : List Int) (d : Int) : Option (Int × Int) :=
 (zr9 c e).bind fun a =>
 cond (!decide (a.snd = 0))
 (some a)
 (cond (decide (d < 0))
 (some (((-1 : Int), 7)))
 (cond (decide ((↑(List.length (List.map SV.str c.Names)) : Int) <= d))
 (some (((-1 : Int), 7)))
 ((zs0 e ((c, d))).bind fun b =>
 cond (decide (0 <= b))
 (some ((b, 25)))
 (some ((0, 0))))))
def zjm (b : TL) (a : TY) : Option (Int) :=
 (zm9 b).bind fun c =>
 cond (!decide (c.snd = 0))
 (some (c.snd))
 (cond (!decide (a.Kind = 1))
 (cond (!decide (a.Kind = 2))
 (some (7))
 (cond (decide (a.Rank < 0))
 (some (7))
 (cond (decide (2 < a.Rank))
 (some (7))
 ((xz b (a.Axes.fst)).bind fun i =>
 cond (!i)
 (some (7))
 ((xz b (a.Axes.snd)).bind fun j =>
 cond (!j)
 (some (7))
 ((xz b (a.Data)).bind fun k =>
 cond (!k)
 (some (7))
 (zk (0 <= a.Rank /\ a.Rank <= (↑(2 : Nat) : Int)) (
 Option.bind (
 lpO (fun (d : Int) =>
 cond (decide (d < (↑(List.length (List.drop (Int.toNat a.Rank) (List.take (Int.toNat (↑(2 : Nat) : Int)) [SV.int .i64 a.Axes.fst, SV.int .i64 a.Axes.snd]))) : Int)))
 (zh (List.drop (Int.toNat a.Rank) (List.take (Int.toNat (↑(2 : Nat) : Int)) [a.Axes.fst, a.Axes.snd])) d fun l =>
 cond (!decide (l = c.fst))
 (some (.inr (.inr (6))))
 (zg (IntKind.wrap .i64 (d + 1)) fun m =>
 some (.inl m)))
 (some (.inr (.inl ())))) (0))
 (Sum.elim (fun (_ : Unit) =>
 zk (0 <= a.Rank /\ a.Rank <= (↑(2 : Nat) : Int)) (
 (zjl b (List.drop (Int.toNat 0) (List.take (Int.toNat a.Rank) [a.Axes.fst, a.Axes.snd])) (a.Data)).bind fun f =>
 cond (!decide (f.snd = 0))
 (some (f.snd))
 (some (0)))) some)))))))))
 (cond (decide (a.Rank < 0))
 (some (7))
 (cond (decide (2 < a.Rank))
 (some (7))
 ((xz b (a.Axes.fst)).bind fun n =>
 cond (!n)
 (some (7))
 ((xz b (a.Axes.snd)).bind fun o =>
 cond (!o)
 (some (7))
 ((xz b (a.Data)).bind fun p =>
 cond (!p)
 (some (7))
 (zk (0 <= a.Rank /\ a.Rank <= (↑(2 : Nat) : Int)) (
 Option.bind (
 lpO (fun (e : Int) =>
 cond (decide (e < (↑(List.length (List.drop (Int.toNat a.Rank) (List.take (Int.toNat (↑(2 : Nat) : Int)) [SV.int .i64 a.Axes.fst, SV.int .i64 a.Axes.snd]))) : Int)))
 (zh (List.drop (Int.toNat a.Rank) (List.take (Int.toNat (↑(2 : Nat) : Int)) [a.Axes.fst, a.Axes.snd])) e fun q =>
 cond (!decide (q = c.fst))
 (some (.inr (.inr (6))))
 (zg (IntKind.wrap .i64 (e + 1)) fun s =>
 some (.inl s)))
 (some (.inr (.inl ())))) (0))
 (Sum.elim (fun (_ : Unit) =>
 zk (0 <= a.Rank /\ a.Rank <= (↑(2 : Nat) : Int)) (
 (zjl b (List.drop (Int.toNat 0) (List.take (Int.toNat a.Rank) [a.Axes.fst, a.Axes.snd])) (a.Data)).bind fun g =>
 cond (!decide (g.snd = 0))
 (some (g.snd))
 (some (0)))) some)))))))))
def zsn (c : TP) : Option (Int × Int) :=
 cond (decide (32 < (↑(List.length (List.map zY c.Vars)) : Int)))
 (some (((-1 : Int), 3)))
 (Option.bind (
 lpO (fun (a : Int × List (List UInt8)) =>
 cond (decide (a.fst < (↑(List.length (List.map zY c.Vars)) : Int)))
 (zh (c.Vars) (a.fst) fun b =>
 (zje (b.Name)).bind fun f =>
 cond (!f)
 (some (.inr (.inr ((a.fst, 24)))))
 (cond (inL (b.Name) (a.snd))
 (some (.inr (.inr ((a.fst, 8)))))
 (cond (inL (b.Name) (a.snd))
 ((zjm (c.Lattice) (b.Type_)).bind fun d =>
 cond (!decide (d = 0))
 (some (.inr (.inr ((a.fst, d)))))
 (zg (IntKind.wrap .i64 (a.fst + 1)) fun g =>
 some (.inl ((g, a.snd)))))
 ((zjm (c.Lattice) (b.Type_)).bind fun e =>
 cond (!decide (e = 0))
 (some (.inr (.inr ((a.fst, e)))))
 (zg (IntKind.wrap .i64 (a.fst + 1)) fun i =>
 some (.inl ((i, a.snd ++ [b.Name]))))))))
 (some (.inr (.inl ())))) ((0, [])))
 (Sum.elim (fun (_ : Unit) =>
 some ((0, 0))) some))
def zsw (c : TP) : Option (Int × Int) :=
 cond (decide (64 < (↑(List.length (List.map wF c.Rules)) : Int)))
 (some (((-1 : Int), 3)))
 (Option.bind (
 lpO (fun (a : Int × List (Int × Int)) =>
 cond (decide (a.fst < (↑(List.length (List.map wF c.Rules)) : Int)))
 (zh (c.Rules) (a.fst) fun b =>
 (xz (c.Lattice) (b.From)).bind fun d =>
 cond (!d)
 (some (.inr (.inr ((a.fst, 7)))))
 ((xz (c.Lattice) (b.Goal)).bind fun e =>
 cond (!e)
 (some (.inr (.inr ((a.fst, 7)))))
 (cond (decide (b.From = b.Goal))
 (some (.inr (.inr ((a.fst, 25)))))
 (zh (c.Lattice.Up) (b.Goal) fun f =>
 zk (0 <= b.From) (
 cond (decide (bits BinOp.and IntKind.u8 (Int.fdiv f (2 ^ min (Int.toNat b.From) (IntKind.bits IntKind.u8))) 1 = 0))
 (some (.inr (.inr ((a.fst, 25)))))
 (cond (inL ((b.From, b.Goal)) (a.snd))
 (some (.inr (.inr ((a.fst, 8)))))
 (cond (decide (b.K < 2))
 (some (.inr (.inr ((a.fst, 3)))))
 (cond (decide (400 < b.K))
 (some (.inr (.inr ((a.fst, 3)))))
 (cond (inL ((b.From, b.Goal)) (a.snd))
 (zg (IntKind.wrap .i64 (a.fst + 1)) fun g =>
 some (.inl ((g, a.snd))))
 (zg (IntKind.wrap .i64 (a.fst + 1)) fun i =>
 some (.inl ((i, a.snd ++ [(b.From, b.Goal)])))))))))))))
 (some (.inr (.inl ())))) ((0, [])))
 (Sum.elim (fun (_ : Unit) =>
 some ((0, 0))) some))
def zmo (f : TP) : Option (Int × Int × Int) :=
 Option.bind (
 (zwp f).bind fun b =>
 cond (!decide (b.snd = 0))
 (some (.inl ((1, b.snd, b.fst))))
 ((ztf f).bind fun c =>
 cond (!decide (c.snd = 0))
 (some (.inl ((2, c.snd, c.fst))))
 ((zsn f).bind fun d =>
 cond (!decide (d.snd = 0))
 (some (.inl ((3, d.snd, d.fst))))
 ((zsw f).bind fun a =>
 cond (!decide (a.snd = 0))
 (some (.inl ((4, a.snd, a.fst))))
 (some (.inl ((0, a.snd, a.fst))))))))
 (Sum.elim (fun (e : Int × Int × Int) =>
 some ((e.fst, e.snd.snd, e.snd.fst))) some)
def zrd (a : Int) : Option (Bool) :=
 some (decide (a < 0))
def zyv (e : List Int) : Option (Int) :=
 Option.bind (
 lpO (fun (a : Int) =>
 cond (decide (a < (↑(List.length (List.map (SV.int .i64) e)) : Int)))
 (zh e a fun b =>
 (zrd b).bind fun c =>
 cond c
 (some (.inr (.inr a)))
 (zg (IntKind.wrap .i64 (a + 1)) fun d =>
 some (.inl d)))
 (some (.inr (.inl ())))) (0))
 (Sum.elim (fun (_ : Unit) =>
 some ((-1 : Int))) some)
def zr5 (b : List Int) : Option (Bool) :=
 (zyv b).bind fun a =>
 some (decide (0 <= a))
def ztb (a : Int) : Option (Bool) :=
 some (!decide (a = 0))
def zxm (e : List Int) : Option (Int) :=
 Option.bind (
 lpO (fun (a : Int) =>
 cond (decide (a < (↑(List.length (List.map (SV.int .i64) e)) : Int)))
 (zh e a fun b =>
 (ztb b).bind fun c =>
 cond c
 (some (.inr (.inr a)))
 (zg (IntKind.wrap .i64 (a + 1)) fun d =>
 some (.inl d)))
 (some (.inr (.inl ())))) (0))
 (Sum.elim (fun (_ : Unit) =>
 some ((-1 : Int))) some)
def zsq (b : List Int) : Option (Bool) :=
 (zxm b).bind fun a =>
 some (decide (0 <= a))
def zr6 (a : Int) : Option (Bool) :=
 some (decide (400 < a))
def zyt (e : List Int) : Option (Int) :=
 Option.bind (
 lpO (fun (a : Int) =>
 cond (decide (a < (↑(List.length (List.map (SV.int .i64) e)) : Int)))
 (zh e a fun b =>
 (zr6 b).bind fun c =>
 cond c
 (some (.inr (.inr a)))
 (zg (IntKind.wrap .i64 (a + 1)) fun d =>
 some (.inl d)))
 (some (.inr (.inl ())))) (0))
 (Sum.elim (fun (_ : Unit) =>
 some ((-1 : Int))) some)
def zrk (b : List Int) : Option (Bool) :=
 (zyt b).bind fun a =>
 some (decide (0 <= a))
def zeh (e : Int) (a : Int × Int) : Option (Int) :=
 cond (decide (e = 2))
 (zg (IntKind.wrap .i64 (1 * a.snd)) fun b =>
 zg (IntKind.wrap .i64 (b * a.fst)) fun c =>
 some c)
 (cond (decide (e = 1))
 (zg (IntKind.wrap .i64 (1 * a.fst)) fun d =>
 some d)
 (some (1)))
def zsa (a : Int) (b : Int × Int) : Option (Int) :=
 cond (decide (a < 0))
 (some (7))
 (cond (decide (2 < a))
 (some (7))
 (zk (0 <= a /\ a <= (↑(2 : Nat) : Int)) (
 zk (0 <= a /\ a <= (↑(2 : Nat) : Int)) (
 (zr5 (List.drop (Int.toNat 0) (List.take (Int.toNat a) [b.fst, b.snd]))).bind fun c =>
 cond c
 (some (7))
 ((zsq (List.drop (Int.toNat a) (List.take (Int.toNat (↑(2 : Nat) : Int)) [b.fst, b.snd]))).bind fun d =>
 cond d
 (some (6))
 ((zrk (List.drop (Int.toNat 0) (List.take (Int.toNat a) [b.fst, b.snd]))).bind fun e =>
 cond e
 (some (15))
 ((zeh a b).bind fun f =>
 cond (decide (400 < f))
 (some (15))
 (some (0)))))))))
def zg0 (c : Int) (d : Int × Int) : Option (Int × Int) :=
 (zsa c d).bind fun a =>
 cond (!decide (a = 0))
 (some ((0, a)))
 ((zeh c d).bind fun b =>
 some ((b, 0)))
def zlk (d : Int) (a : Int) : Option (Bool) :=
 cond (decide (d = 1))
 (some (true))
 (cond (decide (0 <= a))
 (cond (decide (a <= 1114111))
 (zg (IntKind.wrap .i32 a) fun b =>
 (zaj b).bind fun c =>
 some c)
 (some (false)))
 (some (false)))
def zt6 (b : Int) (c : TA) : Option (Bool) :=
 (zlk (c.Kind) b).bind fun a =>
 some (!a)
def zsp (e : List Int) (f : TA) : Option (Int) :=
 Option.bind (
 lpO (fun (a : Int) =>
 cond (decide (a < (↑(List.length (List.map (SV.int .i64) e)) : Int)))
 (zh e a fun b =>
 (zt6 b f).bind fun c =>
 cond c
 (some (.inr (.inr a)))
 (zg (IntKind.wrap .i64 (a + 1)) fun d =>
 some (.inl d)))
 (some (.inr (.inl ())))) (0))
 (Sum.elim (fun (_ : Unit) =>
 some ((-1 : Int))) some)
def zig (b : List Int) (c : TA) : Option (Bool) :=
 (zsp b c).bind fun a =>
 some (decide (0 <= a))
def zeq (a : TA) : Option (Int) :=
 cond (!decide (a.Kind = 1))
 (cond (!decide (a.Kind = 2))
 (some (2))
 ((zg0 (a.Rank) (a.Lens)).bind fun b =>
 cond (!decide (b.snd = 0))
 (some (b.snd))
 (cond (!decide ((↑(List.length (List.map (SV.int .i64) a.Cells)) : Int) = b.fst))
 (some (6))
 ((zig (a.Cells) a).bind fun d =>
 cond d
 (some (7))
 (some (0))))))
 ((zg0 (a.Rank) (a.Lens)).bind fun c =>
 cond (!decide (c.snd = 0))
 (some (c.snd))
 (cond (!decide ((↑(List.length (List.map (SV.int .i64) a.Cells)) : Int) = c.fst))
 (some (6))
 ((zig (a.Cells) a).bind fun e =>
 cond e
 (some (7))
 (some (0)))))
def zlz (f : TP) (g : List TW) : Option (Int × Int) :=
 (zmo f).bind fun c =>
 cond (!decide (c.snd.snd = 0))
 (some (((-1 : Int), c.snd.snd)))
 (cond (!decide ((↑(List.length (List.map zj g)) : Int) = (↑(List.length (List.map zY f.Vars)) : Int)))
 (some (((-1 : Int), 3)))
 (Option.bind (
 lpO (fun (a : Int) =>
 cond (decide (a < (↑(List.length (List.map zj g)) : Int)))
 (zh g a fun b =>
 zh (f.Vars) a fun d =>
 (zeq (b.Value)).bind fun e =>
 zh (f.Vars) a fun i =>
 cond (!decide (b.Name = i.Name))
 (some (.inr (.inr ((a, 24)))))
 (cond (!decide (e = 0))
 (some (.inr (.inr ((a, e)))))
 (cond (!decide (b.Value.Kind = d.Type_.Kind))
 (some (.inr (.inr ((a, 21)))))
 (cond (!decide (b.Value.Rank = d.Type_.Rank))
 (some (.inr (.inr ((a, 22)))))
 (zg (IntKind.wrap .i64 (a + 1)) fun j =>
 some (.inl j))))))
 (some (.inr (.inl ())))) (0))
 (Sum.elim (fun (_ : Unit) =>
 some ((0, 0))) some)))
def zcp (f : TP) (g : List (List TW)) : Option (Int) :=
 (zmo f).bind fun b =>
 cond (!decide (b.snd.snd = 0))
 (some (b.snd.snd))
 (Option.bind (
 lpO (fun (a : Int) =>
 cond (decide (a < (↑(List.length (List.map (zd 6 zj) g)) : Int)))
 (zh g a fun d =>
 (zlz f d).bind fun c =>
 cond (!decide (c.snd = 0))
 (some (.inr (.inr (c.snd))))
 (zg (IntKind.wrap .i64 (a + 1)) fun e =>
 some (.inl e)))
 (some (.inr (.inl ())))) (0))
 (Sum.elim (fun (_ : Unit) =>
 some (0)) some))
def zlf (c : TL) : Option (TG × Int) :=
 (zag c).bind fun a =>
 cond (!decide (a.snd = 0))
 (some ((TG.mk (TL.mk [] []) 0, a.snd)))
 ((zm9 c).bind fun b =>
 some ((TG.mk c b.fst, b.snd)))
def xR (b : TG) (a : Int) : Option (Bool) :=
 cond (decide (0 <= a))
 (some (decide (a < (↑(List.length (List.map SV.str b.Lattice.Names)) : Int))))
 (some (false))
def zez (c : TG) (d : Int) (b : Int) : Option (Bool) :=
 zh (c.Lattice.Up) d fun a =>
 zk (0 <= b) (
 some (decide (bits BinOp.and IntKind.u8 (Int.fdiv a (2 ^ min (Int.toNat b) (IntKind.bits IntKind.u8))) 1 = 1)))
def zly (b : Int) (c : TG) (d : TY) : Option (Bool) :=
 (zez c b (d.Data)).bind fun a =>
 some (!a)
def zta (e : List Int) (f : TG × TY) : Option (Int) :=
 Option.bind (
 lpO (fun (a : Int) =>
 cond (decide (a < (↑(List.length (List.map (SV.int .i64) e)) : Int)))
 (zh e a fun b =>
 (zly b (f.fst) (f.snd)).bind fun c =>
 cond c
 (some (.inr (.inr a)))
 (zg (IntKind.wrap .i64 (a + 1)) fun d =>
 some (.inl d)))
 (some (.inr (.inl ())))) (0))
 (Sum.elim (fun (_ : Unit) =>
 some ((-1 : Int))) some)
def xT (b : List Int) (c : TG × TY) : Option (Bool) :=
 (zta b c).bind fun a =>
 some (decide (0 <= a))
def zlr (b : TG) (a : TY) : Option (Int) :=
 Option.bind (
 cond (!decide (a.Kind = 1))
 (cond (!decide (a.Kind = 2))
 (some (.inr (7)))
 (cond (decide (a.Rank < 0))
 (some (.inr (7)))
 (cond (decide (2 < a.Rank))
 (some (.inr (7)))
 ((xR b (a.Axes.fst)).bind fun c =>
 cond (!c)
 (some (.inr (7)))
 ((xR b (a.Axes.snd)).bind fun d =>
 cond (!d)
 (some (.inr (7)))
 ((xR b (a.Data)).bind fun e =>
 cond (!e)
 (some (.inr (7)))
 (some (.inl ()))))))))
 (cond (decide (a.Rank < 0))
 (some (.inr (7)))
 (cond (decide (2 < a.Rank))
 (some (.inr (7)))
 ((xR b (a.Axes.fst)).bind fun f =>
 cond (!f)
 (some (.inr (7)))
 ((xR b (a.Axes.snd)).bind fun g =>
 cond (!g)
 (some (.inr (7)))
 ((xR b (a.Data)).bind fun i =>
 cond (!i)
 (some (.inr (7)))
 (some (.inl ()))))))))
 (Sum.elim (fun (_ : Unit) =>
 zcc (a.Rank) [
 cond (!(decide (b.bottom_ = a.Axes.fst) && (decide (b.bottom_ = a.Axes.snd) && true)))
 (some (6))
 (zk (0 <= a.Rank /\ a.Rank <= (↑(2 : Nat) : Int)) (
 (xT (List.drop (Int.toNat 0) (List.take (Int.toNat a.Rank) [a.Axes.fst, a.Axes.snd])) ((b, a))).bind fun j =>
 cond j
 (some (25))
 (some (0)))),
 cond (!(decide (a.Axes.fst = a.Axes.fst) && (decide (b.bottom_ = a.Axes.snd) && true)))
 (some (6))
 (zk (0 <= a.Rank /\ a.Rank <= (↑(2 : Nat) : Int)) (
 (xT (List.drop (Int.toNat 0) (List.take (Int.toNat a.Rank) [a.Axes.fst, a.Axes.snd])) ((b, a))).bind fun k =>
 cond k
 (some (25))
 (some (0)))),
 cond (!(decide (a.Axes.fst = a.Axes.fst) && (decide (a.Axes.snd = a.Axes.snd) && true)))
 (some (6))
 (zk (0 <= a.Rank /\ a.Rank <= (↑(2 : Nat) : Int)) (
 (xT (List.drop (Int.toNat 0) (List.take (Int.toNat a.Rank) [a.Axes.fst, a.Axes.snd])) ((b, a))).bind fun l =>
 cond l
 (some (25))
 (some (0))))]) some)
def zhf (m : TL) (c : TY) (e : Int) : Option ((Bool × Bool) × Bool × Int) :=
 (zlf m).bind fun b =>
 cond (!decide (b.snd = 0))
 (some (((false, false), false, b.snd)))
 ((zlr (b.fst) c).bind fun d =>
 cond (!decide (d = 0))
 (some (((false, false), false, d)))
 ((xR (b.fst) e).bind fun f =>
 cond (!f)
 (some (((false, false), false, 7)))
 (Option.bind (
 lpO (fun (a : Int × Bool × Bool) =>
 cond (decide (a.fst < c.Rank))
 (zk (0 <= a.fst /\ a.fst < (↑(2 : Nat) : Int)) (
 zh ([c.Axes.fst, c.Axes.snd]) ((↑(Int.toNat a.fst) : Int)) fun g =>
 (zez (b.fst) g e).bind fun i =>
 zk (0 <= a.fst /\ a.fst < (↑(2 : Nat) : Int)) (
 zh ([a.snd.fst, a.snd.snd]) ((↑(Int.toNat a.fst) : Int)) fun _ =>
 zg (IntKind.wrap .i64 (a.fst + 1)) fun j =>
 some (.inl ((j, qZ a.snd (Int.toNat a.fst) i))))))
 (some (.inr (.inl (a.snd))))) ((0, false, false)))
 (Sum.elim (fun (k : Bool × Bool) =>
 (zez (b.fst) (c.Data) e).bind fun l =>
 some ((k, l, 0))) some))))
def zse (a : TA) (b : TA) : Option (Bool) :=
 cond (decide (a.Kind = b.Kind))
 (cond (decide (a.Rank = b.Rank))
 (some (decide (a.Lens.fst = b.Lens.fst) && (decide (a.Lens.snd = b.Lens.snd) && true)))
 (some (false)))
 (some (false))
def zth (b : List Int) (f : List Int) : Option (Bool) :=
 cond (!decide ((↑(List.length (List.map (SV.int .i64) b)) : Int) = (↑(List.length (List.map (SV.int .i64) f)) : Int)))
 (some (false))
 (Option.bind (
 lpO (fun (a : Int) =>
 cond (decide (a < (↑(List.length (List.map (SV.int .i64) b)) : Int)))
 (zh b a fun c =>
 zh f a fun d =>
 cond (!decide (c = d))
 (some (.inr (.inr (false))))
 (zg (IntKind.wrap .i64 (a + 1)) fun e =>
 some (.inl e)))
 (some (.inr (.inl ())))) (0))
 (Sum.elim (fun (_ : Unit) =>
 some (true)) some))
def zem (c : TA) (d : TA) : Option (Bool) :=
 (zse c d).bind fun a =>
 cond a
 ((zth (c.Cells) (d.Cells)).bind fun b =>
 some b)
 (some (false))
def zln (b : (Bool × Bool) × Bool) (c : TA) (d : TA) : Option (Bool) :=
 cond (!b.fst.fst && (!b.fst.snd && true) && (!b.snd && true))
 (some (true))
 (Option.bind (
 lpO (fun (a : Int) =>
 cond (decide (a < 2))
 (zh ([b.fst.fst, b.fst.snd]) a fun e =>
 cond e
 (zk (0 <= a /\ a < (↑(2 : Nat) : Int)) (
 zh ([c.Lens.fst, c.Lens.snd]) ((↑(Int.toNat a) : Int)) fun f =>
 zk (0 <= a /\ a < (↑(2 : Nat) : Int)) (
 zh ([d.Lens.fst, d.Lens.snd]) ((↑(Int.toNat a) : Int)) fun g =>
 cond (!decide (f = g))
 (some (.inr (.inr (false))))
 (zg (IntKind.wrap .i64 (a + 1)) fun i =>
 some (.inl i)))))
 (zg (IntKind.wrap .i64 (a + 1)) fun j =>
 some (.inl j)))
 (some (.inr (.inl ())))) (0))
 (Sum.elim (fun (_ : Unit) =>
 cond (!b.snd)
 (some (true))
 ((zem c d).bind fun k =>
 some k)) some))
def zlj (a : Int) (e : (Bool × Bool) × Bool) (f : List TW) (g : List TW) : Option (Int) :=
 zh f a fun b =>
 zh g a fun c =>
 (zln e (b.Value) (c.Value)).bind fun d =>
 cond d
 (some ((-1 : Int)))
 (some a)
def zcn (a : Int) : Option (Bool) :=
 some (decide (a < 0))
def zlu (g : TP) (x : List TW) (y : List TW) (k : Int) : Option (List Int × Int) :=
 (zcp g ([x, y])).bind fun i =>
 cond (!decide (i = 0))
 (some (([], i)))
 (cond (decide (k < 0))
 (Option.bind (
 lpO (fun (_ : Unit) =>
 some (.inr (.inl ()))) (()))
 (Sum.elim (fun (_ : Unit) =>
 some (([], 7))) some))
 (cond (decide ((↑(List.length (List.map SV.str g.Lattice.Names)) : Int) <= k))
 (Option.bind (
 lpO (fun (_ : Unit) =>
 some (.inr (.inl ()))) (()))
 (Sum.elim (fun (_ : Unit) =>
 some (([], 7))) some))
 (Option.bind (
 lpO (fun (d : Int × List Int) =>
 cond (decide (d.fst < (↑(List.length (List.map zY g.Vars)) : Int)))
 (zh (g.Vars) (d.fst) fun l =>
 (zhf (g.Lattice) (l.Type_) k).bind fun f =>
 cond (!decide (f.snd.snd = 0))
 (Option.bind (
 lpO (fun (_ : Unit) =>
 some (.inr (.inl ()))) (()))
 (Sum.elim (fun (_ : Unit) =>
 some (.inr (.inr (([], f.snd.snd))))) some))
 ((zlj (d.fst) ((f.fst, f.snd.fst)) x y).bind fun m =>
 zk ((List.length (List.map (SV.int .i64) d.snd) + (1 : Nat)) * (8 : Nat) <= (70368744177664 : Nat)) (
 zg (IntKind.wrap .i64 (d.fst + 1)) fun n =>
 some (.inl ((n, d.snd ++ [m]))))))
 (some (.inr (.inl ((decide (d.fst < (↑(List.length (List.map zY g.Vars)) : Int)), d)))))) ((0, [])))
 (Sum.elim (fun (e : Bool × Int × List Int) =>
 Option.bind (
 lpO (fun (c : Int) =>
 cond (decide (c < (↑(List.length (List.map (SV.int .i64) e.snd.snd)) : Int)))
 (zk (0 <= c /\ c < (↑(List.length (List.map (SV.int .i64) e.snd.snd)) : Int)) (
 zh (e.snd.snd) ((↑(Int.toNat c) : Int)) fun o =>
 (zcn o).bind fun p =>
 cond p
 (cond (decide (c = (-1 : Int)))
 (some (.inr (.inr ((e.snd.snd, 0)))))
 (zg (IntKind.wrap .i64 (c + 1)) fun q =>
 Option.bind (
 lpO (fun (b : Int × Int × List Int) =>
 cond (decide (b.fst < (↑(List.length (List.map (SV.int .i64) b.snd.snd)) : Int)))
 (zk (0 <= b.fst /\ b.fst < (↑(List.length (List.map (SV.int .i64) b.snd.snd)) : Int)) (
 zh (b.snd.snd) ((↑(Int.toNat b.fst) : Int)) fun j =>
 (zcn j).bind fun s =>
 cond (!s)
 (zk (0 <= b.snd.fst /\ b.snd.fst < (↑(List.length (List.map (SV.int .i64) b.snd.snd)) : Int)) (
 zh (b.snd.snd) ((↑(Int.toNat b.snd.fst) : Int)) fun _ =>
 zg (IntKind.wrap .i64 (b.snd.fst + 1)) fun t =>
 zg (IntKind.wrap .i64 (b.fst + 1)) fun u =>
 some (.inl ((u, t, List.set b.snd.snd (Int.toNat b.snd.fst) j)))))
 (zg (IntKind.wrap .i64 (b.fst + 1)) fun v =>
 some (.inl ((v, b.snd))))))
 (some (.inr (.inl ((decide (b.fst < (↑(List.length (List.map (SV.int .i64) b.snd.snd)) : Int)), b)))))) ((q, c, e.snd.snd)))
 (Sum.elim (fun (a : Bool × Int × Int × List Int) =>
 zk (0 <= a.snd.snd.fst /\ a.snd.snd.fst < (↑(List.length (List.map (SV.int .i64) a.snd.snd.snd)) : Int)) (
 zk ((1 : Nat) <= List.length (List.map (SV.int .i64) a.snd.snd.snd) - Int.toNat a.snd.snd.fst /\ Int.toNat a.snd.snd.fst + (List.length (List.map (SV.int .i64) a.snd.snd.snd) - Int.toNat a.snd.snd.fst) <= List.length (List.map (SV.int .i64) a.snd.snd.snd)) (
 zk (0 <= a.snd.snd.fst /\ a.snd.snd.fst <= (↑(List.length (List.take (Int.toNat a.snd.snd.fst) (List.map (SV.int .i64) a.snd.snd.snd) ++ (List.replicate (List.length (List.map (SV.int .i64) a.snd.snd.snd) - Int.toNat a.snd.snd.fst) (SV.int .i64 (0 : Int)) ++ List.drop (Int.toNat a.snd.snd.fst + (List.length (List.map (SV.int .i64) a.snd.snd.snd) - Int.toNat a.snd.snd.fst)) (List.map (SV.int .i64) a.snd.snd.snd)))) : Int)) (
 some (.inr (.inr ((List.drop (Int.toNat 0) (List.take (Int.toNat a.snd.snd.fst) (List.take (Int.toNat a.snd.snd.fst) a.snd.snd.snd ++ (List.replicate (List.length (List.map (SV.int .i64) a.snd.snd.snd) - Int.toNat a.snd.snd.fst) 0 ++ List.drop (Int.toNat a.snd.snd.fst + (List.length (List.map (SV.int .i64) a.snd.snd.snd) - Int.toNat a.snd.snd.fst)) a.snd.snd.snd))), 0)))))))) some)))
 (zg (IntKind.wrap .i64 (c + 1)) fun w =>
 some (.inl w))))
 (some (.inr (.inl ((decide (c < (↑(List.length (List.map (SV.int .i64) e.snd.snd)) : Int)), c)))))) (0))
 (Sum.elim (fun (_ : Bool × Int) =>
 some ((e.snd.snd, 0))) some)) some))))
def zh2 (b : TP) (c : List TW) (d : List TW) (e : Int) : Option (Bool × Int) :=
 (zlu b c d e).bind fun a =>
 cond (decide (a.snd = 0))
 (some ((decide ((↑(List.length (List.map (SV.int .i64) a.fst)) : Int) = 0), a.snd)))
 (some ((false, a.snd)))
def zlb (e : Int) (b : Int × Int) (c : Int) : Option ((Int × Int) × Int) :=
 (zg0 e b).bind fun a =>
 cond (!decide (a.snd = 0))
 (some (((0, 0), a.snd)))
 (cond (decide (c < 0))
 (some (((0, 0), 4)))
 (cond (decide (a.fst <= c))
 (some (((0, 0), 4)))
 (cond (decide (e < 2))
 (some (((c, 0), 0)))
 (zk (b.snd ≠ (0 : Int)) (
 zg (IntKind.wrap .i64 (Int.tdiv c b.snd)) fun d =>
 zk (b.snd ≠ (0 : Int)) (
 some (((d, Int.tmod c b.snd), 0))))))))
def zl3 (a : Int × Int) : Option (Int) :=
 some (0)
def zlp (d : TA) (o : (Bool × Bool) × Bool) (p : Int × Int) : Option (TA × Bool) :=
 Option.bind (
 lpO (fun (a : Int × Int × Int) =>
 cond (decide (a.fst < 2))
 (zh ([o.fst.fst, o.fst.snd]) (a.fst) fun g =>
 cond (!g)
 (zk (0 <= a.fst /\ a.fst < (↑(2 : Nat) : Int)) (
 zh ([p.fst, p.snd]) ((↑(Int.toNat a.fst) : Int)) fun i =>
 zk (0 <= a.fst /\ a.fst < (↑(2 : Nat) : Int)) (
 zh ([a.snd.fst, a.snd.snd]) ((↑(Int.toNat a.fst) : Int)) fun _ =>
 zg (IntKind.wrap .i64 (a.fst + 1)) fun j =>
 some (.inl ((j, qZ a.snd (Int.toNat a.fst) i))))))
 (zg (IntKind.wrap .i64 (a.fst + 1)) fun k =>
 some (.inl ((k, a.snd)))))
 (some (.inr (.inl (a.snd))))) ((0, d.Lens)))
 (Sum.elim (fun (c : Int × Int) =>
 (zg0 (d.Rank) c).bind fun e =>
 cond (!decide (e.snd = 0))
 (some ((TA.mk 0 0 (0, 0) [], false)))
 (Option.bind (
 lpO (fun (b : Int × List Int) =>
 cond (decide (b.fst < e.fst))
 ((zlb (d.Rank) c (b.fst)).bind fun f =>
 cond (!decide (f.snd = 0))
 (some (.inr (.inr ((TA.mk 0 0 (0, 0) [], false)))))
 ((zl3 (f.fst)).bind fun l =>
 zk ((List.length (List.map (SV.int .i64) b.snd) + (1 : Nat)) * (8 : Nat) <= (70368744177664 : Nat)) (
 zg (IntKind.wrap .i64 (b.fst + 1)) fun m =>
 some (.inl ((m, b.snd ++ [l]))))))
 (some (.inr (.inl (b.snd))))) ((0, [])))
 (Sum.elim (fun (n : List Int) =>
 some ((TA.mk d.Kind d.Rank c n, true))) some))) some)
def zlt (d : Int) (c : (Bool × Bool) × Bool) (e : List TW) : Option (TW) :=
 zh e d fun a =>
 cond (!c.snd)
 ((zlp (a.Value) c ((0, 0))).bind fun b =>
 some (TW.mk a.Name b.fst))
 (some a)
def zrs (c : TP) (d : Int) (j : List TW) : Option (List TW × Int) :=
 cond (decide (d < 0))
 (some (([], 7)))
 (cond (decide ((↑(List.length (List.map SV.str c.Lattice.Names)) : Int) <= d))
 (some (([], 7)))
 (Option.bind (
 lpO (fun (a : Int × List TW) =>
 cond (decide (a.fst < (↑(List.length (List.map zY c.Vars)) : Int)))
 (zh (c.Vars) (a.fst) fun e =>
 (zhf (c.Lattice) (e.Type_) d).bind fun b =>
 cond (!decide (b.snd.snd = 0))
 (some (.inr (.inr (([], b.snd.snd)))))
 ((zlt (a.fst) ((b.fst, b.snd.fst)) j).bind fun f =>
 zk ((List.length (List.map zj a.snd) + (1 : Nat)) * (72 : Nat) <= (70368744177664 : Nat)) (
 zg (IntKind.wrap .i64 (a.fst + 1)) fun g =>
 some (.inl ((g, a.snd ++ [f]))))))
 (some (.inr (.inl (a.snd))))) ((0, [])))
 (Sum.elim (fun (i : List TW) =>
 some ((i, 0))) some)))
def zh6 (c : TP) (d : List TW) (e : Int) : Option (List TW × Int) :=
 (zcp c ([d])).bind fun a =>
 cond (!decide (a = 0))
 (some (([], a)))
 ((zrs c e d).bind fun b =>
 some b)
def zli (b : TW) (c : TW) : Option (Bool) :=
 cond (decide (b.Name = c.Name))
 ((zem (b.Value) (c.Value)).bind fun a =>
 some a)
 (some (false))
def zrq (b : List TW) (g : List TW) : Option (Bool) :=
 cond (!decide ((↑(List.length (List.map zj b)) : Int) = (↑(List.length (List.map zj g)) : Int)))
 (some (false))
 (Option.bind (
 lpO (fun (a : Int) =>
 cond (decide (a < (↑(List.length (List.map zj b)) : Int)))
 (zh b a fun c =>
 zh g a fun d =>
 (zli c d).bind fun e =>
 cond (!e)
 (some (.inr (.inr (false))))
 (zg (IntKind.wrap .i64 (a + 1)) fun f =>
 some (.inl f)))
 (some (.inr (.inl ())))) (0))
 (Sum.elim (fun (_ : Unit) =>
 some (true)) some))
def zhd (b : List TW) (c : List TW) : Option (Bool) :=
 (zrq b c).bind fun a =>
 some a
def xX (b : TL) (a : Int) : Option (Bool) :=
 cond (decide (0 <= a))
 (some (decide (a < (↑(List.length (List.map SV.str b.Names)) : Int))))
 (some (false))
def zey (b : TL) : Option (Int) :=
 Option.bind (
 lpO (fun (a : Int) =>
 cond (decide (a < (↑(List.length (List.map (SV.int .u8) b.Up)) : Int)))
 (zh (b.Up) a fun c =>
 zg (IntKind.wrap .i64 c) fun d =>
 zk ((0 : Int) <= (↑(List.length (List.map (SV.int .u8) b.Up)) : Int)) (
 zg (IntKind.wrap .i64 (1 * 2 ^ min (Int.toNat (↑(List.length (List.map (SV.int .u8) b.Up)) : Int)) (IntKind.bits IntKind.i64))) fun e =>
 zg (IntKind.wrap .i64 (e - 1)) fun f =>
 cond (decide (d = f))
 (some (.inr (.inr a)))
 (zg (IntKind.wrap .i64 (a + 1)) fun g =>
 some (.inl g))))
 (some (.inr (.inl ())))) (0))
 (Sum.elim (fun (_ : Unit) =>
 some (0)) some)
def xJ (b : TL) (c : Int) (d : Int) : Option (Bool) :=
 (Fz9 b c d).bind fun a =>
 some a
def zls (f : TL) (a : TY) : Option (Int) :=
 cond (!decide (a.Kind = 1))
 (cond (!decide (a.Kind = 2))
 (some (7))
 (cond (decide (a.Rank < 0))
 (some (7))
 (cond (decide (2 < a.Rank))
 (some (7))
 ((xX f (a.Axes.fst)).bind fun g =>
 cond (!g)
 (some (7))
 ((xX f (a.Axes.snd)).bind fun i =>
 cond (!i)
 (some (7))
 ((xX f (a.Data)).bind fun j =>
 cond (!j)
 (some (7))
 (Option.bind (
 lpO (fun (b : Int) =>
 cond (decide (b < 2))
 (zk (0 <= b /\ b < (↑(2 : Nat) : Int)) (
 zh ([a.Axes.fst, a.Axes.snd]) ((↑(Int.toNat b) : Int)) fun k =>
 (zey f).bind fun l =>
 cond (!decide (k = l))
 (some (.inr (.inr (6))))
 (zg (IntKind.wrap .i64 (b + 1)) fun m =>
 some (.inl m))))
 (some (.inr (.inl ())))) (a.Rank))
 (Sum.elim (fun (_ : Unit) =>
 Option.bind (
 lpO (fun (c : Int) =>
 cond (decide (c < a.Rank))
 (zk (0 <= c /\ c < (↑(2 : Nat) : Int)) (
 zh ([a.Axes.fst, a.Axes.snd]) ((↑(Int.toNat c) : Int)) fun n =>
 (xJ f n (a.Data)).bind fun o =>
 cond (!o)
 (some (.inr (.inr (25))))
 (zg (IntKind.wrap .i64 (c + 1)) fun p =>
 some (.inl p))))
 (some (.inr (.inl ())))) (0))
 (Sum.elim (fun (_ : Unit) =>
 some (0)) some)) some))))))))
 (cond (decide (a.Rank < 0))
 (some (7))
 (cond (decide (2 < a.Rank))
 (some (7))
 ((xX f (a.Axes.fst)).bind fun q =>
 cond (!q)
 (some (7))
 ((xX f (a.Axes.snd)).bind fun s =>
 cond (!s)
 (some (7))
 ((xX f (a.Data)).bind fun t =>
 cond (!t)
 (some (7))
 (Option.bind (
 lpO (fun (d : Int) =>
 cond (decide (d < 2))
 (zk (0 <= d /\ d < (↑(2 : Nat) : Int)) (
 zh ([a.Axes.fst, a.Axes.snd]) ((↑(Int.toNat d) : Int)) fun u =>
 (zey f).bind fun v =>
 cond (!decide (u = v))
 (some (.inr (.inr (6))))
 (zg (IntKind.wrap .i64 (d + 1)) fun w =>
 some (.inl w))))
 (some (.inr (.inl ())))) (a.Rank))
 (Sum.elim (fun (_ : Unit) =>
 Option.bind (
 lpO (fun (e : Int) =>
 cond (decide (e < a.Rank))
 (zk (0 <= e /\ e < (↑(2 : Nat) : Int)) (
 zh ([a.Axes.fst, a.Axes.snd]) ((↑(Int.toNat e) : Int)) fun x =>
 (xJ f x (a.Data)).bind fun y =>
 cond (!y)
 (some (.inr (.inr (25))))
 (zg (IntKind.wrap .i64 (e + 1)) fun z =>
 some (.inl z))))
 (some (.inr (.inl ())))) (0))
 (Sum.elim (fun (_ : Unit) =>
 some (0)) some)) some)))))))
def zld (c : TL) (d : TY) : Option (Int) :=
 (zfx c).bind fun a =>
 cond (!decide (a.snd = 0))
 (some (a.snd))
 ((zls c d).bind fun b =>
 some b)
def zl0 (g : TL) (d : TY) (i : Int) : Option ((Bool × Bool) × Bool × Int) :=
 (zld g d).bind fun c =>
 cond (decide (c = 0))
 ((xX g i).bind fun l =>
 cond (!l)
 (some (((false, false), false, 7)))
 (cond (!decide (c = 0))
 (some (((false, false), false, c)))
 ((xJ g (d.Data) i).bind fun m =>
 Option.bind (
 lpO (fun (a : Int × Bool × Bool × Bool) =>
 cond (decide (a.fst < d.Rank))
 (zk (0 <= a.fst /\ a.fst < (↑(2 : Nat) : Int)) (
 zh ([d.Axes.fst, d.Axes.snd]) ((↑(Int.toNat a.fst) : Int)) fun n =>
 (xJ g n i).bind fun e =>
 zk (0 <= a.fst /\ a.fst < (↑(2 : Nat) : Int)) (
 zh ([a.snd.snd.fst, a.snd.snd.snd]) ((↑(Int.toNat a.fst) : Int)) fun _ =>
 cond (a.snd.fst)
 (zk (0 <= a.fst /\ a.fst < (↑(2 : Nat) : Int)) (
 zh (List.set [a.snd.snd.fst, a.snd.snd.snd] (Int.toNat a.fst) e) ((↑(Int.toNat a.fst) : Int)) fun o =>
 zg (IntKind.wrap .i64 (a.fst + 1)) fun p =>
 some (.inl ((p, o, qZ a.snd.snd (Int.toNat a.fst) e)))))
 (zg (IntKind.wrap .i64 (a.fst + 1)) fun q =>
 some (.inl ((q, false, qZ a.snd.snd (Int.toNat a.fst) e)))))))
 (some (.inr (.inl (a.snd))))) ((0, m, false, false)))
 (Sum.elim (fun (j : Bool × Bool × Bool) =>
 some ((j.snd, j.fst, 0))) some))))
 (cond (!decide (c = 0))
 (some (((false, false), false, c)))
 ((xJ g (d.Data) i).bind fun s =>
 Option.bind (
 lpO (fun (b : Int × Bool × Bool × Bool) =>
 cond (decide (b.fst < d.Rank))
 (zk (0 <= b.fst /\ b.fst < (↑(2 : Nat) : Int)) (
 zh ([d.Axes.fst, d.Axes.snd]) ((↑(Int.toNat b.fst) : Int)) fun t =>
 (xJ g t i).bind fun f =>
 zk (0 <= b.fst /\ b.fst < (↑(2 : Nat) : Int)) (
 zh ([b.snd.snd.fst, b.snd.snd.snd]) ((↑(Int.toNat b.fst) : Int)) fun _ =>
 cond (b.snd.fst)
 (zk (0 <= b.fst /\ b.fst < (↑(2 : Nat) : Int)) (
 zh (List.set [b.snd.snd.fst, b.snd.snd.snd] (Int.toNat b.fst) f) ((↑(Int.toNat b.fst) : Int)) fun u =>
 zg (IntKind.wrap .i64 (b.fst + 1)) fun v =>
 some (.inl ((v, u, qZ b.snd.snd (Int.toNat b.fst) f)))))
 (zg (IntKind.wrap .i64 (b.fst + 1)) fun w =>
 some (.inl ((w, false, qZ b.snd.snd (Int.toNat b.fst) f)))))))
 (some (.inr (.inl (b.snd))))) ((0, s, false, false)))
 (Sum.elim (fun (k : Bool × Bool × Bool) =>
 some ((k.snd, k.fst, 0))) some)))
def zlh (a : TY) (b : TA) : Option (Bool) :=
 cond (decide (a.Kind = b.Kind))
 (some (decide (a.Rank = b.Rank)))
 (some (false))
def zlw (a0 : TL) (o : TY) (a2 : Int) (f : TA) (g : TA) : Option (Bool × Int) :=
 (zl0 a0 o a2).bind fun a =>
 cond (decide (a.snd.snd = 0))
 ((zbv f).bind fun n =>
 cond (decide (n = 0))
 ((zbv g).bind fun i =>
 cond (decide (i = 0))
 ((zlh o f).bind fun p =>
 cond (!p)
 (some ((false, 21)))
 ((zlh o g).bind fun q =>
 cond (!q)
 (some ((false, 21)))
 (cond (!decide (i = 0))
 (some ((false, i)))
 (Option.bind (
 lpO (fun (b : Int) =>
 cond (decide (b < 2))
 (zk (0 <= b /\ b < (↑(2 : Nat) : Int)) (
 zh ([a.fst.fst, a.fst.snd]) ((↑(Int.toNat b) : Int)) fun s =>
 cond s
 (zk (0 <= b /\ b < (↑(2 : Nat) : Int)) (
 zh ([f.Lens.fst, f.Lens.snd]) ((↑(Int.toNat b) : Int)) fun t =>
 zk (0 <= b /\ b < (↑(2 : Nat) : Int)) (
 zh ([g.Lens.fst, g.Lens.snd]) ((↑(Int.toNat b) : Int)) fun u =>
 cond (!decide (t = u))
 (some (.inr (.inr ((false, 0)))))
 (zg (IntKind.wrap .i64 (b + 1)) fun v =>
 some (.inl v)))))
 (zg (IntKind.wrap .i64 (b + 1)) fun w =>
 some (.inl w))))
 (some (.inr (.inl ())))) (0))
 (Sum.elim (fun (_ : Unit) =>
 Option.bind (
 lpO (fun (j : Int) =>
 cond (a.snd.fst)
 (cond (decide (j < (↑(List.length (List.map (SV.int .i64) f.Cells)) : Int)))
 (zh (f.Cells) j fun x =>
 zh (g.Cells) j fun y =>
 cond (!decide (x = y))
 (some (.inr (.inr ((false, 0)))))
 (zg (IntKind.wrap .i64 (j + 1)) fun z =>
 some (.inl z)))
 (some (.inr (.inl ()))))
 (some (.inr (.inl ())))) (0))
 (Sum.elim (fun (_ : Unit) =>
 some ((true, 0))) some)) some)))))
 (cond (!decide (i = 0))
 (some ((false, i)))
 (Option.bind (
 lpO (fun (c : Int) =>
 cond (decide (c < 2))
 (zk (0 <= c /\ c < (↑(2 : Nat) : Int)) (
 zh ([a.fst.fst, a.fst.snd]) ((↑(Int.toNat c) : Int)) fun A =>
 cond A
 (zk (0 <= c /\ c < (↑(2 : Nat) : Int)) (
 zh ([f.Lens.fst, f.Lens.snd]) ((↑(Int.toNat c) : Int)) fun C =>
 zk (0 <= c /\ c < (↑(2 : Nat) : Int)) (
 zh ([g.Lens.fst, g.Lens.snd]) ((↑(Int.toNat c) : Int)) fun D =>
 cond (!decide (C = D))
 (some (.inr (.inr ((false, 0)))))
 (zg (IntKind.wrap .i64 (c + 1)) fun F =>
 some (.inl F)))))
 (zg (IntKind.wrap .i64 (c + 1)) fun G =>
 some (.inl G))))
 (some (.inr (.inl ())))) (0))
 (Sum.elim (fun (_ : Unit) =>
 Option.bind (
 lpO (fun (k : Int) =>
 cond (a.snd.fst)
 (cond (decide (k < (↑(List.length (List.map (SV.int .i64) f.Cells)) : Int)))
 (zh (f.Cells) k fun H =>
 zh (g.Cells) k fun I =>
 cond (!decide (H = I))
 (some (.inr (.inr ((false, 0)))))
 (zg (IntKind.wrap .i64 (k + 1)) fun J =>
 some (.inl J)))
 (some (.inr (.inl ()))))
 (some (.inr (.inl ())))) (0))
 (Sum.elim (fun (_ : Unit) =>
 some ((true, 0))) some)) some))))
 (cond (!decide (n = 0))
 (some ((false, n)))
 (Option.bind (
 lpO (fun (d : Int) =>
 cond (decide (d < 2))
 (zk (0 <= d /\ d < (↑(2 : Nat) : Int)) (
 zh ([a.fst.fst, a.fst.snd]) ((↑(Int.toNat d) : Int)) fun K =>
 cond K
 (zk (0 <= d /\ d < (↑(2 : Nat) : Int)) (
 zh ([f.Lens.fst, f.Lens.snd]) ((↑(Int.toNat d) : Int)) fun L =>
 zk (0 <= d /\ d < (↑(2 : Nat) : Int)) (
 zh ([g.Lens.fst, g.Lens.snd]) ((↑(Int.toNat d) : Int)) fun M =>
 cond (!decide (L = M))
 (some (.inr (.inr ((false, 0)))))
 (zg (IntKind.wrap .i64 (d + 1)) fun N =>
 some (.inl N)))))
 (zg (IntKind.wrap .i64 (d + 1)) fun O =>
 some (.inl O))))
 (some (.inr (.inl ())))) (0))
 (Sum.elim (fun (_ : Unit) =>
 Option.bind (
 lpO (fun (l : Int) =>
 cond (a.snd.fst)
 (cond (decide (l < (↑(List.length (List.map (SV.int .i64) f.Cells)) : Int)))
 (zh (f.Cells) l fun P =>
 zh (g.Cells) l fun Q =>
 cond (!decide (P = Q))
 (some (.inr (.inr ((false, 0)))))
 (zg (IntKind.wrap .i64 (l + 1)) fun R =>
 some (.inl R)))
 (some (.inr (.inl ()))))
 (some (.inr (.inl ())))) (0))
 (Sum.elim (fun (_ : Unit) =>
 some ((true, 0))) some)) some))))
 (cond (!decide (a.snd.snd = 0))
 (some ((false, a.snd.snd)))
 (Option.bind (
 lpO (fun (e : Int) =>
 cond (decide (e < 2))
 (zk (0 <= e /\ e < (↑(2 : Nat) : Int)) (
 zh ([a.fst.fst, a.fst.snd]) ((↑(Int.toNat e) : Int)) fun S =>
 cond S
 (zk (0 <= e /\ e < (↑(2 : Nat) : Int)) (
 zh ([f.Lens.fst, f.Lens.snd]) ((↑(Int.toNat e) : Int)) fun T =>
 zk (0 <= e /\ e < (↑(2 : Nat) : Int)) (
 zh ([g.Lens.fst, g.Lens.snd]) ((↑(Int.toNat e) : Int)) fun U =>
 cond (!decide (T = U))
 (some (.inr (.inr ((false, 0)))))
 (zg (IntKind.wrap .i64 (e + 1)) fun V =>
 some (.inl V)))))
 (zg (IntKind.wrap .i64 (e + 1)) fun W =>
 some (.inl W))))
 (some (.inr (.inl ())))) (0))
 (Sum.elim (fun (_ : Unit) =>
 Option.bind (
 lpO (fun (m : Int) =>
 cond (a.snd.fst)
 (cond (decide (m < (↑(List.length (List.map (SV.int .i64) f.Cells)) : Int)))
 (zh (f.Cells) m fun X =>
 zh (g.Cells) m fun Y =>
 cond (!decide (X = Y))
 (some (.inr (.inr ((false, 0)))))
 (zg (IntKind.wrap .i64 (m + 1)) fun Z =>
 some (.inl Z)))
 (some (.inr (.inl ()))))
 (some (.inr (.inl ())))) (0))
 (Sum.elim (fun (_ : Unit) =>
 some ((true, 0))) some)) some)))
def zr3 (c : TP) (e : List TW) (f : List TW) : Option (Bool) :=
 (Fz4 c e f).bind fun v =>
 cond v
 (some (true))
 ((zog c e).bind fun k =>
 (zog c f).bind fun l =>
 cond (!decide (k.snd = 0))
 (some (true))
 (cond (!decide (l.snd = 0))
 (some (true))
 (Option.bind (
 lpO (fun (b : Int) =>
 cond (decide (b < (↑(List.length (List.map SV.str c.Lattice.Names)) : Int)))
 ((zh2 c e f b).bind fun d =>
 (zh6 c e b).bind fun g =>
 (zh6 c f b).bind fun i =>
 cond (!decide (d.snd = 0))
 (some (.inr (.inr (false))))
 (cond (!decide (g.snd = 0))
 (some (.inr (.inr (false))))
 (cond (!decide (i.snd = 0))
 (some (.inr (.inr (false))))
 ((zhd (g.fst) (i.fst)).bind fun m =>
 cond (!d.fst == m)
 (some (.inr (.inr (false))))
 (Option.bind (
 lpO (fun (a : Int × Bool) =>
 cond (decide (a.fst < (↑(List.length (List.map zj e)) : Int)))
 (zh (c.Vars) (a.fst) fun n =>
 zh e (a.fst) fun o =>
 zh f (a.fst) fun p =>
 (zlw (c.Lattice) (n.Type_) b (o.Value) (p.Value)).bind fun j =>
 cond (!decide (j.snd = 0))
 (some (.inr (.inr (.inr (.inr (false))))))
 (cond (a.snd)
 (zg (IntKind.wrap .i64 (a.fst + 1)) fun q =>
 some (.inl ((q, j.fst))))
 (zg (IntKind.wrap .i64 (a.fst + 1)) fun s =>
 some (.inl ((s, false))))))
 (some (.inr (.inl (a.snd))))) ((0, true)))
 (Sum.elim (fun (t : Bool) =>
 cond (!t == d.fst)
 (some (.inr (.inr (false))))
 (zg (IntKind.wrap .i64 (b + 1)) fun u =>
 some (.inl u))) some))))))
 (some (.inr (.inl ())))) (0))
 (Sum.elim (fun (_ : Unit) =>
 some (true)) some))))
end Go.Sx.O
end
namespace Go.Sx.O
open Go
theorem zkl {α τ : Type} {l : List α} (p : α -> Bool) {step : Int -> Option (Int ⊕ τ)} {d : τ} {g : Int -> τ}
 (h1 : ∀ (k : Nat) x, l[k]? = some x -> step (k : Int) = if p x then some (.inr (g k)) else some (.inl ((k : Int) + 1)))
 (h2 : step (l.length : Int) = some (.inr d)) :
 lpO step 0 = (match l.findIdx? p with | some i => some (g i) | none => some d) := by
 have key : ∀ j k, j + k = l.length -> lpO step (k : Int) = (match (l.drop k).findIdx? p with | some i => some (g ((k + i : Nat) : Int)) | none => some d) := by
  intro j
  induction j with
  | zero =>
    intro k hk
    rw [qy]
    have : k = l.length := by omega
    subst this
    rw [h2]
    simp
  | succ j ih =>
    intro k hk
    have hlt : k < l.length := by omega
    rw [qy, h1 k _ (List.getElem?_eq_getElem hlt), List.drop_eq_getElem_cons hlt, List.findIdx?_cons]
    split
    . simp
    . have := ih (k + 1) (by omega)
      simp only [Option.bind_some, Sum.elim_inl]
      push_cast at this
      rw [this]
      cases (l.drop (k + 1)).findIdx? p with
      | none => rfl
      | some i => simp; congr 1; omega
 have := key l.length 0 (by omega)
 simpa using this
open Go
theorem dropWhile_nil {α : Type} {p : α -> Bool} : ∀ {l : List α}, l.dropWhile p = [] ↔ ∀ x ∈ l, p x = true
 | [] => by simp
 | a :: l => by
   rw [List.dropWhile_cons]
   cases h : p a with
   | true => simp [h, dropWhile_nil (l := l)]
   | false => simp [h]
theorem zda (l : List (List UInt8)) (s : List UInt8) (hl : l.length <= 1000000000) :
 zsv l s = some (match l.findIdx? (fun x => decide (s = x)) with | some i => (i : Int) | none => -1) := by
 unfold zsv
 rw [zkl (l := l) (fun x => decide (s = x)) (d := .inl ()) (g := .inr) ?_ ?_]
 . cases l.findIdx? (fun x => decide (s = x)) <;> rfl
 . intro k x hx
   have hlt : k < l.length := by
    by_cases h : k < l.length
    . exact h
    . rw [List.getElem?_eq_none (by omega)] at hx; cases hx
   simp only [List.length_map, Int.ofNat_lt, hlt, decide_true, cond_true, zh, Int.toNat_natCast, hx, Option.bind_some, zg, Int.natCast_nonneg, if_true]
   rw [w64 (by omega) (by omega)]
   cases decide (s = x) <;> rfl
 . simp
theorem jR (l : List (List UInt8)) (s : List UInt8) (hl : l.length <= 1000000000) :
 ztd l s = some (decide (s ∈ l)) := by
 unfold ztd
 rw [zda l s hl]
 cases h : l.findIdx? (fun x => decide (s = x)) with
 | none =>
   have := List.findIdx?_eq_none_iff.1 h
   simp only [Option.bind_some]
   congr 1
   have hn : s ∉ l := fun hm => by have := this s hm; simp at this
   simp [hn]
 | some i =>
   have := List.findIdx?_eq_some_iff_getElem.1 h
   obtain ⟨hi, h1, _⟩ := this
   have hm : s ∈ l := by
    have e : s = l[i] := by simpa using h1
    rw [e]; exact List.getElem_mem hi
   simp [hm]
def yP (set : List Bool) (c : UInt8) : Bool := set.getD c.toNat false
theorem zcw (set : List Bool) (c : UInt8) (h : set.length = 256) : znm set (c.toNat : Int) = some (yP set c) := by
 unfold znm
 have hc : c.toNat < 256 := c.toNat_lt
 have h2 : set[c.toNat]? = some (set[c.toNat]'(by omega)) := List.getElem?_eq_getElem _
 have h3 : (c.toNat : Int) < 256 := by omega
 simp [zk, zh, yP, h2, h3]
def xK (p : UInt8 -> Bool) (s : List UInt8) : List UInt8 := (s.reverse.dropWhile p).reverse
theorem zuj {p : UInt8 -> Bool} {s : List UInt8} : (xK p s).dropWhile p = [] ↔ ∀ c ∈ s, p c = true := by
 unfold xK
 constructor
 . intro h c hc
   have h1 : ∀ c ∈ (s.reverse.dropWhile p).reverse, p c = true := dropWhile_nil.1 h
   have h2 : s.reverse.dropWhile p = [] := by
    cases e : s.reverse.dropWhile p with
    | nil => rfl
    | cons a r =>
      have := List.head?_dropWhile_not p s.reverse
      rw [e] at this
      simp at this
      rw [e] at h1
      rw [h1 a (by simp)] at this
      cases this
   exact dropWhile_nil.1 h2 c (by simpa using hc)
 . intro h
   have : s.reverse.dropWhile p = [] := dropWhile_nil.2 fun c hc => h c (by simpa using hc)
   rw [this]; rfl
theorem zc4 (s : List UInt8) (set : List Bool) (h : set.length = 256) (hs : s.length <= 1000000000) : znl s set = some (xK (yP set) s) := by
 unfold znl
 apply Tot.eq
 simp only [zx]
 refine Tot.loop (fun s => s.length) (fun r => r.length <= 1000000000 /\ xK (yP set) r = xK (yP set) s) ?_ ⟨hs, rfl⟩
 rintro r ⟨hr, he⟩
 simp only [zr, zG, qa, qo, qI, zx, Sum.elim_inl, Sum.elim_inr, decide_eq_true_eq, decide_eq_false_iff_not]
 refine ⟨fun h1 => ?_, fun h1 => ?_⟩
 . have h0 : r ≠ [] := by rintro rfl; simp at h1
   rw [w64 (by omega) (by omega)]
   have e1 : ((r.length : Int) - 1).toNat = r.length - 1 := by omega
   rw [e1]
   refine ⟨by omega, _, List.getElem?_eq_getElem (by omega), ?_⟩
   rw [zcw set _ h]
   simp only [zr, Bool.not_eq_true', Bool.not_eq_false']
   have hr2 : r = r.dropLast ++ [r[r.length - 1]'(by omega)] := by
    rw [<- List.getLast_eq_getElem h0]; exact (List.dropLast_concat_getLast h0).symm
   refine ⟨fun h2 => ?_, fun h2 => ⟨⟨by omega, by omega⟩, ⟨by simp; omega, ?_⟩, by simp; omega⟩⟩
   . rw [<- he]
     unfold xK
     rw [hr2]
     simp [h2]
   . rw [<- he]
     simp only [Int.toNat_zero, List.drop_zero]
     rw [<- List.dropLast_eq_take]
     conv => rhs; rw [hr2]
     unfold xK
     simp [h2]
 . have h0 : r = [] := List.length_eq_zero_iff.1 (by omega)
   rw [<- he, h0]; rfl
theorem zd6 (s : List UInt8) (set : List Bool) (h : set.length = 256) (hs : s.length <= 1000000000) : zma s set = some (s.dropWhile (yP set)) := by
 unfold zma
 apply Tot.eq
 simp only [zx]
 refine Tot.loop (fun s => s.length) (fun r => r.length <= 1000000000 /\ r.dropWhile (yP set) = s.dropWhile (yP set)) ?_ ⟨hs, rfl⟩
 rintro r ⟨hr, he⟩
 simp only [zr, zG, qa, qo, qI, zx, Sum.elim_inl, Sum.elim_inr, decide_eq_true_eq, decide_eq_false_iff_not]
 cases r with
 | nil => simp [<- he]
 | cons a r =>
   refine ⟨fun h1 => ⟨by omega, a, rfl, ?_⟩, fun h1 => absurd h1 (by simp)⟩
   rw [zcw set _ h]
   simp only [zr, Bool.not_eq_true', Bool.not_eq_false']
   refine ⟨fun h2 => ?_, fun h2 => ⟨by simp; omega, ⟨?_, ?_⟩, ?_⟩⟩
   . rw [<- he]; simp [h2]
   . simp at hr ⊢; omega
   . rw [<- he]; simp [h2]
   . simp
open Go
theorem zvy {set : List Bool} {c d : UInt8} (h : set.length = 256) : yP (set.set c.toNat true) d = (decide (d = c) || yP set d) := by
 have hc : c.toNat < 256 := c.toNat_lt
 unfold yP
 rw [List.getD_eq_getElem?_getD, List.getD_eq_getElem?_getD, List.getElem?_set]
 by_cases e : c.toNat = d.toNat
 . have : d = c := (UInt8.toNat_inj.1 e).symm
   subst this
   simp [h, hc]
 . have : d ≠ c := fun e' => e (by rw [e'])
   simp [e, this]
theorem ze9 (cs : List UInt8) (h : ∀ c ∈ cs, c.toNat < 128) (hs : cs.length <= 1000000000) : Tot (zm5 cs) fun r => r.2 = true /\ r.1.length = 256 /\ ∀ d, yP r.1 d = decide (d ∈ cs) := by
 unfold zm5
 simp only [zx]
 refine Tot.count cs.length (fun k s => s.1 = (k : Int) /\ s.2.length = 256 /\ ∀ d, yP s.2 d = decide (d ∈ cs.take k)) ?_ ⟨rfl, List.length_replicate, fun d => ?_⟩
 . rintro k ⟨i, set⟩ hk ⟨h0, h1, h2⟩
   simp only at h0 h1 h2
   subst h0
   simp only [zr, zG, qa, qo, qI, Sum.elim_inl, Sum.elim_inr, decide_eq_true_eq, decide_eq_false_iff_not, Int.toNat_natCast]
   refine ⟨fun hlt => ⟨by omega, _, List.getElem?_eq_getElem (by omega), fun h3 => ?_, fun h3 => ?_⟩, fun hlt => ?_⟩
   . have := h cs[k] (List.getElem_mem _)
     omega
   . have hc : cs[k].toNat < 256 := (cs[k]'(by omega)).toNat_lt
     refine ⟨⟨by omega, by omega⟩, by omega, _, List.getElem?_eq_getElem (by omega), ?_⟩
     rw [w64 (by omega) (by omega)]
     refine ⟨by omega, by omega, by simpa using h1, fun d => ?_⟩
     have hm : d ∈ cs.take (k + 1) ↔ d ∈ cs.take k \/ d = cs[k] := by
      rw [List.take_add_one, List.getElem?_eq_getElem (by omega), List.mem_append]
      simp
     rw [zvy h1, h2, Bool.eq_iff_iff]
     simp only [Bool.or_eq_true, decide_eq_true_eq, hm]
     exact or_comm
   . refine ⟨trivial, h1, fun d => ?_⟩
     rw [h2, List.take_of_length_le (by omega)]
 . unfold yP
   rw [List.getD_eq_getElem?_getD, List.getElem?_replicate]
   split <;> simp
theorem zu0 (s cs : List UInt8) (h : ∀ c ∈ cs, c.toNat < 128) (h1 : 2 <= cs.length) (hs : cs.length <= 1000000000) (hl : s.length <= 1000000000) :
 zs1 s cs = some ((xK (fun c => decide (c ∈ cs)) s).dropWhile (fun c => decide (c ∈ cs))) := by
 unfold zs1
 have e0 : (ByteArray.mk #[]).data.toList = [] := rfl
 simp only [e0]
 cases s with
 | nil => simp [xK]
 | cons a r =>
   have e1 : decide (a :: r = []) = false := by simp
   have e2 : decide (cs = []) = false := by cases cs <;> simp at h1 ⊢
   have e3 : decide ((cs.length : Int) = 1) = false := by simp; omega
   simp only [e1, e2, e3, cond_false]
   obtain ⟨x, hx, hx1, hx2, hx3⟩ := ze9 cs h hs
   have e4 : yP x.1 = fun c => decide (c ∈ cs) := funext hx3
   rw [hx]
   simp only [Option.bind_some, hx1, cond_true]
   rw [zc4 _ _ hx2 hl]
   simp only [Option.bind_some]
   rw [zd6 _ _ hx2 (by
    refine Nat.le_trans ?_ hl
    unfold xK
    rw [List.length_reverse]
    refine Nat.le_trans (List.dropWhile_sublist _).length_le (by simp))]
   rw [e4]
   rfl
def jj : List UInt8 := [97, 98, 99, 100, 101, 102, 103, 104, 105, 106, 107, 108, 109, 110, 111, 112, 113, 114, 115, 116, 117, 118, 119, 120, 121, 122, 48, 49, 50, 51, 52, 53, 54, 55, 56, 57, 45]
def zb0 (s : List UInt8) : Bool := decide (s.length <= 16) && (match s with | [] => false | c :: _ => decide (97 <= c.toNat) && decide (c.toNat <= 122)) && s.all fun c => decide (c ∈ jj)
theorem zkd (s : List UInt8) (hl : s.length <= 1000000000) : ztt s = some (zb0 s) := by
 unfold ztt
 have e0 : (ByteArray.mk #[]).data.toList = [] := rfl
 simp only [e0]
 rw [zu0 s _ (by decide) (by decide) (by decide) hl]
 cases s with
 | nil => rfl
 | cons a r =>
   have e1 : decide (a :: r = []) = false := by simp
   simp only [e1, cond_false, Option.bind_some]
   have e5 : zh (a :: r) 0 = fun f => (f a : Option Bool) := rfl
   simp only [e5]
   unfold zb0
   by_cases h1 : (16 : Int) < ((a :: r).length : Int)
   . have : ¬ (a :: r).length <= 16 := by omega
     simp only [h1, decide_true, cond_true, this, decide_false, Bool.false_and]
   . have h1' : (a :: r).length <= 16 := by omega
     simp only [h1, decide_false, cond_false, h1', decide_true, Bool.true_and]
     by_cases h2 : (a.toNat : Int) < 97
     . have : ¬ 97 <= a.toNat := by omega
       simp only [h2, decide_true, cond_true, this, decide_false, Bool.false_and]
     . have h2' : 97 <= a.toNat := by omega
       simp only [h2, decide_false, cond_false, h2', decide_true, Bool.true_and]
       by_cases h3 : (122 : Int) < (a.toNat : Int)
       . have : ¬ a.toNat <= 122 := by omega
         simp only [h3, decide_true, cond_true, this, decide_false, Bool.false_and]
       . have h3' : a.toNat <= 122 := by omega
         simp only [h3, decide_false, cond_false, h3', decide_true, Bool.true_and]
         congr 1
         rw [Bool.eq_iff_iff, decide_eq_true_eq, zuj, List.all_eq_true]
         rfl
open Go
theorem zCl : ∀ u : Fin 256, ∀ b : Fin 9, bits .and .u8 (Int.fdiv (u.val : Int) (2 ^ min b.val (IntKind.bits .u8))) 1 = if Nat.testBit u b then 1 else 0 := by decide +kernel
theorem zbr {u : Int} {b : Nat} (h0 : 0 <= u) (h1 : u < 256) (hb : b <= 8) : bits .and .u8 (Int.fdiv u (2 ^ min b (IntKind.bits .u8))) 1 = if u.toNat.testBit b then 1 else 0 := by
 have := zCl ⟨u.toNat, by omega⟩ ⟨b, by omega⟩
 simp only at this
 rw [Int.toNat_of_nonneg h0] at this
 exact this
theorem xD {u : Int} (h0 : 0 <= u) : BitVec.ofInt 8 u = BitVec.ofNat 8 u.toNat := by
 conv => lhs; rw [<- Int.toNat_of_nonneg h0]
 exact BitVec.ofInt_natCast 8 u.toNat
theorem zjr {n : Nat} (h : n < 256) : IntKind.wrap .u8 (n : Int) = n := by
 simp only [IntKind.wrap, IntKind.signed, IntKind.bits, Bool.false_and]
 have h3 : (2 : Int) ^ 8 = 256 := by decide
 simp only [h3]
 have : (n : Int) % 256 = n := by omega
 simp [this]
theorem zb4 {a b : Int} (ha : 0 <= a) (ha' : a < 256) (hb : 0 <= b) (hb' : b < 256) : bits .and .u8 a b = ((a.toNat &&& b.toNat : Nat) : Int) := by
 have e : bits .and .u8 a b = IntKind.wrap .u8 ((BitVec.ofInt 8 a &&& BitVec.ofInt 8 b).toNat : Int) := rfl
 rw [e, xD ha, xD hb]
 rw [zjr (BitVec.isLt _)]
 rw [BitVec.toNat_and, BitVec.toNat_ofNat, BitVec.toNat_ofNat, Nat.mod_eq_of_lt (by omega), Nat.mod_eq_of_lt (by omega)]
theorem zp6 {a b : Int} (ha : 0 <= a) (ha' : a < 256) (hb : 0 <= b) (hb' : b < 256) : bits .or .u8 a b = ((a.toNat ||| b.toNat : Nat) : Int) := by
 have e : bits .or .u8 a b = IntKind.wrap .u8 ((BitVec.ofInt 8 a ||| BitVec.ofInt 8 b).toNat : Int) := rfl
 rw [e, xD ha, xD hb]
 rw [zjr (BitVec.isLt _)]
 rw [BitVec.toNat_or, BitVec.toNat_ofNat, BitVec.toNat_ofNat, Nat.mod_eq_of_lt (by omega), Nat.mod_eq_of_lt (by omega)]
theorem zbe {a b : Int} (ha : 0 <= a) (ha' : a < 256) (hb : 0 <= b) (hb' : b < 256) : bits .andNot .u8 a b = 0 ↔ ∀ i, a.toNat.testBit i = true -> b.toNat.testBit i = true := by
 have e : bits .andNot .u8 a b = IntKind.wrap .u8 ((BitVec.ofInt 8 a &&& ~~~BitVec.ofInt 8 b).toNat : Int) := rfl
 rw [e, xD ha, xD hb]
 rw [zjr (BitVec.isLt _)]
 have hbit : ∀ i, (BitVec.ofNat 8 a.toNat &&& ~~~BitVec.ofNat 8 b.toNat).getLsbD i = (decide (i < 8) && a.toNat.testBit i && !(b.toNat.testBit i)) := by
  intro i
  rw [BitVec.getLsbD_and, BitVec.getLsbD_not, BitVec.getLsbD_ofNat, BitVec.getLsbD_ofNat]
  cases decide (i < 8) <;> simp
 have h8 : ∀ i, a.toNat.testBit i = true -> i < 8 := by
  intro i hi
  rcases Nat.lt_or_ge i 8 with g | g
  . exact g
  . rw [Nat.testBit_lt_two_pow (Nat.lt_of_lt_of_le (show a.toNat < 2 ^ 8 by omega) (Nat.pow_le_pow_right (by omega) g))] at hi
    cases hi
 constructor
 . intro h i hi
   have h0 : (BitVec.ofNat 8 a.toNat &&& ~~~BitVec.ofNat 8 b.toNat).toNat = 0 := Int.ofNat_eq_zero.1 h
   have h1 := hbit i
   rw [<- BitVec.testBit_toNat, h0, Nat.zero_testBit] at h1
   have := h8 i hi
   simp [this, hi] at h1
   exact h1
 . intro h
   have h1 : (BitVec.ofNat 8 a.toNat &&& ~~~BitVec.ofNat 8 b.toNat).toNat = 0 := by
    apply Nat.eq_of_testBit_eq
    intro i
    rw [BitVec.testBit_toNat, hbit i, Nat.zero_testBit]
    cases hi : a.toNat.testBit i with
    | false => simp
    | true => simp [h i hi]
   rw [h1]; rfl
theorem zdo {a b : Nat} (h : a < 256) : a &&& b < 256 := Nat.lt_of_le_of_lt Nat.and_le_left h
theorem zDk {a b : Nat} (h : a < 256) (k : b < 256) : a ||| b < 256 := Nat.or_lt_two_pow (n := 8) h k
theorem zph (ns : List (List UInt8)) (h : ns.length <= 20) (hn : ∀ s ∈ ns, s.length <= 1000) : Tot (zja ns) fun r => r.2 = 0 -> 1 <= ns.length /\ ns.length <= 8 := by
 unfold zja
 simp only [zG, zr, zx, List.length_map, decide_eq_true_eq, decide_eq_false_iff_not]
 refine ⟨fun _ h => absurd h (by decide), fun h1 => ⟨fun _ h => absurd h (by decide), fun h2 => ?_⟩⟩
 refine Tot.count ns.length (fun k s => s = (k : Int)) ?_ rfl
 rintro k _ hk rfl
 simp only [zr, zG, qa, qo, qI, zx, Sum.elim_inl, Sum.elim_inr, decide_eq_true_eq, decide_eq_false_iff_not, Int.toNat_natCast]
 refine ⟨fun hlt => ⟨by omega, _, List.getElem?_eq_getElem (by omega), ?_⟩, fun hlt => fun _ => by omega⟩
 rw [zkd _ (by have := hn ns[k] (List.getElem_mem _); omega), zr]
 refine ⟨fun _ h => absurd h (by decide), fun _ => ⟨⟨by omega, by omega⟩, ?_⟩⟩
 rw [jR _ _ (by simp; omega), zr]
 refine ⟨fun _ h => absurd h (by decide), fun _ => ?_⟩
 rw [w64 (by omega) (by omega)]
 exact ⟨by omega, by omega⟩
open Go
def U8s (l : List Int) : Prop := ∀ x ∈ l, 0 <= x /\ x < 256
theorem U8s.get {l : List Int} (h : U8s l) {i : Nat} {x : Int} (hx : l[i]? = some x) : 0 <= x /\ x < 256 := h x (List.mem_of_getElem? hx)
theorem U8s.set {l : List Int} (h : U8s l) {i : Nat} {x : Int} (h0 : 0 <= x) (h1 : x < 256) : U8s (l.set i x) := by
 intro y hy
 rcases List.mem_or_eq_of_mem_set hy with g | g
 . exact h y g
 . subst g; exact ⟨h0, h1⟩
theorem zoo {e : Int} : 0 <= IntKind.wrap .u8 e /\ IntKind.wrap .u8 e < 256 := by
 simp only [IntKind.wrap, IntKind.signed, IntKind.bits, Bool.false_and]
 have h3 : (2 : Int) ^ 8 = 256 := by decide
 simp only [h3]
 refine ⟨?_, ?_⟩ <;> simp <;> omega
theorem orU {a b : Int} (ha : 0 <= a) (ha' : a < 256) (hb : 0 <= b) (hb' : b < 256) : 0 <= bits .or .u8 a b /\ bits .or .u8 a b < 256 := by
 rw [zp6 ha ha' hb hb']
 have := zDk (a := a.toNat) (b := b.toNat) (by omega) (by omega)
 omega
theorem zv {α : Type} {l : List α} {i : Nat} (h : i < l.length) : ∃ x, l[i]? = some x := ⟨_, List.getElem?_eq_getElem h⟩
theorem zxo (l : TL) (hu : U8s l.Up) (hn : l.Names.length <= 8) (hl : l.Up.length <= 8) :
 Tot (zf1 l) fun o => o.n_ = l.Names.length /\ o.up_.length = 8 /\ o.down_.length = 8 /\ U8s o.up_ /\ U8s o.down_ := by
 unfold zf1
 simp only [zx, List.length_map]
 refine Tot.count l.Up.length (fun k s => s.1 = (k : Int) /\ s.2.1.length = 8 /\ s.2.2.length = 8 /\ U8s s.2.1 /\ U8s s.2.2) ?_ ⟨rfl, rfl, rfl, by intro x hx; simp at hx; omega, by intro x hx; simp at hx; omega⟩
 rintro k ⟨i, up, down⟩ hk ⟨h0, h1, h2, h3, h4⟩
 simp only at h0 h1 h2 h3 h4
 subst h0
 simp only [zr, zG, qa, qo, qI, zx, Sum.elim_inl, Sum.elim_inr, decide_eq_true_eq, decide_eq_false_iff_not, Int.toNat_natCast]
 refine ⟨fun hlt => ?_, fun hlt => ⟨trivial, h1, h2, h3, h4⟩⟩
 obtain ⟨x, hx⟩ := zv (l := l.Up) (i := k) (by omega)
 obtain ⟨y, hy⟩ := zv (l := up) (i := k) (by omega)
 refine ⟨by omega, x, hx, ⟨by omega, by omega⟩, by omega, y, hy, ?_⟩
 have hx' := hu.get hx
 refine Tot.count l.Names.length (fun j s => s.1 = (j : Int) /\ s.2.length = 8 /\ U8s s.2) ?_ ⟨rfl, h2, h4⟩
 rintro j ⟨i', d⟩ hj ⟨g0, g1, g2⟩
 simp only at g0 g1 g2
 subst g0
 simp only [zr, zG, qa, qo, qI, zx, Sum.elim_inl, Sum.elim_inr, decide_eq_true_eq, decide_eq_false_iff_not, Int.toNat_natCast]
 refine ⟨fun hlt' => ?_, fun _ => ?_⟩
 . obtain ⟨z, hz⟩ := zv (l := d) (i := j) (by omega)
   have hz' := g2.get hz
   rw [w64 (by omega) (by omega)]
   refine ⟨⟨by omega, by omega⟩, by omega, z, hz, by omega, by omega, ⟨by omega, by omega⟩, by omega, z, hz, by omega, by omega, by simpa using g1, ?_⟩
   have hw := zoo (e := bits .and .u8 (Int.fdiv x (2 ^ min j (IntKind.bits .u8))) 1 * 2 ^ min k (IntKind.bits .u8))
   have ho := orU hz'.1 hz'.2 hw.1 hw.2
   exact g2.set ho.1 ho.2
 . rw [w64 (by omega) (by omega)]
   exact ⟨by omega, by omega, by simpa using h1, g1, h3.set hx'.1 hx'.2, g2⟩
theorem za4 (m : List Int) (n : Nat) (a b : Nat) (hm : m.length = 8) (hu : U8s m) (hn : n <= 8) (ha : a < n) (hb : b < n) : Tot (zis m n a b) fun _ => True := by
 unfold zis
 obtain ⟨x, hx⟩ := zv (l := m) (i := a) (by omega)
 obtain ⟨y, hy⟩ := zv (l := m) (i := b) (by omega)
 simp only [zr, zG, qa, qo, qI, zx, Int.toNat_natCast]
 refine ⟨⟨by omega, by omega⟩, by omega, x, hx, ⟨by omega, by omega⟩, by omega, y, hy, ?_⟩
 refine Tot.count n (fun k s => s = (k : Int)) ?_ rfl
 rintro k _ hk rfl
 simp only [zr, zG, qa, qo, qI, zx, Sum.elim_inl, Sum.elim_inr, decide_eq_true_eq, decide_eq_false_iff_not, Int.toNat_natCast]
 refine ⟨fun hlt => ⟨by omega, fun _ => ?_, fun _ => ?_⟩, fun _ => trivial⟩
 . obtain ⟨z, hz⟩ := zv (l := m) (i := k) (by omega)
   rw [w64 (by omega) (by omega)]
   exact ⟨⟨by omega, by omega⟩, by omega, z, hz, fun _ => trivial, fun _ => ⟨by omega, by omega⟩⟩
 . rw [w64 (by omega) (by omega)]
   exact ⟨by omega, by omega⟩
theorem ze8 (m : List Int) (n : Nat) (a b : Nat) (hm : m.length = 8) (hu : U8s m) (hn : n <= 8) (ha : a < n) (hb : b < n) : Tot (zs6 m n a b) fun _ => True := za4 m n a b hm hu hn ha hb
theorem zt2 (x : Int) (h0 : 0 <= x) (h1 : x < 256) : Tot (ziz x) fun _ => True := by
 unfold ziz
 rw [qo]
 refine ⟨h0, ?_⟩
 have key : ∀ l : List UInt8, l.length = 256 -> ∃ y, l[x.toNat]? = some y /\ Tot (zg (IntKind.wrap .i64 (y.toNat : Int)) fun z => some z) fun _ => True := by
  intro l hl
  obtain ⟨y, hy⟩ := zv (l := l) (i := x.toNat) (by omega)
  exact ⟨y, hy, .mk trivial⟩
 exact key _ (by decide +kernel)
def up (l : TL) (a b : Nat) : Bool := (l.Up.getD a 0).toNat.testBit b
def xS (l : TL) (a b : Nat) : Prop := up l a b = true -> (b ≠ a -> up l b a = false) /\ ∀ i, i < l.Names.length -> up l b i = true -> up l a i = true
structure LatOK (l : TL) : Prop where
 pos : 1 <= l.Names.length
 le : l.Names.length <= 8
 len : l.Up.length = l.Names.length
 u8 : U8s l.Up
 self : ∀ a, a < l.Names.length -> up l a a = true
 row : ∀ a, a < l.Names.length -> ∀ b, b < l.Names.length -> xS l a b
theorem jE {l : TL} {a : Nat} {x : Int} (h : l.Up[a]? = some x) (b : Nat) : up l a b = x.toNat.testBit b := by
 unfold up; rw [List.getD_eq_getElem?_getD, h]; rfl
theorem zo6 (n : Nat) (h : n <= 8) (i : Nat) : (IntKind.wrap .u8 (IntKind.wrap .u8 (1 * 2 ^ min n (IntKind.bits .u8)) - 1)).toNat.testBit i = decide (i < n) := by
 have key : ∀ n : Fin 9, (IntKind.wrap .u8 (IntKind.wrap .u8 (1 * 2 ^ min n.val (IntKind.bits .u8)) - 1)).toNat = 2 ^ n.val - 1 := by decide +kernel
 rw [key ⟨n, by omega⟩]
 exact Nat.testBit_two_pow_sub_one n i
theorem zkc (l : TL) (hu : U8s l.Up) (hn : l.Names.length <= 20) (hs : ∀ s ∈ l.Names, s.length <= 1000) : Tot (zag l) fun r => r.2 = 0 -> LatOK l := by
 unfold zag
 simp only [zx, List.length_map]
 refine (zph l.Names hn hs).mono fun x53 h53 => ?_
 simp only [zG, zr, Bool.not_eq_true', Bool.not_eq_false', decide_eq_true_eq, decide_eq_false_iff_not]
 refine ⟨fun h h' => absurd h' h, fun h => ⟨fun _ h' => absurd h' (by decide), fun hlen => ?_⟩⟩
 obtain ⟨p1, p8⟩ := h53 h
 have hlen' : l.Up.length = l.Names.length := by omega
 rw [qI, qa, qa, zx]
 refine ⟨by omega, ?_⟩
 rw [Int.toNat_natCast]
 have hmask := zo6 l.Names.length p8
 have hm0 := zoo (e := IntKind.wrap .u8 (1 * 2 ^ min l.Names.length (IntKind.bits .u8)) - 1)
 revert hmask hm0
 generalize IntKind.wrap .u8 (IntKind.wrap .u8 (1 * 2 ^ min l.Names.length (IntKind.bits .u8)) - 1) = mask
 intro hmask hm0
 refine Tot.count l.Names.length (fun k s => s = (k : Int) /\ (∀ a, a < k -> up l a a = true) /\ ∀ a, a < k -> ∀ b, b < l.Names.length -> xS l a b) ?_ ⟨rfl, fun a ha => absurd ha (by omega), fun a ha => absurd ha (by omega)⟩
 rintro k _ hk ⟨rfl, hself, hrow⟩
 simp only [zG, zr, qa, Sum.elim_inl, Sum.elim_inr, decide_eq_true_eq, decide_eq_false_iff_not]
 refine ⟨fun hlt => ?_, fun hlt => ?_⟩
 . -- a round
   simp only [qo, Int.toNat_natCast]
   obtain ⟨x, hx⟩ := zv (l := l.Up) (i := k) (by omega)
   have hx' := hu.get hx
   refine ⟨by omega, x, hx, ?_⟩
   rw [zx]
   refine (zt2 x hx'.1 hx'.2).mono fun x91 _ => ?_
   simp only [zG, zr, qI, Sum.elim_inl, Sum.elim_inr, decide_eq_true_eq, decide_eq_false_iff_not, Int.toNat_natCast]
   refine ⟨fun _ h' => absurd h' (by decide), fun _ => ⟨by omega, fun _ h' => absurd h' (by decide), fun hs => ?_⟩⟩
   rw [zbr hx'.1 hx'.2 (by omega), <- jE hx] at hs
   have hkk : up l k k = true := by
    cases e : up l k k with
    | true => rfl
    | false => rw [e] at hs; simp at hs
   rw [zx]
   refine Tot.count l.Names.length (fun j s => s = (j : Int) /\ ∀ b, b < j -> xS l k b) ?_ ⟨rfl, fun b hb => absurd hb (by omega)⟩
   rintro j _ hj ⟨rfl, hr⟩
   have fin : (∀ b, b < l.Names.length -> xS l k b) -> k < l.Names.length /\ IntKind.wrap .i64 ((k : Int) + 1) = ((k + 1 : Nat) : Int) /\ (∀ a, a < k + 1 -> up l a a = true) /\ ∀ a, a < k + 1 -> ∀ b, b < l.Names.length -> xS l a b := by
    intro hall
    rw [w64 (by omega) (by omega)]
    refine ⟨by omega, by omega, fun a ha => ?_, fun a ha => ?_⟩
    . rcases Nat.lt_or_ge a k with g | g
      . exact hself a g
      . have : a = k := by omega
        subst this; exact hkk
    . rcases Nat.lt_or_ge a k with g | g
      . exact hrow a g
      . have : a = k := by omega
        subst this; exact hall
   have ext : ∀ {b}, xS l k j -> b < j + 1 -> xS l k b := by
    intro b h hb
    rcases Nat.lt_or_ge b j with g | g
    . exact hr b g
    . have : b = j := by omega
      subst this; exact h
   simp only [zG, zr, qa, qI, Sum.elim_inl, Sum.elim_inr, decide_eq_true_eq, decide_eq_false_iff_not, Bool.not_eq_true', Bool.not_eq_false', Int.toNat_natCast]
   refine ⟨fun hjl => ?_, fun hjl => ?_⟩
   . simp only [qo, Int.toNat_natCast]
     obtain ⟨y, hy⟩ := zv (l := l.Up) (i := j) (by omega)
     have hy' := hu.get hy
     refine ⟨by omega, y, hy, ?_⟩
     simp only [zG, zr, qa, qI, Sum.elim_inl, Sum.elim_inr, decide_eq_true_eq, decide_eq_false_iff_not, Bool.not_eq_true', Bool.not_eq_false', Int.toNat_natCast]
     rw [zbr hx'.1 hx'.2 (by omega), <- jE hx]
     rw [w64 (e := (l.Names.length : Int) - 1) (by omega) (by omega)]
     have stay : xS l k j -> ((j : Int) = (l.Names.length : Int) - 1 -> k < l.Names.length /\ IntKind.wrap .i64 ((k : Int) + 1) = ((k + 1 : Nat) : Int) /\ (∀ a, a < k + 1 -> up l a a = true) /\ ∀ a, a < k + 1 -> ∀ b, b < l.Names.length -> xS l a b) /\ (¬ (j : Int) = (l.Names.length : Int) - 1 -> j < l.Names.length /\ IntKind.wrap .i64 ((j : Int) + 1) = ((j + 1 : Nat) : Int) /\ ∀ b, b < j + 1 -> xS l k b) := by
      intro hrow'
      refine ⟨fun e => fin fun b hb => ext hrow' (by omega), fun e => ?_⟩
      rw [w64 (by omega) (by omega)]
      exact ⟨by omega, by omega, fun b hb => ext hrow' hb⟩
     refine ⟨by omega, fun hb => ?_, fun hb => ⟨fun hne => ⟨by omega, fun _ h' => absurd h' (by decide), fun hba => ⟨fun _ h' => absurd h' (by decide), fun han => ?_⟩⟩, fun heq => ⟨fun _ h' => absurd h' (by decide), fun han => ?_⟩⟩⟩
     . refine stay fun hup => ?_
       rw [hup] at hb; simp at hb
     . refine stay fun _ => ⟨fun _ => ?_, fun i hi hyi => ?_⟩
       . rw [zbr hy'.1 hy'.2 (by omega), <- jE hy] at hba
         cases e : up l j k with
         | false => rfl
         | true => rw [e] at hba; simp at hba
       . rw [zb4 hy'.1 hy'.2 hm0.1 hm0.2] at han
         have hand := zdo (a := y.toNat) (b := mask.toNat) (by omega)
         have := (zbe (by omega) (by omega) hx'.1 hx'.2).1 han i (by
          rw [Int.toNat_natCast, Nat.testBit_and, hmask, <- jE hy, hyi]; simp [hi])
         rw [jE hx]; exact this
     . refine stay fun _ => ⟨fun hne => absurd (by omega) hne, fun i hi hyi => ?_⟩
       rw [zb4 hy'.1 hy'.2 hm0.1 hm0.2] at han
       have hand := zdo (a := y.toNat) (b := mask.toNat) (by omega)
       have := (zbe (by omega) (by omega) hx'.1 hx'.2).1 han i (by
        rw [Int.toNat_natCast, Nat.testBit_and, hmask, <- jE hy, hyi]; simp [hi])
       rw [jE hx]; exact this
   . exact fin fun b hb => hr b (by omega)
 . -- the end
   have hk' : k = l.Names.length := by omega
   subst hk'
   have good : LatOK l := ⟨p1, p8, hlen', hu, hself, hrow⟩
   rw [zx]
   refine (zxo l hu p8 (by omega)).mono fun o ho => ?_
   obtain ⟨_, o1, o2, o3, o4⟩ := ho
   rw [zx]
   refine Tot.count l.Names.length (fun j s => s = (j : Int)) ?_ rfl
   rintro j _ hj rfl
   simp only [zG, zr, qa, zx, Sum.elim_inl, Sum.elim_inr, decide_eq_true_eq, decide_eq_false_iff_not]
   refine ⟨fun hlt => ?_, fun _ _ => good⟩
   refine Tot.count l.Names.length (fun i s => s = (i : Int)) ?_ rfl
   rintro i _ hi rfl
   simp only [zG, zr, qa, zx, Sum.elim_inl, Sum.elim_inr, decide_eq_true_eq, decide_eq_false_iff_not]
   refine ⟨fun hlt' => ?_, fun _ => ?_⟩
   . refine (za4 _ _ _ _ o1 o3 p8 (by omega) (by omega)).mono fun b1 _ => ⟨fun _ h' => absurd h' (by decide), fun _ => ?_⟩
     refine (ze8 _ _ _ _ o2 o4 p8 (by omega) (by omega)).mono fun b2 _ => ⟨fun _ h' => absurd h' (by decide), fun _ => ?_⟩
     rw [w64 (by omega) (by omega)]
     exact ⟨by omega, by omega⟩
   . rw [w64 (by omega) (by omega)]
     exact ⟨by omega, by omega⟩
end Go.Sx.O
noncomputable section
namespace Go.Sx.O
open Go
structure LatIn (l : TL) : Prop where
 u8 : U8s l.Up
 names : l.Names.length <= 20
 name : ∀ s ∈ l.Names, s.length <= 1000
def qD (l : TL) : Int × Int := (zag l).getD (0, 0)
theorem zas {l : TL} (h : LatIn l) : zag l = some (qD l) := by
 obtain ⟨r, e, _⟩ := zkc l h.u8 h.names h.name
 unfold qD; rw [e]; rfl
theorem wZ {l : TL} (h : LatIn l) (k : (qD l).2 = 0) : LatOK l := by
 obtain ⟨r, e, q⟩ := zkc l h.u8 h.names h.name
 have := zas h
 rw [e] at this; cases this
 exact q k
def wq (l : TL) (a : Int) : Bool := decide (0 <= a) && decide (a < (l.Names.length : Int))
def zco (l : TL) (xs : List Int) : Int := if (qD l).2 = 0 then (if xs.all (wq l) then 0 else 7) else (qD l).2
theorem zpi {l : TL} (h : LatIn l) (xs : List Int) (hx : xs.length <= 1000000000) : zrp l xs = some (zco l xs) := by
 unfold zrp zco
 rw [zas h]
 simp only [Option.bind_some]
 by_cases h0 : (qD l).2 = 0
 . simp only [h0, decide_true, Bool.not_true, cond_false, if_true]
   apply Tot.eq
   simp only [zx, List.length_map]
   refine Tot.count xs.length (fun k s => s = (k : Int) /\ (xs.take k).all (wq l) = true) ?_ ⟨rfl, by simp⟩
   rintro k _ hk ⟨rfl, hall⟩
   simp only [zG, zr, qa, qo, Sum.elim_inl, Sum.elim_inr, decide_eq_true_eq, decide_eq_false_iff_not, Int.toNat_natCast]
   refine ⟨fun hlt => ?_, fun hlt => ?_⟩
   . obtain ⟨x, hx'⟩ := zv (l := xs) (i := k) (by omega)
     have hm := List.mem_of_getElem? hx'
     have bad : wq l x = false -> (7 : Int) = if xs.all (wq l) = true then 0 else 7 := by
      intro e
      have : xs.all (wq l) = false := by
       rw [List.all_eq_false]; exact ⟨x, hm, by simp [e]⟩
      simp [this]
     refine ⟨by omega, x, hx', fun g => bad (by unfold wq; simp; omega), fun g1 => ⟨fun g => bad (by unfold wq; simp; omega), fun g2 => ?_⟩⟩
     rw [w64 (by omega) (by omega)]
     refine ⟨by omega, by omega, ?_⟩
     rw [List.take_add_one, hx', List.all_append, hall]
     simp [wq]; omega
   . rw [List.take_of_length_le (by omega)] at hall
     simp [hall]
 . simp only [h0, decide_false, Bool.not_false, cond_true, if_false]
def zsg (l : TL) (a o : Int) : Bool := decide ((qD l).2 = 0) && wq l a && wq l o && up l a.toNat o.toNat
end Go.Sx.O
end
namespace Go.Sx.O
open Go
theorem zb6 {α : Type} {l : List α} (p : α -> Bool) {ε : Type} {step : Int -> Option (Int ⊕ (ε ⊕ Int))} {e : ε} {G : Option Int}
 (hG : G = (lpO step 0).bind (Sum.elim (fun _ => some (-1)) some))
 (h1 : ∀ (k : Nat) x, l[k]? = some x -> k < l.length -> step (k : Int) = if p x then some (.inr (.inr (k : Int))) else some (.inl ((k : Int) + 1)))
 (h2 : step (l.length : Int) = some (.inr (.inl e))) : G.bind (fun x => some (decide (0 <= x))) = some (l.any p) := by
 rw [hG, zkl (l := l) p (d := .inl e) (g := .inr) (fun k x hx => h1 k x hx (by
  rcases Nat.lt_or_ge k l.length with g | g
  . exact g
  . rw [List.getElem?_eq_none g] at hx; cases hx)) h2]
 cases h : l.findIdx? p with
 | none =>
   have := List.findIdx?_eq_none_iff.1 h
   simp only [Option.bind_some, Sum.elim_inl]
   have hn : l.any p = false := by rw [List.any_eq_false]; intro x hx; simp [this x hx]
   rw [hn]; rfl
 | some i =>
   obtain ⟨hi, hp, _⟩ := List.findIdx?_eq_some_iff_getElem.1 h
   have hy : l.any p = true := List.any_eq_true.2 ⟨_, List.getElem_mem hi, hp⟩
   simp [hy]
theorem zkt (l : List Int) (h : l.length <= 1000000000) : zr5 l = some (l.any fun x => decide (x < 0)) := by
 unfold zr5 zyv
 refine zb6 (l := l) (fun x => decide (x < 0)) (e := ()) rfl (fun k x hx hlt => ?_) (by simp)
 simp only [List.length_map, Int.ofNat_lt, hlt, decide_true, cond_true, zh, Int.toNat_natCast, hx, Option.bind_some, zg, Int.natCast_nonneg, if_true, zrd]
 rw [w64 (by omega) (by omega)]
 cases decide (x < 0) <;> rfl
theorem zk4 (l : List Int) (h : l.length <= 1000000000) : zsq l = some (l.any fun x => !decide (x = 0)) := by
 unfold zsq zxm
 refine zb6 (l := l) (fun x => !decide (x = 0)) (e := ()) rfl (fun k x hx hlt => ?_) (by simp)
 simp only [List.length_map, Int.ofNat_lt, hlt, decide_true, cond_true, zh, Int.toNat_natCast, hx, Option.bind_some, zg, Int.natCast_nonneg, if_true, ztb]
 rw [w64 (by omega) (by omega)]
 cases decide (x = 0) <;> rfl
theorem zla (l : List Int) (h : l.length <= 1000000000) : zrk l = some (l.any fun x => decide (400 < x)) := by
 unfold zrk zyt
 refine zb6 (l := l) (fun x => decide (400 < x)) (e := ()) rfl (fun k x hx hlt => ?_) (by simp)
 simp only [List.length_map, Int.ofNat_lt, hlt, decide_true, cond_true, zh, Int.toNat_natCast, hx, Option.bind_some, zg, Int.natCast_nonneg, if_true, zr6]
 rw [w64 (by omega) (by omega)]
 cases decide (400 < x) <;> rfl
theorem za3 (x : Int) : Tot (zaj x) fun _ => True := by
 unfold zaj
 simp only [zG, zr, implies_true, and_self]
theorem zmm {α β : Type} {l : List α} {m : List β} (n : Nat) (p : α -> β -> Bool) {τ ε : Type} {step : Int -> Option (Int ⊕ (ε ⊕ τ))} {bad : Int -> τ} {e : ε} {Q : ε ⊕ τ -> Prop}
 (hn : n <= l.length) (hm : n <= m.length)
 (h1 : ∀ (k : Nat) x y, l[k]? = some x -> m[k]? = some y -> k < n -> step (k : Int) = if p x y then some (.inl ((k : Int) + 1)) else some (.inr (.inr (bad k))))
 (h2 : step (n : Int) = some (.inr (.inl e)))
 (q1 : (∀ (k : Nat) x y, l[k]? = some x -> m[k]? = some y -> k < n -> p x y = true) -> Q (.inl e))
 (q2 : ∀ (k : Nat) x y, l[k]? = some x -> m[k]? = some y -> k < n -> p x y = false -> (∀ (j : Nat) x y, l[j]? = some x -> m[j]? = some y -> j < k -> p x y = true) -> Q (.inr (bad k))) : Tot (lpO step 0) Q := by
 refine Tot.count n (fun k s => s = (k : Int) /\ ∀ (j : Nat) x y, l[j]? = some x -> m[j]? = some y -> j < k -> p x y = true) ?_ ⟨rfl, fun j _ _ _ _ hj => absurd hj (by omega)⟩
 rintro k _ hk ⟨rfl, hall⟩
 rcases Nat.lt_or_ge k n with g | g
 . obtain ⟨x, hx⟩ := zv (l := l) (i := k) (by omega)
   obtain ⟨y, hy⟩ := zv (l := m) (i := k) (by omega)
   rw [h1 k x y hx hy g]
   cases e : p x y with
   | true =>
     simp only [if_true, zr, Sum.elim_inl]
     refine ⟨g, by omega, fun j x' y' hx' hy' hj => ?_⟩
     rcases Nat.lt_or_ge j k with g' | g'
     . exact hall j x' y' hx' hy' g'
     . have : j = k := by omega
       subst this
       rw [hx] at hx'; rw [hy] at hy'
       cases hx'; cases hy'; exact e
   | false =>
     simp only [Bool.false_eq_true, if_false, zr, Sum.elim_inr]
     exact q2 k x y hx hy g e hall
 . have : k = n := by omega
   subst this
   rw [h2]
   simp only [zr, Sum.elim_inr]
   exact q1 fun j x y hx hy hj => hall j x y hx hy hj
theorem ue {α : Type} : ∀ {l m : List α}, l.length = m.length -> (∀ (k : Nat) x y, l[k]? = some x -> m[k]? = some y -> k < l.length -> x = y) -> l = m
 | [], [], _, _ => rfl
 | a :: l, b :: m, h, k => by
   have h0 := k 0 a b rfl rfl (by simp)
   subst h0
   rw [ue (l := l) (m := m) (by simpa using h) fun j x y hx hy hj => k (j + 1) x y (by simpa using hx) (by simpa using hy) (by simp; omega)]
 | [], _ :: _, h, _ => by simp at h
 | _ :: _, [], h, _ => by simp at h
open Go
theorem zi8 {l : List UInt8} {c : UInt8} (h : c ∉ l) : Lib.indexByte l c = -1 := by
 induction l with
 | nil => rfl
 | cons a l ih =>
   simp only [List.mem_cons, not_or] at h
   have : (a == c) = false := by simp; exact fun e => h.1 e.symm
   simp [Lib.indexByte, this, ih h.2]
theorem zv8 {r : Int} (h0 : 128 <= r) (h1 : r < 256) : ∃ x y, (Utf8.encode r).data.toList = [x, y] /\ 128 <= y.toNat := by
 refine ⟨UInt8.ofNat (0xC0 + r.toNat / 64), UInt8.ofNat (0x80 + r.toNat % 64), ?_, ?_⟩
 . have hv : Utf8.valid r = true := by unfold Utf8.valid; simp; omega
   unfold Utf8.encode
   simp only [hv, if_true]
   rw [if_neg (by omega), if_pos (by omega)]
 . rw [UInt8.toNat_ofNat']; omega
theorem zhr (s : List UInt8) (r : Int) (hs : ∀ c ∈ s, c.toNat < 128) (hl : s.length <= 1000) (h0 : 0 <= r) (h1 : r < 256) : Tot (zjd s r) fun _ => True := by
 unfold zjd
 have e0 : decide (0 <= r) = true := by simp [h0]
 simp only [e0, cond_true]
 rw [zG]
 refine ⟨fun _ => ?_, fun h2 => ?_⟩
 . rw [qa, zx]
   unfold zd7 qm
   simp only [Option.bind_some, zr]
 . simp only [decide_eq_false_iff_not] at h2
   obtain ⟨x, y, exy, hy⟩ := zv8 (r := r) (by omega) h1
   have e1 : decide (r = 65533) = false := by simp; omega
   simp only [e1, cond_false, exy]
   rw [zx]
   refine (za3 r).mono fun v _ => ?_
   rw [zG]
   refine ⟨fun _ => .mk trivial, fun _ => ?_⟩
   rw [qa]
   have e2 : IntKind.wrap .i64 (((List.length [x, y] : Nat) : Int) - 1) = 1 := rfl
   rw [e2, zx]
   refine Tot.loop (fun _ => 0) (fun _ => True) (fun _ _ => ?_) trivial
   rw [zG]
   refine ⟨fun h3 => ?_, fun _ => ?_⟩
   . simp only [decide_eq_true_eq] at h3
     obtain ⟨c, hc⟩ := zv (l := s) (i := 1) (by omega)
     have hc' := hs c (List.mem_of_getElem? hc)
     have e3 : (1 : Int).toNat = 1 := rfl
     simp only [qo, e3]
     refine ⟨by omega, c, hc, by omega, y, rfl, ?_⟩
     have e4 : decide ((c.toNat : Int) = (y.toNat : Int)) = false := by simp; omega
     simp only [e4, Bool.not_false, cond_true]
     rw [qa]
     have e5 : IntKind.wrap .i64 (1 + 1) = 2 := rfl
     rw [e5, qI]
     refine ⟨by omega, ?_⟩
     simp only [qo, e3]
     refine ⟨by omega, y, rfl, ?_⟩
     unfold zd7 qm
     simp only [Option.bind_some]
     have hn : ((y.toNat : Int).toNat.toUInt8) = y := by simp
     rw [hn, zi8 (fun hm => by
      have := hs y (List.mem_of_mem_take (List.mem_of_mem_drop hm))
      omega)]
     have e6 : decide ((-1 : Int) < 0) = true := rfl
     simp only [e6, cond_true, zr, Sum.elim_inr]
   . simp only [zr, Sum.elim_inr, Sum.elim_inl]
theorem zdn (s : List UInt8) (r : Int) (hs : ∀ c ∈ s, c.toNat < 128) (hl : s.length <= 1000) (h0 : 0 <= r) (h1 : r < 256) : Tot (xE s r) fun _ => True := by
 unfold xE
 rw [zx]
 exact (zhr s r hs hl h0 h1).mono fun _ _ => .mk trivial
theorem zn7 {r : Int} (h0 : 0 <= r) (h1 : r < 256) : IntKind.wrap .i32 r = r := by
 simp only [IntKind.wrap, IntKind.signed, IntKind.bits]
 have h3 : (2 : Int) ^ 32 = 4294967296 := by decide
 have h4 : (2 : Int) ^ (32 - 1) = 2147483648 := by decide
 simp only [h3, h4, Bool.true_and, decide_eq_true_eq, ge_iff_le]
 split <;> omega
end Go.Sx.O
