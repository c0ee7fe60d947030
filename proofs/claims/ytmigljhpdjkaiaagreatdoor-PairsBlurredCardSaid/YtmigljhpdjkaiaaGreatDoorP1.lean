/-
  An own text of this claim.
-/
import Derived.Test.YtmigljhpdjkaiaaGreatDoorA6
import Derived.Lib.Bytealg
namespace Go.Sx.O
structure TR where
 s_ : List UInt8
 at_ : Int
def zU (x : TR) : SV := .agg [SV.str x.s_, (SV.int .i64) x.at_]
theorem zCi {p : Nat -> Prop} (x : TR) : (zU x).nmd p := ⟨trivial, trivial, trivial⟩
structure TF where
 low_ : Int
 high_ : Int
def zCd (x : TF) : SV := .agg [(SV.int .i64) x.low_, (SV.int .i64) x.high_]
theorem zGn {p : Nat -> Prop} (x : TF) : (zCd x).nmd p := ⟨trivial, trivial, trivial⟩
structure TL where
 Names : List (List UInt8)
 Up : List (Int)
def zJ (x : TL) : SV := .agg [(zb 1 SV.str) x.Names, (zb 1 (SV.int .u8)) x.Up]
theorem zvl {p : Nat -> Prop} (x : TL) : (zJ x).nmd p := ⟨(ya fun _ => trivial), (ya fun _ => trivial), trivial⟩
structure TU where
 From : Int
 Goal : Int
 K : Int
def wG (x : TU) : SV := .agg [(SV.int .i64) x.From, (SV.int .i64) x.Goal, (SV.int .i64) x.K]
theorem zBi {p : Nat -> Prop} (x : TU) : (wG x).nmd p := ⟨trivial, trivial, trivial, trivial⟩
structure TG where
 Lattice : TL
 bottom_ : Int
def yS (x : TG) : SV := .agg [zJ x.Lattice, (SV.int .i64) x.bottom_]
theorem zGo {p : Nat -> Prop} (x : TG) : (yS x).nmd p := ⟨(zvl _), trivial, trivial⟩
structure TK where
 Kind : Int
 From : Int
 To : Int
 N : Int
 S : List UInt8
def zY (x : TK) : SV := .agg [(SV.int .i64) x.Kind, (SV.int .i64) x.From, (SV.int .i64) x.To, (SV.int .i64) x.N, SV.str x.S]
theorem zGp {p : Nat -> Prop} (x : TK) : (zY x).nmd p := ⟨trivial, trivial, trivial, trivial, trivial, trivial⟩
structure Tlattice_order where
 n_ : Int
 up_ : List (Int)
 down_ : List (Int)
def ql (x : Tlattice_order) : SV := .agg [(SV.int .i64) x.n_, (zp 8 1 (SV.int .u8)) x.up_, (zp 8 1 (SV.int .u8)) x.down_]
theorem zt8 {p : Nat -> Prop} (x : Tlattice_order) : (ql x).nmd p := ⟨trivial, (ya fun _ => trivial), (ya fun _ => trivial), trivial⟩
structure TY where
 Kind : Int
 Rank : Int
 Axes : (Int) × (Int)
 Data : Int
def qJ (x : TY) : SV := .agg [(SV.int .i64) x.Kind, (SV.int .i64) x.Rank, (zH 1 (SV.int .i64)) x.Axes, (SV.int .i64) x.Data]
theorem zn6 {p : Nat -> Prop} (x : TY) : (qJ x).nmd p := ⟨trivial, trivial, ⟨trivial, trivial, trivial⟩, trivial, trivial⟩
structure TA where
 Kind : Int
 Rank : Int
 Lens : (Int) × (Int)
 Cells : List (Int)
def qn (x : TA) : SV := .agg [(SV.int .i64) x.Kind, (SV.int .i64) x.Rank, (zH 1 (SV.int .i64)) x.Lens, (zb 1 (SV.int .i64)) x.Cells]
theorem zu8 {p : Nat -> Prop} (x : TA) : (qn x).nmd p := ⟨trivial, trivial, ⟨trivial, trivial, trivial⟩, (ya fun _ => trivial), trivial⟩
structure TV where
 Name : List UInt8
 Type_ : TY
def zO (x : TV) : SV := .agg [SV.str x.Name, qJ x.Type_]
theorem zB2 {p : Nat -> Prop} (x : TV) : (zO x).nmd p := ⟨trivial, (zn6 _), trivial⟩
structure TW where
 Name : List UInt8
 Value : TA
def zh (x : TW) : SV := .agg [SV.str x.Name, qn x.Value]
theorem zCf {p : Nat -> Prop} (x : TW) : (zh x).nmd p := ⟨trivial, (zu8 _), trivial⟩
structure TE where
 Site : Int
 Fold : Int
 From : Int
 Goal : Int
 Cells : Int
 Value : (Int) × (Int)
def zuu (x : TE) : SV := .agg [(SV.int .i64) x.Site, (SV.int .i64) x.Fold, (SV.int .i64) x.From, (SV.int .i64) x.Goal, (SV.int .i64) x.Cells, (zH 1 (SV.int .i64)) x.Value]
theorem zBe {p : Nat -> Prop} (x : TE) : (zuu x).nmd p := ⟨trivial, trivial, trivial, trivial, trivial, ⟨trivial, trivial, trivial⟩, trivial⟩
structure TEvEvent where
 Kind : Int
 Site : Int
 Steps : Int
 Label : Int
 Channel : List UInt8
 Value : TA
 E : Int
def zea (x : TEvEvent) : SV := .agg [(SV.int .i64) x.Kind, (SV.int .i64) x.Site, (SV.int .i64) x.Steps, (SV.int .i64) x.Label, SV.str x.Channel, qn x.Value, (SV.int .i64) x.E]
theorem zl8 {p : Nat -> Prop} (x : TEvEvent) : (zea x).nmd p := ⟨trivial, trivial, trivial, trivial, trivial, (zu8 _), trivial, trivial⟩
structure TP where
 Lattice : TL
 Channels : List (TR)
 Vars : List (TV)
 Rules : List (TU)
def zE (x : TP) : SV := .agg [zJ x.Lattice, (zb 2 zU) x.Channels, (zb 6 zO) x.Vars, (zb 3 wG) x.Rules]
theorem zGm {p : Nat -> Prop} (x : TP) : (zE x).nmd p := ⟨(zvl _), (ya fun _ => (zCi _)), (ya fun _ => (zB2 _)), (ya fun _ => (zBi _)), trivial⟩
structure Tinvigilatorlaw28_Types where
 V : TY
 Y : TY
 From : Int
 Goal : Int
 PC : Int
 EC : Int
 Lower : Int
 Top : Int
def xX (x : Tinvigilatorlaw28_Types) : SV := .agg [qJ x.V, qJ x.Y, (SV.int .i64) x.From, (SV.int .i64) x.Goal, (SV.int .i64) x.PC, (SV.int .i64) x.EC, (SV.int .i64) x.Lower, (SV.int .i64) x.Top]
theorem zjz {p : Nat -> Prop} (x : Tinvigilatorlaw28_Types) : (xX x).nmd p := ⟨(zn6 _), (zn6 _), trivial, trivial, trivial, trivial, trivial, trivial, trivial⟩
structure TC where
 Events : List (TEvEvent)
 Log : List (TE)
 Vars : List (TW)
 Steps : Int
def zCq (x : TC) : SV := .agg [(zb 11 zea) x.Events, (zb 7 zuu) x.Log, (zb 6 zh) x.Vars, (SV.int .i64) x.Steps]
theorem zGt {p : Nat -> Prop} (x : TC) : (zCq x).nmd p := ⟨(ya fun _ => (zl8 _)), (ya fun _ => (zBe _)), (ya fun _ => (zCf _)), trivial, trivial⟩
end Go.Sx.O
noncomputable section
namespace Go.Sx.O
def qi (a0 : List UInt8) (a1 : Int) : Option Int := some (Go.Lib.indexByte a0 a1.toNat.toUInt8)
def zEs : List Int := [0, 1, 2, 2, 3, 3, 3, 3, 4, 4, 4, 4, 4]
def zzd (a0 : Int) : Option Int := if 0 <= a0 then zEs[a0.toNat]? else none
end Go.Sx.O
end
namespace Go.Sx.O
open Go
def inK (k : IntKind) (n : Int) : Prop := k.min <= n /\ n <= k.max
def yZ {α : Type} (W : α -> Prop) (l : List α) : Prop := ∀ x ∈ l, W x
def zGv {α : Type} (W : α -> Prop) (l : List α) : Prop := (∀ x ∈ l, W x) /\ l.length <= 9223372036854775807
def w2 {α : Type} (W : α -> Prop) (p : α × α) : Prop := W p.1 /\ W p.2
def w3 {α : Type} (W : α -> Prop) (p : α × α × α) : Prop := W p.1 /\ W p.2.1 /\ W p.2.2
def wN {α : Type} (n : Nat) (W : α -> Prop) (l : List α) : Prop := l.length = n /\ ∀ x ∈ l, W x
structure W_TR (x : TR) : Prop where
 s_ : (fun _ => True) x.s_
 at_ : (inK .i64) x.at_
structure W_TF (x : TF) : Prop where
 low_ : (inK .i64) x.low_
 high_ : (inK .i64) x.high_
structure W_TL (x : TL) : Prop where
 Names : (yZ (fun _ => True)) x.Names
 Up : (yZ (inK .u8)) x.Up
structure W_TU (x : TU) : Prop where
 From : (inK .i64) x.From
 Goal : (inK .i64) x.Goal
 K : (inK .i64) x.K
structure W_TG (x : TG) : Prop where
 Lattice : W_TL x.Lattice
 bottom_ : (inK .i64) x.bottom_
structure W_TK (x : TK) : Prop where
 Kind : (inK .i64) x.Kind
 From : (inK .i64) x.From
 To : (inK .i64) x.To
 N : (inK .i64) x.N
 S : (fun _ => True) x.S
structure W_Tlattice_order (x : Tlattice_order) : Prop where
 n_ : (inK .i64) x.n_
 up_ : (wN 8 (inK .u8)) x.up_
 down_ : (wN 8 (inK .u8)) x.down_
structure W_TY (x : TY) : Prop where
 Kind : (inK .i64) x.Kind
 Rank : (inK .i64) x.Rank
 Axes : (w2 (inK .i64)) x.Axes
 Data : (inK .i64) x.Data
structure W_TA (x : TA) : Prop where
 Kind : (inK .i64) x.Kind
 Rank : (inK .i64) x.Rank
 Lens : (w2 (inK .i64)) x.Lens
 Cells : (yZ (inK .i64)) x.Cells
structure W_TV (x : TV) : Prop where
 Name : (fun _ => True) x.Name
 Type_ : W_TY x.Type_
structure W_TW (x : TW) : Prop where
 Name : (fun _ => True) x.Name
 Value : W_TA x.Value
structure W_TE (x : TE) : Prop where
 Site : (inK .i64) x.Site
 Fold : (inK .i64) x.Fold
 From : (inK .i64) x.From
 Goal : (inK .i64) x.Goal
 Cells : (inK .i64) x.Cells
 Value : (w2 (inK .i64)) x.Value
structure W_TEvEvent (x : TEvEvent) : Prop where
 Kind : (inK .i64) x.Kind
 Site : (inK .i64) x.Site
 Steps : (inK .i64) x.Steps
 Label : (inK .i64) x.Label
 Channel : (fun _ => True) x.Channel
 Value : W_TA x.Value
 E : (inK .i64) x.E
structure W_TP (x : TP) : Prop where
 Lattice : W_TL x.Lattice
 Channels : (yZ W_TR) x.Channels
 Vars : (yZ W_TV) x.Vars
 Rules : (yZ W_TU) x.Rules
structure W_Tinvigilatorlaw28_Types (x : Tinvigilatorlaw28_Types) : Prop where
 V : W_TY x.V
 Y : W_TY x.Y
 From : (inK .i64) x.From
 Goal : (inK .i64) x.Goal
 PC : (inK .i64) x.PC
 EC : (inK .i64) x.EC
 Lower : (inK .i64) x.Lower
 Top : (inK .i64) x.Top
structure W_TC (x : TC) : Prop where
 Events : (yZ W_TEvEvent) x.Events
 Log : (yZ W_TE) x.Log
 Vars : (yZ W_TW) x.Vars
 Steps : (inK .i64) x.Steps
end Go.Sx.O
noncomputable section
namespace Go.Sx.O
def Fz0 (b : List (List UInt8)) : Option (Bool) :=
 Option.bind (
 lpO (fun (a : Int) =>
 cond (decide (a < (↑(List.length (List.map SV.str b)) : Int)))
 (cond (decide (a < 20))
 (zi b a fun c =>
 cond (decide (100 < (↑(List.length c) : Int)))
 (some (.inr (.inr (true))))
 (zg (IntKind.wrap .i64 (a + 1)) fun d =>
 some (.inl d)))
 (some (.inr (.inl ()))))
 (some (.inr (.inl ())))) (0))
 (Sum.elim (fun (_ : Unit) =>
 some (decide (12 < (↑(List.length (List.map SV.str b)) : Int)))) some)
def Fz1 (a : TL) : Option (Bool) :=
 (Fz0 (a.Names)).bind fun b =>
 cond b
 (some (true))
 (some (decide (12 < (↑(List.length (List.map (SV.int .u8) a.Up)) : Int))))
def Fz2 (a : TP) : Option (Bool) :=
 Option.bind (
 lpO (fun (s3 : Int) =>
 cond (decide (s3 < (↑(List.length (List.map zU a.Channels)) : Int)))
 (cond (decide (s3 < 25))
 (zi (a.Channels) s3 fun g =>
 cond (decide (100 < (↑(List.length g.s_) : Int)))
 (some (.inr (.inr (true))))
 (zg (IntKind.wrap .i64 (s3 + 1)) fun c =>
 some (.inl c)))
 (some (.inr (.inl ()))))
 (some (.inr (.inl ())))) (0))
 (Sum.elim (fun (_ : Unit) =>
 Option.bind (
 lpO (fun (b : Int) =>
 cond (decide (b < (↑(List.length (List.map zO a.Vars)) : Int)))
 (cond (decide (b < 45))
 (zi (a.Vars) b fun d =>
 cond (decide (100 < (↑(List.length d.Name) : Int)))
 (some (.inr (.inr (true))))
 (zg (IntKind.wrap .i64 (b + 1)) fun e =>
 some (.inl e)))
 (some (.inr (.inl ()))))
 (some (.inr (.inl ())))) (0))
 (Sum.elim (fun (_ : Unit) =>
 (Fz1 (a.Lattice)).bind fun f =>
 cond f
 (some (true))
 (cond (decide (20 < (↑(List.length (List.map zU a.Channels)) : Int)))
 (some (true))
 (cond (decide (40 < (↑(List.length (List.map zO a.Vars)) : Int)))
 (some (true))
 (some (decide (70 < (↑(List.length (List.map wG a.Rules)) : Int))))))) some)) some)
def Fz3 (b : List TW) : Option (Bool) :=
 Option.bind (
 lpO (fun (a : Int × Int) =>
 cond (decide (a.fst < (↑(List.length (List.map zh b)) : Int)))
 (cond (decide (a.fst < 50))
 (zi b (a.fst) fun c =>
 zg (IntKind.wrap .i64 (a.snd + (↑(List.length (List.map (SV.int .i64) c.Value.Cells)) : Int))) fun d =>
 zi b (a.fst) fun e =>
 cond (decide (100 < (↑(List.length e.Name) : Int)))
 (some (.inr (.inr (true))))
 (zg (IntKind.wrap .i64 (a.fst + 1)) fun f =>
 some (.inl ((f, d)))))
 (some (.inr (.inl (a.snd)))))
 (some (.inr (.inl (a.snd))))) ((0, 0)))
 (Sum.elim (fun (g : Int) =>
 cond (decide (1000 < g))
 (some (true))
 (some (decide (40 < (↑(List.length (List.map zh b)) : Int))))) some)
def Fz4 (d : TP) (e : List TW) (f : List TW) : Option (Bool) :=
 (Fz2 d).bind fun a =>
 cond a
 (some (true))
 ((Fz3 e).bind fun b =>
 cond b
 (some (true))
 ((Fz3 f).bind fun c =>
 some c))
def Fz5 (a : Int) : Option (Bool) :=
 cond (decide (97 <= a))
 (some (decide (a <= 122)))
 (some (false))
def Fz6 (a : Int) : Option (Bool) :=
 cond (decide (48 <= a))
 (some (decide (a <= 57)))
 (some (false))
def Fz7 (b : List UInt8) : Option (Bool) :=
 cond (decide ((↑(List.length b) : Int) < 1))
 (some (false))
 (cond (decide (16 < (↑(List.length b) : Int)))
 (some (false))
 (zi b (0) fun c =>
 (Fz5 ((↑(UInt8.toNat c) : Int))).bind fun d =>
 cond (!d)
 (some (false))
 (Option.bind (
 lpO (fun (a : Int) =>
 cond (decide (a < (↑(List.length b) : Int)))
 (zi b a fun e =>
 (Fz5 ((↑(UInt8.toNat e) : Int))).bind fun f =>
 cond (!f)
 (zi b a fun g =>
 (Fz6 ((↑(UInt8.toNat g) : Int))).bind fun i =>
 cond (!i)
 (zi b a fun j =>
 cond (!decide ((↑(UInt8.toNat j) : Int) = 45))
 (some (.inr (.inr (false))))
 (zg (IntKind.wrap .i64 (a + 1)) fun k =>
 some (.inl k)))
 (zg (IntKind.wrap .i64 (a + 1)) fun l =>
 some (.inl l)))
 (zg (IntKind.wrap .i64 (a + 1)) fun m =>
 some (.inl m)))
 (some (.inr (.inl ())))) (0))
 (Sum.elim (fun (_ : Unit) =>
 some (true)) some))))
def Fz8 (b : List (List UInt8)) : Option (Int × Int) :=
 cond (decide ((↑(List.length (List.map SV.str b)) : Int) < 1))
 (some (((-1 : Int), 3)))
 (cond (decide (8 < (↑(List.length (List.map SV.str b)) : Int)))
 (some (((-1 : Int), 3)))
 (Option.bind (
 lpO (fun (a : Int) =>
 cond (decide (a < (↑(List.length (List.map SV.str b)) : Int)))
 (zi b a fun d =>
 (Fz7 d).bind fun e =>
 cond (!e)
 (some (.inr (.inr ((a, 6)))))
 (Option.bind (
 lpO (fun (c : Int) =>
 cond (decide (c < a))
 (zi b c fun f =>
 zi b a fun g =>
 cond (decide (f = g))
 (some (.inr (.inr (.inr (.inr ((a, 8)))))))
 (zg (IntKind.wrap .i64 (c + 1)) fun i =>
 some (.inl i)))
 (some (.inr (.inl ())))) (0))
 (Sum.elim (fun (_ : Unit) =>
 zg (IntKind.wrap .i64 (a + 1)) fun j =>
 some (.inl j)) some)))
 (some (.inr (.inl ())))) (0))
 (Sum.elim (fun (_ : Unit) =>
 some ((0, 0))) some)))
def Fz9 (d : TL) (a : Int) (b : Int) : Option (Bool) :=
 cond (decide (0 <= a))
 (cond (decide (a < (↑(List.length (List.map (SV.int .u8) d.Up)) : Int)))
 (cond (decide (0 <= b))
 (zi (d.Up) a fun c =>
 zk (0 <= b) (
 some (decide (Int.tmod (Int.fdiv c (2 ^ min (Int.toNat b) (IntKind.bits IntKind.u8))) 2 = 1))))
 (some (false)))
 (some (false)))
 (some (false))
def zry (b : TL) (e : Int) : Option (Bool) :=
 zi (b.Up) e fun p =>
 zg (IntKind.wrap .i64 p) fun f =>
 zk ((0 : Int) <= (↑(List.length (List.map SV.str b.Names)) : Int)) (
 cond (decide (0 < Int.fdiv f (2 ^ min (Int.toNat (↑(List.length (List.map SV.str b.Names)) : Int)) (IntKind.bits IntKind.i64))))
 (some (false))
 ((Fz9 b e e).bind fun g =>
 cond (!g)
 (some (false))
 (Option.bind (
 lpO (fun (a : Int) =>
 cond (decide (a < (↑(List.length (List.map SV.str b.Names)) : Int)))
 ((Fz9 b e a).bind fun i =>
 cond (!i)
 (zg (IntKind.wrap .i64 (a + 1)) fun j =>
 some (.inl j))
 (zi (b.Up) a fun k =>
 zg (IntKind.wrap .i64 k) fun c =>
 zk ((0 : Int) <= (↑(List.length (List.map SV.str b.Names)) : Int)) (
 zg (IntKind.wrap .i64 (1 * 2 ^ min (Int.toNat (↑(List.length (List.map SV.str b.Names)) : Int)) (IntKind.bits IntKind.i64))) fun l =>
 zg (IntKind.wrap .i64 (l - 1)) fun d =>
 cond (!decide (a = e))
 ((Fz9 b a e).bind fun m =>
 cond m
 (some (.inr (.inr (false))))
 (cond (!decide (bits BinOp.and IntKind.i64 (bits BinOp.and IntKind.i64 c d) f = bits BinOp.and IntKind.i64 c d))
 (some (.inr (.inr (false))))
 (zg (IntKind.wrap .i64 (a + 1)) fun n =>
 some (.inl n))))
 (cond (!decide (bits BinOp.and IntKind.i64 (bits BinOp.and IntKind.i64 c d) f = bits BinOp.and IntKind.i64 c d))
 (some (.inr (.inr (false))))
 (zg (IntKind.wrap .i64 (a + 1)) fun o =>
 some (.inl o))))))
 (some (.inr (.inl ())))) (0))
 (Sum.elim (fun (_ : Unit) =>
 some (true)) some))))
def zm7 (c : TL) : Option (List Int) :=
 zk ((0 : Int) <= (↑(List.length (List.map SV.str c.Names)) : Int) /\ (↑(List.length (List.map SV.str c.Names)) : Int) = (↑(List.length (List.map SV.str c.Names)) : Int) /\ (↑(List.length (List.map SV.str c.Names)) : Int) <= (70368744177664 : Int) /\ (↑(List.length (List.map SV.str c.Names)) : Int) * (↑(1 : Nat) : Int) <= (70368744177664 : Int)) (
 Option.bind (
 lpO (fun (b : Int × List Int) =>
 cond (decide (b.fst < (↑(List.length (List.map SV.str c.Names)) : Int)))
 (Option.bind (
 lpO (fun (a : Int × List Int) =>
 cond (decide (a.fst < (↑(List.length (List.map SV.str c.Names)) : Int)))
 ((Fz9 c (b.fst) (a.fst)).bind fun d =>
 cond d
 (zk (0 <= a.fst /\ a.fst < (↑(List.length (List.map (SV.int .u8) a.snd)) : Int)) (
 zi (a.snd) ((↑(Int.toNat a.fst) : Int)) fun e =>
 zk (0 <= b.fst) (
 zg (IntKind.wrap .u8 (1 * 2 ^ min (Int.toNat b.fst) (IntKind.bits IntKind.u8))) fun f =>
 zk (0 <= a.fst /\ a.fst < (↑(List.length (List.map (SV.int .u8) a.snd)) : Int)) (
 zi (a.snd) ((↑(Int.toNat a.fst) : Int)) fun _ =>
 zg (IntKind.wrap .i64 (a.fst + 1)) fun g =>
 some (.inl ((g, List.set a.snd (Int.toNat a.fst) (bits BinOp.or IntKind.u8 e f))))))))
 (zg (IntKind.wrap .i64 (a.fst + 1)) fun i =>
 some (.inl ((i, a.snd)))))
 (some (.inr (.inl (a.snd))))) ((0, b.snd)))
 (Sum.elim (fun (j : List Int) =>
 zg (IntKind.wrap .i64 (b.fst + 1)) fun k =>
 some (.inl ((k, j)))) some))
 (some (.inr (.inl (b.snd))))) ((0, List.replicate (Int.toNat (↑(List.length (List.map SV.str c.Names)) : Int)) 0)))
 (Sum.elim (fun (l : List Int) =>
 some l) some))
def ziw (b : List Int) (g : Int) (i : Int) : Option (Int) :=
 zi b g fun c =>
 zi b i fun d =>
 Option.bind (
 lpO (fun (a : Int) =>
 cond (decide (a < (↑(List.length (List.map (SV.int .u8) b)) : Int)))
 (zi b a fun e =>
 cond (decide (e = bits BinOp.and IntKind.u8 c d))
 (some (.inr (.inr a)))
 (zg (IntKind.wrap .i64 (a + 1)) fun f =>
 some (.inl f)))
 (some (.inr (.inl ())))) (0))
 (Sum.elim (fun (_ : Unit) =>
 some ((-1 : Int))) some)
def ziy (b : TL) : Option (Int × Int) :=
 (Fz8 (b.Names)).bind fun e =>
 cond (!decide (e.snd = 0))
 (some e)
 (cond (!decide ((↑(List.length (List.map (SV.int .u8) b.Up)) : Int) = (↑(List.length (List.map SV.str b.Names)) : Int)))
 (some (((-1 : Int), 6)))
 (Option.bind (
 lpO (fun (d : Int) =>
 cond (decide (d < (↑(List.length (List.map SV.str b.Names)) : Int)))
 ((zry b d).bind fun f =>
 cond (!f)
 (some (.inr (.inr ((d, 6)))))
 (zg (IntKind.wrap .i64 (d + 1)) fun g =>
 some (.inl g)))
 (some (.inr (.inl ())))) (0))
 (Sum.elim (fun (_ : Unit) =>
 (zm7 b).bind fun i =>
 Option.bind (
 lpO (fun (a : Int) =>
 cond (decide (a < (↑(List.length (List.map SV.str b.Names)) : Int)))
 (Option.bind (
 lpO (fun (c : Int) =>
 cond (decide (c < (↑(List.length (List.map SV.str b.Names)) : Int)))
 ((ziw (b.Up) a c).bind fun j =>
 cond (decide (j < 0))
 (some (.inr (.inr (.inr (.inr ((a, 4)))))))
 ((ziw i a c).bind fun k =>
 cond (decide (k < 0))
 (some (.inr (.inr (.inr (.inr ((a, 4)))))))
 (zg (IntKind.wrap .i64 (c + 1)) fun l =>
 some (.inl l))))
 (some (.inr (.inl ())))) (0))
 (Sum.elim (fun (_ : Unit) =>
 zg (IntKind.wrap .i64 (a + 1)) fun m =>
 some (.inl m)) some))
 (some (.inr (.inl ())))) (0))
 (Sum.elim (fun (_ : Unit) =>
 some ((0, 0))) some)) some)))
def ztf : Option (List (List UInt8)) :=
 some ([(ByteArray.mk #[110, 101, 103]).data.toList, (ByteArray.mk #[97, 98, 115]).data.toList, (ByteArray.mk #[110, 111, 116]).data.toList, (ByteArray.mk #[115, 104, 97, 112, 101]).data.toList, (ByteArray.mk #[114, 97, 118, 101, 108]).data.toList, (ByteArray.mk #[114, 101, 118, 101, 114, 115, 101]).data.toList, (ByteArray.mk #[102, 108, 105, 112]).data.toList, (ByteArray.mk #[105, 111, 116, 97]).data.toList, (ByteArray.mk #[115, 117, 109]).data.toList, (ByteArray.mk #[108, 101, 97, 115, 116]).data.toList, (ByteArray.mk #[109, 111, 115, 116]).data.toList, (ByteArray.mk #[99, 111, 117, 110, 116]).data.toList, (ByteArray.mk #[115, 99, 97, 110]).data.toList, (ByteArray.mk #[103, 114, 97, 100, 101]).data.toList, (ByteArray.mk #[97, 100, 100]).data.toList, (ByteArray.mk #[115, 117, 98]).data.toList, (ByteArray.mk #[109, 117, 108]).data.toList, (ByteArray.mk #[100, 105, 118]).data.toList, (ByteArray.mk #[109, 111, 100]).data.toList, (ByteArray.mk #[112, 108, 117, 115]).data.toList, (ByteArray.mk #[109, 105, 110, 117, 115]).data.toList, (ByteArray.mk #[116, 105, 109, 101, 115]).data.toList, (ByteArray.mk #[101, 113]).data.toList, (ByteArray.mk #[110, 101]).data.toList, (ByteArray.mk #[108, 116]).data.toList, (ByteArray.mk #[108, 101]).data.toList, (ByteArray.mk #[103, 116]).data.toList, (ByteArray.mk #[103, 101]).data.toList, (ByteArray.mk #[97, 110, 100]).data.toList, (ByteArray.mk #[111, 114]).data.toList, (ByteArray.mk #[109, 105, 110]).data.toList, (ByteArray.mk #[109, 97, 120]).data.toList, (ByteArray.mk #[116, 97, 107, 101]).data.toList, (ByteArray.mk #[100, 114, 111, 112]).data.toList, (ByteArray.mk #[102, 105, 108, 108]).data.toList, (ByteArray.mk #[103, 114, 105, 100]).data.toList, (ByteArray.mk #[99, 97, 116]).data.toList, (ByteArray.mk #[97, 116]).data.toList, (ByteArray.mk #[105, 110]).data.toList, (ByteArray.mk #[112, 105, 99, 107]).data.toList])
def zr7 (f : List UInt8) : Option (Int × Int) :=
 (ztf).bind fun b =>
 Option.bind (
 lpO (fun (a : Int) =>
 cond (decide (a < (↑(List.length (List.map SV.str b)) : Int)))
 (zi b a fun c =>
 cond (decide (c = f))
 (zg (IntKind.wrap .i64 (a + 1)) fun d =>
 some (.inr (.inr ((d, 0)))))
 (zg (IntKind.wrap .i64 (a + 1)) fun e =>
 some (.inl e)))
 (some (.inr (.inl ())))) (0))
 (Sum.elim (fun (_ : Unit) =>
 some ((0, 4))) some)
def zod (a : Int) : Option (Bool) :=
 cond (decide (97 <= a))
 (some (decide (a <= 122)))
 (some (false))
def zqx (a : Int) : Option (Bool) :=
 cond (decide (48 <= a))
 (some (decide (a <= 57)))
 (some (false))
def zbr (b : List UInt8) : Option (Bool) :=
 cond (decide (b = (ByteArray.mk #[]).data.toList))
 (some (false))
 (zi b (0) fun c =>
 (zod ((↑(UInt8.toNat c) : Int))).bind fun d =>
 cond (!d)
 (some (false))
 (Option.bind (
 lpO (fun (a : Int) =>
 cond (decide (a < (↑(List.length b) : Int)))
 (zi b a fun e =>
 (zod ((↑(UInt8.toNat e) : Int))).bind fun f =>
 cond (!f)
 (zi b a fun g =>
 (zqx ((↑(UInt8.toNat g) : Int))).bind fun i =>
 cond (!i)
 (some (.inr (.inr (false))))
 (zg (IntKind.wrap .i64 (a + 1)) fun j =>
 some (.inl j)))
 (zg (IntKind.wrap .i64 (a + 1)) fun k =>
 some (.inl k)))
 (some (.inr (.inl ())))) (0))
 (Sum.elim (fun (_ : Unit) =>
 some (true)) some)))
def zfk (a : List UInt8) : Option (List Int × Bool) :=
 Option.bind (
 lpO (fun (_ : Unit) =>
 cond (decide (0 < (↑(List.length a) : Int)))
 (none)
 (some (.inr (.inl ())))) (()))
 (Sum.elim (fun (_ : Unit) =>
 some (([], true))) some)
def ztm (a : TK) : Option (Int) :=
 cond (decide (a.Kind < 1))
 (some (2))
 (cond (decide (9 < a.Kind))
 (some (2))
 (cond (!decide (a.Kind = 2))
 (cond (!decide (a.N = 0))
 (some (2))
 (cond (!decide (a.Kind = 1))
 (cond (!decide (a.Kind = 3))
 (cond (!decide (a.S = (ByteArray.mk #[]).data.toList))
 (some (2))
 (cond (decide (a.Kind = 1))
 ((zbr (a.S)).bind fun b =>
 cond (!b)
 (some (6))
 (cond (decide (16 < (↑(List.length a.S) : Int)))
 (some (3))
 (some (0))))
 (cond (decide (a.Kind = 3))
 ((zfk (a.S)).bind fun c =>
 cond (!c.snd)
 (some (6))
 (cond (decide (2000 < (↑(List.length a.S) : Int)))
 (some (3))
 (some (0))))
 (some (0)))))
 (cond (decide (a.Kind = 1))
 ((zbr (a.S)).bind fun d =>
 cond (!d)
 (some (6))
 (cond (decide (16 < (↑(List.length a.S) : Int)))
 (some (3))
 (some (0))))
 (cond (decide (a.Kind = 3))
 ((zfk (a.S)).bind fun e =>
 cond (!e.snd)
 (some (6))
 (cond (decide (2000 < (↑(List.length a.S) : Int)))
 (some (3))
 (some (0))))
 (some (0)))))
 (cond (decide (a.Kind = 1))
 ((zbr (a.S)).bind fun f =>
 cond (!f)
 (some (6))
 (cond (decide (16 < (↑(List.length a.S) : Int)))
 (some (3))
 (some (0))))
 (cond (decide (a.Kind = 3))
 ((zfk (a.S)).bind fun g =>
 cond (!g.snd)
 (some (6))
 (cond (decide (2000 < (↑(List.length a.S) : Int)))
 (some (3))
 (some (0))))
 (some (0))))))
 (cond (!decide (a.Kind = 1))
 (cond (!decide (a.Kind = 3))
 (cond (!decide (a.S = (ByteArray.mk #[]).data.toList))
 (some (2))
 (cond (decide (a.Kind = 1))
 ((zbr (a.S)).bind fun i =>
 cond (!i)
 (some (6))
 (cond (decide (16 < (↑(List.length a.S) : Int)))
 (some (3))
 (some (0))))
 (cond (decide (a.Kind = 3))
 ((zfk (a.S)).bind fun j =>
 cond (!j.snd)
 (some (6))
 (cond (decide (2000 < (↑(List.length a.S) : Int)))
 (some (3))
 (some (0))))
 (some (0)))))
 (cond (decide (a.Kind = 1))
 ((zbr (a.S)).bind fun k =>
 cond (!k)
 (some (6))
 (cond (decide (16 < (↑(List.length a.S) : Int)))
 (some (3))
 (some (0))))
 (cond (decide (a.Kind = 3))
 ((zfk (a.S)).bind fun l =>
 cond (!l.snd)
 (some (6))
 (cond (decide (2000 < (↑(List.length a.S) : Int)))
 (some (3))
 (some (0))))
 (some (0)))))
 (cond (decide (a.Kind = 1))
 ((zbr (a.S)).bind fun m =>
 cond (!m)
 (some (6))
 (cond (decide (16 < (↑(List.length a.S) : Int)))
 (some (3))
 (some (0))))
 (cond (decide (a.Kind = 3))
 ((zfk (a.S)).bind fun n =>
 cond (!n.snd)
 (some (6))
 (cond (decide (2000 < (↑(List.length a.S) : Int)))
 (some (3))
 (some (0))))
 (some (0)))))))
def zso (d : List UInt8) : Option (Bool) :=
 Option.bind (
 lpO (fun (a : Int) =>
 cond (decide (a < (↑(10 : Nat) : Int)))
 (zk (0 <= a /\ a < (↑(10 : Nat) : Int)) (
 zi ([(ByteArray.mk #[118, 97, 114]).data.toList, (ByteArray.mk #[100, 101, 102]).data.toList, (ByteArray.mk #[111, 117, 116]).data.toList, (ByteArray.mk #[105, 102]).data.toList, (ByteArray.mk #[101, 108, 115, 101]).data.toList, (ByteArray.mk #[119, 104, 105, 108, 101]).data.toList, (ByteArray.mk #[101, 110, 100]).data.toList, (ByteArray.mk #[114, 101, 108, 101, 97, 115, 101]).data.toList, (ByteArray.mk #[105, 110, 116]).data.toList, (ByteArray.mk #[99, 104, 97, 114]).data.toList]) ((↑(Int.toNat a) : Int)) fun b =>
 cond (decide (b = d))
 (some (.inr (.inr (true))))
 (zg (IntKind.wrap .i64 (a + 1)) fun c =>
 some (.inl c))))
 (some (.inr (.inl ())))) (0))
 (Sum.elim (fun (_ : Unit) =>
 some (false)) some)
def zsv (a : List UInt8) : Option (Bool) :=
 (zr7 a).bind fun b =>
 (ztm (TK.mk 1 0 0 0 a)).bind fun c =>
 cond (decide (c = 0))
 (cond (!decide (b.snd = 0))
 ((zso a).bind fun d =>
 some (!d))
 (some (false)))
 (some (false))
def zmq (e : List UInt8) (f : List (List UInt8)) : Option (Int) :=
 (zsv e).bind fun b =>
 cond (!b)
 (some (24))
 (Option.bind (
 lpO (fun (a : Int) =>
 cond (decide (a < (↑(List.length (List.map SV.str f)) : Int)))
 (zi f a fun c =>
 cond (decide (c = e))
 (some (.inr (.inr (8))))
 (zg (IntKind.wrap .i64 (a + 1)) fun d =>
 some (.inl d)))
 (some (.inr (.inl ())))) (0))
 (Sum.elim (fun (_ : Unit) =>
 some (0)) some))
def un (b : TL) (a : Int) : Option (Bool) :=
 cond (decide (0 <= a))
 (some (decide (a < (↑(List.length (List.map SV.str b.Names)) : Int))))
 (some (false))
def zrf (c : TP) : Option (Int × Int) :=
 cond (decide (16 < (↑(List.length (List.map zU c.Channels)) : Int)))
 (some (((-1 : Int), 3)))
 (Option.bind (
 lpO (fun (a : Int × List (List UInt8)) =>
 cond (decide (a.fst < (↑(List.length (List.map zU c.Channels)) : Int)))
 (zi (c.Channels) (a.fst) fun d =>
 (zmq (d.s_) (a.snd)).bind fun b =>
 cond (decide (b = 0))
 (zi (c.Channels) (a.fst) fun e =>
 (un (c.Lattice) (e.at_)).bind fun f =>
 cond (!f)
 (some (.inr (.inr ((a.fst, 7)))))
 (cond (!decide (b = 0))
 (some (.inr (.inr ((a.fst, b)))))
 (zi (c.Channels) (a.fst) fun g =>
 zk ((List.length (List.map SV.str a.snd) + (1 : Nat)) * (16 : Nat) <= (70368744177664 : Nat)) (
 zg (IntKind.wrap .i64 (a.fst + 1)) fun i =>
 some (.inl ((i, a.snd ++ [g.s_])))))))
 (cond (!decide (b = 0))
 (some (.inr (.inr ((a.fst, b)))))
 (zi (c.Channels) (a.fst) fun j =>
 zk ((List.length (List.map SV.str a.snd) + (1 : Nat)) * (16 : Nat) <= (70368744177664 : Nat)) (
 zg (IntKind.wrap .i64 (a.fst + 1)) fun k =>
 some (.inl ((k, a.snd ++ [j.s_])))))))
 (some (.inr (.inl ())))) ((0, [])))
 (Sum.elim (fun (_ : Unit) =>
 some ((0, 0))) some))
def zsh (b : TL) (c : Int) (d : Int) : Option (Int) :=
 (ziy b).bind fun a =>
 cond (decide (a.snd = 0))
 (cond (decide (c < 0))
 (some (7))
 (cond (decide ((↑(List.length (List.map SV.str b.Names)) : Int) <= c))
 (some (7))
 (cond (decide (d < 0))
 (some (7))
 (cond (decide ((↑(List.length (List.map SV.str b.Names)) : Int) <= d))
 (some (7))
 (some (a.snd))))))
 (some (a.snd))
def znn (c : TL) : Option (Int × Int) :=
 (zsh c (0) (0)).bind fun b =>
 cond (!decide (b = 0))
 (some ((0, b)))
 ((zm7 c).bind fun d =>
 Option.bind (
 lpO (fun (a : Int × Int) =>
 cond (decide (a.fst < (↑(List.length (List.map SV.str c.Names)) : Int)))
 ((ziw d (a.fst) (a.snd)).bind fun e =>
 zg (IntKind.wrap .i64 (a.fst + 1)) fun f =>
 some (.inl ((f, e))))
 (some (.inr (.inl (a.snd))))) ((0, 0)))
 (Sum.elim (fun (g : Int) =>
 some ((g, 0))) some))
def znq (b : TL) (a : TY) : Option (Int) :=
 (ziy b).bind fun g =>
 cond (!decide (g.snd = 0))
 (some (g.snd))
 (cond (!decide (a.Kind = 1))
 (cond (!decide (a.Kind = 2))
 (some (7))
 (cond (decide (a.Rank < 0))
 (some (7))
 (cond (decide (2 < a.Rank))
 (some (7))
 ((un b (a.Axes.fst)).bind fun i =>
 cond (!i)
 (some (7))
 ((un b (a.Axes.snd)).bind fun j =>
 cond (!j)
 (some (7))
 ((un b (a.Data)).bind fun k =>
 cond (!k)
 (some (7))
 ((znn b).bind fun l =>
 Option.bind (
 lpO (fun (c : Int) =>
 cond (decide (c < 2))
 (zk (0 <= c /\ c < (↑(2 : Nat) : Int)) (
 zi ([a.Axes.fst, a.Axes.snd]) ((↑(Int.toNat c) : Int)) fun m =>
 cond (!decide (m = l.fst))
 (some (.inr (.inr (6))))
 (zg (IntKind.wrap .i64 (c + 1)) fun n =>
 some (.inl n))))
 (some (.inr (.inl ())))) (a.Rank))
 (Sum.elim (fun (_ : Unit) =>
 Option.bind (
 lpO (fun (d : Int) =>
 cond (decide (d < a.Rank))
 (zk (0 <= d /\ d < (↑(2 : Nat) : Int)) (
 zi ([a.Axes.fst, a.Axes.snd]) ((↑(Int.toNat d) : Int)) fun o =>
 (Fz9 b o (a.Data)).bind fun p =>
 cond (!p)
 (some (.inr (.inr (25))))
 (zg (IntKind.wrap .i64 (d + 1)) fun q =>
 some (.inl q))))
 (some (.inr (.inl ())))) (0))
 (Sum.elim (fun (_ : Unit) =>
 some (0)) some)) some))))))))
 (cond (decide (a.Rank < 0))
 (some (7))
 (cond (decide (2 < a.Rank))
 (some (7))
 ((un b (a.Axes.fst)).bind fun s =>
 cond (!s)
 (some (7))
 ((un b (a.Axes.snd)).bind fun t =>
 cond (!t)
 (some (7))
 ((un b (a.Data)).bind fun u =>
 cond (!u)
 (some (7))
 ((znn b).bind fun v =>
 Option.bind (
 lpO (fun (e : Int) =>
 cond (decide (e < 2))
 (zk (0 <= e /\ e < (↑(2 : Nat) : Int)) (
 zi ([a.Axes.fst, a.Axes.snd]) ((↑(Int.toNat e) : Int)) fun w =>
 cond (!decide (w = v.fst))
 (some (.inr (.inr (6))))
 (zg (IntKind.wrap .i64 (e + 1)) fun x =>
 some (.inl x))))
 (some (.inr (.inl ())))) (a.Rank))
 (Sum.elim (fun (_ : Unit) =>
 Option.bind (
 lpO (fun (f : Int) =>
 cond (decide (f < a.Rank))
 (zk (0 <= f /\ f < (↑(2 : Nat) : Int)) (
 zi ([a.Axes.fst, a.Axes.snd]) ((↑(Int.toNat f) : Int)) fun y =>
 (Fz9 b y (a.Data)).bind fun z =>
 cond (!z)
 (some (.inr (.inr (25))))
 (zg (IntKind.wrap .i64 (f + 1)) fun A =>
 some (.inl A))))
 (some (.inr (.inl ())))) (0))
 (Sum.elim (fun (_ : Unit) =>
 some (0)) some)) some))))))))
def zrk (b : TP) : Option (Int × Int) :=
 cond (decide (32 < (↑(List.length (List.map zO b.Vars)) : Int)))
 (some (((-1 : Int), 3)))
 (Option.bind (
 lpO (fun (a : Int × List (List UInt8)) =>
 cond (decide (a.fst < (↑(List.length (List.map zO b.Vars)) : Int)))
 (zi (b.Vars) (a.fst) fun e =>
 (zmq (e.Name) (a.snd)).bind fun c =>
 cond (decide (c = 0))
 (zi (b.Vars) (a.fst) fun f =>
 (znq (b.Lattice) (f.Type_)).bind fun d =>
 cond (!decide (d = 0))
 (some (.inr (.inr ((a.fst, d)))))
 (zi (b.Vars) (a.fst) fun g =>
 zk ((List.length (List.map SV.str a.snd) + (1 : Nat)) * (16 : Nat) <= (70368744177664 : Nat)) (
 zg (IntKind.wrap .i64 (a.fst + 1)) fun i =>
 some (.inl ((i, a.snd ++ [g.Name]))))))
 (cond (!decide (c = 0))
 (some (.inr (.inr ((a.fst, c)))))
 (zi (b.Vars) (a.fst) fun j =>
 zk ((List.length (List.map SV.str a.snd) + (1 : Nat)) * (16 : Nat) <= (70368744177664 : Nat)) (
 zg (IntKind.wrap .i64 (a.fst + 1)) fun k =>
 some (.inl ((k, a.snd ++ [j.Name])))))))
 (some (.inr (.inl ())))) ((0, [])))
 (Sum.elim (fun (_ : Unit) =>
 some ((0, 0))) some))
def zq1 (d : TP) : Option (Int × Int) :=
 cond (decide (64 < (↑(List.length (List.map wG d.Rules)) : Int)))
 (some (((-1 : Int), 3)))
 (Option.bind (
 lpO (fun (a : Int) =>
 cond (decide (a < (↑(List.length (List.map wG d.Rules)) : Int)))
 (zi (d.Rules) a fun b =>
 (un (d.Lattice) (b.From)).bind fun e =>
 cond (!e)
 (some (.inr (.inr ((a, 7)))))
 ((un (d.Lattice) (b.Goal)).bind fun f =>
 cond (!f)
 (some (.inr (.inr ((a, 7)))))
 (cond (decide (b.From = b.Goal))
 (some (.inr (.inr ((a, 25)))))
 ((Fz9 (d.Lattice) (b.Goal) (b.From)).bind fun g =>
 cond (!g)
 (some (.inr (.inr ((a, 25)))))
 (Option.bind (
 lpO (fun (c : Int) =>
 cond (decide (c < a))
 (zi (d.Rules) c fun i =>
 cond (decide (i.From = b.From))
 (zi (d.Rules) c fun j =>
 cond (decide (j.Goal = b.Goal))
 (some (.inr (.inr (.inr (.inr ((a, 8)))))))
 (zg (IntKind.wrap .i64 (c + 1)) fun k =>
 some (.inl k)))
 (zg (IntKind.wrap .i64 (c + 1)) fun l =>
 some (.inl l)))
 (some (.inr (.inl ())))) (0))
 (Sum.elim (fun (_ : Unit) =>
 cond (decide (b.K < 2))
 (some (.inr (.inr ((a, 3)))))
 (cond (decide (400 < b.K))
 (some (.inr (.inr ((a, 3)))))
 (zg (IntKind.wrap .i64 (a + 1)) fun m =>
 some (.inl m)))) some))))))
 (some (.inr (.inl ())))) (0))
 (Sum.elim (fun (_ : Unit) =>
 some ((0, 0))) some))
def zrd (e : TP) : Option (Int × Int × Int) :=
 (ziy (e.Lattice)).bind fun a =>
 cond (!decide (a.snd = 0))
 (some ((1, a)))
 ((zrf e).bind fun b =>
 cond (!decide (b.snd = 0))
 (some ((2, b)))
 ((zrk e).bind fun c =>
 cond (!decide (c.snd = 0))
 (some ((3, c)))
 ((zq1 e).bind fun d =>
 cond (!decide (d.snd = 0))
 (some ((4, d)))
 (some ((0, 0, 0))))))
def zm2 (g : Int) (f : Int × Int) : Option (Int) :=
 Option.bind (
 lpO (fun (a : Int × Int) =>
 cond (decide (a.fst < g))
 (zk (0 <= a.fst /\ a.fst < (↑(2 : Nat) : Int)) (
 zi ([f.fst, f.snd]) ((↑(Int.toNat a.fst) : Int)) fun b =>
 zg (IntKind.wrap .i64 (a.snd * b)) fun c =>
 zg (IntKind.wrap .i64 (a.fst + 1)) fun d =>
 some (.inl ((d, c)))))
 (some (.inr (.inl (a.snd))))) ((0, 1)))
 (Sum.elim (fun (e : Int) =>
 some e) some)
def ztk (d : Int) (c : Int × Int) : Option (Int) :=
 cond (decide (d < 0))
 (some (7))
 (cond (decide (2 < d))
 (some (7))
 (Option.bind (
 lpO (fun (a : Int) =>
 cond (decide (a < d))
 (zk (0 <= a /\ a < (↑(2 : Nat) : Int)) (
 zi ([c.fst, c.snd]) ((↑(Int.toNat a) : Int)) fun e =>
 cond (decide (e < 0))
 (some (.inr (.inr (7))))
 (zg (IntKind.wrap .i64 (a + 1)) fun f =>
 some (.inl f))))
 (some (.inr (.inl ())))) (0))
 (Sum.elim (fun (_ : Unit) =>
 Option.bind (
 lpO (fun (b : Int) =>
 cond (decide (b < 2))
 (zk (0 <= b /\ b < (↑(2 : Nat) : Int)) (
 zi ([c.fst, c.snd]) ((↑(Int.toNat b) : Int)) fun g =>
 cond (!decide (g = 0))
 (some (.inr (.inr (6))))
 (zg (IntKind.wrap .i64 (b + 1)) fun i =>
 some (.inl i))))
 (some (.inr (.inl ())))) d)
 (Sum.elim (fun (_ : Unit) =>
 cond (decide (400 < c.fst))
 (some (15))
 (cond (decide (400 < c.snd))
 (some (15))
 ((zm2 d c).bind fun j =>
 cond (decide (400 < j))
 (some (15))
 (some (0))))) some)) some)))
def zma (c : Int) (d : Int × Int) : Option (Int × Int) :=
 (ztk c d).bind fun a =>
 cond (!decide (a = 0))
 (some ((0, a)))
 ((zm2 c d).bind fun b =>
 some ((b, 0)))
def zjh (a : Int) : Option (Bool) :=
 cond (decide (0 <= a))
 (cond (decide (a <= 1114111))
 (cond (decide (a < 55296))
 (some (true))
 (some (decide (57343 < a))))
 (some (false)))
 (some (false))
def zgp (c : TA) : Option (Int) :=
 cond (!decide (c.Kind = 1))
 (cond (!decide (c.Kind = 2))
 (some (2))
 ((zma (c.Rank) (c.Lens)).bind fun d =>
 cond (decide (d.snd = 0))
 (cond (!decide ((↑(List.length (List.map (SV.int .i64) c.Cells)) : Int) = d.fst))
 (Option.bind (
 lpO (fun (_ : Unit) =>
 cond (decide (0 < (↑(List.length (List.map (SV.int .i64) c.Cells)) : Int)))
 (some (.inr (.inl ())))
 (some (.inr (.inl ())))) (()))
 (Sum.elim (fun (_ : Unit) =>
 some (6)) some))
 (Option.bind (
 lpO (fun (a : Int × Int) =>
 cond (decide (a.fst < (↑(List.length (List.map (SV.int .i64) c.Cells)) : Int)))
 (cond (decide (a.snd = 0))
 (cond (decide (c.Kind = 2))
 (zi (c.Cells) (a.fst) fun f =>
 (zjh f).bind fun g =>
 cond (!g)
 (zg (IntKind.wrap .i64 (a.fst + 1)) fun i =>
 some (.inl ((i, 7))))
 (zg (IntKind.wrap .i64 (a.fst + 1)) fun j =>
 some (.inl ((j, a.snd)))))
 (zg (IntKind.wrap .i64 (a.fst + 1)) fun k =>
 some (.inl ((k, a.snd)))))
 (some (.inr (.inl (a.snd)))))
 (some (.inr (.inl (a.snd))))) ((0, d.snd)))
 (Sum.elim (fun (l : Int) =>
 some l) some)))
 (Option.bind (
 lpO (fun (_ : Unit) =>
 cond (decide (0 < (↑(List.length (List.map (SV.int .i64) c.Cells)) : Int)))
 (some (.inr (.inl ())))
 (some (.inr (.inl ())))) (()))
 (Sum.elim (fun (_ : Unit) =>
 some (d.snd)) some))))
 ((zma (c.Rank) (c.Lens)).bind fun e =>
 cond (decide (e.snd = 0))
 (cond (!decide ((↑(List.length (List.map (SV.int .i64) c.Cells)) : Int) = e.fst))
 (Option.bind (
 lpO (fun (_ : Unit) =>
 cond (decide (0 < (↑(List.length (List.map (SV.int .i64) c.Cells)) : Int)))
 (some (.inr (.inl ())))
 (some (.inr (.inl ())))) (()))
 (Sum.elim (fun (_ : Unit) =>
 some (6)) some))
 (Option.bind (
 lpO (fun (b : Int × Int) =>
 cond (decide (b.fst < (↑(List.length (List.map (SV.int .i64) c.Cells)) : Int)))
 (cond (decide (b.snd = 0))
 (cond (decide (c.Kind = 2))
 (zi (c.Cells) (b.fst) fun m =>
 (zjh m).bind fun n =>
 cond (!n)
 (zg (IntKind.wrap .i64 (b.fst + 1)) fun o =>
 some (.inl ((o, 7))))
 (zg (IntKind.wrap .i64 (b.fst + 1)) fun p =>
 some (.inl ((p, b.snd)))))
 (zg (IntKind.wrap .i64 (b.fst + 1)) fun q =>
 some (.inl ((q, b.snd)))))
 (some (.inr (.inl (b.snd)))))
 (some (.inr (.inl (b.snd))))) ((0, e.snd)))
 (Sum.elim (fun (s : Int) =>
 some s) some)))
 (Option.bind (
 lpO (fun (_ : Unit) =>
 cond (decide (0 < (↑(List.length (List.map (SV.int .i64) c.Cells)) : Int)))
 (some (.inr (.inl ())))
 (some (.inr (.inl ())))) (()))
 (Sum.elim (fun (_ : Unit) =>
 some (e.snd)) some)))
def zl4 (g : TP) (c : List TW) : Option (Int × Int) :=
 (zrd g).bind fun d =>
 cond (decide (d.snd.snd = 0))
 (cond (!decide ((↑(List.length (List.map zh c)) : Int) = (↑(List.length (List.map zO g.Vars)) : Int)))
 (some (((-1 : Int), 3)))
 (cond (!decide (d.snd.snd = 0))
 (some (((-1 : Int), d.snd.snd)))
 (Option.bind (
 lpO (fun (a : Int) =>
 cond (decide (a < (↑(List.length (List.map zh c)) : Int)))
 (zi c a fun i =>
 zi (g.Vars) a fun j =>
 cond (!decide (i.Name = j.Name))
 (some (.inr (.inr ((a, 24)))))
 (zi c a fun k =>
 (zgp (k.Value)).bind fun e =>
 cond (decide (e = 0))
 (zi c a fun l =>
 zi (g.Vars) a fun m =>
 cond (!decide (l.Value.Kind = m.Type_.Kind))
 (some (.inr (.inr ((a, 21)))))
 (zi c a fun n =>
 zi (g.Vars) a fun o =>
 cond (!decide (n.Value.Rank = o.Type_.Rank))
 (some (.inr (.inr ((a, 22)))))
 (cond (!decide (e = 0))
 (some (.inr (.inr ((a, e)))))
 (zg (IntKind.wrap .i64 (a + 1)) fun p =>
 some (.inl p)))))
 (cond (!decide (e = 0))
 (some (.inr (.inr ((a, e)))))
 (zg (IntKind.wrap .i64 (a + 1)) fun q =>
 some (.inl q)))))
 (some (.inr (.inl ())))) (0))
 (Sum.elim (fun (_ : Unit) =>
 some ((0, 0))) some))))
 (cond (!decide (d.snd.snd = 0))
 (some (((-1 : Int), d.snd.snd)))
 (Option.bind (
 lpO (fun (b : Int) =>
 cond (decide (b < (↑(List.length (List.map zh c)) : Int)))
 (zi c b fun s =>
 zi (g.Vars) b fun t =>
 cond (!decide (s.Name = t.Name))
 (some (.inr (.inr ((b, 24)))))
 (zi c b fun u =>
 (zgp (u.Value)).bind fun f =>
 cond (decide (f = 0))
 (zi c b fun v =>
 zi (g.Vars) b fun w =>
 cond (!decide (v.Value.Kind = w.Type_.Kind))
 (some (.inr (.inr ((b, 21)))))
 (zi c b fun x =>
 zi (g.Vars) b fun y =>
 cond (!decide (x.Value.Rank = y.Type_.Rank))
 (some (.inr (.inr ((b, 22)))))
 (cond (!decide (f = 0))
 (some (.inr (.inr ((b, f)))))
 (zg (IntKind.wrap .i64 (b + 1)) fun z =>
 some (.inl z)))))
 (cond (!decide (f = 0))
 (some (.inr (.inr ((b, f)))))
 (zg (IntKind.wrap .i64 (b + 1)) fun A =>
 some (.inl A)))))
 (some (.inr (.inl ())))) (0))
 (Sum.elim (fun (_ : Unit) =>
 some ((0, 0))) some)))
def zBs (f : List UInt8) (g : Int) : Option (List UInt8) :=
 Option.bind (
 lpO (fun (a : List UInt8) =>
 cond (decide (0 < (↑(List.length a) : Int)))
 (zg (IntKind.wrap .i64 ((↑(List.length a) : Int) - 1)) fun c =>
 zi a c fun d =>
 cond (decide ((↑(UInt8.toNat d) : Int) = g))
 (zg (IntKind.wrap .i64 ((↑(List.length a) : Int) - 1)) fun b =>
 zk (0 <= b /\ b <= (↑(List.length a) : Int)) (
 some (.inl (List.drop (Int.toNat 0) (List.take (Int.toNat b) a)))))
 (some (.inr (.inl a))))
 (some (.inr (.inl a)))) f)
 (Sum.elim (fun (e : List UInt8) =>
 some e) some)
def zBf (d : List UInt8) (e : Int) : Option (List UInt8) :=
 Option.bind (
 lpO (fun (a : List UInt8) =>
 cond (decide (0 < (↑(List.length a) : Int)))
 (zi a (0) fun b =>
 cond (decide ((↑(UInt8.toNat b) : Int) = e))
 (zk ((0 : Int) <= (1 : Int) /\ (1 : Int) <= (↑(List.length a) : Int)) (
 some (.inl (List.drop (Int.toNat 1) (List.take (Int.toNat (↑(List.length a) : Int)) a)))))
 (some (.inr (.inl a))))
 (some (.inr (.inl a)))) d)
 (Sum.elim (fun (c : List UInt8) =>
 some c) some)
def znw (e : List UInt8) : Option (List Bool × Bool) :=
 Option.bind (
 lpO (fun (a : Int × List Bool) =>
 cond (decide (a.fst < (↑(List.length e) : Int)))
 (zi e (a.fst) fun b =>
 cond (decide (128 <= (↑(UInt8.toNat b) : Int)))
 (some (.inr (.inr ((a.snd, false)))))
 (zk ((0 : Int) <= (↑(UInt8.toNat b) : Int) /\ (↑(UInt8.toNat b) : Int) < (↑(256 : Nat) : Int)) (
 zi (a.snd) ((↑(Int.toNat (↑(UInt8.toNat b) : Int)) : Int)) fun _ =>
 zg (IntKind.wrap .i64 (a.fst + 1)) fun c =>
 some (.inl ((c, List.set a.snd (Int.toNat (↑(UInt8.toNat b) : Int)) true))))))
 (some (.inr (.inl (a.snd))))) ((0, List.replicate 256 false)))
 (Sum.elim (fun (d : List Bool) =>
 some ((d, true))) some)
def zoy (c : List Bool) (a : Int) : Option (Bool) :=
 zk (0 <= a /\ a < (↑(256 : Nat) : Int)) (
 zi c ((↑(Int.toNat a) : Int)) fun b =>
 some b)
def zmi (g : List UInt8) (i : List Bool) : Option (List UInt8) :=
 Option.bind (
 lpO (fun (a : List UInt8) =>
 cond (decide (0 < (↑(List.length a) : Int)))
 (zg (IntKind.wrap .i64 ((↑(List.length a) : Int) - 1)) fun c =>
 zi a c fun d =>
 (zoy i ((↑(UInt8.toNat d) : Int))).bind fun e =>
 cond (!e)
 (some (.inr (.inl a)))
 (zg (IntKind.wrap .i64 ((↑(List.length a) : Int) - 1)) fun b =>
 zk (0 <= b /\ b <= (↑(List.length a) : Int)) (
 some (.inl (List.drop (Int.toNat 0) (List.take (Int.toNat b) a))))))
 (some (.inr (.inl a)))) g)
 (Sum.elim (fun (f : List UInt8) =>
 some f) some)
def zm8 (e : List UInt8) (f : List Bool) : Option (List UInt8) :=
 Option.bind (
 lpO (fun (a : List UInt8) =>
 cond (decide (0 < (↑(List.length a) : Int)))
 (zi a (0) fun b =>
 (zoy f ((↑(UInt8.toNat b) : Int))).bind fun c =>
 cond (!c)
 (some (.inr (.inl a)))
 (zk ((0 : Int) <= (1 : Int) /\ (1 : Int) <= (↑(List.length a) : Int)) (
 some (.inl (List.drop (Int.toNat 1) (List.take (Int.toNat (↑(List.length a) : Int)) a))))))
 (some (.inr (.inl a)))) e)
 (Sum.elim (fun (d : List UInt8) =>
 some d) some)
def zyo (a : Int) : Option (Bool) :=
 some (!decide (bits BinOp.and IntKind.u8 a 192 = 128))
def zwb (a : List UInt8) : Option (Int × Int) :=
 cond (decide ((↑(List.length a) : Int) < 1))
 (some ((65533, 0)))
 (zi a (0) fun _ =>
 none)
def zti (a : List UInt8) : Option (Int × Int) :=
 cond (!decide (a = (ByteArray.mk #[]).data.toList))
 (zi a (0) fun b =>
 cond (decide ((↑(UInt8.toNat b) : Int) < 128))
 (zi a (0) fun c =>
 zg (IntKind.wrap .i32 (↑(UInt8.toNat c) : Int)) fun d =>
 some ((d, 1)))
 ((zwb a).bind fun e =>
 some e))
 ((zwb a).bind fun f =>
 some f)
def zA9 (a : List UInt8) : Option (Int × Int) :=
 cond (decide ((↑(List.length a) : Int) = 0))
 (some ((65533, 0)))
 (zg (IntKind.wrap .i64 ((↑(List.length a) : Int) - 1)) fun d =>
 zi a d fun i =>
 zg (IntKind.wrap .i32 (↑(UInt8.toNat i) : Int)) fun e =>
 cond (decide (e < 128))
 (some ((e, 1)))
 (zg (IntKind.wrap .i64 ((↑(List.length a) : Int) - 4)) fun j =>
 zg (IntKind.wrap .i64 (d - 1)) fun k =>
 Option.bind (
 lpO (fun (b : Int) =>
 cond (decide (max j 0 <= b))
 (zi a b fun l =>
 (zyo ((↑(UInt8.toNat l) : Int))).bind fun m =>
 cond m
 (some (.inr (.inl b)))
 (zg (IntKind.wrap .i64 (b - 1)) fun n =>
 some (.inl n)))
 (some (.inr (.inl b)))) k)
 (Sum.elim (fun (c : Int) =>
 cond (decide (c < 0))
 (zk ((0 : Int) <= (0 : Int) /\ (0 : Int) <= (↑(List.length a) : Int) /\ (↑(List.length a) : Int) <= (↑(List.length a) : Int)) (
 (zti (List.drop (Int.toNat 0) (List.take (Int.toNat (↑(List.length a) : Int)) a))).bind fun f =>
 zg (IntKind.wrap .i64 (0 + f.snd)) fun o =>
 cond (!decide (o = (↑(List.length a) : Int)))
 (some ((65533, 1)))
 (some f)))
 (zk (0 <= c /\ c <= (↑(List.length a) : Int) /\ (↑(List.length a) : Int) <= (↑(List.length a) : Int)) (
 (zti (List.drop (Int.toNat c) (List.take (Int.toNat (↑(List.length a) : Int)) a))).bind fun g =>
 zg (IntKind.wrap .i64 (c + g.snd)) fun p =>
 cond (!decide (p = (↑(List.length a) : Int)))
 (some ((65533, 1)))
 (some g)))) some)))
def zdx (b : List UInt8) (c : Int) : Option (Int) :=
 (qi b c).bind fun a =>
 some a
def zap (a : Int) : Option (Bool) :=
 cond (decide (0 <= a))
 (cond (decide (a < 55296))
 (some (true))
 (cond (decide (57343 < a))
 (cond (decide (a <= 1114111))
 (some (true))
 (some (false)))
 (some (false))))
 (cond (decide (57343 < a))
 (cond (decide (a <= 1114111))
 (some (true))
 (some (false)))
 (some (false)))
def zjs (d : List UInt8) (c : Int) : Option (Int) :=
 cond (decide (0 <= c))
 (cond (decide (c < 128))
 (zg (IntKind.wrap .u8 c) fun p =>
 (zdx d p).bind fun q =>
 some q)
 (cond (decide (c = 65533))
 (none)
 ((zap c).bind fun s =>
 cond (!s)
 (some ((-1 : Int)))
 (zg (IntKind.wrap .i64 ((↑(List.length (Utf8.encode c).data.toList) : Int) - 1)) fun a =>
 Option.bind (
 lpO (fun (_ : Unit) =>
 cond (decide (a < (↑(List.length d) : Int)))
 (zi d a fun t =>
 zi ((Utf8.encode c).data.toList) a fun u =>
 cond (!decide ((↑(UInt8.toNat t) : Int) = (↑(UInt8.toNat u) : Int)))
 (zg (IntKind.wrap .i64 (a + 1)) fun j =>
 zk (0 <= j /\ j <= (↑(List.length d) : Int)) (
 zi ((Utf8.encode c).data.toList) a fun v =>
 (zdx (List.drop (Int.toNat j) (List.take (Int.toNat (↑(List.length d) : Int)) d)) ((↑(UInt8.toNat v) : Int))).bind fun l =>
 cond (decide (l < 0))
 (some (.inr (.inr ((-1 : Int)))))
 (zg (IntKind.wrap .i64 (l + 1)) fun w =>
 zg (IntKind.wrap .i64 (a + w)) fun m =>
 Option.bind (
 lpO (fun (e : Int) =>
 cond (decide (e < (↑(List.length (Utf8.encode c).data.toList) : Int)))
 (zg (IntKind.wrap .i64 (m - e)) fun x =>
 zi d x fun y =>
 zg (IntKind.wrap .i64 (a - e)) fun z =>
 zi ((Utf8.encode c).data.toList) z fun A =>
 cond (!decide ((↑(UInt8.toNat y) : Int) = (↑(UInt8.toNat A) : Int)))
 (none)
 (zg (IntKind.wrap .i64 (e + 1)) fun C =>
 some (.inl C)))
 (some (.inr (.inl ())))) (1))
 (Sum.elim (fun (_ : Unit) =>
 zg (IntKind.wrap .i64 (m - a)) fun D =>
 some (.inr (.inr D))) some))))
 (Option.bind (
 lpO (fun (f : Int) =>
 cond (decide (f < (↑(List.length (Utf8.encode c).data.toList) : Int)))
 (zg (IntKind.wrap .i64 (a - f)) fun F =>
 zi d F fun G =>
 zg (IntKind.wrap .i64 (a - f)) fun H =>
 zi ((Utf8.encode c).data.toList) H fun I =>
 cond (!decide ((↑(UInt8.toNat G) : Int) = (↑(UInt8.toNat I) : Int)))
 (none)
 (zg (IntKind.wrap .i64 (f + 1)) fun J =>
 some (.inl J)))
 (some (.inr (.inl ())))) (1))
 (Sum.elim (fun (_ : Unit) =>
 zg (IntKind.wrap .i64 (a - a)) fun K =>
 some (.inr (.inr K))) some)))
 (some (.inr (.inl ())))) (()))
 (Sum.elim (fun (_ : Unit) =>
 some ((-1 : Int))) some)))))
 (cond (decide (c = 65533))
 (none)
 ((zap c).bind fun L =>
 cond (!L)
 (some ((-1 : Int)))
 (zg (IntKind.wrap .i64 ((↑(List.length (Utf8.encode c).data.toList) : Int) - 1)) fun b =>
 Option.bind (
 lpO (fun (_ : Unit) =>
 cond (decide (b < (↑(List.length d) : Int)))
 (zi d b fun M =>
 zi ((Utf8.encode c).data.toList) b fun N =>
 cond (!decide ((↑(UInt8.toNat M) : Int) = (↑(UInt8.toNat N) : Int)))
 (zg (IntKind.wrap .i64 (b + 1)) fun k =>
 zk (0 <= k /\ k <= (↑(List.length d) : Int)) (
 zi ((Utf8.encode c).data.toList) b fun O =>
 (zdx (List.drop (Int.toNat k) (List.take (Int.toNat (↑(List.length d) : Int)) d)) ((↑(UInt8.toNat O) : Int))).bind fun n =>
 cond (decide (n < 0))
 (some (.inr (.inr ((-1 : Int)))))
 (zg (IntKind.wrap .i64 (n + 1)) fun P =>
 zg (IntKind.wrap .i64 (b + P)) fun o =>
 Option.bind (
 lpO (fun (g : Int) =>
 cond (decide (g < (↑(List.length (Utf8.encode c).data.toList) : Int)))
 (zg (IntKind.wrap .i64 (o - g)) fun Q =>
 zi d Q fun R =>
 zg (IntKind.wrap .i64 (b - g)) fun S =>
 zi ((Utf8.encode c).data.toList) S fun T =>
 cond (!decide ((↑(UInt8.toNat R) : Int) = (↑(UInt8.toNat T) : Int)))
 (none)
 (zg (IntKind.wrap .i64 (g + 1)) fun U =>
 some (.inl U)))
 (some (.inr (.inl ())))) (1))
 (Sum.elim (fun (_ : Unit) =>
 zg (IntKind.wrap .i64 (o - b)) fun V =>
 some (.inr (.inr V))) some))))
 (Option.bind (
 lpO (fun (i : Int) =>
 cond (decide (i < (↑(List.length (Utf8.encode c).data.toList) : Int)))
 (zg (IntKind.wrap .i64 (b - i)) fun W =>
 zi d W fun X =>
 zg (IntKind.wrap .i64 (b - i)) fun Y =>
 zi ((Utf8.encode c).data.toList) Y fun Z =>
 cond (!decide ((↑(UInt8.toNat X) : Int) = (↑(UInt8.toNat Z) : Int)))
 (none)
 (zg (IntKind.wrap .i64 (i + 1)) fun a2 =>
 some (.inl a2)))
 (some (.inr (.inl ())))) (1))
 (Sum.elim (fun (_ : Unit) =>
 zg (IntKind.wrap .i64 (b - b)) fun a3 =>
 some (.inr (.inr a3))) some)))
 (some (.inr (.inl ())))) (()))
 (Sum.elim (fun (_ : Unit) =>
 some ((-1 : Int))) some))))
def xE (b : List UInt8) (c : Int) : Option (Bool) :=
 (zjs b c).bind fun a =>
 some (decide (0 <= a))
def zws (m : List UInt8) (l : List UInt8) : Option (List UInt8) :=
 Option.bind (
 lpO (fun (a : List UInt8) =>
 cond (decide (0 < (↑(List.length a) : Int)))
 (zg (IntKind.wrap .i64 ((↑(List.length a) : Int) - 1)) fun f =>
 zi a f fun g =>
 zg (IntKind.wrap .i32 (↑(UInt8.toNat g) : Int)) fun d =>
 cond (decide (128 <= d))
 ((zA9 a).bind fun e =>
 (xE l (e.fst)).bind fun i =>
 cond (!i)
 (some (.inr (.inl a)))
 (zg (IntKind.wrap .i64 ((↑(List.length a) : Int) - e.snd)) fun b =>
 zk (0 <= b /\ b <= (↑(List.length a) : Int)) (
 some (.inl (List.drop (Int.toNat 0) (List.take (Int.toNat b) a))))))
 ((xE l d).bind fun j =>
 cond (!j)
 (some (.inr (.inl a)))
 (zg (IntKind.wrap .i64 ((↑(List.length a) : Int) - 1)) fun c =>
 zk (0 <= c /\ c <= (↑(List.length a) : Int)) (
 some (.inl (List.drop (Int.toNat 0) (List.take (Int.toNat c) a)))))))
 (some (.inr (.inl a)))) m)
 (Sum.elim (fun (k : List UInt8) =>
 some k) some)
def zxc (e : List UInt8) (f : List UInt8) : Option (List UInt8) :=
 Option.bind (
 lpO (fun (a : List UInt8) =>
 cond (decide (0 < (↑(List.length a) : Int)))
 ((zti a).bind fun b =>
 (xE f (b.fst)).bind fun c =>
 cond (!c)
 (some (.inr (.inl a)))
 (zk (0 <= b.snd /\ b.snd <= (↑(List.length a) : Int)) (
 some (.inl (List.drop (Int.toNat b.snd) (List.take (Int.toNat (↑(List.length a) : Int)) a))))))
 (some (.inr (.inl a)))) e)
 (Sum.elim (fun (d : List UInt8) =>
 some d) some)
def zr2 (b : List UInt8) (a : List UInt8) : Option (List UInt8) :=
 cond (decide (b = (ByteArray.mk #[]).data.toList))
 (some b)
 (cond (decide (a = (ByteArray.mk #[]).data.toList))
 (some b)
 (cond (decide ((↑(List.length a) : Int) = 1))
 (zi a (0) fun e =>
 cond (decide ((↑(UInt8.toNat e) : Int) < 128))
 (zi a (0) fun f =>
 (zBs b ((↑(UInt8.toNat f) : Int))).bind fun g =>
 zi a (0) fun i =>
 (zBf g ((↑(UInt8.toNat i) : Int))).bind fun j =>
 some j)
 ((znw a).bind fun c =>
 cond (c.snd)
 ((zmi b (c.fst)).bind fun k =>
 (zm8 k (c.fst)).bind fun l =>
 some l)
 ((zws b a).bind fun m =>
 (zxc m a).bind fun n =>
 some n)))
 ((znw a).bind fun d =>
 cond (d.snd)
 ((zmi b (d.fst)).bind fun o =>
 (zm8 o (d.fst)).bind fun p =>
 some p)
 ((zws b a).bind fun q =>
 (zxc q a).bind fun s =>
 some s))))
def zta (a : List UInt8) : Option (Bool) :=
 cond (decide (a = (ByteArray.mk #[]).data.toList))
 (some (false))
 (cond (decide (16 < (↑(List.length a) : Int)))
 (some (false))
 (zi a (0) fun b =>
 cond (decide ((↑(UInt8.toNat b) : Int) < 97))
 (some (false))
 (zi a (0) fun c =>
 cond (decide (122 < (↑(UInt8.toNat c) : Int)))
 (some (false))
 ((zr2 a ((ByteArray.mk #[97, 98, 99, 100, 101, 102, 103, 104, 105, 106, 107, 108, 109, 110, 111, 112, 113, 114, 115, 116, 117, 118, 119, 120, 121, 122, 48, 49, 50, 51, 52, 53, 54, 55, 56, 57, 45]).data.toList)).bind fun d =>
 some (decide (d = (ByteArray.mk #[]).data.toList))))))
def ztx (d : List (List UInt8)) (e : List UInt8) : Option (Int) :=
 Option.bind (
 lpO (fun (a : Int) =>
 cond (decide (a < (↑(List.length (List.map SV.str d)) : Int)))
 (zi d a fun b =>
 cond (decide (e = b))
 (some (.inr (.inr a)))
 (zg (IntKind.wrap .i64 (a + 1)) fun c =>
 some (.inl c)))
 (some (.inr (.inl ())))) (0))
 (Sum.elim (fun (_ : Unit) =>
 some ((-1 : Int))) some)
def zsm (b : List (List UInt8)) (c : List UInt8) : Option (Bool) :=
 (ztx b c).bind fun a =>
 some (decide (0 <= a))
def zi2 (b : List (List UInt8)) : Option (Int × Int) :=
 cond (decide ((↑(List.length (List.map SV.str b)) : Int) < 1))
 (some (((-1 : Int), 3)))
 (cond (decide (8 < (↑(List.length (List.map SV.str b)) : Int)))
 (some (((-1 : Int), 3)))
 (Option.bind (
 lpO (fun (a : Int) =>
 cond (decide (a < (↑(List.length (List.map SV.str b)) : Int)))
 (zi b a fun c =>
 (zta c).bind fun d =>
 cond (!d)
 (some (.inr (.inr ((a, 6)))))
 (zk (0 <= a /\ a <= (↑(List.length (List.map SV.str b)) : Int)) (
 (zsm (List.drop (Int.toNat 0) (List.take (Int.toNat a) b)) c).bind fun e =>
 cond e
 (some (.inr (.inr ((a, 8)))))
 (zg (IntKind.wrap .i64 (a + 1)) fun f =>
 some (.inl f)))))
 (some (.inr (.inl ())))) (0))
 (Sum.elim (fun (_ : Unit) =>
 some ((0, 0))) some)))
def zjc (c : Int) : Option (Int) :=
 zi ((ByteArray.mk (List.toArray (List.append (List.append [(0 : UInt8), 1, 2, 2, 3, 3, 3, 3, 4, 4, 4, 4, 4, 4, 4, 4, 5, 5, 5, 5, 5, 5, 5, 5, 5, 5, 5, 5, 5, 5, 5, 5, 6, 6, 6, 6, 6, 6, 6, 6, 6, 6, 6, 6, 6, 6, 6, 6, 6, 6, 6, 6, 6, 6, 6, 6, 6, 6, 6, 6, 6, 6, 6, 6] [(7 : UInt8), 7, 7, 7, 7, 7, 7, 7, 7, 7, 7, 7, 7, 7, 7, 7, 7, 7, 7, 7, 7, 7, 7, 7, 7, 7, 7, 7, 7, 7, 7, 7, 7, 7, 7, 7, 7, 7, 7, 7, 7, 7, 7, 7, 7, 7, 7, 7, 7, 7, 7, 7, 7, 7, 7, 7, 7, 7, 7, 7, 7, 7, 7, 7]) (List.append [(8 : UInt8), 8, 8, 8, 8, 8, 8, 8, 8, 8, 8, 8, 8, 8, 8, 8, 8, 8, 8, 8, 8, 8, 8, 8, 8, 8, 8, 8, 8, 8, 8, 8, 8, 8, 8, 8, 8, 8, 8, 8, 8, 8, 8, 8, 8, 8, 8, 8, 8, 8, 8, 8, 8, 8, 8, 8, 8, 8, 8, 8, 8, 8, 8, 8] [(8 : UInt8), 8, 8, 8, 8, 8, 8, 8, 8, 8, 8, 8, 8, 8, 8, 8, 8, 8, 8, 8, 8, 8, 8, 8, 8, 8, 8, 8, 8, 8, 8, 8, 8, 8, 8, 8, 8, 8, 8, 8, 8, 8, 8, 8, 8, 8, 8, 8, 8, 8, 8, 8, 8, 8, 8, 8, 8, 8, 8, 8, 8, 8, 8, 8])))).data.toList) c fun a =>
 zg (IntKind.wrap .i64 (↑(UInt8.toNat a) : Int)) fun b =>
 some b
def zf6 (e : TL) : Option (Tlattice_order) :=
 Option.bind (
 lpO (fun (b : Int × List Int × List Int) =>
 cond (decide (b.fst < (↑(List.length (List.map (SV.int .u8) e.Up)) : Int)))
 (zi (e.Up) (b.fst) fun c =>
 zk (0 <= b.fst /\ b.fst < (↑(8 : Nat) : Int)) (
 zi (b.snd.fst) ((↑(Int.toNat b.fst) : Int)) fun _ =>
 Option.bind (
 lpO (fun (a : Int × List Int) =>
 cond (decide (a.fst < (↑(List.length (List.map SV.str e.Names)) : Int)))
 (zk (0 <= a.fst /\ a.fst < (↑(8 : Nat) : Int)) (
 zi (a.snd) ((↑(Int.toNat a.fst) : Int)) fun f =>
 zk (0 <= a.fst) (
 zk (0 <= b.fst) (
 zg (IntKind.wrap .u8 (bits BinOp.and IntKind.u8 (Int.fdiv c (2 ^ min (Int.toNat a.fst) (IntKind.bits IntKind.u8))) 1 * 2 ^ min (Int.toNat b.fst) (IntKind.bits IntKind.u8))) fun g =>
 zk (0 <= a.fst /\ a.fst < (↑(8 : Nat) : Int)) (
 zi (a.snd) ((↑(Int.toNat a.fst) : Int)) fun _ =>
 zg (IntKind.wrap .i64 (a.fst + 1)) fun i =>
 some (.inl ((i, List.set a.snd (Int.toNat a.fst) (bits BinOp.or IntKind.u8 f g)))))))))
 (some (.inr (.inl (a.snd))))) ((0, b.snd.snd)))
 (Sum.elim (fun (j : List Int) =>
 zg (IntKind.wrap .i64 (b.fst + 1)) fun k =>
 some (.inl ((k, List.set b.snd.fst (Int.toNat b.fst) c, j)))) some)))
 (some (.inr (.inl (b.snd))))) ((0, [0, 0, 0, 0, 0, 0, 0, 0], [0, 0, 0, 0, 0, 0, 0, 0])))
 (Sum.elim (fun (d : List Int × List Int) =>
 some (Tlattice_order.mk (↑(List.length (List.map SV.str e.Names)) : Int) d.fst d.snd)) some)
def zjg (d : List Int) (k : Int) (e : Int) (f : Int) : Option (Int) :=
 zk (0 <= e /\ e < (↑(8 : Nat) : Int)) (
 zi d ((↑(Int.toNat e) : Int)) fun b =>
 zk (0 <= f /\ f < (↑(8 : Nat) : Int)) (
 zi d ((↑(Int.toNat f) : Int)) fun c =>
 Option.bind (
 lpO (fun (a : Int) =>
 cond (decide (a < k))
 (zk (0 <= a) (
 cond (decide (bits BinOp.and IntKind.u8 (Int.fdiv (bits BinOp.and IntKind.u8 b c) (2 ^ min (Int.toNat a) (IntKind.bits IntKind.u8))) 1 = 1))
 (zk (0 <= a /\ a < (↑(8 : Nat) : Int)) (
 zi d ((↑(Int.toNat a) : Int)) fun g =>
 cond (decide (g = bits BinOp.and IntKind.u8 b c))
 (some (.inr (.inr a)))
 (zg (IntKind.wrap .i64 (a + 1)) fun i =>
 some (.inl i))))
 (zg (IntKind.wrap .i64 (a + 1)) fun j =>
 some (.inl j))))
 (some (.inr (.inl ())))) (0))
 (Sum.elim (fun (_ : Unit) =>
 some ((-1 : Int))) some)))
def zs8 (d : List Int) (k : Int) (e : Int) (f : Int) : Option (Int) :=
 zk (0 <= e /\ e < (↑(8 : Nat) : Int)) (
 zi d ((↑(Int.toNat e) : Int)) fun b =>
 zk (0 <= f /\ f < (↑(8 : Nat) : Int)) (
 zi d ((↑(Int.toNat f) : Int)) fun c =>
 Option.bind (
 lpO (fun (a : Int) =>
 cond (decide (a < k))
 (zk (0 <= a) (
 cond (decide (bits BinOp.and IntKind.u8 (Int.fdiv (bits BinOp.and IntKind.u8 b c) (2 ^ min (Int.toNat a) (IntKind.bits IntKind.u8))) 1 = 1))
 (zk (0 <= a /\ a < (↑(8 : Nat) : Int)) (
 zi d ((↑(Int.toNat a) : Int)) fun g =>
 cond (decide (g = bits BinOp.and IntKind.u8 b c))
 (some (.inr (.inr a)))
 (zg (IntKind.wrap .i64 (a + 1)) fun i =>
 some (.inl i))))
 (zg (IntKind.wrap .i64 (a + 1)) fun j =>
 some (.inl j))))
 (some (.inr (.inl ())))) (0))
 (Sum.elim (fun (_ : Unit) =>
 some ((-1 : Int))) some)))
def zaa (c : TL) : Option (Int × Int) :=
 (zi2 (c.Names)).bind fun i =>
 cond (!decide (i.snd = 0))
 (some i)
 (cond (!decide ((↑(List.length (List.map (SV.int .u8) c.Up)) : Int) = (↑(List.length (List.map SV.str c.Names)) : Int)))
 (some (((-1 : Int), 6)))
 (zk ((0 : Int) <= (↑(List.length (List.map SV.str c.Names)) : Int)) (
 zg (IntKind.wrap .u8 (1 * 2 ^ min (Int.toNat (↑(List.length (List.map SV.str c.Names)) : Int)) (IntKind.bits IntKind.u8))) fun l =>
 zg (IntKind.wrap .u8 (l - 1)) fun j =>
 Option.bind (
 lpO (fun (a : Int) =>
 cond (decide (a < (↑(List.length (List.map (SV.int .u8) c.Up)) : Int)))
 (zi (c.Up) a fun e =>
 (zjc e).bind fun m =>
 cond (decide ((↑(List.length (List.map SV.str c.Names)) : Int) < m))
 (some (.inr (.inr ((a, 6)))))
 (zk (0 <= a) (
 cond (decide (bits BinOp.and IntKind.u8 (Int.fdiv e (2 ^ min (Int.toNat a) (IntKind.bits IntKind.u8))) 1 = 0))
 (some (.inr (.inr ((a, 6)))))
 (Option.bind (
 lpO (fun (b : Int) =>
 cond (decide (b < (↑(List.length (List.map (SV.int .u8) c.Up)) : Int)))
 (zi (c.Up) b fun g =>
 zk (0 <= b) (
 cond (decide (bits BinOp.and IntKind.u8 (Int.fdiv e (2 ^ min (Int.toNat b) (IntKind.bits IntKind.u8))) 1 = 0))
 (zg (IntKind.wrap .i64 ((↑(List.length (List.map SV.str c.Names)) : Int) - 1)) fun n =>
 cond (decide (b = n))
 (zg (IntKind.wrap .i64 (a + 1)) fun o =>
 some (.inr (.inr (.inl o))))
 (zg (IntKind.wrap .i64 (b + 1)) fun p =>
 some (.inl p)))
 (cond (!decide (b = a))
 (zk (0 <= a) (
 cond (decide (bits BinOp.and IntKind.u8 (Int.fdiv g (2 ^ min (Int.toNat a) (IntKind.bits IntKind.u8))) 1 = 1))
 (some (.inr (.inr (.inr (.inr ((a, 6)))))))
 (cond (!decide (bits BinOp.andNot IntKind.u8 (bits BinOp.and IntKind.u8 g j) e = 0))
 (some (.inr (.inr (.inr (.inr ((a, 6)))))))
 (zg (IntKind.wrap .i64 ((↑(List.length (List.map SV.str c.Names)) : Int) - 1)) fun q =>
 cond (decide (b = q))
 (zg (IntKind.wrap .i64 (a + 1)) fun s =>
 some (.inr (.inr (.inl s))))
 (zg (IntKind.wrap .i64 (b + 1)) fun t =>
 some (.inl t))))))
 (cond (!decide (bits BinOp.andNot IntKind.u8 (bits BinOp.and IntKind.u8 g j) e = 0))
 (some (.inr (.inr (.inr (.inr ((a, 6)))))))
 (zg (IntKind.wrap .i64 ((↑(List.length (List.map SV.str c.Names)) : Int) - 1)) fun u =>
 cond (decide (b = u))
 (zg (IntKind.wrap .i64 (a + 1)) fun v =>
 some (.inr (.inr (.inl v))))
 (zg (IntKind.wrap .i64 (b + 1)) fun w =>
 some (.inl w)))))))
 (some (.inr (.inl ())))) (0))
 (Sum.elim (fun (_ : Unit) =>
 zg (IntKind.wrap .i64 (a + 1)) fun x =>
 some (.inl x)) some)))))
 (some (.inr (.inl ())))) (0))
 (Sum.elim (fun (_ : Unit) =>
 (zf6 c).bind fun k =>
 Option.bind (
 lpO (fun (d : Int) =>
 cond (decide (d < (↑(List.length (List.map SV.str c.Names)) : Int)))
 (Option.bind (
 lpO (fun (f : Int) =>
 cond (decide (f < (↑(List.length (List.map SV.str c.Names)) : Int)))
 ((zjg (k.up_) ((↑(List.length (List.map SV.str c.Names)) : Int)) d f).bind fun y =>
 cond (decide (y < 0))
 (some (.inr (.inr (.inr (.inr ((d, 4)))))))
 ((zs8 (k.down_) ((↑(List.length (List.map SV.str c.Names)) : Int)) d f).bind fun z =>
 cond (decide (z < 0))
 (some (.inr (.inr (.inr (.inr ((d, 4)))))))
 (zg (IntKind.wrap .i64 (f + 1)) fun A =>
 some (.inl A))))
 (some (.inr (.inl ())))) (0))
 (Sum.elim (fun (_ : Unit) =>
 zg (IntKind.wrap .i64 (d + 1)) fun C =>
 some (.inl C)) some))
 (some (.inr (.inl ())))) (0))
 (Sum.elim (fun (_ : Unit) =>
 some ((0, 0))) some)) some))))
def zya (b : TP) : Option (Int × Int) :=
 (zaa (b.Lattice)).bind fun a =>
 some a
def zm3 (a : List UInt8) : Option (Int × Int) :=
 Option.bind (
 cond (decide ([(110 : UInt8), (101 : UInt8), (103 : UInt8)] = a))
 (some (.inr ((1, 0))))
 (cond (decide ([(97 : UInt8), (98 : UInt8), (115 : UInt8)] = a))
 (some (.inr ((2, 0))))
 (cond (decide ([(110 : UInt8), (111 : UInt8), (116 : UInt8)] = a))
 (some (.inr ((3, 0))))
 (cond (decide ([(115 : UInt8), (104 : UInt8), (97 : UInt8), (112 : UInt8), (101 : UInt8)] = a))
 (some (.inr ((4, 0))))
 (cond (decide ([(114 : UInt8), (97 : UInt8), (118 : UInt8), (101 : UInt8), (108 : UInt8)] = a))
 (some (.inr ((5, 0))))
 (cond (decide ([(114 : UInt8), (101 : UInt8), (118 : UInt8), (101 : UInt8), (114 : UInt8), (115 : UInt8), (101 : UInt8)] = a))
 (some (.inr ((6, 0))))
 (cond (decide ([(102 : UInt8), (108 : UInt8), (105 : UInt8), (112 : UInt8)] = a))
 (some (.inr ((7, 0))))
 (cond (decide ([(105 : UInt8), (111 : UInt8), (116 : UInt8), (97 : UInt8)] = a))
 (some (.inr ((8, 0))))
 (cond (decide ([(115 : UInt8), (117 : UInt8), (109 : UInt8)] = a))
 (some (.inr ((9, 0))))
 (cond (decide ([(108 : UInt8), (101 : UInt8), (97 : UInt8), (115 : UInt8), (116 : UInt8)] = a))
 (some (.inr ((10, 0))))
 (cond (decide ([(109 : UInt8), (111 : UInt8), (115 : UInt8), (116 : UInt8)] = a))
 (some (.inr ((11, 0))))
 (cond (decide ([(99 : UInt8), (111 : UInt8), (117 : UInt8), (110 : UInt8), (116 : UInt8)] = a))
 (some (.inr ((12, 0))))
 (cond (decide ([(115 : UInt8), (99 : UInt8), (97 : UInt8), (110 : UInt8)] = a))
 (some (.inr ((13, 0))))
 (cond (decide ([(103 : UInt8), (114 : UInt8), (97 : UInt8), (100 : UInt8), (101 : UInt8)] = a))
 (some (.inr ((14, 0))))
 (cond (decide ([(97 : UInt8), (100 : UInt8), (100 : UInt8)] = a))
 (some (.inr ((15, 0))))
 (cond (decide ([(115 : UInt8), (117 : UInt8), (98 : UInt8)] = a))
 (some (.inr ((16, 0))))
 (cond (decide ([(109 : UInt8), (117 : UInt8), (108 : UInt8)] = a))
 (some (.inr ((17, 0))))
 (cond (decide ([(100 : UInt8), (105 : UInt8), (118 : UInt8)] = a))
 (some (.inr ((18, 0))))
 (cond (decide ([(109 : UInt8), (111 : UInt8), (100 : UInt8)] = a))
 (some (.inr ((19, 0))))
 (cond (decide ([(112 : UInt8), (108 : UInt8), (117 : UInt8), (115 : UInt8)] = a))
 (some (.inr ((20, 0))))
 (cond (decide ([(109 : UInt8), (105 : UInt8), (110 : UInt8), (117 : UInt8), (115 : UInt8)] = a))
 (some (.inr ((21, 0))))
 (cond (decide ([(116 : UInt8), (105 : UInt8), (109 : UInt8), (101 : UInt8), (115 : UInt8)] = a))
 (some (.inr ((22, 0))))
 (cond (decide ([(101 : UInt8), (113 : UInt8)] = a))
 (some (.inr ((23, 0))))
 (cond (decide ([(110 : UInt8), (101 : UInt8)] = a))
 (some (.inr ((24, 0))))
 (cond (decide ([(108 : UInt8), (116 : UInt8)] = a))
 (some (.inr ((25, 0))))
 (cond (decide ([(108 : UInt8), (101 : UInt8)] = a))
 (some (.inr ((26, 0))))
 (cond (decide ([(103 : UInt8), (116 : UInt8)] = a))
 (some (.inr ((27, 0))))
 (cond (decide ([(103 : UInt8), (101 : UInt8)] = a))
 (some (.inr ((28, 0))))
 (cond (decide ([(97 : UInt8), (110 : UInt8), (100 : UInt8)] = a))
 (some (.inr ((29, 0))))
 (cond (decide ([(111 : UInt8), (114 : UInt8)] = a))
 (some (.inr ((30, 0))))
 (cond (decide ([(109 : UInt8), (105 : UInt8), (110 : UInt8)] = a))
 (some (.inr ((31, 0))))
 (cond (decide ([(109 : UInt8), (97 : UInt8), (120 : UInt8)] = a))
 (some (.inr ((32, 0))))
 (cond (decide ([(116 : UInt8), (97 : UInt8), (107 : UInt8), (101 : UInt8)] = a))
 (some (.inr ((33, 0))))
 (cond (decide ([(100 : UInt8), (114 : UInt8), (111 : UInt8), (112 : UInt8)] = a))
 (some (.inr ((34, 0))))
 (cond (decide ([(102 : UInt8), (105 : UInt8), (108 : UInt8), (108 : UInt8)] = a))
 (some (.inr ((35, 0))))
 (cond (decide ([(103 : UInt8), (114 : UInt8), (105 : UInt8), (100 : UInt8)] = a))
 (some (.inr ((36, 0))))
 (cond (decide ([(99 : UInt8), (97 : UInt8), (116 : UInt8)] = a))
 (some (.inr ((37, 0))))
 (cond (decide ([(97 : UInt8), (116 : UInt8)] = a))
 (some (.inr ((38, 0))))
 (cond (decide ([(105 : UInt8), (110 : UInt8)] = a))
 (some (.inr ((39, 0))))
 (cond (decide ([(112 : UInt8), (105 : UInt8), (99 : UInt8), (107 : UInt8)] = a))
 (some (.inr ((40, 0))))
 (some (.inl ()))))))))))))))))))))))))))))))))))))))))))
 (Sum.elim (fun (_ : Unit) =>
 some ((0, 4))) some)
def ztu (a : Int) : Option (Bool) :=
 zg (IntKind.wrap .i32 a) fun b =>
 zg (IntKind.wrap .i64 b) fun c =>
 cond (decide (a = c))
 (zg (IntKind.wrap .i32 a) fun d =>
 (zap d).bind fun e =>
 some e)
 (some (false))
def zg3 : Option (List (List UInt8)) :=
 some ([[], (ByteArray.mk #[32]).data.toList, (ByteArray.mk #[10]).data.toList, (ByteArray.mk #[40, 91]).data.toList, (ByteArray.mk #[41, 93]).data.toList, (ByteArray.mk #[34]).data.toList, [], (ByteArray.mk #[45]).data.toList, [], (ByteArray.mk #[60, 61]).data.toList])
def zdo (a : Int) : Option (Int × Int) :=
 (ztu a).bind fun f =>
 cond (!f)
 (some ((0, 7)))
 (cond (decide (48 <= a))
 (cond (decide (a <= 57))
 (some ((6, 0)))
 (cond (decide (97 <= a))
 (cond (decide (a <= 122))
 (some ((8, 0)))
 ((zg3).bind fun g =>
 Option.bind (
 lpO (fun (b : Int) =>
 cond (decide (b < 10))
 (zi g b fun i =>
 zg (IntKind.wrap .i32 a) fun j =>
 (xE i j).bind fun k =>
 cond k
 (some (.inr (.inr ((b, 0)))))
 (zg (IntKind.wrap .i64 (b + 1)) fun l =>
 some (.inl l)))
 (some (.inr (.inl ())))) (0))
 (Sum.elim (fun (_ : Unit) =>
 some ((10, 0))) some)))
 ((zg3).bind fun m =>
 Option.bind (
 lpO (fun (c : Int) =>
 cond (decide (c < 10))
 (zi m c fun n =>
 zg (IntKind.wrap .i32 a) fun o =>
 (xE n o).bind fun p =>
 cond p
 (some (.inr (.inr ((c, 0)))))
 (zg (IntKind.wrap .i64 (c + 1)) fun q =>
 some (.inl q)))
 (some (.inr (.inl ())))) (0))
 (Sum.elim (fun (_ : Unit) =>
 some ((10, 0))) some))))
 (cond (decide (97 <= a))
 (cond (decide (a <= 122))
 (some ((8, 0)))
 ((zg3).bind fun s =>
 Option.bind (
 lpO (fun (d : Int) =>
 cond (decide (d < 10))
 (zi s d fun t =>
 zg (IntKind.wrap .i32 a) fun u =>
 (xE t u).bind fun v =>
 cond v
 (some (.inr (.inr ((d, 0)))))
 (zg (IntKind.wrap .i64 (d + 1)) fun w =>
 some (.inl w)))
 (some (.inr (.inl ())))) (0))
 (Sum.elim (fun (_ : Unit) =>
 some ((10, 0))) some)))
 ((zg3).bind fun x =>
 Option.bind (
 lpO (fun (e : Int) =>
 cond (decide (e < 10))
 (zi x e fun y =>
 zg (IntKind.wrap .i32 a) fun z =>
 (xE y z).bind fun A =>
 cond A
 (some (.inr (.inr ((e, 0)))))
 (zg (IntKind.wrap .i64 (e + 1)) fun C =>
 some (.inl C)))
 (some (.inr (.inl ())))) (0))
 (Sum.elim (fun (_ : Unit) =>
 some ((10, 0))) some))))
def zc4 (a : List UInt8) : Option (Int) :=
 zi a (0) fun b =>
 zg (IntKind.wrap .u64 (↑(UInt8.toNat b) : Int)) fun c =>
 zi a (1) fun d =>
 zg (IntKind.wrap .u64 (↑(UInt8.toNat d) : Int)) fun e =>
 zg (IntKind.wrap .u64 (e * 2 ^ min (Int.toNat 8) (IntKind.bits IntKind.u64))) fun f =>
 zi a (2) fun g =>
 zg (IntKind.wrap .u64 (↑(UInt8.toNat g) : Int)) fun i =>
 zg (IntKind.wrap .u64 (i * 2 ^ min (Int.toNat 16) (IntKind.bits IntKind.u64))) fun j =>
 zi a (3) fun k =>
 zg (IntKind.wrap .u64 (↑(UInt8.toNat k) : Int)) fun l =>
 zg (IntKind.wrap .u64 (l * 2 ^ min (Int.toNat 24) (IntKind.bits IntKind.u64))) fun m =>
 zi a (4) fun n =>
 zg (IntKind.wrap .u64 (↑(UInt8.toNat n) : Int)) fun o =>
 zg (IntKind.wrap .u64 (o * 2 ^ min (Int.toNat 32) (IntKind.bits IntKind.u64))) fun p =>
 zi a (5) fun q =>
 zg (IntKind.wrap .u64 (↑(UInt8.toNat q) : Int)) fun s =>
 zg (IntKind.wrap .u64 (s * 2 ^ min (Int.toNat 40) (IntKind.bits IntKind.u64))) fun t =>
 zi a (6) fun u =>
 zg (IntKind.wrap .u64 (↑(UInt8.toNat u) : Int)) fun v =>
 zg (IntKind.wrap .u64 (v * 2 ^ min (Int.toNat 48) (IntKind.bits IntKind.u64))) fun w =>
 zi a (7) fun x =>
 zg (IntKind.wrap .u64 (↑(UInt8.toNat x) : Int)) fun y =>
 zg (IntKind.wrap .u64 (y * 2 ^ min (Int.toNat 56) (IntKind.bits IntKind.u64))) fun z =>
 some (bits BinOp.or IntKind.u64 (bits BinOp.or IntKind.u64 (bits BinOp.or IntKind.u64 (bits BinOp.or IntKind.u64 (bits BinOp.or IntKind.u64 (bits BinOp.or IntKind.u64 (bits BinOp.or IntKind.u64 c f) j) m) p) t) w) z)
def zCj (m : List UInt8) : Option (Bool) :=
 Option.bind (
 lpO (fun (a : List UInt8) =>
 cond (decide (0 < (↑(List.length a) : Int)))
 (zi a (0) fun c =>
 cond (decide ((↑(UInt8.toNat c) : Int) < 128))
 (zk ((0 : Int) <= (1 : Int) /\ (1 : Int) <= (↑(List.length a) : Int)) (
 cond (decide (8 < (↑(List.length (List.drop (Int.toNat 1) (List.take (Int.toNat (↑(List.length a) : Int)) a))) : Int)))
 ((zc4 (List.drop (Int.toNat 1) (List.take (Int.toNat (↑(List.length a) : Int)) a))).bind fun d =>
 cond (decide (bits BinOp.and IntKind.u64 d 9259542123273814144 = 0))
 (zk ((0 : Int) <= (8 : Int) /\ (8 : Int) <= (↑(List.length (List.drop (Int.toNat (1 : Int)) (List.take (Int.toNat (↑(List.length a) : Int)) a))) : Int)) (
 cond (decide (16 < (↑(List.length (List.drop (Int.toNat 8) (List.take (Int.toNat (↑(List.length (List.drop (Int.toNat 1) (List.take (Int.toNat (↑(List.length a) : Int)) a))) : Int)) (List.drop (Int.toNat 1) (List.take (Int.toNat (↑(List.length a) : Int)) a))))) : Int)))
 ((zc4 (List.drop (Int.toNat 8) (List.take (Int.toNat (↑(List.length (List.drop (Int.toNat 1) (List.take (Int.toNat (↑(List.length a) : Int)) a))) : Int)) (List.drop (Int.toNat 1) (List.take (Int.toNat (↑(List.length a) : Int)) a))))).bind fun e =>
 zk ((0 : Int) <= (8 : Int) /\ (8 : Int) <= (↑(List.length (List.drop (Int.toNat (8 : Int)) (List.take (Int.toNat (↑(List.length (List.drop (Int.toNat (1 : Int)) (List.take (Int.toNat (↑(List.length a) : Int)) a))) : Int)) (List.drop (Int.toNat (1 : Int)) (List.take (Int.toNat (↑(List.length a) : Int)) a))))) : Int)) (
 (zc4 (List.drop (Int.toNat 8) (List.take (Int.toNat (↑(List.length (List.drop (Int.toNat 8) (List.take (Int.toNat (↑(List.length (List.drop (Int.toNat 1) (List.take (Int.toNat (↑(List.length a) : Int)) a))) : Int)) (List.drop (Int.toNat 1) (List.take (Int.toNat (↑(List.length a) : Int)) a))))) : Int)) (List.drop (Int.toNat 8) (List.take (Int.toNat (↑(List.length (List.drop (Int.toNat 1) (List.take (Int.toNat (↑(List.length a) : Int)) a))) : Int)) (List.drop (Int.toNat 1) (List.take (Int.toNat (↑(List.length a) : Int)) a))))))).bind fun f =>
 cond (decide (bits BinOp.and IntKind.u64 (bits BinOp.or IntKind.u64 e f) 9259542123273814144 = 0))
 (zk ((0 : Int) <= (16 : Int) /\ (16 : Int) <= (↑(List.length (List.drop (Int.toNat (8 : Int)) (List.take (Int.toNat (↑(List.length (List.drop (Int.toNat (1 : Int)) (List.take (Int.toNat (↑(List.length a) : Int)) a))) : Int)) (List.drop (Int.toNat (1 : Int)) (List.take (Int.toNat (↑(List.length a) : Int)) a))))) : Int)) (
 Option.bind (
 lpO (fun (b : List UInt8) =>
 cond (decide (32 < (↑(List.length b) : Int)))
 ((zc4 b).bind fun g =>
 zk ((0 : Int) <= (8 : Int) /\ (8 : Int) <= (↑(List.length b) : Int)) (
 (zc4 (List.drop (Int.toNat 8) (List.take (Int.toNat (↑(List.length b) : Int)) b))).bind fun i =>
 zk ((0 : Int) <= (16 : Int) /\ (16 : Int) <= (↑(List.length b) : Int)) (
 (zc4 (List.drop (Int.toNat 16) (List.take (Int.toNat (↑(List.length b) : Int)) b))).bind fun j =>
 zk ((0 : Int) <= (24 : Int) /\ (24 : Int) <= (↑(List.length b) : Int)) (
 (zc4 (List.drop (Int.toNat 24) (List.take (Int.toNat (↑(List.length b) : Int)) b))).bind fun k =>
 cond (decide (bits BinOp.and IntKind.u64 (bits BinOp.or IntKind.u64 (bits BinOp.or IntKind.u64 g i) (bits BinOp.or IntKind.u64 j k)) 9259542123273814144 = 0))
 (zk ((0 : Int) <= (32 : Int) /\ (32 : Int) <= (↑(List.length b) : Int)) (
 some (.inl (List.drop (Int.toNat 32) (List.take (Int.toNat (↑(List.length b) : Int)) b)))))
 (some (.inr (.inl b)))))))
 (some (.inr (.inl b)))) (List.drop (Int.toNat 16) (List.take (Int.toNat (↑(List.length (List.drop (Int.toNat 8) (List.take (Int.toNat (↑(List.length (List.drop (Int.toNat 1) (List.take (Int.toNat (↑(List.length a) : Int)) a))) : Int)) (List.drop (Int.toNat 1) (List.take (Int.toNat (↑(List.length a) : Int)) a))))) : Int)) (List.drop (Int.toNat 8) (List.take (Int.toNat (↑(List.length (List.drop (Int.toNat 1) (List.take (Int.toNat (↑(List.length a) : Int)) a))) : Int)) (List.drop (Int.toNat 1) (List.take (Int.toNat (↑(List.length a) : Int)) a)))))))
 (Sum.elim (fun (l : List UInt8) =>
 some (.inl l)) some)))
 (some (.inl (List.drop (Int.toNat 8) (List.take (Int.toNat (↑(List.length (List.drop (Int.toNat 1) (List.take (Int.toNat (↑(List.length a) : Int)) a))) : Int)) (List.drop (Int.toNat 1) (List.take (Int.toNat (↑(List.length a) : Int)) a))))))))
 (some (.inl (List.drop (Int.toNat 8) (List.take (Int.toNat (↑(List.length (List.drop (Int.toNat 1) (List.take (Int.toNat (↑(List.length a) : Int)) a))) : Int)) (List.drop (Int.toNat 1) (List.take (Int.toNat (↑(List.length a) : Int)) a))))))))
 (some (.inl (List.drop (Int.toNat 1) (List.take (Int.toNat (↑(List.length a) : Int)) a)))))
 (some (.inl (List.drop (Int.toNat 1) (List.take (Int.toNat (↑(List.length a) : Int)) a))))))
 (none))
 (some (.inr (.inl ())))) m)
 (Sum.elim (fun (_ : Unit) =>
 some (true)) some)
def ztn (a : TK) : Option (Int) :=
 Option.bind (
 cond (decide (a.Kind = 1))
 (some (.inl ((0, a.S))))
 (cond (decide (a.Kind = 3))
 (some (.inl ((0, a.S))))
 (cond (decide (a.Kind = 2))
 (some (.inl ((a.N, []))))
 (some (.inl ((0, [])))))))
 (Sum.elim (fun (f : Int × List UInt8) =>
 cond (decide (a.Kind < 1))
 (some (2))
 (cond (decide (9 < a.Kind))
 (some (2))
 (cond (!(decide (a.Kind = a.Kind) && (decide (a.From = a.From) && (decide (a.To = a.To) && (decide (a.N = f.fst) && (decide (a.S = f.snd) && true))))))
 (some (2))
 (Option.bind (
 cond (decide (a.Kind = 1))
 (cond (decide ((↑(List.length a.S) : Int) <= 0))
 (some (.inr (6)))
 (zi (a.S) (0) fun g =>
 zg (IntKind.wrap .i64 (↑(UInt8.toNat g) : Int)) fun i =>
 (zdo i).bind fun j =>
 cond (!decide (j.fst = 8))
 (some (.inr (6)))
 (zi (a.S) (0) fun k =>
 zg (IntKind.wrap .i64 (↑(UInt8.toNat k) : Int)) fun l =>
 (zdo l).bind fun m =>
 Option.bind (
 lpO (fun (b : Int × Int) =>
 cond (decide (b.fst = 8))
 (zg (IntKind.wrap .i64 (b.snd + 1)) fun c =>
 cond (decide ((↑(List.length a.S) : Int) <= c))
 (some (.inl ((10, c))))
 (zi (a.S) c fun n =>
 zg (IntKind.wrap .i64 (↑(UInt8.toNat n) : Int)) fun o =>
 (zdo o).bind fun p =>
 some (.inl ((p.fst, c)))))
 (cond (decide (b.fst = 6))
 (zg (IntKind.wrap .i64 (b.snd + 1)) fun d =>
 cond (decide ((↑(List.length a.S) : Int) <= d))
 (some (.inl ((10, d))))
 (zi (a.S) d fun q =>
 zg (IntKind.wrap .i64 (↑(UInt8.toNat q) : Int)) fun s =>
 (zdo s).bind fun t =>
 some (.inl ((t.fst, d)))))
 (some (.inr (.inl ((decide (b.fst = 6), b))))))) ((m.fst, 0)))
 (Sum.elim (fun (e : Bool × Int × Int) =>
 zk ((0 : Int) <= (0 : Int) /\ 0 <= e.snd.snd /\ e.snd.snd <= (↑(List.length a.S) : Int)) (
 cond (!decide (List.drop (Int.toNat 0) (List.take (Int.toNat e.snd.snd) a.S) = a.S))
 (some (.inr (6)))
 (some (.inl (16))))) some))))
 (cond (decide (a.Kind = 3))
 ((zCj (a.S)).bind fun u =>
 cond (!u)
 (some (.inr (6)))
 (some (.inl (2000))))
 (some (.inl (0)))))
 (Sum.elim (fun (v : Int) =>
 cond (decide (v < (↑(List.length a.S) : Int)))
 (some (3))
 (some (0))) some))))) some)
def zi5 (a : List UInt8) : Option (Bool) :=
 cond (decide (a = (ByteArray.mk #[118, 97, 114]).data.toList))
 (some (false))
 (cond (decide (a = (ByteArray.mk #[100, 101, 102]).data.toList))
 (some (false))
 (cond (decide (a = (ByteArray.mk #[111, 117, 116]).data.toList))
 (some (false))
 (cond (decide (a = (ByteArray.mk #[105, 102]).data.toList))
 (some (false))
 (cond (decide (a = (ByteArray.mk #[101, 108, 115, 101]).data.toList))
 (some (false))
 (cond (decide (a = (ByteArray.mk #[119, 104, 105, 108, 101]).data.toList))
 (some (false))
 (cond (decide (a = (ByteArray.mk #[101, 110, 100]).data.toList))
 (some (false))
 (cond (decide (a = (ByteArray.mk #[114, 101, 108, 101, 97, 115, 101]).data.toList))
 (some (false))
 (cond (decide (a = (ByteArray.mk #[105, 110, 116]).data.toList))
 (some (false))
 (cond (decide (a = (ByteArray.mk #[99, 104, 97, 114]).data.toList))
 (some (false))
 ((zm3 a).bind fun b =>
 cond (decide (b.snd = 0))
 (some (false))
 ((ztn (TK.mk 1 0 0 0 a)).bind fun c =>
 some (decide (c = 0)))))))))))))
def xt (b : TL) (a : Int) : Option (Bool) :=
 cond (decide (0 <= a))
 (some (decide (a < (↑(List.length (List.map SV.str b.Names)) : Int))))
 (some (false))
def zss (c : TP) : Option (Int × Int) :=
 cond (decide (16 < (↑(List.length (List.map zU c.Channels)) : Int)))
 (some (((-1 : Int), 3)))
 (Option.bind (
 lpO (fun (a : Int × List (List UInt8)) =>
 cond (decide (a.fst < (↑(List.length (List.map zU c.Channels)) : Int)))
 (zi (c.Channels) (a.fst) fun b =>
 (zi5 (b.s_)).bind fun d =>
 cond (!d)
 (some (.inr (.inr ((a.fst, 24)))))
 (cond (inL (b.s_) (a.snd))
 (some (.inr (.inr ((a.fst, 8)))))
 (cond (inL (b.s_) (a.snd))
 ((xt (c.Lattice) (b.at_)).bind fun e =>
 cond (!e)
 (some (.inr (.inr ((a.fst, 7)))))
 (zg (IntKind.wrap .i64 (a.fst + 1)) fun f =>
 some (.inl ((f, a.snd)))))
 ((xt (c.Lattice) (b.at_)).bind fun g =>
 cond (!g)
 (some (.inr (.inr ((a.fst, 7)))))
 (zg (IntKind.wrap .i64 (a.fst + 1)) fun i =>
 some (.inl ((i, a.snd ++ [b.s_]))))))))
 (some (.inr (.inl ())))) ((0, [])))
 (Sum.elim (fun (_ : Unit) =>
 some ((0, 0))) some))
def ztj (e : TL) (f : List Int) : Option (Int) :=
 (zaa e).bind fun b =>
 cond (!decide (b.snd = 0))
 (some (b.snd))
 (Option.bind (
 lpO (fun (a : Int) =>
 cond (decide (a < (↑(List.length (List.map (SV.int .i64) f)) : Int)))
 (zi f a fun c =>
 cond (decide (c < 0))
 (some (.inr (.inr (7))))
 (cond (decide ((↑(List.length (List.map SV.str e.Names)) : Int) <= c))
 (some (.inr (.inr (7))))
 (zg (IntKind.wrap .i64 (a + 1)) fun d =>
 some (.inl d))))
 (some (.inr (.inl ())))) (0))
 (Sum.elim (fun (_ : Unit) =>
 some (0)) some))
def zmg (c : Int) : Option (Int) :=
 zi ((ByteArray.mk (List.toArray (List.append (List.append [(0 : UInt8), 1, 1, 2, 1, 2, 2, 3, 1, 2, 2, 3, 2, 3, 3, 4, 1, 2, 2, 3, 2, 3, 3, 4, 2, 3, 3, 4, 3, 4, 4, 5, 1, 2, 2, 3, 2, 3, 3, 4, 2, 3, 3, 4, 3, 4, 4, 5, 2, 3, 3, 4, 3, 4, 4, 5, 3, 4, 4, 5, 4, 5, 5, 6] [(1 : UInt8), 2, 2, 3, 2, 3, 3, 4, 2, 3, 3, 4, 3, 4, 4, 5, 2, 3, 3, 4, 3, 4, 4, 5, 3, 4, 4, 5, 4, 5, 5, 6, 2, 3, 3, 4, 3, 4, 4, 5, 3, 4, 4, 5, 4, 5, 5, 6, 3, 4, 4, 5, 4, 5, 5, 6, 4, 5, 5, 6, 5, 6, 6, 7]) (List.append [(1 : UInt8), 2, 2, 3, 2, 3, 3, 4, 2, 3, 3, 4, 3, 4, 4, 5, 2, 3, 3, 4, 3, 4, 4, 5, 3, 4, 4, 5, 4, 5, 5, 6, 2, 3, 3, 4, 3, 4, 4, 5, 3, 4, 4, 5, 4, 5, 5, 6, 3, 4, 4, 5, 4, 5, 5, 6, 4, 5, 5, 6, 5, 6, 6, 7] [(2 : UInt8), 3, 3, 4, 3, 4, 4, 5, 3, 4, 4, 5, 4, 5, 5, 6, 3, 4, 4, 5, 4, 5, 5, 6, 4, 5, 5, 6, 5, 6, 6, 7, 3, 4, 4, 5, 4, 5, 5, 6, 4, 5, 5, 6, 5, 6, 6, 7, 4, 5, 5, 6, 5, 6, 6, 7, 5, 6, 6, 7, 6, 7, 7, 8])))).data.toList) c fun a =>
 zg (IntKind.wrap .i64 (↑(UInt8.toNat a) : Int)) fun b =>
 some b
def zr0 (i : List Int) (g : Int) : Option (Int) :=
 Option.bind (
 lpO (fun (a : Int) =>
 zg (IntKind.wrap .i64 (g - 1)) fun b =>
 cond (decide (a < b))
 (zk (0 <= a /\ a < (↑(8 : Nat) : Int)) (
 zi i ((↑(Int.toNat a) : Int)) fun c =>
 (zmg c).bind fun d =>
 cond (decide (d < g))
 (zg (IntKind.wrap .i64 (a + 1)) fun e =>
 some (.inl e))
 (some (.inr (.inl a)))))
 (some (.inr (.inl a)))) (0))
 (Sum.elim (fun (f : Int) =>
 some f) some)
def zmo (d : TL) : Option (Int × Int) :=
 (ztj d ([])).bind fun a =>
 cond (!decide (a = 0))
 (some ((0, a)))
 ((zf6 d).bind fun b =>
 (zr0 (b.up_) (b.n_)).bind fun c =>
 some ((c, 0)))
def zrq (f : TL) (d : List Int) : Option (Int × Int) :=
 (zaa f).bind fun b =>
 cond (!decide (b.snd = 0))
 (some (((-1 : Int), b.snd)))
 (cond (decide (64 < (↑(List.length (List.map (SV.int .i64) d)) : Int)))
 (some (((-1 : Int), 3)))
 (Option.bind (
 lpO (fun (a : Int) =>
 cond (decide (a < (↑(List.length (List.map (SV.int .i64) d)) : Int)))
 (zi d a fun c =>
 cond (decide (c < 0))
 (some (.inr (.inr ((a, 7)))))
 (cond (decide ((↑(List.length (List.map SV.str f.Names)) : Int) <= c))
 (some (.inr (.inr ((a, 7)))))
 (zg (IntKind.wrap .i64 (a + 1)) fun e =>
 some (.inl e))))
 (some (.inr (.inl ())))) (0))
 (Sum.elim (fun (_ : Unit) =>
 some ((0, 0))) some)))
def zom (c : TL) (d : Int) (b : Int) : Option (Bool) :=
 zi (c.Up) d fun a =>
 zk (0 <= b) (
 some (decide (bits BinOp.and IntKind.u8 (Int.fdiv a (2 ^ min (Int.toNat b) (IntKind.bits IntKind.u8))) 1 = 1)))
def zxw (b : Int) (c : TL) (d : Int) : Option (Bool) :=
 (zom c b d).bind fun a =>
 some (!a)
def zre (e : List Int) (f : TL × Int) : Option (Int) :=
 Option.bind (
 lpO (fun (a : Int) =>
 cond (decide (a < (↑(List.length (List.map (SV.int .i64) e)) : Int)))
 (zi e a fun b =>
 (zxw b (f.fst) (f.snd)).bind fun c =>
 cond c
 (some (.inr (.inr a)))
 (zg (IntKind.wrap .i64 (a + 1)) fun d =>
 some (.inl d)))
 (some (.inr (.inl ())))) (0))
 (Sum.elim (fun (_ : Unit) =>
 some ((-1 : Int))) some)
def zjo (c : TL) (e : List Int) (d : Int) : Option (Int × Int) :=
 (zrq c e).bind fun a =>
 cond (!decide (a.snd = 0))
 (some a)
 (cond (decide (d < 0))
 (some (((-1 : Int), 7)))
 (cond (decide ((↑(List.length (List.map SV.str c.Names)) : Int) <= d))
 (some (((-1 : Int), 7)))
 ((zre e ((c, d))).bind fun b =>
 cond (decide (0 <= b))
 (some ((b, 25)))
 (some ((0, 0))))))
def zjf (b : TL) (a : TY) : Option (Int) :=
 (zmo b).bind fun c =>
 cond (!decide (c.snd = 0))
 (some (c.snd))
 (cond (!decide (a.Kind = 1))
 (cond (!decide (a.Kind = 2))
 (some (7))
 (cond (decide (a.Rank < 0))
 (some (7))
 (cond (decide (2 < a.Rank))
 (some (7))
 ((xt b (a.Axes.fst)).bind fun i =>
 cond (!i)
 (some (7))
 ((xt b (a.Axes.snd)).bind fun j =>
 cond (!j)
 (some (7))
 ((xt b (a.Data)).bind fun k =>
 cond (!k)
 (some (7))
 (zk (0 <= a.Rank /\ a.Rank <= (↑(2 : Nat) : Int)) (
 Option.bind (
 lpO (fun (d : Int) =>
 cond (decide (d < (↑(List.length (List.drop (Int.toNat a.Rank) (List.take (Int.toNat (↑(2 : Nat) : Int)) [SV.int .i64 a.Axes.fst, SV.int .i64 a.Axes.snd]))) : Int)))
 (zi (List.drop (Int.toNat a.Rank) (List.take (Int.toNat (↑(2 : Nat) : Int)) [a.Axes.fst, a.Axes.snd])) d fun l =>
 cond (!decide (l = c.fst))
 (some (.inr (.inr (6))))
 (zg (IntKind.wrap .i64 (d + 1)) fun m =>
 some (.inl m)))
 (some (.inr (.inl ())))) (0))
 (Sum.elim (fun (_ : Unit) =>
 zk (0 <= a.Rank /\ a.Rank <= (↑(2 : Nat) : Int)) (
 (zjo b (List.drop (Int.toNat 0) (List.take (Int.toNat a.Rank) [a.Axes.fst, a.Axes.snd])) (a.Data)).bind fun f =>
 cond (!decide (f.snd = 0))
 (some (f.snd))
 (some (0)))) some)))))))))
 (cond (decide (a.Rank < 0))
 (some (7))
 (cond (decide (2 < a.Rank))
 (some (7))
 ((xt b (a.Axes.fst)).bind fun n =>
 cond (!n)
 (some (7))
 ((xt b (a.Axes.snd)).bind fun o =>
 cond (!o)
 (some (7))
 ((xt b (a.Data)).bind fun p =>
 cond (!p)
 (some (7))
 (zk (0 <= a.Rank /\ a.Rank <= (↑(2 : Nat) : Int)) (
 Option.bind (
 lpO (fun (e : Int) =>
 cond (decide (e < (↑(List.length (List.drop (Int.toNat a.Rank) (List.take (Int.toNat (↑(2 : Nat) : Int)) [SV.int .i64 a.Axes.fst, SV.int .i64 a.Axes.snd]))) : Int)))
 (zi (List.drop (Int.toNat a.Rank) (List.take (Int.toNat (↑(2 : Nat) : Int)) [a.Axes.fst, a.Axes.snd])) e fun q =>
 cond (!decide (q = c.fst))
 (some (.inr (.inr (6))))
 (zg (IntKind.wrap .i64 (e + 1)) fun s =>
 some (.inl s)))
 (some (.inr (.inl ())))) (0))
 (Sum.elim (fun (_ : Unit) =>
 zk (0 <= a.Rank /\ a.Rank <= (↑(2 : Nat) : Int)) (
 (zjo b (List.drop (Int.toNat 0) (List.take (Int.toNat a.Rank) [a.Axes.fst, a.Axes.snd])) (a.Data)).bind fun g =>
 cond (!decide (g.snd = 0))
 (some (g.snd))
 (some (0)))) some)))))))))
def zth (c : TP) : Option (Int × Int) :=
 cond (decide (32 < (↑(List.length (List.map zO c.Vars)) : Int)))
 (some (((-1 : Int), 3)))
 (Option.bind (
 lpO (fun (a : Int × List (List UInt8)) =>
 cond (decide (a.fst < (↑(List.length (List.map zO c.Vars)) : Int)))
 (zi (c.Vars) (a.fst) fun b =>
 (zi5 (b.Name)).bind fun f =>
 cond (!f)
 (some (.inr (.inr ((a.fst, 24)))))
 (cond (inL (b.Name) (a.snd))
 (some (.inr (.inr ((a.fst, 8)))))
 (cond (inL (b.Name) (a.snd))
 ((zjf (c.Lattice) (b.Type_)).bind fun d =>
 cond (!decide (d = 0))
 (some (.inr (.inr ((a.fst, d)))))
 (zg (IntKind.wrap .i64 (a.fst + 1)) fun g =>
 some (.inl ((g, a.snd)))))
 ((zjf (c.Lattice) (b.Type_)).bind fun e =>
 cond (!decide (e = 0))
 (some (.inr (.inr ((a.fst, e)))))
 (zg (IntKind.wrap .i64 (a.fst + 1)) fun i =>
 some (.inl ((i, a.snd ++ [b.Name]))))))))
 (some (.inr (.inl ())))) ((0, [])))
 (Sum.elim (fun (_ : Unit) =>
 some ((0, 0))) some))
def zrx (c : TP) : Option (Int × Int) :=
 cond (decide (64 < (↑(List.length (List.map wG c.Rules)) : Int)))
 (some (((-1 : Int), 3)))
 (Option.bind (
 lpO (fun (a : Int × List (Int × Int)) =>
 cond (decide (a.fst < (↑(List.length (List.map wG c.Rules)) : Int)))
 (zi (c.Rules) (a.fst) fun b =>
 (xt (c.Lattice) (b.From)).bind fun d =>
 cond (!d)
 (some (.inr (.inr ((a.fst, 7)))))
 ((xt (c.Lattice) (b.Goal)).bind fun e =>
 cond (!e)
 (some (.inr (.inr ((a.fst, 7)))))
 (cond (decide (b.From = b.Goal))
 (some (.inr (.inr ((a.fst, 25)))))
 (zi (c.Lattice.Up) (b.Goal) fun f =>
 zk (0 <= b.From) (
 cond (decide (bits BinOp.and IntKind.u8 (Int.fdiv f (2 ^ min (Int.toNat b.From) (IntKind.bits IntKind.u8))) 1 = 0))
 (some (.inr (.inr ((a.fst, 25)))))
 (cond (inL ((b.From, b.Goal)) (a.snd))
 (some (.inr (.inr ((a.fst, 8)))))
 (cond (decide (b.K < 2))
 (some (.inr (.inr ((a.fst, 3)))))
 (cond (decide (400 < b.K))
 (some (.inr (.inr ((a.fst, 3)))))
 (cond (inL ((b.From, b.Goal)) (a.snd))
 (zg (IntKind.wrap .i64 (a.fst + 1)) fun g =>
 some (.inl ((g, a.snd))))
 (zg (IntKind.wrap .i64 (a.fst + 1)) fun i =>
 some (.inl ((i, a.snd ++ [(b.From, b.Goal)])))))))))))))
 (some (.inr (.inl ())))) ((0, [])))
 (Sum.elim (fun (_ : Unit) =>
 some ((0, 0))) some))
def znv (f : TP) : Option (Int × Int × Int) :=
 Option.bind (
 (zya f).bind fun b =>
 cond (!decide (b.snd = 0))
 (some (.inl ((1, b.snd, b.fst))))
 ((zss f).bind fun c =>
 cond (!decide (c.snd = 0))
 (some (.inl ((2, c.snd, c.fst))))
 ((zth f).bind fun d =>
 cond (!decide (d.snd = 0))
 (some (.inl ((3, d.snd, d.fst))))
 ((zrx f).bind fun a =>
 cond (!decide (a.snd = 0))
 (some (.inl ((4, a.snd, a.fst))))
 (some (.inl ((0, a.snd, a.fst))))))))
 (Sum.elim (fun (e : Int × Int × Int) =>
 some ((e.fst, e.snd.snd, e.snd.fst))) some)
def zq6 (a : Int) : Option (Bool) :=
 some (decide (a < 0))
def zwi (e : List Int) : Option (Int) :=
 Option.bind (
 lpO (fun (a : Int) =>
 cond (decide (a < (↑(List.length (List.map (SV.int .i64) e)) : Int)))
 (zi e a fun b =>
 (zq6 b).bind fun c =>
 cond c
 (some (.inr (.inr a)))
 (zg (IntKind.wrap .i64 (a + 1)) fun d =>
 some (.inl d)))
 (some (.inr (.inl ())))) (0))
 (Sum.elim (fun (_ : Unit) =>
 some ((-1 : Int))) some)
def zrt (b : List Int) : Option (Bool) :=
 (zwi b).bind fun a =>
 some (decide (0 <= a))
def ztr (a : Int) : Option (Bool) :=
 some (!decide (a = 0))
def zxd (e : List Int) : Option (Int) :=
 Option.bind (
 lpO (fun (a : Int) =>
 cond (decide (a < (↑(List.length (List.map (SV.int .i64) e)) : Int)))
 (zi e a fun b =>
 (ztr b).bind fun c =>
 cond c
 (some (.inr (.inr a)))
 (zg (IntKind.wrap .i64 (a + 1)) fun d =>
 some (.inl d)))
 (some (.inr (.inl ())))) (0))
 (Sum.elim (fun (_ : Unit) =>
 some ((-1 : Int))) some)
def zr4 (b : List Int) : Option (Bool) :=
 (zxd b).bind fun a =>
 some (decide (0 <= a))
def zsj (a : Int) : Option (Bool) :=
 some (decide (400 < a))
def zxt (e : List Int) : Option (Int) :=
 Option.bind (
 lpO (fun (a : Int) =>
 cond (decide (a < (↑(List.length (List.map (SV.int .i64) e)) : Int)))
 (zi e a fun b =>
 (zsj b).bind fun c =>
 cond c
 (some (.inr (.inr a)))
 (zg (IntKind.wrap .i64 (a + 1)) fun d =>
 some (.inl d)))
 (some (.inr (.inl ())))) (0))
 (Sum.elim (fun (_ : Unit) =>
 some ((-1 : Int))) some)
def zsa (b : List Int) : Option (Bool) :=
 (zxt b).bind fun a =>
 some (decide (0 <= a))
def zdl (e : Int) (a : Int × Int) : Option (Int) :=
 cond (decide (e = 2))
 (zg (IntKind.wrap .i64 (1 * a.snd)) fun b =>
 zg (IntKind.wrap .i64 (b * a.fst)) fun c =>
 some c)
 (cond (decide (e = 1))
 (zg (IntKind.wrap .i64 (1 * a.fst)) fun d =>
 some d)
 (some (1)))
def zsn (a : Int) (b : Int × Int) : Option (Int) :=
 cond (decide (a < 0))
 (some (7))
 (cond (decide (2 < a))
 (some (7))
 (zk (0 <= a /\ a <= (↑(2 : Nat) : Int)) (
 zk (0 <= a /\ a <= (↑(2 : Nat) : Int)) (
 (zrt (List.drop (Int.toNat 0) (List.take (Int.toNat a) [b.fst, b.snd]))).bind fun c =>
 cond c
 (some (7))
 ((zr4 (List.drop (Int.toNat a) (List.take (Int.toNat (↑(2 : Nat) : Int)) [b.fst, b.snd]))).bind fun d =>
 cond d
 (some (6))
 ((zsa (List.drop (Int.toNat 0) (List.take (Int.toNat a) [b.fst, b.snd]))).bind fun e =>
 cond e
 (some (15))
 ((zdl a b).bind fun f =>
 cond (decide (400 < f))
 (some (15))
 (some (0)))))))))
def zgi (c : Int) (d : Int × Int) : Option (Int × Int) :=
 (zsn c d).bind fun a =>
 cond (!decide (a = 0))
 (some ((0, a)))
 ((zdl c d).bind fun b =>
 some ((b, 0)))
def zll (d : Int) (a : Int) : Option (Bool) :=
 cond (decide (d = 1))
 (some (true))
 (cond (decide (0 <= a))
 (cond (decide (a <= 1114111))
 (zg (IntKind.wrap .i32 a) fun b =>
 (zap b).bind fun c =>
 some c)
 (some (false)))
 (some (false)))
def zsz (b : Int) (c : TA) : Option (Bool) :=
 (zll (c.Kind) b).bind fun a =>
 some (!a)
def zts (e : List Int) (f : TA) : Option (Int) :=
 Option.bind (
 lpO (fun (a : Int) =>
 cond (decide (a < (↑(List.length (List.map (SV.int .i64) e)) : Int)))
 (zi e a fun b =>
 (zsz b f).bind fun c =>
 cond c
 (some (.inr (.inr a)))
 (zg (IntKind.wrap .i64 (a + 1)) fun d =>
 some (.inl d)))
 (some (.inr (.inl ())))) (0))
 (Sum.elim (fun (_ : Unit) =>
 some ((-1 : Int))) some)
def zib (b : List Int) (c : TA) : Option (Bool) :=
 (zts b c).bind fun a =>
 some (decide (0 <= a))
def zeq (a : TA) : Option (Int) :=
 cond (!decide (a.Kind = 1))
 (cond (!decide (a.Kind = 2))
 (some (2))
 ((zgi (a.Rank) (a.Lens)).bind fun b =>
 cond (!decide (b.snd = 0))
 (some (b.snd))
 (cond (!decide ((↑(List.length (List.map (SV.int .i64) a.Cells)) : Int) = b.fst))
 (some (6))
 ((zib (a.Cells) a).bind fun d =>
 cond d
 (some (7))
 (some (0))))))
 ((zgi (a.Rank) (a.Lens)).bind fun c =>
 cond (!decide (c.snd = 0))
 (some (c.snd))
 (cond (!decide ((↑(List.length (List.map (SV.int .i64) a.Cells)) : Int) = c.fst))
 (some (6))
 ((zib (a.Cells) a).bind fun e =>
 cond e
 (some (7))
 (some (0)))))
def zlx (f : TP) (g : List TW) : Option (Int × Int) :=
 (znv f).bind fun c =>
 cond (!decide (c.snd.snd = 0))
 (some (((-1 : Int), c.snd.snd)))
 (cond (!decide ((↑(List.length (List.map zh g)) : Int) = (↑(List.length (List.map zO f.Vars)) : Int)))
 (some (((-1 : Int), 3)))
 (Option.bind (
 lpO (fun (a : Int) =>
 cond (decide (a < (↑(List.length (List.map zh g)) : Int)))
 (zi g a fun b =>
 zi (f.Vars) a fun d =>
 (zeq (b.Value)).bind fun e =>
 zi (f.Vars) a fun i =>
 cond (!decide (b.Name = i.Name))
 (some (.inr (.inr ((a, 24)))))
 (cond (!decide (e = 0))
 (some (.inr (.inr ((a, e)))))
 (cond (!decide (b.Value.Kind = d.Type_.Kind))
 (some (.inr (.inr ((a, 21)))))
 (cond (!decide (b.Value.Rank = d.Type_.Rank))
 (some (.inr (.inr ((a, 22)))))
 (zg (IntKind.wrap .i64 (a + 1)) fun j =>
 some (.inl j))))))
 (some (.inr (.inl ())))) (0))
 (Sum.elim (fun (_ : Unit) =>
 some ((0, 0))) some)))
def uD (f : TP) (g : List (List TW)) : Option (Int) :=
 (znv f).bind fun b =>
 cond (!decide (b.snd.snd = 0))
 (some (b.snd.snd))
 (Option.bind (
 lpO (fun (a : Int) =>
 cond (decide (a < (↑(List.length (List.map (zb 6 zh) g)) : Int)))
 (zi g a fun d =>
 (zlx f d).bind fun c =>
 cond (!decide (c.snd = 0))
 (some (.inr (.inr (c.snd))))
 (zg (IntKind.wrap .i64 (a + 1)) fun e =>
 some (.inl e)))
 (some (.inr (.inl ())))) (0))
 (Sum.elim (fun (_ : Unit) =>
 some (0)) some))
def zlo (c : TL) : Option (TG × Int) :=
 (zaa c).bind fun a =>
 cond (!decide (a.snd = 0))
 (some ((TG.mk (TL.mk [] []) 0, a.snd)))
 ((zmo c).bind fun b =>
 some ((TG.mk c b.fst, b.snd)))
def xP (b : TG) (a : Int) : Option (Bool) :=
 cond (decide (0 <= a))
 (some (decide (a < (↑(List.length (List.map SV.str b.Lattice.Names)) : Int))))
 (some (false))
def zem (c : TG) (d : Int) (b : Int) : Option (Bool) :=
 zi (c.Lattice.Up) d fun a =>
 zk (0 <= b) (
 some (decide (bits BinOp.and IntKind.u8 (Int.fdiv a (2 ^ min (Int.toNat b) (IntKind.bits IntKind.u8))) 1 = 1)))
def zlr (b : Int) (c : TG) (d : TY) : Option (Bool) :=
 (zem c b (d.Data)).bind fun a =>
 some (!a)
def ztb (e : List Int) (f : TG × TY) : Option (Int) :=
 Option.bind (
 lpO (fun (a : Int) =>
 cond (decide (a < (↑(List.length (List.map (SV.int .i64) e)) : Int)))
 (zi e a fun b =>
 (zlr b (f.fst) (f.snd)).bind fun c =>
 cond c
 (some (.inr (.inr a)))
 (zg (IntKind.wrap .i64 (a + 1)) fun d =>
 some (.inl d)))
 (some (.inr (.inl ())))) (0))
 (Sum.elim (fun (_ : Unit) =>
 some ((-1 : Int))) some)
def xH (b : List Int) (c : TG × TY) : Option (Bool) :=
 (ztb b c).bind fun a =>
 some (decide (0 <= a))
def zlp (b : TG) (a : TY) : Option (Int) :=
 Option.bind (
 cond (!decide (a.Kind = 1))
 (cond (!decide (a.Kind = 2))
 (some (.inr (7)))
 (cond (decide (a.Rank < 0))
 (some (.inr (7)))
 (cond (decide (2 < a.Rank))
 (some (.inr (7)))
 ((xP b (a.Axes.fst)).bind fun c =>
 cond (!c)
 (some (.inr (7)))
 ((xP b (a.Axes.snd)).bind fun d =>
 cond (!d)
 (some (.inr (7)))
 ((xP b (a.Data)).bind fun e =>
 cond (!e)
 (some (.inr (7)))
 (some (.inl ()))))))))
 (cond (decide (a.Rank < 0))
 (some (.inr (7)))
 (cond (decide (2 < a.Rank))
 (some (.inr (7)))
 ((xP b (a.Axes.fst)).bind fun f =>
 cond (!f)
 (some (.inr (7)))
 ((xP b (a.Axes.snd)).bind fun g =>
 cond (!g)
 (some (.inr (7)))
 ((xP b (a.Data)).bind fun i =>
 cond (!i)
 (some (.inr (7)))
 (some (.inl ()))))))))
 (Sum.elim (fun (_ : Unit) =>
 zcj (a.Rank) [
 cond (!(decide (b.bottom_ = a.Axes.fst) && (decide (b.bottom_ = a.Axes.snd) && true)))
 (some (6))
 (zk (0 <= a.Rank /\ a.Rank <= (↑(2 : Nat) : Int)) (
 (xH (List.drop (Int.toNat 0) (List.take (Int.toNat a.Rank) [a.Axes.fst, a.Axes.snd])) ((b, a))).bind fun j =>
 cond j
 (some (25))
 (some (0)))),
 cond (!(decide (a.Axes.fst = a.Axes.fst) && (decide (b.bottom_ = a.Axes.snd) && true)))
 (some (6))
 (zk (0 <= a.Rank /\ a.Rank <= (↑(2 : Nat) : Int)) (
 (xH (List.drop (Int.toNat 0) (List.take (Int.toNat a.Rank) [a.Axes.fst, a.Axes.snd])) ((b, a))).bind fun k =>
 cond k
 (some (25))
 (some (0)))),
 cond (!(decide (a.Axes.fst = a.Axes.fst) && (decide (a.Axes.snd = a.Axes.snd) && true)))
 (some (6))
 (zk (0 <= a.Rank /\ a.Rank <= (↑(2 : Nat) : Int)) (
 (xH (List.drop (Int.toNat 0) (List.take (Int.toNat a.Rank) [a.Axes.fst, a.Axes.snd])) ((b, a))).bind fun l =>
 cond l
 (some (25))
 (some (0))))]) some)
def zeu (m : TL) (c : TY) (e : Int) : Option ((Bool × Bool) × Bool × Int) :=
 (zlo m).bind fun b =>
 cond (!decide (b.snd = 0))
 (some (((false, false), false, b.snd)))
 ((zlp (b.fst) c).bind fun d =>
 cond (!decide (d = 0))
 (some (((false, false), false, d)))
 ((xP (b.fst) e).bind fun f =>
 cond (!f)
 (some (((false, false), false, 7)))
 (Option.bind (
 lpO (fun (a : Int × Bool × Bool) =>
 cond (decide (a.fst < c.Rank))
 (zk (0 <= a.fst /\ a.fst < (↑(2 : Nat) : Int)) (
 zi ([c.Axes.fst, c.Axes.snd]) ((↑(Int.toNat a.fst) : Int)) fun g =>
 (zem (b.fst) g e).bind fun i =>
 zk (0 <= a.fst /\ a.fst < (↑(2 : Nat) : Int)) (
 zi ([a.snd.fst, a.snd.snd]) ((↑(Int.toNat a.fst) : Int)) fun _ =>
 zg (IntKind.wrap .i64 (a.fst + 1)) fun j =>
 some (.inl ((j, xa a.snd (Int.toNat a.fst) i))))))
 (some (.inr (.inl (a.snd))))) ((0, false, false)))
 (Sum.elim (fun (k : Bool × Bool) =>
 (zem (b.fst) (c.Data) e).bind fun l =>
 some ((k, l, 0))) some))))
def zlf (e : Int) (b : Int × Int) (c : Int) : Option ((Int × Int) × Int) :=
 (zgi e b).bind fun a =>
 cond (!decide (a.snd = 0))
 (some (((0, 0), a.snd)))
 (cond (decide (c < 0))
 (some (((0, 0), 4)))
 (cond (decide (a.fst <= c))
 (some (((0, 0), 4)))
 (cond (decide (e < 2))
 (some (((c, 0), 0)))
 (zk (b.snd ≠ (0 : Int)) (
 zg (IntKind.wrap .i64 (Int.tdiv c b.snd)) fun d =>
 zk (b.snd ≠ (0 : Int)) (
 some (((d, Int.tmod c b.snd), 0))))))))
def zlc (a : Int × Int) : Option (Int) :=
 some (0)
def zlw (d : TA) (o : (Bool × Bool) × Bool) (p : Int × Int) : Option (TA × Bool) :=
 Option.bind (
 lpO (fun (a : Int × Int × Int) =>
 cond (decide (a.fst < 2))
 (zi ([o.fst.fst, o.fst.snd]) (a.fst) fun g =>
 cond (!g)
 (zk (0 <= a.fst /\ a.fst < (↑(2 : Nat) : Int)) (
 zi ([p.fst, p.snd]) ((↑(Int.toNat a.fst) : Int)) fun i =>
 zk (0 <= a.fst /\ a.fst < (↑(2 : Nat) : Int)) (
 zi ([a.snd.fst, a.snd.snd]) ((↑(Int.toNat a.fst) : Int)) fun _ =>
 zg (IntKind.wrap .i64 (a.fst + 1)) fun j =>
 some (.inl ((j, xa a.snd (Int.toNat a.fst) i))))))
 (zg (IntKind.wrap .i64 (a.fst + 1)) fun k =>
 some (.inl ((k, a.snd)))))
 (some (.inr (.inl (a.snd))))) ((0, d.Lens)))
 (Sum.elim (fun (c : Int × Int) =>
 (zgi (d.Rank) c).bind fun e =>
 cond (!decide (e.snd = 0))
 (some ((TA.mk 0 0 (0, 0) [], false)))
 (Option.bind (
 lpO (fun (b : Int × List Int) =>
 cond (decide (b.fst < e.fst))
 ((zlf (d.Rank) c (b.fst)).bind fun f =>
 cond (!decide (f.snd = 0))
 (some (.inr (.inr ((TA.mk 0 0 (0, 0) [], false)))))
 ((zlc (f.fst)).bind fun l =>
 zk ((List.length (List.map (SV.int .i64) b.snd) + (1 : Nat)) * (8 : Nat) <= (70368744177664 : Nat)) (
 zg (IntKind.wrap .i64 (b.fst + 1)) fun m =>
 some (.inl ((m, b.snd ++ [l]))))))
 (some (.inr (.inl (b.snd))))) ((0, [])))
 (Sum.elim (fun (n : List Int) =>
 some ((TA.mk d.Kind d.Rank c n, true))) some))) some)
def zln (d : Int) (c : (Bool × Bool) × Bool) (e : List TW) : Option (TW) :=
 zi e d fun a =>
 cond (!c.snd)
 ((zlw (a.Value) c ((0, 0))).bind fun b =>
 some (TW.mk a.Name b.fst))
 (some a)
def zsi (c : TP) (d : Int) (j : List TW) : Option (List TW × Int) :=
 cond (decide (d < 0))
 (some (([], 7)))
 (cond (decide ((↑(List.length (List.map SV.str c.Lattice.Names)) : Int) <= d))
 (some (([], 7)))
 (Option.bind (
 lpO (fun (a : Int × List TW) =>
 cond (decide (a.fst < (↑(List.length (List.map zO c.Vars)) : Int)))
 (zi (c.Vars) (a.fst) fun e =>
 (zeu (c.Lattice) (e.Type_) d).bind fun b =>
 cond (!decide (b.snd.snd = 0))
 (some (.inr (.inr (([], b.snd.snd)))))
 ((zln (a.fst) ((b.fst, b.snd.fst)) j).bind fun f =>
 zk ((List.length (List.map zh a.snd) + (1 : Nat)) * (72 : Nat) <= (70368744177664 : Nat)) (
 zg (IntKind.wrap .i64 (a.fst + 1)) fun g =>
 some (.inl ((g, a.snd ++ [f]))))))
 (some (.inr (.inl (a.snd))))) ((0, [])))
 (Sum.elim (fun (i : List TW) =>
 some ((i, 0))) some)))
def zh9 (c : TP) (d : List TW) (e : Int) : Option (List TW × Int) :=
 (uD c ([d])).bind fun a =>
 cond (!decide (a = 0))
 (some (([], a)))
 ((zsi c e d).bind fun b =>
 some b)
def zq9 (a : TA) (b : TA) : Option (Bool) :=
 cond (decide (a.Kind = b.Kind))
 (cond (decide (a.Rank = b.Rank))
 (some (decide (a.Lens.fst = b.Lens.fst) && (decide (a.Lens.snd = b.Lens.snd) && true)))
 (some (false)))
 (some (false))
def zsq (b : List Int) (f : List Int) : Option (Bool) :=
 cond (!decide ((↑(List.length (List.map (SV.int .i64) b)) : Int) = (↑(List.length (List.map (SV.int .i64) f)) : Int)))
 (some (false))
 (Option.bind (
 lpO (fun (a : Int) =>
 cond (decide (a < (↑(List.length (List.map (SV.int .i64) b)) : Int)))
 (zi b a fun c =>
 zi f a fun d =>
 cond (!decide (c = d))
 (some (.inr (.inr (false))))
 (zg (IntKind.wrap .i64 (a + 1)) fun e =>
 some (.inl e)))
 (some (.inr (.inl ())))) (0))
 (Sum.elim (fun (_ : Unit) =>
 some (true)) some))
def zeg (c : TA) (d : TA) : Option (Bool) :=
 (zq9 c d).bind fun a =>
 cond a
 ((zsq (c.Cells) (d.Cells)).bind fun b =>
 some b)
 (some (false))
def zlt (b : (Bool × Bool) × Bool) (c : TA) (d : TA) : Option (Bool) :=
 cond (!b.fst.fst && (!b.fst.snd && true) && (!b.snd && true))
 (some (true))
 (Option.bind (
 lpO (fun (a : Int) =>
 cond (decide (a < 2))
 (zi ([b.fst.fst, b.fst.snd]) a fun e =>
 cond e
 (zk (0 <= a /\ a < (↑(2 : Nat) : Int)) (
 zi ([c.Lens.fst, c.Lens.snd]) ((↑(Int.toNat a) : Int)) fun f =>
 zk (0 <= a /\ a < (↑(2 : Nat) : Int)) (
 zi ([d.Lens.fst, d.Lens.snd]) ((↑(Int.toNat a) : Int)) fun g =>
 cond (!decide (f = g))
 (some (.inr (.inr (false))))
 (zg (IntKind.wrap .i64 (a + 1)) fun i =>
 some (.inl i)))))
 (zg (IntKind.wrap .i64 (a + 1)) fun j =>
 some (.inl j)))
 (some (.inr (.inl ())))) (0))
 (Sum.elim (fun (_ : Unit) =>
 cond (!b.snd)
 (some (true))
 ((zeg c d).bind fun k =>
 some k)) some))
def zlk (a : Int) (e : (Bool × Bool) × Bool) (f : List TW) (g : List TW) : Option (Int) :=
 zi f a fun b =>
 zi g a fun c =>
 (zlt e (b.Value) (c.Value)).bind fun d =>
 cond d
 (some ((-1 : Int)))
 (some a)
def zb7 (a : Int) : Option (Bool) :=
 some (decide (a < 0))
def zlg (g : TP) (x : List TW) (y : List TW) (k : Int) : Option (List Int × Int) :=
 (uD g ([x, y])).bind fun i =>
 cond (!decide (i = 0))
 (some (([], i)))
 (cond (decide (k < 0))
 (Option.bind (
 lpO (fun (_ : Unit) =>
 some (.inr (.inl ()))) (()))
 (Sum.elim (fun (_ : Unit) =>
 some (([], 7))) some))
 (cond (decide ((↑(List.length (List.map SV.str g.Lattice.Names)) : Int) <= k))
 (Option.bind (
 lpO (fun (_ : Unit) =>
 some (.inr (.inl ()))) (()))
 (Sum.elim (fun (_ : Unit) =>
 some (([], 7))) some))
 (Option.bind (
 lpO (fun (d : Int × List Int) =>
 cond (decide (d.fst < (↑(List.length (List.map zO g.Vars)) : Int)))
 (zi (g.Vars) (d.fst) fun l =>
 (zeu (g.Lattice) (l.Type_) k).bind fun f =>
 cond (!decide (f.snd.snd = 0))
 (Option.bind (
 lpO (fun (_ : Unit) =>
 some (.inr (.inl ()))) (()))
 (Sum.elim (fun (_ : Unit) =>
 some (.inr (.inr (([], f.snd.snd))))) some))
 ((zlk (d.fst) ((f.fst, f.snd.fst)) x y).bind fun m =>
 zk ((List.length (List.map (SV.int .i64) d.snd) + (1 : Nat)) * (8 : Nat) <= (70368744177664 : Nat)) (
 zg (IntKind.wrap .i64 (d.fst + 1)) fun n =>
 some (.inl ((n, d.snd ++ [m]))))))
 (some (.inr (.inl ((decide (d.fst < (↑(List.length (List.map zO g.Vars)) : Int)), d)))))) ((0, [])))
 (Sum.elim (fun (e : Bool × Int × List Int) =>
 Option.bind (
 lpO (fun (c : Int) =>
 cond (decide (c < (↑(List.length (List.map (SV.int .i64) e.snd.snd)) : Int)))
 (zk (0 <= c /\ c < (↑(List.length (List.map (SV.int .i64) e.snd.snd)) : Int)) (
 zi (e.snd.snd) ((↑(Int.toNat c) : Int)) fun o =>
 (zb7 o).bind fun p =>
 cond p
 (cond (decide (c = (-1 : Int)))
 (some (.inr (.inr ((e.snd.snd, 0)))))
 (zg (IntKind.wrap .i64 (c + 1)) fun q =>
 Option.bind (
 lpO (fun (b : Int × Int × List Int) =>
 cond (decide (b.fst < (↑(List.length (List.map (SV.int .i64) b.snd.snd)) : Int)))
 (zk (0 <= b.fst /\ b.fst < (↑(List.length (List.map (SV.int .i64) b.snd.snd)) : Int)) (
 zi (b.snd.snd) ((↑(Int.toNat b.fst) : Int)) fun j =>
 (zb7 j).bind fun s =>
 cond (!s)
 (zk (0 <= b.snd.fst /\ b.snd.fst < (↑(List.length (List.map (SV.int .i64) b.snd.snd)) : Int)) (
 zi (b.snd.snd) ((↑(Int.toNat b.snd.fst) : Int)) fun _ =>
 zg (IntKind.wrap .i64 (b.snd.fst + 1)) fun t =>
 zg (IntKind.wrap .i64 (b.fst + 1)) fun u =>
 some (.inl ((u, t, List.set b.snd.snd (Int.toNat b.snd.fst) j)))))
 (zg (IntKind.wrap .i64 (b.fst + 1)) fun v =>
 some (.inl ((v, b.snd))))))
 (some (.inr (.inl ((decide (b.fst < (↑(List.length (List.map (SV.int .i64) b.snd.snd)) : Int)), b)))))) ((q, c, e.snd.snd)))
 (Sum.elim (fun (a : Bool × Int × Int × List Int) =>
 zk (0 <= a.snd.snd.fst /\ a.snd.snd.fst < (↑(List.length (List.map (SV.int .i64) a.snd.snd.snd)) : Int)) (
 zk ((1 : Nat) <= List.length (List.map (SV.int .i64) a.snd.snd.snd) - Int.toNat a.snd.snd.fst /\ Int.toNat a.snd.snd.fst + (List.length (List.map (SV.int .i64) a.snd.snd.snd) - Int.toNat a.snd.snd.fst) <= List.length (List.map (SV.int .i64) a.snd.snd.snd)) (
 zk (0 <= a.snd.snd.fst /\ a.snd.snd.fst <= (↑(List.length (List.take (Int.toNat a.snd.snd.fst) (List.map (SV.int .i64) a.snd.snd.snd) ++ (List.replicate (List.length (List.map (SV.int .i64) a.snd.snd.snd) - Int.toNat a.snd.snd.fst) (SV.int .i64 (0 : Int)) ++ List.drop (Int.toNat a.snd.snd.fst + (List.length (List.map (SV.int .i64) a.snd.snd.snd) - Int.toNat a.snd.snd.fst)) (List.map (SV.int .i64) a.snd.snd.snd)))) : Int)) (
 some (.inr (.inr ((List.drop (Int.toNat 0) (List.take (Int.toNat a.snd.snd.fst) (List.take (Int.toNat a.snd.snd.fst) a.snd.snd.snd ++ (List.replicate (List.length (List.map (SV.int .i64) a.snd.snd.snd) - Int.toNat a.snd.snd.fst) 0 ++ List.drop (Int.toNat a.snd.snd.fst + (List.length (List.map (SV.int .i64) a.snd.snd.snd) - Int.toNat a.snd.snd.fst)) a.snd.snd.snd))), 0)))))))) some)))
 (zg (IntKind.wrap .i64 (c + 1)) fun w =>
 some (.inl w))))
 (some (.inr (.inl ((decide (c < (↑(List.length (List.map (SV.int .i64) e.snd.snd)) : Int)), c)))))) (0))
 (Sum.elim (fun (_ : Bool × Int) =>
 some ((e.snd.snd, 0))) some)) some))))
def zh8 (b : TP) (c : List TW) (d : List TW) (e : Int) : Option (Bool × Int) :=
 (zlg b c d e).bind fun a =>
 cond (decide (a.snd = 0))
 (some ((decide ((↑(List.length (List.map (SV.int .i64) a.fst)) : Int) = 0), a.snd)))
 (some ((false, a.snd)))
def zla (b : Int) (a : (Bool × Bool) × Bool) : Option ((Bool × Bool) × Bool) :=
 some a
def zrj (c : TP) (d : Int) : Option (List ((Bool × Bool) × Bool) × Int) :=
 cond (decide (d < 0))
 (some (([], 7)))
 (cond (decide ((↑(List.length (List.map SV.str c.Lattice.Names)) : Int) <= d))
 (some (([], 7)))
 (Option.bind (
 lpO (fun (a : Int × List ((Bool × Bool) × Bool)) =>
 cond (decide (a.fst < (↑(List.length (List.map zO c.Vars)) : Int)))
 (zi (c.Vars) (a.fst) fun e =>
 (zeu (c.Lattice) (e.Type_) d).bind fun b =>
 cond (!decide (b.snd.snd = 0))
 (some (.inr (.inr (([], b.snd.snd)))))
 ((zla (a.fst) ((b.fst, b.snd.fst))).bind fun f =>
 zk ((List.length (List.map (fun (x : (Bool × Bool) × Bool) => SV.agg [zH (1 : Nat) SV.bool x.fst, .bool x.snd]) a.snd) + (1 : Nat)) * (3 : Nat) <= (70368744177664 : Nat)) (
 zg (IntKind.wrap .i64 (a.fst + 1)) fun g =>
 some (.inl ((g, a.snd ++ [f]))))))
 (some (.inr (.inl (a.snd))))) ((0, [])))
 (Sum.elim (fun (i : List ((Bool × Bool) × Bool)) =>
 some ((i, 0))) some)))
def zle (c : TP) (d : Int) : Option (List ((Bool × Bool) × Bool) × Int) :=
 (uD c ([])).bind fun a =>
 cond (!decide (a = 0))
 (some (([], a)))
 ((zrj c d).bind fun b =>
 some b)
def zly (b : TW) (c : TW) : Option (Bool) :=
 cond (decide (b.Name = c.Name))
 ((zeg (b.Value) (c.Value)).bind fun a =>
 some a)
 (some (false))
def zsp (b : List TW) (g : List TW) : Option (Bool) :=
 cond (!decide ((↑(List.length (List.map zh b)) : Int) = (↑(List.length (List.map zh g)) : Int)))
 (some (false))
 (Option.bind (
 lpO (fun (a : Int) =>
 cond (decide (a < (↑(List.length (List.map zh b)) : Int)))
 (zi b a fun c =>
 zi g a fun d =>
 (zly c d).bind fun e =>
 cond (!e)
 (some (.inr (.inr (false))))
 (zg (IntKind.wrap .i64 (a + 1)) fun f =>
 some (.inl f)))
 (some (.inr (.inl ())))) (0))
 (Sum.elim (fun (_ : Unit) =>
 some (true)) some))
def zh0 (b : List TW) (c : List TW) : Option (Bool) :=
 (zsp b c).bind fun a =>
 some a
def zst (a : TA) (b : TA) : Option (Bool) :=
 cond (decide (a.Kind = b.Kind))
 (cond (decide (a.Rank = b.Rank))
 (some (decide (a.Lens.fst = b.Lens.fst) && (decide (a.Lens.snd = b.Lens.snd) && true)))
 (some (false)))
 (some (false))
def zhh (b : TA) (c : TA) : Option (Bool) :=
 (zst b c).bind fun d =>
 cond (!d)
 (some (false))
 (cond (!decide ((↑(List.length (List.map (SV.int .i64) b.Cells)) : Int) = (↑(List.length (List.map (SV.int .i64) c.Cells)) : Int)))
 (some (false))
 (Option.bind (
 lpO (fun (a : Int) =>
 cond (decide (a < (↑(List.length (List.map (SV.int .i64) b.Cells)) : Int)))
 (zi (b.Cells) a fun e =>
 zi (c.Cells) a fun f =>
 cond (!decide (e = f))
 (some (.inr (.inr (false))))
 (zg (IntKind.wrap .i64 (a + 1)) fun g =>
 some (.inl g)))
 (some (.inr (.inl ())))) (0))
 (Sum.elim (fun (_ : Unit) =>
 some (true)) some)))
def zs5 (f : TP) (i : List TW) (a2 : Int) : Option (Bool) :=
 (Fz4 f i ([])).bind fun d1 =>
 cond d1
 (some (true))
 ((zl4 f i).bind fun F =>
 cond (!decide (F.snd = 0))
 (some (true))
 (zg (IntKind.wrap .i64 a2) fun g =>
 zk ((↑(List.length (List.map SV.str f.Lattice.Names)) : Int) ≠ (0 : Int)) (
 (zh9 f i (Int.tmod g (↑(List.length (List.map SV.str f.Lattice.Names)) : Int))).bind fun d =>
 (zh9 f (d.fst) (Int.tmod g (↑(List.length (List.map SV.str f.Lattice.Names)) : Int))).bind fun l =>
 (zh8 f i (d.fst) (Int.tmod g (↑(List.length (List.map SV.str f.Lattice.Names)) : Int))).bind fun m =>
 (zle f (Int.tmod g (↑(List.length (List.map SV.str f.Lattice.Names)) : Int))).bind fun e =>
 (zl4 f (d.fst)).bind fun G =>
 cond (!decide (d.snd = 0))
 (some (false))
 (cond (!decide (l.snd = 0))
 (some (false))
 (cond (!decide (m.snd = 0))
 (some (false))
 (cond (!decide (e.snd = 0))
 (some (false))
 (cond (!decide (G.snd = 0))
 (some (false))
 (cond (!m.fst)
 (some (false))
 ((zh0 (l.fst) (d.fst)).bind fun H =>
 cond (!H)
 (some (false))
 (cond (!decide ((↑(List.length (List.map (fun (x : (Bool × Bool) × Bool) => SV.agg [zH 1 SV.bool x.fst, .bool x.snd]) e.fst)) : Int) = (↑(List.length (List.map zh d.fst)) : Int)))
 (some (false))
 (Option.bind (
 lpO (fun (a : Int) =>
 cond (decide (a < (↑(List.length (List.map zh d.fst)) : Int)))
 (zi (e.fst) a fun I =>
 cond (I.snd)
 (zi (d.fst) a fun J =>
 zi i a fun K =>
 (zhh (J.Value) (K.Value)).bind fun L =>
 cond (!L)
 (some (.inr (.inr (false))))
 (Option.bind (
 lpO (fun (b : Int) =>
 cond (decide (b < 2))
 (zi (e.fst) a fun n =>
 zk (0 <= b /\ b < (↑(2 : Nat) : Int)) (
 zi ([n.fst.fst, n.fst.snd]) ((↑(Int.toNat b) : Int)) fun M =>
 cond M
 (zi (d.fst) a fun o =>
 zk (0 <= b /\ b < (↑(2 : Nat) : Int)) (
 zi ([o.Value.Lens.fst, o.Value.Lens.snd]) ((↑(Int.toNat b) : Int)) fun N =>
 zi i a fun p =>
 zk (0 <= b /\ b < (↑(2 : Nat) : Int)) (
 zi ([p.Value.Lens.fst, p.Value.Lens.snd]) ((↑(Int.toNat b) : Int)) fun O =>
 cond (!decide (N = O))
 (some (.inr (.inr (.inr (.inr (false))))))
 (zi (e.fst) a fun q =>
 zk (0 <= b /\ b < (↑(2 : Nat) : Int)) (
 zi ([q.fst.fst, q.fst.snd]) ((↑(Int.toNat b) : Int)) fun P =>
 cond (!P)
 (zi (e.fst) a fun Q =>
 cond (!Q.snd)
 (zi (d.fst) a fun s =>
 zk (0 <= b /\ b < (↑(2 : Nat) : Int)) (
 zi ([s.Value.Lens.fst, s.Value.Lens.snd]) ((↑(Int.toNat b) : Int)) fun R =>
 cond (!decide (R = 0))
 (some (.inr (.inr (.inr (.inr (false))))))
 (zg (IntKind.wrap .i64 (b + 1)) fun S =>
 some (.inl S))))
 (zg (IntKind.wrap .i64 (b + 1)) fun T =>
 some (.inl T)))
 (zg (IntKind.wrap .i64 (b + 1)) fun U =>
 some (.inl U)))))))
 (zi (e.fst) a fun t =>
 zk (0 <= b /\ b < (↑(2 : Nat) : Int)) (
 zi ([t.fst.fst, t.fst.snd]) ((↑(Int.toNat b) : Int)) fun V =>
 cond (!V)
 (zi (e.fst) a fun W =>
 cond (!W.snd)
 (zi (d.fst) a fun u =>
 zk (0 <= b /\ b < (↑(2 : Nat) : Int)) (
 zi ([u.Value.Lens.fst, u.Value.Lens.snd]) ((↑(Int.toNat b) : Int)) fun X =>
 cond (!decide (X = 0))
 (some (.inr (.inr (.inr (.inr (false))))))
 (zg (IntKind.wrap .i64 (b + 1)) fun Y =>
 some (.inl Y))))
 (zg (IntKind.wrap .i64 (b + 1)) fun Z =>
 some (.inl Z)))
 (zg (IntKind.wrap .i64 (b + 1)) fun a3 =>
 some (.inl a3))))))
 (some (.inr (.inl ())))) (0))
 (Sum.elim (fun (_ : Unit) =>
 Option.bind (
 lpO (fun (j : Int) =>
 zi (d.fst) a fun a4 =>
 cond (decide (j < (↑(List.length (List.map (SV.int .i64) a4.Value.Cells)) : Int)))
 (zi (e.fst) a fun a5 =>
 cond (!a5.snd)
 (zi (d.fst) a fun a6 =>
 zi (a6.Value.Cells) j fun a7 =>
 cond (!decide (a7 = 0))
 (some (.inr (.inr (.inr (.inr (false))))))
 (zg (IntKind.wrap .i64 (j + 1)) fun a8 =>
 some (.inl a8)))
 (some (.inr (.inl ()))))
 (some (.inr (.inl ())))) (0))
 (Sum.elim (fun (_ : Unit) =>
 zg (IntKind.wrap .i64 (a + 1)) fun a9 =>
 some (.inl a9)) some)) some)))
 (Option.bind (
 lpO (fun (c : Int) =>
 cond (decide (c < 2))
 (zi (e.fst) a fun v =>
 zk (0 <= c /\ c < (↑(2 : Nat) : Int)) (
 zi ([v.fst.fst, v.fst.snd]) ((↑(Int.toNat c) : Int)) fun b0 =>
 cond b0
 (zi (d.fst) a fun w =>
 zk (0 <= c /\ c < (↑(2 : Nat) : Int)) (
 zi ([w.Value.Lens.fst, w.Value.Lens.snd]) ((↑(Int.toNat c) : Int)) fun b1 =>
 zi i a fun y =>
 zk (0 <= c /\ c < (↑(2 : Nat) : Int)) (
 zi ([y.Value.Lens.fst, y.Value.Lens.snd]) ((↑(Int.toNat c) : Int)) fun b2 =>
 cond (!decide (b1 = b2))
 (some (.inr (.inr (.inr (.inr (false))))))
 (zi (e.fst) a fun z =>
 zk (0 <= c /\ c < (↑(2 : Nat) : Int)) (
 zi ([z.fst.fst, z.fst.snd]) ((↑(Int.toNat c) : Int)) fun b3 =>
 cond (!b3)
 (zi (e.fst) a fun b4 =>
 cond (!b4.snd)
 (zi (d.fst) a fun A =>
 zk (0 <= c /\ c < (↑(2 : Nat) : Int)) (
 zi ([A.Value.Lens.fst, A.Value.Lens.snd]) ((↑(Int.toNat c) : Int)) fun b5 =>
 cond (!decide (b5 = 0))
 (some (.inr (.inr (.inr (.inr (false))))))
 (zg (IntKind.wrap .i64 (c + 1)) fun b6 =>
 some (.inl b6))))
 (zg (IntKind.wrap .i64 (c + 1)) fun b7 =>
 some (.inl b7)))
 (zg (IntKind.wrap .i64 (c + 1)) fun b8 =>
 some (.inl b8)))))))
 (zi (e.fst) a fun C =>
 zk (0 <= c /\ c < (↑(2 : Nat) : Int)) (
 zi ([C.fst.fst, C.fst.snd]) ((↑(Int.toNat c) : Int)) fun b9 =>
 cond (!b9)
 (zi (e.fst) a fun c0 =>
 cond (!c0.snd)
 (zi (d.fst) a fun D =>
 zk (0 <= c /\ c < (↑(2 : Nat) : Int)) (
 zi ([D.Value.Lens.fst, D.Value.Lens.snd]) ((↑(Int.toNat c) : Int)) fun c1 =>
 cond (!decide (c1 = 0))
 (some (.inr (.inr (.inr (.inr (false))))))
 (zg (IntKind.wrap .i64 (c + 1)) fun c2 =>
 some (.inl c2))))
 (zg (IntKind.wrap .i64 (c + 1)) fun c3 =>
 some (.inl c3)))
 (zg (IntKind.wrap .i64 (c + 1)) fun c4 =>
 some (.inl c4))))))
 (some (.inr (.inl ())))) (0))
 (Sum.elim (fun (_ : Unit) =>
 Option.bind (
 lpO (fun (k : Int) =>
 zi (d.fst) a fun c5 =>
 cond (decide (k < (↑(List.length (List.map (SV.int .i64) c5.Value.Cells)) : Int)))
 (zi (e.fst) a fun c6 =>
 cond (!c6.snd)
 (zi (d.fst) a fun c7 =>
 zi (c7.Value.Cells) k fun c8 =>
 cond (!decide (c8 = 0))
 (some (.inr (.inr (.inr (.inr (false))))))
 (zg (IntKind.wrap .i64 (k + 1)) fun c9 =>
 some (.inl c9)))
 (some (.inr (.inl ()))))
 (some (.inr (.inl ())))) (0))
 (Sum.elim (fun (_ : Unit) =>
 zg (IntKind.wrap .i64 (a + 1)) fun d0 =>
 some (.inl d0)) some)) some)))
 (some (.inr (.inl ())))) (0))
 (Sum.elim (fun (_ : Unit) =>
 some (true)) some))))))))))))
end Go.Sx.O
end
namespace Go.Sx.O
open Go
theorem zki {α τ : Type} {l : List α} (p : α -> Bool) {step : Int -> Option (Int ⊕ τ)} {d : τ} {g : Int -> τ}
 (h1 : ∀ (k : Nat) x, l[k]? = some x -> step (k : Int) = if p x then some (.inr (g k)) else some (.inl ((k : Int) + 1)))
 (h2 : step (l.length : Int) = some (.inr d)) :
 lpO step 0 = (match l.findIdx? p with | some i => some (g i) | none => some d) := by
 have key : ∀ j k, j + k = l.length -> lpO step (k : Int) = (match (l.drop k).findIdx? p with | some i => some (g ((k + i : Nat) : Int)) | none => some d) := by
  intro j
  induction j with
  | zero =>
    intro k hk
    rw [qt]
    have : k = l.length := by omega
    subst this
    rw [h2]
    simp
  | succ j ih =>
    intro k hk
    have hlt : k < l.length := by omega
    rw [qt, h1 k _ (List.getElem?_eq_getElem hlt), List.drop_eq_getElem_cons hlt, List.findIdx?_cons]
    split
    . simp
    . have := ih (k + 1) (by omega)
      simp only [Option.bind_some, Sum.elim_inl]
      push_cast at this
      rw [this]
      cases (l.drop (k + 1)).findIdx? p with
      | none => rfl
      | some i => simp; congr 1; omega
 have := key l.length 0 (by omega)
 simpa using this
open Go
theorem dropWhile_nil {α : Type} {p : α -> Bool} : ∀ {l : List α}, l.dropWhile p = [] ↔ ∀ x ∈ l, p x = true
 | [] => by simp
 | a :: l => by
   rw [List.dropWhile_cons]
   cases h : p a with
   | true => simp [h, dropWhile_nil (l := l)]
   | false => simp [h]
theorem zdd (l : List (List UInt8)) (s : List UInt8) (hl : l.length <= 1000000000) :
 ztx l s = some (match l.findIdx? (fun x => decide (s = x)) with | some i => (i : Int) | none => -1) := by
 unfold ztx
 rw [zki (l := l) (fun x => decide (s = x)) (d := .inl ()) (g := .inr) ?_ ?_]
 . cases l.findIdx? (fun x => decide (s = x)) <;> rfl
 . intro k x hx
   have hlt : k < l.length := by
    by_cases h : k < l.length
    . exact h
    . rw [List.getElem?_eq_none (by omega)] at hx; cases hx
   simp only [List.length_map, Int.ofNat_lt, hlt, decide_true, cond_true, zi, Int.toNat_natCast, hx, Option.bind_some, zg, Int.natCast_nonneg, if_true]
   rw [w64 (by omega) (by omega)]
   cases decide (s = x) <;> rfl
 . simp
theorem jU (l : List (List UInt8)) (s : List UInt8) (hl : l.length <= 1000000000) :
 zsm l s = some (decide (s ∈ l)) := by
 unfold zsm
 rw [zdd l s hl]
 cases h : l.findIdx? (fun x => decide (s = x)) with
 | none =>
   have := List.findIdx?_eq_none_iff.1 h
   simp only [Option.bind_some]
   congr 1
   have hn : s ∉ l := fun hm => by have := this s hm; simp at this
   simp [hn]
 | some i =>
   have := List.findIdx?_eq_some_iff_getElem.1 h
   obtain ⟨hi, h1, _⟩ := this
   have hm : s ∈ l := by
    have e : s = l[i] := by simpa using h1
    rw [e]; exact List.getElem_mem hi
   simp [hm]
def yL (set : List Bool) (c : UInt8) : Bool := set.getD c.toNat false
theorem zcu (set : List Bool) (c : UInt8) (h : set.length = 256) : zoy set (c.toNat : Int) = some (yL set c) := by
 unfold zoy
 have hc : c.toNat < 256 := c.toNat_lt
 have h2 : set[c.toNat]? = some (set[c.toNat]'(by omega)) := List.getElem?_eq_getElem _
 have h3 : (c.toNat : Int) < 256 := by omega
 simp [zk, zi, yL, h2, h3]
def xR (p : UInt8 -> Bool) (s : List UInt8) : List UInt8 := (s.reverse.dropWhile p).reverse
theorem zu9 {p : UInt8 -> Bool} {s : List UInt8} : (xR p s).dropWhile p = [] ↔ ∀ c ∈ s, p c = true := by
 unfold xR
 constructor
 . intro h c hc
   have h1 : ∀ c ∈ (s.reverse.dropWhile p).reverse, p c = true := dropWhile_nil.1 h
   have h2 : s.reverse.dropWhile p = [] := by
    cases e : s.reverse.dropWhile p with
    | nil => rfl
    | cons a r =>
      have := List.head?_dropWhile_not p s.reverse
      rw [e] at this
      simp at this
      rw [e] at h1
      rw [h1 a (by simp)] at this
      cases this
   exact dropWhile_nil.1 h2 c (by simpa using hc)
 . intro h
   have : s.reverse.dropWhile p = [] := dropWhile_nil.2 fun c hc => h c (by simpa using hc)
   rw [this]; rfl
theorem zcx (s : List UInt8) (set : List Bool) (h : set.length = 256) (hs : s.length <= 1000000000) : zmi s set = some (xR (yL set) s) := by
 unfold zmi
 apply Tot.eq
 simp only [zw]
 refine Tot.loop (fun s => s.length) (fun r => r.length <= 1000000000 /\ xR (yL set) r = xR (yL set) s) ?_ ⟨hs, rfl⟩
 rintro r ⟨hr, he⟩
 simp only [zo, zF, qa, qk, qF, zw, Sum.elim_inl, Sum.elim_inr, decide_eq_true_eq, decide_eq_false_iff_not]
 refine ⟨fun h1 => ?_, fun h1 => ?_⟩
 . have h0 : r ≠ [] := by rintro rfl; simp at h1
   rw [w64 (by omega) (by omega)]
   have e1 : ((r.length : Int) - 1).toNat = r.length - 1 := by omega
   rw [e1]
   refine ⟨by omega, _, List.getElem?_eq_getElem (by omega), ?_⟩
   rw [zcu set _ h]
   simp only [zo, Bool.not_eq_true', Bool.not_eq_false']
   have hr2 : r = r.dropLast ++ [r[r.length - 1]'(by omega)] := by
    rw [<- List.getLast_eq_getElem h0]; exact (List.dropLast_concat_getLast h0).symm
   refine ⟨fun h2 => ?_, fun h2 => ⟨⟨by omega, by omega⟩, ⟨by simp; omega, ?_⟩, by simp; omega⟩⟩
   . rw [<- he]
     unfold xR
     rw [hr2]
     simp [h2]
   . rw [<- he]
     simp only [Int.toNat_zero, List.drop_zero]
     rw [<- List.dropLast_eq_take]
     conv => rhs; rw [hr2]
     unfold xR
     simp [h2]
 . have h0 : r = [] := List.length_eq_zero_iff.1 (by omega)
   rw [<- he, h0]; rfl
theorem zdi (s : List UInt8) (set : List Bool) (h : set.length = 256) (hs : s.length <= 1000000000) : zm8 s set = some (s.dropWhile (yL set)) := by
 unfold zm8
 apply Tot.eq
 simp only [zw]
 refine Tot.loop (fun s => s.length) (fun r => r.length <= 1000000000 /\ r.dropWhile (yL set) = s.dropWhile (yL set)) ?_ ⟨hs, rfl⟩
 rintro r ⟨hr, he⟩
 simp only [zo, zF, qa, qk, qF, zw, Sum.elim_inl, Sum.elim_inr, decide_eq_true_eq, decide_eq_false_iff_not]
 cases r with
 | nil => simp [<- he]
 | cons a r =>
   refine ⟨fun h1 => ⟨by omega, a, rfl, ?_⟩, fun h1 => absurd h1 (by simp)⟩
   rw [zcu set _ h]
   simp only [zo, Bool.not_eq_true', Bool.not_eq_false']
   refine ⟨fun h2 => ?_, fun h2 => ⟨by simp; omega, ⟨?_, ?_⟩, ?_⟩⟩
   . rw [<- he]; simp [h2]
   . simp at hr ⊢; omega
   . rw [<- he]; simp [h2]
   . simp
open Go
theorem zvc {set : List Bool} {c d : UInt8} (h : set.length = 256) : yL (set.set c.toNat true) d = (decide (d = c) || yL set d) := by
 have hc : c.toNat < 256 := c.toNat_lt
 unfold yL
 rw [List.getD_eq_getElem?_getD, List.getD_eq_getElem?_getD, List.getElem?_set]
 by_cases e : c.toNat = d.toNat
 . have : d = c := (UInt8.toNat_inj.1 e).symm
   subst this
   simp [h, hc]
 . have : d ≠ c := fun e' => e (by rw [e'])
   simp [e, this]
theorem ze1 (cs : List UInt8) (h : ∀ c ∈ cs, c.toNat < 128) (hs : cs.length <= 1000000000) : Tot (znw cs) fun r => r.2 = true /\ r.1.length = 256 /\ ∀ d, yL r.1 d = decide (d ∈ cs) := by
 unfold znw
 simp only [zw]
 refine Tot.count cs.length (fun k s => s.1 = (k : Int) /\ s.2.length = 256 /\ ∀ d, yL s.2 d = decide (d ∈ cs.take k)) ?_ ⟨rfl, List.length_replicate, fun d => ?_⟩
 . rintro k ⟨i, set⟩ hk ⟨h0, h1, h2⟩
   simp only at h0 h1 h2
   subst h0
   simp only [zo, zF, qa, qk, qF, Sum.elim_inl, Sum.elim_inr, decide_eq_true_eq, decide_eq_false_iff_not, Int.toNat_natCast]
   refine ⟨fun hlt => ⟨by omega, _, List.getElem?_eq_getElem (by omega), fun h3 => ?_, fun h3 => ?_⟩, fun hlt => ?_⟩
   . have := h cs[k] (List.getElem_mem _)
     omega
   . have hc : cs[k].toNat < 256 := (cs[k]'(by omega)).toNat_lt
     refine ⟨⟨by omega, by omega⟩, by omega, _, List.getElem?_eq_getElem (by omega), ?_⟩
     rw [w64 (by omega) (by omega)]
     refine ⟨by omega, by omega, by simpa using h1, fun d => ?_⟩
     have hm : d ∈ cs.take (k + 1) ↔ d ∈ cs.take k \/ d = cs[k] := by
      rw [List.take_add_one, List.getElem?_eq_getElem (by omega), List.mem_append]
      simp
     rw [zvc h1, h2, Bool.eq_iff_iff]
     simp only [Bool.or_eq_true, decide_eq_true_eq, hm]
     exact or_comm
   . refine ⟨trivial, h1, fun d => ?_⟩
     rw [h2, List.take_of_length_le (by omega)]
 . unfold yL
   rw [List.getD_eq_getElem?_getD, List.getElem?_replicate]
   split <;> simp
theorem zvu (s cs : List UInt8) (h : ∀ c ∈ cs, c.toNat < 128) (h1 : 2 <= cs.length) (hs : cs.length <= 1000000000) (hl : s.length <= 1000000000) :
 zr2 s cs = some ((xR (fun c => decide (c ∈ cs)) s).dropWhile (fun c => decide (c ∈ cs))) := by
 unfold zr2
 have e0 : (ByteArray.mk #[]).data.toList = [] := rfl
 simp only [e0]
 cases s with
 | nil => simp [xR]
 | cons a r =>
   have e1 : decide (a :: r = []) = false := by simp
   have e2 : decide (cs = []) = false := by cases cs <;> simp at h1 ⊢
   have e3 : decide ((cs.length : Int) = 1) = false := by simp; omega
   simp only [e1, e2, e3, cond_false]
   obtain ⟨x, hx, hx1, hx2, hx3⟩ := ze1 cs h hs
   have e4 : yL x.1 = fun c => decide (c ∈ cs) := funext hx3
   rw [hx]
   simp only [Option.bind_some, hx1, cond_true]
   rw [zcx _ _ hx2 hl]
   simp only [Option.bind_some]
   rw [zdi _ _ hx2 (by
    refine Nat.le_trans ?_ hl
    unfold xR
    rw [List.length_reverse]
    refine Nat.le_trans (List.dropWhile_sublist _).length_le (by simp))]
   rw [e4]
   rfl
def jj : List UInt8 := [97, 98, 99, 100, 101, 102, 103, 104, 105, 106, 107, 108, 109, 110, 111, 112, 113, 114, 115, 116, 117, 118, 119, 120, 121, 122, 48, 49, 50, 51, 52, 53, 54, 55, 56, 57, 45]
def zb3 (s : List UInt8) : Bool := decide (s.length <= 16) && (match s with | [] => false | c :: _ => decide (97 <= c.toNat) && decide (c.toNat <= 122)) && s.all fun c => decide (c ∈ jj)
theorem zkp (s : List UInt8) (hl : s.length <= 1000000000) : zta s = some (zb3 s) := by
 unfold zta
 have e0 : (ByteArray.mk #[]).data.toList = [] := rfl
 simp only [e0]
 rw [zvu s _ (by decide) (by decide) (by decide) hl]
 cases s with
 | nil => rfl
 | cons a r =>
   have e1 : decide (a :: r = []) = false := by simp
   simp only [e1, cond_false, Option.bind_some]
   have e5 : zi (a :: r) 0 = fun f => (f a : Option Bool) := rfl
   simp only [e5]
   unfold zb3
   by_cases h1 : (16 : Int) < ((a :: r).length : Int)
   . have : ¬ (a :: r).length <= 16 := by omega
     simp only [h1, decide_true, cond_true, this, decide_false, Bool.false_and]
   . have h1' : (a :: r).length <= 16 := by omega
     simp only [h1, decide_false, cond_false, h1', decide_true, Bool.true_and]
     by_cases h2 : (a.toNat : Int) < 97
     . have : ¬ 97 <= a.toNat := by omega
       simp only [h2, decide_true, cond_true, this, decide_false, Bool.false_and]
     . have h2' : 97 <= a.toNat := by omega
       simp only [h2, decide_false, cond_false, h2', decide_true, Bool.true_and]
       by_cases h3 : (122 : Int) < (a.toNat : Int)
       . have : ¬ a.toNat <= 122 := by omega
         simp only [h3, decide_true, cond_true, this, decide_false, Bool.false_and]
       . have h3' : a.toNat <= 122 := by omega
         simp only [h3, decide_false, cond_false, h3', decide_true, Bool.true_and]
         congr 1
         rw [Bool.eq_iff_iff, decide_eq_true_eq, zu9, List.all_eq_true]
         rfl
open Go
theorem zAy : ∀ u : Fin 256, ∀ b : Fin 9, bits .and .u8 (Int.fdiv (u.val : Int) (2 ^ min b.val (IntKind.bits .u8))) 1 = if Nat.testBit u b then 1 else 0 := by decide +kernel
theorem zch {u : Int} {b : Nat} (h0 : 0 <= u) (h1 : u < 256) (hb : b <= 8) : bits .and .u8 (Int.fdiv u (2 ^ min b (IntKind.bits .u8))) 1 = if u.toNat.testBit b then 1 else 0 := by
 have := zAy ⟨u.toNat, by omega⟩ ⟨b, by omega⟩
 simp only at this
 rw [Int.toNat_of_nonneg h0] at this
 exact this
theorem xB {u : Int} (h0 : 0 <= u) : BitVec.ofInt 8 u = BitVec.ofNat 8 u.toNat := by
 conv => lhs; rw [<- Int.toNat_of_nonneg h0]
 exact BitVec.ofInt_natCast 8 u.toNat
theorem zjk {n : Nat} (h : n < 256) : IntKind.wrap .u8 (n : Int) = n := by
 simp only [IntKind.wrap, IntKind.signed, IntKind.bits, Bool.false_and]
 have h3 : (2 : Int) ^ 8 = 256 := by decide
 simp only [h3]
 have : (n : Int) % 256 = n := by omega
 simp [this]
theorem zcb {a b : Int} (ha : 0 <= a) (ha' : a < 256) (hb : 0 <= b) (hb' : b < 256) : bits .and .u8 a b = ((a.toNat &&& b.toNat : Nat) : Int) := by
 have e : bits .and .u8 a b = IntKind.wrap .u8 ((BitVec.ofInt 8 a &&& BitVec.ofInt 8 b).toNat : Int) := rfl
 rw [e, xB ha, xB hb]
 rw [zjk (BitVec.isLt _)]
 rw [BitVec.toNat_and, BitVec.toNat_ofNat, BitVec.toNat_ofNat, Nat.mod_eq_of_lt (by omega), Nat.mod_eq_of_lt (by omega)]
theorem zqv {a b : Int} (ha : 0 <= a) (ha' : a < 256) (hb : 0 <= b) (hb' : b < 256) : bits .or .u8 a b = ((a.toNat ||| b.toNat : Nat) : Int) := by
 have e : bits .or .u8 a b = IntKind.wrap .u8 ((BitVec.ofInt 8 a ||| BitVec.ofInt 8 b).toNat : Int) := rfl
 rw [e, xB ha, xB hb]
 rw [zjk (BitVec.isLt _)]
 rw [BitVec.toNat_or, BitVec.toNat_ofNat, BitVec.toNat_ofNat, Nat.mod_eq_of_lt (by omega), Nat.mod_eq_of_lt (by omega)]
theorem zba {a b : Int} (ha : 0 <= a) (ha' : a < 256) (hb : 0 <= b) (hb' : b < 256) : bits .andNot .u8 a b = 0 ↔ ∀ i, a.toNat.testBit i = true -> b.toNat.testBit i = true := by
 have e : bits .andNot .u8 a b = IntKind.wrap .u8 ((BitVec.ofInt 8 a &&& ~~~BitVec.ofInt 8 b).toNat : Int) := rfl
 rw [e, xB ha, xB hb]
 rw [zjk (BitVec.isLt _)]
 have hbit : ∀ i, (BitVec.ofNat 8 a.toNat &&& ~~~BitVec.ofNat 8 b.toNat).getLsbD i = (decide (i < 8) && a.toNat.testBit i && !(b.toNat.testBit i)) := by
  intro i
  rw [BitVec.getLsbD_and, BitVec.getLsbD_not, BitVec.getLsbD_ofNat, BitVec.getLsbD_ofNat]
  cases decide (i < 8) <;> simp
 have h8 : ∀ i, a.toNat.testBit i = true -> i < 8 := by
  intro i hi
  rcases Nat.lt_or_ge i 8 with g | g
  . exact g
  . rw [Nat.testBit_lt_two_pow (Nat.lt_of_lt_of_le (show a.toNat < 2 ^ 8 by omega) (Nat.pow_le_pow_right (by omega) g))] at hi
    cases hi
 constructor
 . intro h i hi
   have h0 : (BitVec.ofNat 8 a.toNat &&& ~~~BitVec.ofNat 8 b.toNat).toNat = 0 := Int.ofNat_eq_zero.1 h
   have h1 := hbit i
   rw [<- BitVec.testBit_toNat, h0, Nat.zero_testBit] at h1
   have := h8 i hi
   simp [this, hi] at h1
   exact h1
 . intro h
   have h1 : (BitVec.ofNat 8 a.toNat &&& ~~~BitVec.ofNat 8 b.toNat).toNat = 0 := by
    apply Nat.eq_of_testBit_eq
    intro i
    rw [BitVec.testBit_toNat, hbit i, Nat.zero_testBit]
    cases hi : a.toNat.testBit i with
    | false => simp
    | true => simp [h i hi]
   rw [h1]; rfl
theorem zdw {a b : Nat} (h : a < 256) : a &&& b < 256 := Nat.lt_of_le_of_lt Nat.and_le_left h
theorem zDs {a b : Nat} (h : a < 256) (k : b < 256) : a ||| b < 256 := Nat.or_lt_two_pow (n := 8) h k
theorem zph (ns : List (List UInt8)) (h : ns.length <= 20) (hn : ∀ s ∈ ns, s.length <= 1000) : Tot (zi2 ns) fun r => r.2 = 0 -> 1 <= ns.length /\ ns.length <= 8 := by
 unfold zi2
 simp only [zF, zo, zw, List.length_map, decide_eq_true_eq, decide_eq_false_iff_not]
 refine ⟨fun _ h => absurd h (by decide), fun h1 => ⟨fun _ h => absurd h (by decide), fun h2 => ?_⟩⟩
 refine Tot.count ns.length (fun k s => s = (k : Int)) ?_ rfl
 rintro k _ hk rfl
 simp only [zo, zF, qa, qk, qF, zw, Sum.elim_inl, Sum.elim_inr, decide_eq_true_eq, decide_eq_false_iff_not, Int.toNat_natCast]
 refine ⟨fun hlt => ⟨by omega, _, List.getElem?_eq_getElem (by omega), ?_⟩, fun hlt => fun _ => by omega⟩
 rw [zkp _ (by have := hn ns[k] (List.getElem_mem _); omega), zo]
 refine ⟨fun _ h => absurd h (by decide), fun _ => ⟨⟨by omega, by omega⟩, ?_⟩⟩
 rw [jU _ _ (by simp; omega), zo]
 refine ⟨fun _ h => absurd h (by decide), fun _ => ?_⟩
 rw [w64 (by omega) (by omega)]
 exact ⟨by omega, by omega⟩
open Go
def U8s (l : List Int) : Prop := ∀ x ∈ l, 0 <= x /\ x < 256
theorem U8s.get {l : List Int} (h : U8s l) {i : Nat} {x : Int} (hx : l[i]? = some x) : 0 <= x /\ x < 256 := h x (List.mem_of_getElem? hx)
theorem U8s.set {l : List Int} (h : U8s l) {i : Nat} {x : Int} (h0 : 0 <= x) (h1 : x < 256) : U8s (l.set i x) := by
 intro y hy
 rcases List.mem_or_eq_of_mem_set hy with g | g
 . exact h y g
 . subst g; exact ⟨h0, h1⟩
theorem znk {e : Int} : 0 <= IntKind.wrap .u8 e /\ IntKind.wrap .u8 e < 256 := by
 simp only [IntKind.wrap, IntKind.signed, IntKind.bits, Bool.false_and]
 have h3 : (2 : Int) ^ 8 = 256 := by decide
 simp only [h3]
 refine ⟨?_, ?_⟩ <;> simp <;> omega
theorem orU {a b : Int} (ha : 0 <= a) (ha' : a < 256) (hb : 0 <= b) (hb' : b < 256) : 0 <= bits .or .u8 a b /\ bits .or .u8 a b < 256 := by
 rw [zqv ha ha' hb hb']
 have := zDs (a := a.toNat) (b := b.toNat) (by omega) (by omega)
 omega
theorem zv {α : Type} {l : List α} {i : Nat} (h : i < l.length) : ∃ x, l[i]? = some x := ⟨_, List.getElem?_eq_getElem h⟩
theorem zwa (l : TL) (hu : U8s l.Up) (hn : l.Names.length <= 8) (hl : l.Up.length <= 8) :
 Tot (zf6 l) fun o => o.n_ = l.Names.length /\ o.up_.length = 8 /\ o.down_.length = 8 /\ U8s o.up_ /\ U8s o.down_ := by
 unfold zf6
 simp only [zw, List.length_map]
 refine Tot.count l.Up.length (fun k s => s.1 = (k : Int) /\ s.2.1.length = 8 /\ s.2.2.length = 8 /\ U8s s.2.1 /\ U8s s.2.2) ?_ ⟨rfl, rfl, rfl, by intro x hx; simp at hx; omega, by intro x hx; simp at hx; omega⟩
 rintro k ⟨i, up, down⟩ hk ⟨h0, h1, h2, h3, h4⟩
 simp only at h0 h1 h2 h3 h4
 subst h0
 simp only [zo, zF, qa, qk, qF, zw, Sum.elim_inl, Sum.elim_inr, decide_eq_true_eq, decide_eq_false_iff_not, Int.toNat_natCast]
 refine ⟨fun hlt => ?_, fun hlt => ⟨trivial, h1, h2, h3, h4⟩⟩
 obtain ⟨x, hx⟩ := zv (l := l.Up) (i := k) (by omega)
 obtain ⟨y, hy⟩ := zv (l := up) (i := k) (by omega)
 refine ⟨by omega, x, hx, ⟨by omega, by omega⟩, by omega, y, hy, ?_⟩
 have hx' := hu.get hx
 refine Tot.count l.Names.length (fun j s => s.1 = (j : Int) /\ s.2.length = 8 /\ U8s s.2) ?_ ⟨rfl, h2, h4⟩
 rintro j ⟨i', d⟩ hj ⟨g0, g1, g2⟩
 simp only at g0 g1 g2
 subst g0
 simp only [zo, zF, qa, qk, qF, zw, Sum.elim_inl, Sum.elim_inr, decide_eq_true_eq, decide_eq_false_iff_not, Int.toNat_natCast]
 refine ⟨fun hlt' => ?_, fun _ => ?_⟩
 . obtain ⟨z, hz⟩ := zv (l := d) (i := j) (by omega)
   have hz' := g2.get hz
   rw [w64 (by omega) (by omega)]
   refine ⟨⟨by omega, by omega⟩, by omega, z, hz, by omega, by omega, ⟨by omega, by omega⟩, by omega, z, hz, by omega, by omega, by simpa using g1, ?_⟩
   have hw := znk (e := bits .and .u8 (Int.fdiv x (2 ^ min j (IntKind.bits .u8))) 1 * 2 ^ min k (IntKind.bits .u8))
   have ho := orU hz'.1 hz'.2 hw.1 hw.2
   exact g2.set ho.1 ho.2
 . rw [w64 (by omega) (by omega)]
   exact ⟨by omega, by omega, by simpa using h1, g1, h3.set hx'.1 hx'.2, g2⟩
theorem zaz (m : List Int) (n : Nat) (a b : Nat) (hm : m.length = 8) (hu : U8s m) (hn : n <= 8) (ha : a < n) (hb : b < n) : Tot (zjg m n a b) fun _ => True := by
 unfold zjg
 obtain ⟨x, hx⟩ := zv (l := m) (i := a) (by omega)
 obtain ⟨y, hy⟩ := zv (l := m) (i := b) (by omega)
 simp only [zo, zF, qa, qk, qF, zw, Int.toNat_natCast]
 refine ⟨⟨by omega, by omega⟩, by omega, x, hx, ⟨by omega, by omega⟩, by omega, y, hy, ?_⟩
 refine Tot.count n (fun k s => s = (k : Int)) ?_ rfl
 rintro k _ hk rfl
 simp only [zo, zF, qa, qk, qF, zw, Sum.elim_inl, Sum.elim_inr, decide_eq_true_eq, decide_eq_false_iff_not, Int.toNat_natCast]
 refine ⟨fun hlt => ⟨by omega, fun _ => ?_, fun _ => ?_⟩, fun _ => trivial⟩
 . obtain ⟨z, hz⟩ := zv (l := m) (i := k) (by omega)
   rw [w64 (by omega) (by omega)]
   exact ⟨⟨by omega, by omega⟩, by omega, z, hz, fun _ => trivial, fun _ => ⟨by omega, by omega⟩⟩
 . rw [w64 (by omega) (by omega)]
   exact ⟨by omega, by omega⟩
theorem ze0 (m : List Int) (n : Nat) (a b : Nat) (hm : m.length = 8) (hu : U8s m) (hn : n <= 8) (ha : a < n) (hb : b < n) : Tot (zs8 m n a b) fun _ => True := zaz m n a b hm hu hn ha hb
theorem ztg (x : Int) (h0 : 0 <= x) (h1 : x < 256) : Tot (zjc x) fun _ => True := by
 unfold zjc
 rw [qk]
 refine ⟨h0, ?_⟩
 have key : ∀ l : List UInt8, l.length = 256 -> ∃ y, l[x.toNat]? = some y /\ Tot (zg (IntKind.wrap .i64 (y.toNat : Int)) fun z => some z) fun _ => True := by
  intro l hl
  obtain ⟨y, hy⟩ := zv (l := l) (i := x.toNat) (by omega)
  exact ⟨y, hy, .mk trivial⟩
 exact key _ (by decide +kernel)
def up (l : TL) (a b : Nat) : Bool := (l.Up.getD a 0).toNat.testBit b
def xJ (l : TL) (a b : Nat) : Prop := up l a b = true -> (b ≠ a -> up l b a = false) /\ ∀ i, i < l.Names.length -> up l b i = true -> up l a i = true
structure LatOK (l : TL) : Prop where
 pos : 1 <= l.Names.length
 le : l.Names.length <= 8
 len : l.Up.length = l.Names.length
 u8 : U8s l.Up
 self : ∀ a, a < l.Names.length -> up l a a = true
 row : ∀ a, a < l.Names.length -> ∀ b, b < l.Names.length -> xJ l a b
theorem jF {l : TL} {a : Nat} {x : Int} (h : l.Up[a]? = some x) (b : Nat) : up l a b = x.toNat.testBit b := by
 unfold up; rw [List.getD_eq_getElem?_getD, h]; rfl
theorem znp (n : Nat) (h : n <= 8) (i : Nat) : (IntKind.wrap .u8 (IntKind.wrap .u8 (1 * 2 ^ min n (IntKind.bits .u8)) - 1)).toNat.testBit i = decide (i < n) := by
 have key : ∀ n : Fin 9, (IntKind.wrap .u8 (IntKind.wrap .u8 (1 * 2 ^ min n.val (IntKind.bits .u8)) - 1)).toNat = 2 ^ n.val - 1 := by decide +kernel
 rw [key ⟨n, by omega⟩]
 exact Nat.testBit_two_pow_sub_one n i
theorem zko (l : TL) (hu : U8s l.Up) (hn : l.Names.length <= 20) (hs : ∀ s ∈ l.Names, s.length <= 1000) : Tot (zaa l) fun r => r.2 = 0 -> LatOK l := by
 unfold zaa
 simp only [zw, List.length_map]
 refine (zph l.Names hn hs).mono fun x53 h53 => ?_
 simp only [zF, zo, Bool.not_eq_true', Bool.not_eq_false', decide_eq_true_eq, decide_eq_false_iff_not]
 refine ⟨fun h h' => absurd h' h, fun h => ⟨fun _ h' => absurd h' (by decide), fun hlen => ?_⟩⟩
 obtain ⟨p1, p8⟩ := h53 h
 have hlen' : l.Up.length = l.Names.length := by omega
 rw [qF, qa, qa, zw]
 refine ⟨by omega, ?_⟩
 rw [Int.toNat_natCast]
 have hmask := znp l.Names.length p8
 have hm0 := znk (e := IntKind.wrap .u8 (1 * 2 ^ min l.Names.length (IntKind.bits .u8)) - 1)
 revert hmask hm0
 generalize IntKind.wrap .u8 (IntKind.wrap .u8 (1 * 2 ^ min l.Names.length (IntKind.bits .u8)) - 1) = mask
 intro hmask hm0
 refine Tot.count l.Names.length (fun k s => s = (k : Int) /\ (∀ a, a < k -> up l a a = true) /\ ∀ a, a < k -> ∀ b, b < l.Names.length -> xJ l a b) ?_ ⟨rfl, fun a ha => absurd ha (by omega), fun a ha => absurd ha (by omega)⟩
 rintro k _ hk ⟨rfl, hself, hrow⟩
 simp only [zF, zo, qa, Sum.elim_inl, Sum.elim_inr, decide_eq_true_eq, decide_eq_false_iff_not]
 refine ⟨fun hlt => ?_, fun hlt => ?_⟩
 . -- a round
   simp only [qk, Int.toNat_natCast]
   obtain ⟨x, hx⟩ := zv (l := l.Up) (i := k) (by omega)
   have hx' := hu.get hx
   refine ⟨by omega, x, hx, ?_⟩
   rw [zw]
   refine (ztg x hx'.1 hx'.2).mono fun x91 _ => ?_
   simp only [zF, zo, qF, Sum.elim_inl, Sum.elim_inr, decide_eq_true_eq, decide_eq_false_iff_not, Int.toNat_natCast]
   refine ⟨fun _ h' => absurd h' (by decide), fun _ => ⟨by omega, fun _ h' => absurd h' (by decide), fun hs => ?_⟩⟩
   rw [zch hx'.1 hx'.2 (by omega), <- jF hx] at hs
   have hkk : up l k k = true := by
    cases e : up l k k with
    | true => rfl
    | false => rw [e] at hs; simp at hs
   rw [zw]
   refine Tot.count l.Names.length (fun j s => s = (j : Int) /\ ∀ b, b < j -> xJ l k b) ?_ ⟨rfl, fun b hb => absurd hb (by omega)⟩
   rintro j _ hj ⟨rfl, hr⟩
   have fin : (∀ b, b < l.Names.length -> xJ l k b) -> k < l.Names.length /\ IntKind.wrap .i64 ((k : Int) + 1) = ((k + 1 : Nat) : Int) /\ (∀ a, a < k + 1 -> up l a a = true) /\ ∀ a, a < k + 1 -> ∀ b, b < l.Names.length -> xJ l a b := by
    intro hall
    rw [w64 (by omega) (by omega)]
    refine ⟨by omega, by omega, fun a ha => ?_, fun a ha => ?_⟩
    . rcases Nat.lt_or_ge a k with g | g
      . exact hself a g
      . have : a = k := by omega
        subst this; exact hkk
    . rcases Nat.lt_or_ge a k with g | g
      . exact hrow a g
      . have : a = k := by omega
        subst this; exact hall
   have ext : ∀ {b}, xJ l k j -> b < j + 1 -> xJ l k b := by
    intro b h hb
    rcases Nat.lt_or_ge b j with g | g
    . exact hr b g
    . have : b = j := by omega
      subst this; exact h
   simp only [zF, zo, qa, qF, Sum.elim_inl, Sum.elim_inr, decide_eq_true_eq, decide_eq_false_iff_not, Bool.not_eq_true', Bool.not_eq_false', Int.toNat_natCast]
   refine ⟨fun hjl => ?_, fun hjl => ?_⟩
   . simp only [qk, Int.toNat_natCast]
     obtain ⟨y, hy⟩ := zv (l := l.Up) (i := j) (by omega)
     have hy' := hu.get hy
     refine ⟨by omega, y, hy, ?_⟩
     simp only [zF, zo, qa, qF, Sum.elim_inl, Sum.elim_inr, decide_eq_true_eq, decide_eq_false_iff_not, Bool.not_eq_true', Bool.not_eq_false', Int.toNat_natCast]
     rw [zch hx'.1 hx'.2 (by omega), <- jF hx]
     rw [w64 (e := (l.Names.length : Int) - 1) (by omega) (by omega)]
     have stay : xJ l k j -> ((j : Int) = (l.Names.length : Int) - 1 -> k < l.Names.length /\ IntKind.wrap .i64 ((k : Int) + 1) = ((k + 1 : Nat) : Int) /\ (∀ a, a < k + 1 -> up l a a = true) /\ ∀ a, a < k + 1 -> ∀ b, b < l.Names.length -> xJ l a b) /\ (¬ (j : Int) = (l.Names.length : Int) - 1 -> j < l.Names.length /\ IntKind.wrap .i64 ((j : Int) + 1) = ((j + 1 : Nat) : Int) /\ ∀ b, b < j + 1 -> xJ l k b) := by
      intro hrow'
      refine ⟨fun e => fin fun b hb => ext hrow' (by omega), fun e => ?_⟩
      rw [w64 (by omega) (by omega)]
      exact ⟨by omega, by omega, fun b hb => ext hrow' hb⟩
     refine ⟨by omega, fun hb => ?_, fun hb => ⟨fun hne => ⟨by omega, fun _ h' => absurd h' (by decide), fun hba => ⟨fun _ h' => absurd h' (by decide), fun han => ?_⟩⟩, fun heq => ⟨fun _ h' => absurd h' (by decide), fun han => ?_⟩⟩⟩
     . refine stay fun hup => ?_
       rw [hup] at hb; simp at hb
     . refine stay fun _ => ⟨fun _ => ?_, fun i hi hyi => ?_⟩
       . rw [zch hy'.1 hy'.2 (by omega), <- jF hy] at hba
         cases e : up l j k with
         | false => rfl
         | true => rw [e] at hba; simp at hba
       . rw [zcb hy'.1 hy'.2 hm0.1 hm0.2] at han
         have hand := zdw (a := y.toNat) (b := mask.toNat) (by omega)
         have := (zba (by omega) (by omega) hx'.1 hx'.2).1 han i (by
          rw [Int.toNat_natCast, Nat.testBit_and, hmask, <- jF hy, hyi]; simp [hi])
         rw [jF hx]; exact this
     . refine stay fun _ => ⟨fun hne => absurd (by omega) hne, fun i hi hyi => ?_⟩
       rw [zcb hy'.1 hy'.2 hm0.1 hm0.2] at han
       have hand := zdw (a := y.toNat) (b := mask.toNat) (by omega)
       have := (zba (by omega) (by omega) hx'.1 hx'.2).1 han i (by
        rw [Int.toNat_natCast, Nat.testBit_and, hmask, <- jF hy, hyi]; simp [hi])
       rw [jF hx]; exact this
   . exact fin fun b hb => hr b (by omega)
 . -- the end
   have hk' : k = l.Names.length := by omega
   subst hk'
   have good : LatOK l := ⟨p1, p8, hlen', hu, hself, hrow⟩
   rw [zw]
   refine (zwa l hu p8 (by omega)).mono fun o ho => ?_
   obtain ⟨_, o1, o2, o3, o4⟩ := ho
   rw [zw]
   refine Tot.count l.Names.length (fun j s => s = (j : Int)) ?_ rfl
   rintro j _ hj rfl
   simp only [zF, zo, qa, zw, Sum.elim_inl, Sum.elim_inr, decide_eq_true_eq, decide_eq_false_iff_not]
   refine ⟨fun hlt => ?_, fun _ _ => good⟩
   refine Tot.count l.Names.length (fun i s => s = (i : Int)) ?_ rfl
   rintro i _ hi rfl
   simp only [zF, zo, qa, zw, Sum.elim_inl, Sum.elim_inr, decide_eq_true_eq, decide_eq_false_iff_not]
   refine ⟨fun hlt' => ?_, fun _ => ?_⟩
   . refine (zaz _ _ _ _ o1 o3 p8 (by omega) (by omega)).mono fun b1 _ => ⟨fun _ h' => absurd h' (by decide), fun _ => ?_⟩
     refine (ze0 _ _ _ _ o2 o4 p8 (by omega) (by omega)).mono fun b2 _ => ⟨fun _ h' => absurd h' (by decide), fun _ => ?_⟩
     rw [w64 (by omega) (by omega)]
     exact ⟨by omega, by omega⟩
   . rw [w64 (by omega) (by omega)]
     exact ⟨by omega, by omega⟩
end Go.Sx.O
noncomputable section
namespace Go.Sx.O
open Go
structure LatIn (l : TL) : Prop where
 u8 : U8s l.Up
 names : l.Names.length <= 20
 name : ∀ s ∈ l.Names, s.length <= 1000
def qB (l : TL) : Int × Int := (zaa l).getD (0, 0)
theorem zab {l : TL} (h : LatIn l) : zaa l = some (qB l) := by
 obtain ⟨r, e, _⟩ := zko l h.u8 h.names h.name
 unfold qB; rw [e]; rfl
theorem je {l : TL} (h : LatIn l) (k : (qB l).2 = 0) : LatOK l := by
 obtain ⟨r, e, q⟩ := zko l h.u8 h.names h.name
 have := zab h
 rw [e] at this; cases this
 exact q k
def wt (l : TL) (a : Int) : Bool := decide (0 <= a) && decide (a < (l.Names.length : Int))
def zbw (l : TL) (xs : List Int) : Int := if (qB l).2 = 0 then (if xs.all (wt l) then 0 else 7) else (qB l).2
theorem zpi {l : TL} (h : LatIn l) (xs : List Int) (hx : xs.length <= 1000000000) : ztj l xs = some (zbw l xs) := by
 unfold ztj zbw
 rw [zab h]
 simp only [Option.bind_some]
 by_cases h0 : (qB l).2 = 0
 . simp only [h0, decide_true, Bool.not_true, cond_false, if_true]
   apply Tot.eq
   simp only [zw, List.length_map]
   refine Tot.count xs.length (fun k s => s = (k : Int) /\ (xs.take k).all (wt l) = true) ?_ ⟨rfl, by simp⟩
   rintro k _ hk ⟨rfl, hall⟩
   simp only [zF, zo, qa, qk, Sum.elim_inl, Sum.elim_inr, decide_eq_true_eq, decide_eq_false_iff_not, Int.toNat_natCast]
   refine ⟨fun hlt => ?_, fun hlt => ?_⟩
   . obtain ⟨x, hx'⟩ := zv (l := xs) (i := k) (by omega)
     have hm := List.mem_of_getElem? hx'
     have bad : wt l x = false -> (7 : Int) = if xs.all (wt l) = true then 0 else 7 := by
      intro e
      have : xs.all (wt l) = false := by
       rw [List.all_eq_false]; exact ⟨x, hm, by simp [e]⟩
      simp [this]
     refine ⟨by omega, x, hx', fun g => bad (by unfold wt; simp; omega), fun g1 => ⟨fun g => bad (by unfold wt; simp; omega), fun g2 => ?_⟩⟩
     rw [w64 (by omega) (by omega)]
     refine ⟨by omega, by omega, ?_⟩
     rw [List.take_add_one, hx', List.all_append, hall]
     simp [wt]; omega
   . rw [List.take_of_length_le (by omega)] at hall
     simp [hall]
 . simp only [h0, decide_false, Bool.not_false, cond_true, if_false]
def zru (l : TL) (a o : Int) : Bool := decide ((qB l).2 = 0) && wt l a && wt l o && up l a.toNat o.toNat
end Go.Sx.O
end
namespace Go.Sx.O
open Go
theorem zce {α : Type} {l : List α} (p : α -> Bool) {ε : Type} {step : Int -> Option (Int ⊕ (ε ⊕ Int))} {e : ε} {G : Option Int}
 (hG : G = (lpO step 0).bind (Sum.elim (fun _ => some (-1)) some))
 (h1 : ∀ (k : Nat) x, l[k]? = some x -> k < l.length -> step (k : Int) = if p x then some (.inr (.inr (k : Int))) else some (.inl ((k : Int) + 1)))
 (h2 : step (l.length : Int) = some (.inr (.inl e))) : G.bind (fun x => some (decide (0 <= x))) = some (l.any p) := by
 rw [hG, zki (l := l) p (d := .inl e) (g := .inr) (fun k x hx => h1 k x hx (by
  rcases Nat.lt_or_ge k l.length with g | g
  . exact g
  . rw [List.getElem?_eq_none g] at hx; cases hx)) h2]
 cases h : l.findIdx? p with
 | none =>
   have := List.findIdx?_eq_none_iff.1 h
   simp only [Option.bind_some, Sum.elim_inl]
   have hn : l.any p = false := by rw [List.any_eq_false]; intro x hx; simp [this x hx]
   rw [hn]; rfl
 | some i =>
   obtain ⟨hi, hp, _⟩ := List.findIdx?_eq_some_iff_getElem.1 h
   have hy : l.any p = true := List.any_eq_true.2 ⟨_, List.getElem_mem hi, hp⟩
   simp [hy]
theorem zkv (l : List Int) (h : l.length <= 1000000000) : zrt l = some (l.any fun x => decide (x < 0)) := by
 unfold zrt zwi
 refine zce (l := l) (fun x => decide (x < 0)) (e := ()) rfl (fun k x hx hlt => ?_) (by simp)
 simp only [List.length_map, Int.ofNat_lt, hlt, decide_true, cond_true, zi, Int.toNat_natCast, hx, Option.bind_some, zg, Int.natCast_nonneg, if_true, zq6]
 rw [w64 (by omega) (by omega)]
 cases decide (x < 0) <;> rfl
theorem zky (l : List Int) (h : l.length <= 1000000000) : zr4 l = some (l.any fun x => !decide (x = 0)) := by
 unfold zr4 zxd
 refine zce (l := l) (fun x => !decide (x = 0)) (e := ()) rfl (fun k x hx hlt => ?_) (by simp)
 simp only [List.length_map, Int.ofNat_lt, hlt, decide_true, cond_true, zi, Int.toNat_natCast, hx, Option.bind_some, zg, Int.natCast_nonneg, if_true, ztr]
 rw [w64 (by omega) (by omega)]
 cases decide (x = 0) <;> rfl
theorem zkz (l : List Int) (h : l.length <= 1000000000) : zsa l = some (l.any fun x => decide (400 < x)) := by
 unfold zsa zxt
 refine zce (l := l) (fun x => decide (400 < x)) (e := ()) rfl (fun k x hx hlt => ?_) (by simp)
 simp only [List.length_map, Int.ofNat_lt, hlt, decide_true, cond_true, zi, Int.toNat_natCast, hx, Option.bind_some, zg, Int.natCast_nonneg, if_true, zsj]
 rw [w64 (by omega) (by omega)]
 cases decide (400 < x) <;> rfl
theorem za3 (x : Int) : Tot (zap x) fun _ => True := by
 unfold zap
 simp only [zF, zo, implies_true, and_self]
theorem zfj {α β : Type} {l : List α} {m : List β} (n : Nat) (p : α -> β -> Bool) {τ ε : Type} {step : Int -> Option (Int ⊕ (ε ⊕ τ))} {bad : Int -> τ} {e : ε} {Q : ε ⊕ τ -> Prop}
 (hn : n <= l.length) (hm : n <= m.length)
 (h1 : ∀ (k : Nat) x y, l[k]? = some x -> m[k]? = some y -> k < n -> step (k : Int) = if p x y then some (.inl ((k : Int) + 1)) else some (.inr (.inr (bad k))))
 (h2 : step (n : Int) = some (.inr (.inl e)))
 (q1 : (∀ (k : Nat) x y, l[k]? = some x -> m[k]? = some y -> k < n -> p x y = true) -> Q (.inl e))
 (q2 : ∀ (k : Nat) x y, l[k]? = some x -> m[k]? = some y -> k < n -> p x y = false -> (∀ (j : Nat) x y, l[j]? = some x -> m[j]? = some y -> j < k -> p x y = true) -> Q (.inr (bad k))) : Tot (lpO step 0) Q := by
 refine Tot.count n (fun k s => s = (k : Int) /\ ∀ (j : Nat) x y, l[j]? = some x -> m[j]? = some y -> j < k -> p x y = true) ?_ ⟨rfl, fun j _ _ _ _ hj => absurd hj (by omega)⟩
 rintro k _ hk ⟨rfl, hall⟩
 rcases Nat.lt_or_ge k n with g | g
 . obtain ⟨x, hx⟩ := zv (l := l) (i := k) (by omega)
   obtain ⟨y, hy⟩ := zv (l := m) (i := k) (by omega)
   rw [h1 k x y hx hy g]
   cases e : p x y with
   | true =>
     simp only [if_true, zo, Sum.elim_inl]
     refine ⟨g, by omega, fun j x' y' hx' hy' hj => ?_⟩
     rcases Nat.lt_or_ge j k with g' | g'
     . exact hall j x' y' hx' hy' g'
     . have : j = k := by omega
       subst this
       rw [hx] at hx'; rw [hy] at hy'
       cases hx'; cases hy'; exact e
   | false =>
     simp only [Bool.false_eq_true, if_false, zo, Sum.elim_inr]
     exact q2 k x y hx hy g e hall
 . have : k = n := by omega
   subst this
   rw [h2]
   simp only [zo, Sum.elim_inr]
   exact q1 fun j x y hx hy hj => hall j x y hx hy hj
theorem uf {α : Type} : ∀ {l m : List α}, l.length = m.length -> (∀ (k : Nat) x y, l[k]? = some x -> m[k]? = some y -> k < l.length -> x = y) -> l = m
 | [], [], _, _ => rfl
 | a :: l, b :: m, h, k => by
   have h0 := k 0 a b rfl rfl (by simp)
   subst h0
   rw [uf (l := l) (m := m) (by simpa using h) fun j x y hx hy hj => k (j + 1) x y (by simpa using hx) (by simpa using hy) (by simp; omega)]
 | [], _ :: _, h, _ => by simp at h
 | _ :: _, [], h, _ => by simp at h
open Go
theorem zix {l : List UInt8} {c : UInt8} (h : c ∉ l) : Lib.indexByte l c = -1 := by
 induction l with
 | nil => rfl
 | cons a l ih =>
   simp only [List.mem_cons, not_or] at h
   have : (a == c) = false := by simp; exact fun e => h.1 e.symm
   simp [Lib.indexByte, this, ih h.2]
theorem zuj {r : Int} (h0 : 128 <= r) (h1 : r < 256) : ∃ x y, (Utf8.encode r).data.toList = [x, y] /\ 128 <= y.toNat := by
 refine ⟨UInt8.ofNat (0xC0 + r.toNat / 64), UInt8.ofNat (0x80 + r.toNat % 64), ?_, ?_⟩
 . have hv : Utf8.valid r = true := by unfold Utf8.valid; simp; omega
   unfold Utf8.encode
   simp only [hv, if_true]
   rw [if_neg (by omega), if_pos (by omega)]
 . rw [UInt8.toNat_ofNat']; omega
theorem zhb (s : List UInt8) (r : Int) (hs : ∀ c ∈ s, c.toNat < 128) (hl : s.length <= 1000) (h0 : 0 <= r) (h1 : r < 256) : Tot (zjs s r) fun _ => True := by
 unfold zjs
 have e0 : decide (0 <= r) = true := by simp [h0]
 simp only [e0, cond_true]
 rw [zF]
 refine ⟨fun _ => ?_, fun h2 => ?_⟩
 . rw [qa, zw]
   unfold zdx qi
   simp only [Option.bind_some, zo]
 . simp only [decide_eq_false_iff_not] at h2
   obtain ⟨x, y, exy, hy⟩ := zuj (r := r) (by omega) h1
   have e1 : decide (r = 65533) = false := by simp; omega
   simp only [e1, cond_false, exy]
   rw [zw]
   refine (za3 r).mono fun v _ => ?_
   rw [zF]
   refine ⟨fun _ => .mk trivial, fun _ => ?_⟩
   rw [qa]
   have e2 : IntKind.wrap .i64 (((List.length [x, y] : Nat) : Int) - 1) = 1 := rfl
   rw [e2, zw]
   refine Tot.loop (fun _ => 0) (fun _ => True) (fun _ _ => ?_) trivial
   rw [zF]
   refine ⟨fun h3 => ?_, fun _ => ?_⟩
   . simp only [decide_eq_true_eq] at h3
     obtain ⟨c, hc⟩ := zv (l := s) (i := 1) (by omega)
     have hc' := hs c (List.mem_of_getElem? hc)
     have e3 : (1 : Int).toNat = 1 := rfl
     simp only [qk, e3]
     refine ⟨by omega, c, hc, by omega, y, rfl, ?_⟩
     have e4 : decide ((c.toNat : Int) = (y.toNat : Int)) = false := by simp; omega
     simp only [e4, Bool.not_false, cond_true]
     rw [qa]
     have e5 : IntKind.wrap .i64 (1 + 1) = 2 := rfl
     rw [e5, qF]
     refine ⟨by omega, ?_⟩
     simp only [qk, e3]
     refine ⟨by omega, y, rfl, ?_⟩
     unfold zdx qi
     simp only [Option.bind_some]
     have hn : ((y.toNat : Int).toNat.toUInt8) = y := by simp
     rw [hn, zix (fun hm => by
      have := hs y (List.mem_of_mem_take (List.mem_of_mem_drop hm))
      omega)]
     have e6 : decide ((-1 : Int) < 0) = true := rfl
     simp only [e6, cond_true, zo, Sum.elim_inr]
   . simp only [zo, Sum.elim_inr, Sum.elim_inl]
theorem zeb (s : List UInt8) (r : Int) (hs : ∀ c ∈ s, c.toNat < 128) (hl : s.length <= 1000) (h0 : 0 <= r) (h1 : r < 256) : Tot (xE s r) fun _ => True := by
 unfold xE
 rw [zw]
 exact (zhb s r hs hl h0 h1).mono fun _ _ => .mk trivial
theorem znh {r : Int} (h0 : 0 <= r) (h1 : r < 256) : IntKind.wrap .i32 r = r := by
 simp only [IntKind.wrap, IntKind.signed, IntKind.bits]
 have h3 : (2 : Int) ^ 32 = 4294967296 := by decide
 have h4 : (2 : Int) ^ (32 - 1) = 2147483648 := by decide
 simp only [h3, h4, Bool.true_and, decide_eq_true_eq, ge_iff_le]
 split <;> omega
end Go.Sx.O
