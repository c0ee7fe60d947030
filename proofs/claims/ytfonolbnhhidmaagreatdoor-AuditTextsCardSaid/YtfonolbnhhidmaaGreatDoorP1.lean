/-
  An own text of this claim.
-/
import Derived.Test.YtfonolbnhhidmaaGreatDoorA8
import Derived.Lib.Bytealg
import Derived.Lib.ItoaNum
import Derived.Lib.ParseIntB
import Derived.Lib.Strings
import Derived.Lib.SlTrimSet
namespace Go.Sx.O
structure TR where
 s_ : List UInt8
 at_ : Int
def zW (x : TR) : SV := .agg [SV.str x.s_, (SV.int .i64) x.at_]
structure TL where
 Names : List (List UInt8)
 Up : List (Int)
def zJ (x : TL) : SV := .agg [(zo 1 SV.str) x.Names, (zo 1 (SV.int .u8)) x.Up]
structure TU where
 From : Int
 Goal : Int
 K : Int
def qE (x : TU) : SV := .agg [(SV.int .i64) x.From, (SV.int .i64) x.Goal, (SV.int .i64) x.K]
structure TK where
 Kind : Int
 From : Int
 To : Int
 N : Int
 S : List UInt8
def zZ (x : TK) : SV := .agg [(SV.int .i64) x.Kind, (SV.int .i64) x.From, (SV.int .i64) x.To, (SV.int .i64) x.N, SV.str x.S]
structure Tlattice_order where
 n_ : Int
 up_ : List (Int)
 down_ : List (Int)
def qz (x : Tlattice_order) : SV := .agg [(SV.int .i64) x.n_, (ql 8 1 (SV.int .u8)) x.up_, (ql 8 1 (SV.int .u8)) x.down_]
structure TY where
 Kind : Int
 Rank : Int
 Axes : (Int) × (Int)
 Data : Int
def yz (x : TY) : SV := .agg [(SV.int .i64) x.Kind, (SV.int .i64) x.Rank, (jQ 1 (SV.int .i64)) x.Axes, (SV.int .i64) x.Data]
structure TV where
 Name : List UInt8
 Type_ : TY
def wL (x : TV) : SV := .agg [SV.str x.Name, yz x.Type_]
structure TE where
 Site : Int
 Fold : Int
 From : Int
 Goal : Int
 Cells : Int
 Value : (Int) × (Int)
def zx (x : TE) : SV := .agg [(SV.int .i64) x.Site, (SV.int .i64) x.Fold, (SV.int .i64) x.From, (SV.int .i64) x.Goal, (SV.int .i64) x.Cells, (jQ 1 (SV.int .i64)) x.Value]
structure TP where
 Lattice : TL
 Channels : List (TR)
 Vars : List (TV)
 Rules : List (TU)
def zI (x : TP) : SV := .agg [zJ x.Lattice, (zo 2 zW) x.Channels, (zo 6 wL) x.Vars, (zo 3 qE) x.Rules]
end Go.Sx.O
noncomputable section
namespace Go.Sx.O
def qm (a0 : List UInt8) (a1 : Int) : Option Int := some (Go.Lib.indexByte a0 a1.toNat.toUInt8)
def yp (a0 a1 : Int) : Option (List UInt8) := if -9223372036854775808 <= a0 /\ a0 <= 9223372036854775807 /\ a1 = 10 then some (Lib.itoa a0) else none
def wX (a0 a1 : List UInt8) : Option (List (List UInt8)) := match a1 with
 | [c] => if a0.length <= 1000000 then some (zF c a0 []) else none
 | _ => none
def yO (a0 : List (List UInt8)) (a1 : List UInt8) : Option (List UInt8) := if a0.length <= 1000000 /\ (qx a0 a1).length <= 1000000 then some (qx a0 a1) else none
def ji (a0 a1 : List UInt8) : Option Int := match a1 with
 | [c] => some (Lib.countByte a0 c : Nat)
 | _ => none
def yq (a0 a1 : List UInt8) : Option Bool := if a0.length <= 1000000 then some (Lib.hasSuffix a0 a1) else none
def digs : List UInt8 := [48, 49, 50, 51, 52, 53, 54, 55, 56, 57]
def yG (s : List UInt8) : Bool := match Lib.trimPrefix s [45] with
 | [] => false
 | c :: r => match Lib.trimS (c :: r) digs with
   | [] => decide (c ≠ 48) || decide (s = [48])
   | _ :: _ => false
def wg (s : List UInt8) (a b : Int) : Int × Int := if yG s = true then (match Lib.parseIntB 64 s with | .ok v => if v < a \/ b < v then (0, 7) else (v, 0) | _ => (0, 7)) else (0, 6)
def uj (a0 : List UInt8) (a1 a2 : Int) : Option (Int × Int) := if a0.length <= 1000000 then some (wg a0 a1 a2) else none
def qy (a0 : Int) : Option (List UInt8) := if -9223372036854775808 <= a0 /\ a0 <= 9223372036854775807 then some (Lib.itoa a0) else none
end Go.Sx.O
end
namespace Go.Sx.O
open Go
def inK (k : IntKind) (n : Int) : Prop := k.min <= n /\ n <= k.max
def xW {α : Type} (W : α -> Prop) (l : List α) : Prop := ∀ x ∈ l, W x
def w2 {α : Type} (W : α -> Prop) (p : α × α) : Prop := W p.1 /\ W p.2
def w3 {α : Type} (W : α -> Prop) (p : α × α × α) : Prop := W p.1 /\ W p.2.1 /\ W p.2.2
structure W_TR (x : TR) : Prop where
 s_ : (fun _ => True) x.s_
 at_ : (inK .i64) x.at_
structure W_TL (x : TL) : Prop where
 Names : (xW (fun _ => True)) x.Names
 Up : (xW (inK .u8)) x.Up
structure W_TU (x : TU) : Prop where
 From : (inK .i64) x.From
 Goal : (inK .i64) x.Goal
 K : (inK .i64) x.K
structure W_TY (x : TY) : Prop where
 Kind : (inK .i64) x.Kind
 Rank : (inK .i64) x.Rank
 Axes : (w2 (inK .i64)) x.Axes
 Data : (inK .i64) x.Data
structure W_TV (x : TV) : Prop where
 Name : (fun _ => True) x.Name
 Type_ : W_TY x.Type_
structure W_TE (x : TE) : Prop where
 Site : (inK .i64) x.Site
 Fold : (inK .i64) x.Fold
 From : (inK .i64) x.From
 Goal : (inK .i64) x.Goal
 Cells : (inK .i64) x.Cells
 Value : (w2 (inK .i64)) x.Value
structure W_TP (x : TP) : Prop where
 Lattice : W_TL x.Lattice
 Channels : (xW W_TR) x.Channels
 Vars : (xW W_TV) x.Vars
 Rules : (xW W_TU) x.Rules
end Go.Sx.O
noncomputable section
namespace Go.Sx.O
def Fz0 (b : List (List UInt8)) : Option (Bool) :=
 Option.bind (
 lpO (fun (a : Int) =>
 cond (decide (a < (↑(List.length (List.map SV.str b)) : Int)))
 (cond (decide (a < 20))
 (zh b a fun c =>
 cond (decide (100 < (↑(List.length c) : Int)))
 (some (.inr (.inr (true))))
 (zf (IntKind.wrap .i64 (a + 1)) fun d =>
 some (.inl d)))
 (some (.inr (.inl ()))))
 (some (.inr (.inl ())))) (0))
 (Sum.elim (fun (_ : Unit) =>
 some (decide (12 < (↑(List.length (List.map SV.str b)) : Int)))) some)
def Fz1 (a : TL) : Option (Bool) :=
 (Fz0 (a.Names)).bind fun b =>
 cond b
 (some (true))
 (some (decide (12 < (↑(List.length (List.map (SV.int .u8) a.Up)) : Int))))
def Fz2 (a : TP) : Option (Bool) :=
 Option.bind (
 lpO (fun (s3 : Int) =>
 cond (decide (s3 < (↑(List.length (List.map zW a.Channels)) : Int)))
 (cond (decide (s3 < 25))
 (zh (a.Channels) s3 fun g =>
 cond (decide (100 < (↑(List.length g.s_) : Int)))
 (some (.inr (.inr (true))))
 (zf (IntKind.wrap .i64 (s3 + 1)) fun c =>
 some (.inl c)))
 (some (.inr (.inl ()))))
 (some (.inr (.inl ())))) (0))
 (Sum.elim (fun (_ : Unit) =>
 Option.bind (
 lpO (fun (b : Int) =>
 cond (decide (b < (↑(List.length (List.map wL a.Vars)) : Int)))
 (cond (decide (b < 45))
 (zh (a.Vars) b fun d =>
 cond (decide (100 < (↑(List.length d.Name) : Int)))
 (some (.inr (.inr (true))))
 (zf (IntKind.wrap .i64 (b + 1)) fun e =>
 some (.inl e)))
 (some (.inr (.inl ()))))
 (some (.inr (.inl ())))) (0))
 (Sum.elim (fun (_ : Unit) =>
 (Fz1 (a.Lattice)).bind fun f =>
 cond f
 (some (true))
 (cond (decide (20 < (↑(List.length (List.map zW a.Channels)) : Int)))
 (some (true))
 (cond (decide (40 < (↑(List.length (List.map wL a.Vars)) : Int)))
 (some (true))
 (some (decide (70 < (↑(List.length (List.map qE a.Rules)) : Int))))))) some)) some)
def Fz3 (a : List TE) : Option (Bool) :=
 cond (decide (40 < (↑(List.length (List.map zx a)) : Int)))
 (cond (decide ((↑(List.length (List.map zx a)) : Int) <= 2000))
 (some (true))
 (some (decide (2005 < (↑(List.length (List.map zx a)) : Int)))))
 (some (decide (2005 < (↑(List.length (List.map zx a)) : Int))))
def Fz4 (f : List UInt8) (g : Int) : Option (List UInt8) :=
 Option.bind (
 lpO (fun (a : List UInt8) =>
 cond (decide (0 < (↑(List.length a) : Int)))
 (zf (IntKind.wrap .i64 ((↑(List.length a) : Int) - 1)) fun c =>
 zh a c fun d =>
 cond (decide ((↑(UInt8.toNat d) : Int) = g))
 (zf (IntKind.wrap .i64 ((↑(List.length a) : Int) - 1)) fun b =>
 zi (0 <= b /\ b <= (↑(List.length a) : Int)) (
 some (.inl (List.drop (Int.toNat 0) (List.take (Int.toNat b) a)))))
 (some (.inr (.inl a))))
 (some (.inr (.inl a)))) f)
 (Sum.elim (fun (e : List UInt8) =>
 some e) some)
def Fz5 (d : List UInt8) (e : Int) : Option (List UInt8) :=
 Option.bind (
 lpO (fun (a : List UInt8) =>
 cond (decide (0 < (↑(List.length a) : Int)))
 (zh a (0) fun b =>
 cond (decide ((↑(UInt8.toNat b) : Int) = e))
 (zi ((0 : Int) <= (1 : Int) /\ (1 : Int) <= (↑(List.length a) : Int)) (
 some (.inl (List.drop (Int.toNat 1) (List.take (Int.toNat (↑(List.length a) : Int)) a)))))
 (some (.inr (.inl a))))
 (some (.inr (.inl a)))) d)
 (Sum.elim (fun (c : List UInt8) =>
 some c) some)
def Fz6 (d : List UInt8) : Option (List Bool × Bool) :=
 Option.bind (
 lpO (fun (a : Int × List Bool) =>
 cond (decide (a.fst < (↑(List.length d) : Int)))
 (zh d (a.fst) fun b =>
 cond (decide (128 <= (↑(UInt8.toNat b) : Int)))
 (some (.inr (.inr ((a.snd, false)))))
 (zi ((0 : Int) <= (↑(UInt8.toNat b) : Int) /\ (↑(UInt8.toNat b) : Int) < (↑(256 : Nat) : Int)) (
 zh (a.snd) ((↑(Int.toNat (↑(UInt8.toNat b) : Int)) : Int)) fun _ =>
 zf (IntKind.wrap .i64 (a.fst + 1)) fun c =>
 some (.inl ((c, List.set a.snd (Int.toNat (↑(UInt8.toNat b) : Int)) true))))))
 (some (.inr (.inl (a.snd))))) ((0, List.replicate 256 false)))
 (Sum.elim (fun (e : List Bool) =>
 some ((e, true))) some)
def Fz7 (c : List Bool) (a : Int) : Option (Bool) :=
 zi (0 <= a /\ a < (↑(256 : Nat) : Int)) (
 zh c ((↑(Int.toNat a) : Int)) fun b =>
 some b)
def Fz8 (g : List UInt8) (i : List Bool) : Option (List UInt8) :=
 Option.bind (
 lpO (fun (a : List UInt8) =>
 cond (decide (0 < (↑(List.length a) : Int)))
 (zf (IntKind.wrap .i64 ((↑(List.length a) : Int) - 1)) fun c =>
 zh a c fun d =>
 (Fz7 i ((↑(UInt8.toNat d) : Int))).bind fun e =>
 cond (!e)
 (some (.inr (.inl a)))
 (zf (IntKind.wrap .i64 ((↑(List.length a) : Int) - 1)) fun b =>
 zi (0 <= b /\ b <= (↑(List.length a) : Int)) (
 some (.inl (List.drop (Int.toNat 0) (List.take (Int.toNat b) a))))))
 (some (.inr (.inl a)))) g)
 (Sum.elim (fun (f : List UInt8) =>
 some f) some)
def Fz9 (e : List UInt8) (f : List Bool) : Option (List UInt8) :=
 Option.bind (
 lpO (fun (a : List UInt8) =>
 cond (decide (0 < (↑(List.length a) : Int)))
 (zh a (0) fun b =>
 (Fz7 f ((↑(UInt8.toNat b) : Int))).bind fun c =>
 cond (!c)
 (some (.inr (.inl a)))
 (zi ((0 : Int) <= (1 : Int) /\ (1 : Int) <= (↑(List.length a) : Int)) (
 some (.inl (List.drop (Int.toNat 1) (List.take (Int.toNat (↑(List.length a) : Int)) a))))))
 (some (.inr (.inl a)))) e)
 (Sum.elim (fun (d : List UInt8) =>
 some d) some)
def zzd (a : Int) : Option (Bool) :=
 some (!decide (bits BinOp.and IntKind.u8 a 192 = 128))
def zyg (a : List UInt8) : Option (Int × Int) :=
 cond (decide ((↑(List.length a) : Int) < 1))
 (some ((65533, 0)))
 (zh a (0) fun _ =>
 none)
def zsu (a : List UInt8) : Option (Int × Int) :=
 cond (!decide (a = (ByteArray.mk #[]).data.toList))
 (zh a (0) fun b =>
 cond (decide ((↑(UInt8.toNat b) : Int) < 128))
 (zh a (0) fun c =>
 zf (IntKind.wrap .i32 (↑(UInt8.toNat c) : Int)) fun d =>
 some ((d, 1)))
 ((zyg a).bind fun e =>
 some e))
 ((zyg a).bind fun f =>
 some f)
def zCn (a : List UInt8) : Option (Int × Int) :=
 cond (decide ((↑(List.length a) : Int) = 0))
 (some ((65533, 0)))
 (zf (IntKind.wrap .i64 ((↑(List.length a) : Int) - 1)) fun d =>
 zh a d fun i =>
 zf (IntKind.wrap .i32 (↑(UInt8.toNat i) : Int)) fun e =>
 cond (decide (e < 128))
 (some ((e, 1)))
 (zf (IntKind.wrap .i64 ((↑(List.length a) : Int) - 4)) fun j =>
 zf (IntKind.wrap .i64 (d - 1)) fun k =>
 Option.bind (
 lpO (fun (b : Int) =>
 cond (decide (max j 0 <= b))
 (zh a b fun l =>
 (zzd ((↑(UInt8.toNat l) : Int))).bind fun m =>
 cond m
 (some (.inr (.inl b)))
 (zf (IntKind.wrap .i64 (b - 1)) fun n =>
 some (.inl n)))
 (some (.inr (.inl b)))) k)
 (Sum.elim (fun (c : Int) =>
 cond (decide (c < 0))
 (zi ((0 : Int) <= (0 : Int) /\ (0 : Int) <= (↑(List.length a) : Int) /\ (↑(List.length a) : Int) <= (↑(List.length a) : Int)) (
 (zsu (List.drop (Int.toNat 0) (List.take (Int.toNat (↑(List.length a) : Int)) a))).bind fun f =>
 zf (IntKind.wrap .i64 (0 + f.snd)) fun o =>
 cond (!decide (o = (↑(List.length a) : Int)))
 (some ((65533, 1)))
 (some f)))
 (zi (0 <= c /\ c <= (↑(List.length a) : Int) /\ (↑(List.length a) : Int) <= (↑(List.length a) : Int)) (
 (zsu (List.drop (Int.toNat c) (List.take (Int.toNat (↑(List.length a) : Int)) a))).bind fun g =>
 zf (IntKind.wrap .i64 (c + g.snd)) fun p =>
 cond (!decide (p = (↑(List.length a) : Int)))
 (some ((65533, 1)))
 (some g)))) some)))
def zd2 (b : List UInt8) (c : Int) : Option (Int) :=
 (qm b c).bind fun a =>
 some a
def zev (a : Int) : Option (Bool) :=
 cond (decide (0 <= a))
 (cond (decide (a < 55296))
 (some (true))
 (cond (decide (57343 < a))
 (cond (decide (a <= 1114111))
 (some (true))
 (some (false)))
 (some (false))))
 (cond (decide (57343 < a))
 (cond (decide (a <= 1114111))
 (some (true))
 (some (false)))
 (some (false)))
def zjw (d : List UInt8) (c : Int) : Option (Int) :=
 cond (decide (0 <= c))
 (cond (decide (c < 128))
 (zf (IntKind.wrap .u8 c) fun p =>
 (zd2 d p).bind fun q =>
 some q)
 (cond (decide (c = 65533))
 (none)
 ((zev c).bind fun s =>
 cond (!s)
 (some ((-1 : Int)))
 (zf (IntKind.wrap .i64 ((↑(List.length (Utf8.encode c).data.toList) : Int) - 1)) fun a =>
 Option.bind (
 lpO (fun (_ : Unit) =>
 cond (decide (a < (↑(List.length d) : Int)))
 (zh d a fun t =>
 zh ((Utf8.encode c).data.toList) a fun u =>
 cond (!decide ((↑(UInt8.toNat t) : Int) = (↑(UInt8.toNat u) : Int)))
 (zf (IntKind.wrap .i64 (a + 1)) fun j =>
 zi (0 <= j /\ j <= (↑(List.length d) : Int)) (
 zh ((Utf8.encode c).data.toList) a fun v =>
 (zd2 (List.drop (Int.toNat j) (List.take (Int.toNat (↑(List.length d) : Int)) d)) ((↑(UInt8.toNat v) : Int))).bind fun l =>
 cond (decide (l < 0))
 (some (.inr (.inr ((-1 : Int)))))
 (zf (IntKind.wrap .i64 (l + 1)) fun w =>
 zf (IntKind.wrap .i64 (a + w)) fun m =>
 Option.bind (
 lpO (fun (e : Int) =>
 cond (decide (e < (↑(List.length (Utf8.encode c).data.toList) : Int)))
 (zf (IntKind.wrap .i64 (m - e)) fun x =>
 zh d x fun y =>
 zf (IntKind.wrap .i64 (a - e)) fun z =>
 zh ((Utf8.encode c).data.toList) z fun A =>
 cond (!decide ((↑(UInt8.toNat y) : Int) = (↑(UInt8.toNat A) : Int)))
 (none)
 (zf (IntKind.wrap .i64 (e + 1)) fun C =>
 some (.inl C)))
 (some (.inr (.inl ())))) (1))
 (Sum.elim (fun (_ : Unit) =>
 zf (IntKind.wrap .i64 (m - a)) fun D =>
 some (.inr (.inr D))) some))))
 (Option.bind (
 lpO (fun (f : Int) =>
 cond (decide (f < (↑(List.length (Utf8.encode c).data.toList) : Int)))
 (zf (IntKind.wrap .i64 (a - f)) fun F =>
 zh d F fun G =>
 zf (IntKind.wrap .i64 (a - f)) fun H =>
 zh ((Utf8.encode c).data.toList) H fun I =>
 cond (!decide ((↑(UInt8.toNat G) : Int) = (↑(UInt8.toNat I) : Int)))
 (none)
 (zf (IntKind.wrap .i64 (f + 1)) fun J =>
 some (.inl J)))
 (some (.inr (.inl ())))) (1))
 (Sum.elim (fun (_ : Unit) =>
 zf (IntKind.wrap .i64 (a - a)) fun K =>
 some (.inr (.inr K))) some)))
 (some (.inr (.inl ())))) (()))
 (Sum.elim (fun (_ : Unit) =>
 some ((-1 : Int))) some)))))
 (cond (decide (c = 65533))
 (none)
 ((zev c).bind fun L =>
 cond (!L)
 (some ((-1 : Int)))
 (zf (IntKind.wrap .i64 ((↑(List.length (Utf8.encode c).data.toList) : Int) - 1)) fun b =>
 Option.bind (
 lpO (fun (_ : Unit) =>
 cond (decide (b < (↑(List.length d) : Int)))
 (zh d b fun M =>
 zh ((Utf8.encode c).data.toList) b fun N =>
 cond (!decide ((↑(UInt8.toNat M) : Int) = (↑(UInt8.toNat N) : Int)))
 (zf (IntKind.wrap .i64 (b + 1)) fun k =>
 zi (0 <= k /\ k <= (↑(List.length d) : Int)) (
 zh ((Utf8.encode c).data.toList) b fun O =>
 (zd2 (List.drop (Int.toNat k) (List.take (Int.toNat (↑(List.length d) : Int)) d)) ((↑(UInt8.toNat O) : Int))).bind fun n =>
 cond (decide (n < 0))
 (some (.inr (.inr ((-1 : Int)))))
 (zf (IntKind.wrap .i64 (n + 1)) fun P =>
 zf (IntKind.wrap .i64 (b + P)) fun o =>
 Option.bind (
 lpO (fun (g : Int) =>
 cond (decide (g < (↑(List.length (Utf8.encode c).data.toList) : Int)))
 (zf (IntKind.wrap .i64 (o - g)) fun Q =>
 zh d Q fun R =>
 zf (IntKind.wrap .i64 (b - g)) fun S =>
 zh ((Utf8.encode c).data.toList) S fun T =>
 cond (!decide ((↑(UInt8.toNat R) : Int) = (↑(UInt8.toNat T) : Int)))
 (none)
 (zf (IntKind.wrap .i64 (g + 1)) fun U =>
 some (.inl U)))
 (some (.inr (.inl ())))) (1))
 (Sum.elim (fun (_ : Unit) =>
 zf (IntKind.wrap .i64 (o - b)) fun V =>
 some (.inr (.inr V))) some))))
 (Option.bind (
 lpO (fun (i : Int) =>
 cond (decide (i < (↑(List.length (Utf8.encode c).data.toList) : Int)))
 (zf (IntKind.wrap .i64 (b - i)) fun W =>
 zh d W fun X =>
 zf (IntKind.wrap .i64 (b - i)) fun Y =>
 zh ((Utf8.encode c).data.toList) Y fun Z =>
 cond (!decide ((↑(UInt8.toNat X) : Int) = (↑(UInt8.toNat Z) : Int)))
 (none)
 (zf (IntKind.wrap .i64 (i + 1)) fun a2 =>
 some (.inl a2)))
 (some (.inr (.inl ())))) (1))
 (Sum.elim (fun (_ : Unit) =>
 zf (IntKind.wrap .i64 (b - b)) fun a3 =>
 some (.inr (.inr a3))) some)))
 (some (.inr (.inl ())))) (()))
 (Sum.elim (fun (_ : Unit) =>
 some ((-1 : Int))) some))))
def xO (b : List UInt8) (c : Int) : Option (Bool) :=
 (zjw b c).bind fun a =>
 some (decide (0 <= a))
def zz2 (m : List UInt8) (l : List UInt8) : Option (List UInt8) :=
 Option.bind (
 lpO (fun (a : List UInt8) =>
 cond (decide (0 < (↑(List.length a) : Int)))
 (zf (IntKind.wrap .i64 ((↑(List.length a) : Int) - 1)) fun f =>
 zh a f fun g =>
 zf (IntKind.wrap .i32 (↑(UInt8.toNat g) : Int)) fun d =>
 cond (decide (128 <= d))
 ((zCn a).bind fun e =>
 (xO l (e.fst)).bind fun i =>
 cond (!i)
 (some (.inr (.inl a)))
 (zf (IntKind.wrap .i64 ((↑(List.length a) : Int) - e.snd)) fun b =>
 zi (0 <= b /\ b <= (↑(List.length a) : Int)) (
 some (.inl (List.drop (Int.toNat 0) (List.take (Int.toNat b) a))))))
 ((xO l d).bind fun j =>
 cond (!j)
 (some (.inr (.inl a)))
 (zf (IntKind.wrap .i64 ((↑(List.length a) : Int) - 1)) fun c =>
 zi (0 <= c /\ c <= (↑(List.length a) : Int)) (
 some (.inl (List.drop (Int.toNat 0) (List.take (Int.toNat c) a)))))))
 (some (.inr (.inl a)))) m)
 (Sum.elim (fun (k : List UInt8) =>
 some k) some)
def zwz (e : List UInt8) (f : List UInt8) : Option (List UInt8) :=
 Option.bind (
 lpO (fun (a : List UInt8) =>
 cond (decide (0 < (↑(List.length a) : Int)))
 ((zsu a).bind fun b =>
 (xO f (b.fst)).bind fun c =>
 cond (!c)
 (some (.inr (.inl a)))
 (zi (0 <= b.snd /\ b.snd <= (↑(List.length a) : Int)) (
 some (.inl (List.drop (Int.toNat b.snd) (List.take (Int.toNat (↑(List.length a) : Int)) a))))))
 (some (.inr (.inl a)))) e)
 (Sum.elim (fun (d : List UInt8) =>
 some d) some)
def zsr (b : List UInt8) (a : List UInt8) : Option (List UInt8) :=
 cond (decide (b = (ByteArray.mk #[]).data.toList))
 (some b)
 (cond (decide (a = (ByteArray.mk #[]).data.toList))
 (some b)
 (cond (decide ((↑(List.length a) : Int) = 1))
 (zh a (0) fun n =>
 cond (decide ((↑(UInt8.toNat n) : Int) < 128))
 (zh a (0) fun o =>
 (Fz4 b ((↑(UInt8.toNat o) : Int))).bind fun p =>
 zh a (0) fun q =>
 (Fz5 p ((↑(UInt8.toNat q) : Int))).bind fun s =>
 some s)
 ((Fz6 a).bind fun c =>
 cond (c.snd)
 ((Fz8 b (c.fst)).bind fun e =>
 (Fz9 e (c.fst)).bind fun f =>
 some f)
 ((zz2 b a).bind fun g =>
 (zwz g a).bind fun i =>
 some i)))
 ((Fz6 a).bind fun d =>
 cond (d.snd)
 ((Fz8 b (d.fst)).bind fun j =>
 (Fz9 j (d.fst)).bind fun k =>
 some k)
 ((zz2 b a).bind fun l =>
 (zwz l a).bind fun m =>
 some m))))
def zsi (a : List UInt8) : Option (Bool) :=
 cond (decide (a = (ByteArray.mk #[]).data.toList))
 (some (false))
 (cond (decide (16 < (↑(List.length a) : Int)))
 (some (false))
 (zh a (0) fun c =>
 cond (decide ((↑(UInt8.toNat c) : Int) < 97))
 (some (false))
 (zh a (0) fun d =>
 cond (decide (122 < (↑(UInt8.toNat d) : Int)))
 (some (false))
 ((zsr a ((ByteArray.mk #[97, 98, 99, 100, 101, 102, 103, 104, 105, 106, 107, 108, 109, 110, 111, 112, 113, 114, 115, 116, 117, 118, 119, 120, 121, 122, 48, 49, 50, 51, 52, 53, 54, 55, 56, 57, 45]).data.toList)).bind fun b =>
 some (decide (b = (ByteArray.mk #[]).data.toList))))))
def zo6 (d : List (List UInt8)) (e : List UInt8) : Option (Int) :=
 Option.bind (
 lpO (fun (a : Int) =>
 cond (decide (a < (↑(List.length (List.map SV.str d)) : Int)))
 (zh d a fun b =>
 cond (decide (e = b))
 (some (.inr (.inr a)))
 (zf (IntKind.wrap .i64 (a + 1)) fun c =>
 some (.inl c)))
 (some (.inr (.inl ())))) (0))
 (Sum.elim (fun (_ : Unit) =>
 some ((-1 : Int))) some)
def zt0 (b : List (List UInt8)) (c : List UInt8) : Option (Bool) :=
 (zo6 b c).bind fun a =>
 some (decide (0 <= a))
def zkt (b : List (List UInt8)) : Option (Int × Int) :=
 cond (decide ((↑(List.length (List.map SV.str b)) : Int) < 1))
 (some (((-1 : Int), 3)))
 (cond (decide (8 < (↑(List.length (List.map SV.str b)) : Int)))
 (some (((-1 : Int), 3)))
 (Option.bind (
 lpO (fun (a : Int) =>
 cond (decide (a < (↑(List.length (List.map SV.str b)) : Int)))
 (zh b a fun c =>
 (zsi c).bind fun d =>
 cond (!d)
 (some (.inr (.inr ((a, 6)))))
 (zi (0 <= a /\ a <= (↑(List.length (List.map SV.str b)) : Int)) (
 (zt0 (List.drop (Int.toNat 0) (List.take (Int.toNat a) b)) c).bind fun e =>
 cond e
 (some (.inr (.inr ((a, 8)))))
 (zf (IntKind.wrap .i64 (a + 1)) fun f =>
 some (.inl f)))))
 (some (.inr (.inl ())))) (0))
 (Sum.elim (fun (_ : Unit) =>
 some ((0, 0))) some)))
def zje (c : Int) : Option (Int) :=
 zh ((ByteArray.mk (List.toArray (List.append (List.append [(0 : UInt8), 1, 2, 2, 3, 3, 3, 3, 4, 4, 4, 4, 4, 4, 4, 4, 5, 5, 5, 5, 5, 5, 5, 5, 5, 5, 5, 5, 5, 5, 5, 5, 6, 6, 6, 6, 6, 6, 6, 6, 6, 6, 6, 6, 6, 6, 6, 6, 6, 6, 6, 6, 6, 6, 6, 6, 6, 6, 6, 6, 6, 6, 6, 6] [(7 : UInt8), 7, 7, 7, 7, 7, 7, 7, 7, 7, 7, 7, 7, 7, 7, 7, 7, 7, 7, 7, 7, 7, 7, 7, 7, 7, 7, 7, 7, 7, 7, 7, 7, 7, 7, 7, 7, 7, 7, 7, 7, 7, 7, 7, 7, 7, 7, 7, 7, 7, 7, 7, 7, 7, 7, 7, 7, 7, 7, 7, 7, 7, 7, 7]) (List.append [(8 : UInt8), 8, 8, 8, 8, 8, 8, 8, 8, 8, 8, 8, 8, 8, 8, 8, 8, 8, 8, 8, 8, 8, 8, 8, 8, 8, 8, 8, 8, 8, 8, 8, 8, 8, 8, 8, 8, 8, 8, 8, 8, 8, 8, 8, 8, 8, 8, 8, 8, 8, 8, 8, 8, 8, 8, 8, 8, 8, 8, 8, 8, 8, 8, 8] [(8 : UInt8), 8, 8, 8, 8, 8, 8, 8, 8, 8, 8, 8, 8, 8, 8, 8, 8, 8, 8, 8, 8, 8, 8, 8, 8, 8, 8, 8, 8, 8, 8, 8, 8, 8, 8, 8, 8, 8, 8, 8, 8, 8, 8, 8, 8, 8, 8, 8, 8, 8, 8, 8, 8, 8, 8, 8, 8, 8, 8, 8, 8, 8, 8, 8])))).data.toList) c fun a =>
 zf (IntKind.wrap .i64 (↑(UInt8.toNat a) : Int)) fun b =>
 some b
def zhk (e : TL) : Option (Tlattice_order) :=
 Option.bind (
 lpO (fun (b : Int × List Int × List Int) =>
 cond (decide (b.fst < (↑(List.length (List.map (SV.int .u8) e.Up)) : Int)))
 (zh (e.Up) (b.fst) fun c =>
 zi (0 <= b.fst /\ b.fst < (↑(8 : Nat) : Int)) (
 zh (b.snd.fst) ((↑(Int.toNat b.fst) : Int)) fun _ =>
 Option.bind (
 lpO (fun (a : Int × List Int) =>
 cond (decide (a.fst < (↑(List.length (List.map SV.str e.Names)) : Int)))
 (zi (0 <= a.fst /\ a.fst < (↑(8 : Nat) : Int)) (
 zh (a.snd) ((↑(Int.toNat a.fst) : Int)) fun f =>
 zi (0 <= a.fst) (
 zi (0 <= b.fst) (
 zf (IntKind.wrap .u8 (bits BinOp.and IntKind.u8 (Int.fdiv c (2 ^ min (Int.toNat a.fst) (IntKind.bits IntKind.u8))) 1 * 2 ^ min (Int.toNat b.fst) (IntKind.bits IntKind.u8))) fun g =>
 zi (0 <= a.fst /\ a.fst < (↑(8 : Nat) : Int)) (
 zh (a.snd) ((↑(Int.toNat a.fst) : Int)) fun _ =>
 zf (IntKind.wrap .i64 (a.fst + 1)) fun i =>
 some (.inl ((i, List.set a.snd (Int.toNat a.fst) (bits BinOp.or IntKind.u8 f g)))))))))
 (some (.inr (.inl (a.snd))))) ((0, b.snd.snd)))
 (Sum.elim (fun (j : List Int) =>
 zf (IntKind.wrap .i64 (b.fst + 1)) fun k =>
 some (.inl ((k, List.set b.snd.fst (Int.toNat b.fst) c, j)))) some)))
 (some (.inr (.inl (b.snd))))) ((0, [0, 0, 0, 0, 0, 0, 0, 0], [0, 0, 0, 0, 0, 0, 0, 0])))
 (Sum.elim (fun (d : List Int × List Int) =>
 some (Tlattice_order.mk (↑(List.length (List.map SV.str e.Names)) : Int) d.fst d.snd)) some)
def zjx (d : List Int) (k : Int) (e : Int) (f : Int) : Option (Int) :=
 zi (0 <= e /\ e < (↑(8 : Nat) : Int)) (
 zh d ((↑(Int.toNat e) : Int)) fun b =>
 zi (0 <= f /\ f < (↑(8 : Nat) : Int)) (
 zh d ((↑(Int.toNat f) : Int)) fun c =>
 Option.bind (
 lpO (fun (a : Int) =>
 cond (decide (a < k))
 (zi (0 <= a) (
 cond (decide (bits BinOp.and IntKind.u8 (Int.fdiv (bits BinOp.and IntKind.u8 b c) (2 ^ min (Int.toNat a) (IntKind.bits IntKind.u8))) 1 = 1))
 (zi (0 <= a /\ a < (↑(8 : Nat) : Int)) (
 zh d ((↑(Int.toNat a) : Int)) fun g =>
 cond (decide (g = bits BinOp.and IntKind.u8 b c))
 (some (.inr (.inr a)))
 (zf (IntKind.wrap .i64 (a + 1)) fun i =>
 some (.inl i))))
 (zf (IntKind.wrap .i64 (a + 1)) fun j =>
 some (.inl j))))
 (some (.inr (.inl ())))) (0))
 (Sum.elim (fun (_ : Unit) =>
 some ((-1 : Int))) some)))
def zr6 (d : List Int) (k : Int) (e : Int) (f : Int) : Option (Int) :=
 zi (0 <= e /\ e < (↑(8 : Nat) : Int)) (
 zh d ((↑(Int.toNat e) : Int)) fun b =>
 zi (0 <= f /\ f < (↑(8 : Nat) : Int)) (
 zh d ((↑(Int.toNat f) : Int)) fun c =>
 Option.bind (
 lpO (fun (a : Int) =>
 cond (decide (a < k))
 (zi (0 <= a) (
 cond (decide (bits BinOp.and IntKind.u8 (Int.fdiv (bits BinOp.and IntKind.u8 b c) (2 ^ min (Int.toNat a) (IntKind.bits IntKind.u8))) 1 = 1))
 (zi (0 <= a /\ a < (↑(8 : Nat) : Int)) (
 zh d ((↑(Int.toNat a) : Int)) fun g =>
 cond (decide (g = bits BinOp.and IntKind.u8 b c))
 (some (.inr (.inr a)))
 (zf (IntKind.wrap .i64 (a + 1)) fun i =>
 some (.inl i))))
 (zf (IntKind.wrap .i64 (a + 1)) fun j =>
 some (.inl j))))
 (some (.inr (.inl ())))) (0))
 (Sum.elim (fun (_ : Unit) =>
 some ((-1 : Int))) some)))
def zbz (c : TL) : Option (Int × Int) :=
 (zkt (c.Names)).bind fun j =>
 cond (!decide (j.snd = 0))
 (some j)
 (cond (!decide ((↑(List.length (List.map (SV.int .u8) c.Up)) : Int) = (↑(List.length (List.map SV.str c.Names)) : Int)))
 (some (((-1 : Int), 6)))
 (zi ((0 : Int) <= (↑(List.length (List.map SV.str c.Names)) : Int)) (
 zf (IntKind.wrap .u8 (1 * 2 ^ min (Int.toNat (↑(List.length (List.map SV.str c.Names)) : Int)) (IntKind.bits IntKind.u8))) fun C =>
 zf (IntKind.wrap .u8 (C - 1)) fun k =>
 Option.bind (
 lpO (fun (a : Int) =>
 cond (decide (a < (↑(List.length (List.map (SV.int .u8) c.Up)) : Int)))
 (zh (c.Up) a fun e =>
 (zje e).bind fun l =>
 cond (decide ((↑(List.length (List.map SV.str c.Names)) : Int) < l))
 (some (.inr (.inr ((a, 6)))))
 (zi (0 <= a) (
 cond (decide (bits BinOp.and IntKind.u8 (Int.fdiv e (2 ^ min (Int.toNat a) (IntKind.bits IntKind.u8))) 1 = 0))
 (some (.inr (.inr ((a, 6)))))
 (Option.bind (
 lpO (fun (b : Int) =>
 cond (decide (b < (↑(List.length (List.map (SV.int .u8) c.Up)) : Int)))
 (zh (c.Up) b fun g =>
 zi (0 <= b) (
 cond (decide (bits BinOp.and IntKind.u8 (Int.fdiv e (2 ^ min (Int.toNat b) (IntKind.bits IntKind.u8))) 1 = 0))
 (zf (IntKind.wrap .i64 ((↑(List.length (List.map SV.str c.Names)) : Int) - 1)) fun m =>
 cond (decide (b = m))
 (zf (IntKind.wrap .i64 (a + 1)) fun n =>
 some (.inr (.inr (.inl n))))
 (zf (IntKind.wrap .i64 (b + 1)) fun o =>
 some (.inl o)))
 (cond (!decide (b = a))
 (zi (0 <= a) (
 cond (decide (bits BinOp.and IntKind.u8 (Int.fdiv g (2 ^ min (Int.toNat a) (IntKind.bits IntKind.u8))) 1 = 1))
 (some (.inr (.inr (.inr (.inr ((a, 6)))))))
 (cond (!decide (bits BinOp.andNot IntKind.u8 (bits BinOp.and IntKind.u8 g k) e = 0))
 (some (.inr (.inr (.inr (.inr ((a, 6)))))))
 (zf (IntKind.wrap .i64 ((↑(List.length (List.map SV.str c.Names)) : Int) - 1)) fun p =>
 cond (decide (b = p))
 (zf (IntKind.wrap .i64 (a + 1)) fun q =>
 some (.inr (.inr (.inl q))))
 (zf (IntKind.wrap .i64 (b + 1)) fun s =>
 some (.inl s))))))
 (cond (!decide (bits BinOp.andNot IntKind.u8 (bits BinOp.and IntKind.u8 g k) e = 0))
 (some (.inr (.inr (.inr (.inr ((a, 6)))))))
 (zf (IntKind.wrap .i64 ((↑(List.length (List.map SV.str c.Names)) : Int) - 1)) fun t =>
 cond (decide (b = t))
 (zf (IntKind.wrap .i64 (a + 1)) fun u =>
 some (.inr (.inr (.inl u))))
 (zf (IntKind.wrap .i64 (b + 1)) fun v =>
 some (.inl v)))))))
 (some (.inr (.inl ())))) (0))
 (Sum.elim (fun (_ : Unit) =>
 zf (IntKind.wrap .i64 (a + 1)) fun w =>
 some (.inl w)) some)))))
 (some (.inr (.inl ())))) (0))
 (Sum.elim (fun (_ : Unit) =>
 (zhk c).bind fun i =>
 Option.bind (
 lpO (fun (d : Int) =>
 cond (decide (d < (↑(List.length (List.map SV.str c.Names)) : Int)))
 (Option.bind (
 lpO (fun (f : Int) =>
 cond (decide (f < (↑(List.length (List.map SV.str c.Names)) : Int)))
 ((zjx (i.up_) ((↑(List.length (List.map SV.str c.Names)) : Int)) d f).bind fun x =>
 cond (decide (x < 0))
 (some (.inr (.inr (.inr (.inr ((d, 4)))))))
 ((zr6 (i.down_) ((↑(List.length (List.map SV.str c.Names)) : Int)) d f).bind fun y =>
 cond (decide (y < 0))
 (some (.inr (.inr (.inr (.inr ((d, 4)))))))
 (zf (IntKind.wrap .i64 (f + 1)) fun z =>
 some (.inl z))))
 (some (.inr (.inl ())))) (0))
 (Sum.elim (fun (_ : Unit) =>
 zf (IntKind.wrap .i64 (d + 1)) fun A =>
 some (.inl A)) some))
 (some (.inr (.inl ())))) (0))
 (Sum.elim (fun (_ : Unit) =>
 some ((0, 0))) some)) some))))
def zxt (b : TP) : Option (Int × Int) :=
 (zbz (b.Lattice)).bind fun a =>
 some a
def zpg (a : List UInt8) : Option (Int × Int) :=
 Option.bind (
 cond (decide ([(110 : UInt8), (101 : UInt8), (103 : UInt8)] = a))
 (some (.inr ((1, 0))))
 (cond (decide ([(97 : UInt8), (98 : UInt8), (115 : UInt8)] = a))
 (some (.inr ((2, 0))))
 (cond (decide ([(110 : UInt8), (111 : UInt8), (116 : UInt8)] = a))
 (some (.inr ((3, 0))))
 (cond (decide ([(115 : UInt8), (104 : UInt8), (97 : UInt8), (112 : UInt8), (101 : UInt8)] = a))
 (some (.inr ((4, 0))))
 (cond (decide ([(114 : UInt8), (97 : UInt8), (118 : UInt8), (101 : UInt8), (108 : UInt8)] = a))
 (some (.inr ((5, 0))))
 (cond (decide ([(114 : UInt8), (101 : UInt8), (118 : UInt8), (101 : UInt8), (114 : UInt8), (115 : UInt8), (101 : UInt8)] = a))
 (some (.inr ((6, 0))))
 (cond (decide ([(102 : UInt8), (108 : UInt8), (105 : UInt8), (112 : UInt8)] = a))
 (some (.inr ((7, 0))))
 (cond (decide ([(105 : UInt8), (111 : UInt8), (116 : UInt8), (97 : UInt8)] = a))
 (some (.inr ((8, 0))))
 (cond (decide ([(115 : UInt8), (117 : UInt8), (109 : UInt8)] = a))
 (some (.inr ((9, 0))))
 (cond (decide ([(108 : UInt8), (101 : UInt8), (97 : UInt8), (115 : UInt8), (116 : UInt8)] = a))
 (some (.inr ((10, 0))))
 (cond (decide ([(109 : UInt8), (111 : UInt8), (115 : UInt8), (116 : UInt8)] = a))
 (some (.inr ((11, 0))))
 (cond (decide ([(99 : UInt8), (111 : UInt8), (117 : UInt8), (110 : UInt8), (116 : UInt8)] = a))
 (some (.inr ((12, 0))))
 (cond (decide ([(115 : UInt8), (99 : UInt8), (97 : UInt8), (110 : UInt8)] = a))
 (some (.inr ((13, 0))))
 (cond (decide ([(103 : UInt8), (114 : UInt8), (97 : UInt8), (100 : UInt8), (101 : UInt8)] = a))
 (some (.inr ((14, 0))))
 (cond (decide ([(97 : UInt8), (100 : UInt8), (100 : UInt8)] = a))
 (some (.inr ((15, 0))))
 (cond (decide ([(115 : UInt8), (117 : UInt8), (98 : UInt8)] = a))
 (some (.inr ((16, 0))))
 (cond (decide ([(109 : UInt8), (117 : UInt8), (108 : UInt8)] = a))
 (some (.inr ((17, 0))))
 (cond (decide ([(100 : UInt8), (105 : UInt8), (118 : UInt8)] = a))
 (some (.inr ((18, 0))))
 (cond (decide ([(109 : UInt8), (111 : UInt8), (100 : UInt8)] = a))
 (some (.inr ((19, 0))))
 (cond (decide ([(112 : UInt8), (108 : UInt8), (117 : UInt8), (115 : UInt8)] = a))
 (some (.inr ((20, 0))))
 (cond (decide ([(109 : UInt8), (105 : UInt8), (110 : UInt8), (117 : UInt8), (115 : UInt8)] = a))
 (some (.inr ((21, 0))))
 (cond (decide ([(116 : UInt8), (105 : UInt8), (109 : UInt8), (101 : UInt8), (115 : UInt8)] = a))
 (some (.inr ((22, 0))))
 (cond (decide ([(101 : UInt8), (113 : UInt8)] = a))
 (some (.inr ((23, 0))))
 (cond (decide ([(110 : UInt8), (101 : UInt8)] = a))
 (some (.inr ((24, 0))))
 (cond (decide ([(108 : UInt8), (116 : UInt8)] = a))
 (some (.inr ((25, 0))))
 (cond (decide ([(108 : UInt8), (101 : UInt8)] = a))
 (some (.inr ((26, 0))))
 (cond (decide ([(103 : UInt8), (116 : UInt8)] = a))
 (some (.inr ((27, 0))))
 (cond (decide ([(103 : UInt8), (101 : UInt8)] = a))
 (some (.inr ((28, 0))))
 (cond (decide ([(97 : UInt8), (110 : UInt8), (100 : UInt8)] = a))
 (some (.inr ((29, 0))))
 (cond (decide ([(111 : UInt8), (114 : UInt8)] = a))
 (some (.inr ((30, 0))))
 (cond (decide ([(109 : UInt8), (105 : UInt8), (110 : UInt8)] = a))
 (some (.inr ((31, 0))))
 (cond (decide ([(109 : UInt8), (97 : UInt8), (120 : UInt8)] = a))
 (some (.inr ((32, 0))))
 (cond (decide ([(116 : UInt8), (97 : UInt8), (107 : UInt8), (101 : UInt8)] = a))
 (some (.inr ((33, 0))))
 (cond (decide ([(100 : UInt8), (114 : UInt8), (111 : UInt8), (112 : UInt8)] = a))
 (some (.inr ((34, 0))))
 (cond (decide ([(102 : UInt8), (105 : UInt8), (108 : UInt8), (108 : UInt8)] = a))
 (some (.inr ((35, 0))))
 (cond (decide ([(103 : UInt8), (114 : UInt8), (105 : UInt8), (100 : UInt8)] = a))
 (some (.inr ((36, 0))))
 (cond (decide ([(99 : UInt8), (97 : UInt8), (116 : UInt8)] = a))
 (some (.inr ((37, 0))))
 (cond (decide ([(97 : UInt8), (116 : UInt8)] = a))
 (some (.inr ((38, 0))))
 (cond (decide ([(105 : UInt8), (110 : UInt8)] = a))
 (some (.inr ((39, 0))))
 (cond (decide ([(112 : UInt8), (105 : UInt8), (99 : UInt8), (107 : UInt8)] = a))
 (some (.inr ((40, 0))))
 (some (.inl ()))))))))))))))))))))))))))))))))))))))))))
 (Sum.elim (fun (_ : Unit) =>
 some ((0, 4))) some)
def zst (a : Int) : Option (Bool) :=
 zf (IntKind.wrap .i32 a) fun b =>
 zf (IntKind.wrap .i64 b) fun c =>
 cond (decide (a = c))
 (zf (IntKind.wrap .i32 a) fun d =>
 (zev d).bind fun e =>
 some e)
 (some (false))
def zg4 : Option (List (List UInt8)) :=
 some ([[], (ByteArray.mk #[32]).data.toList, (ByteArray.mk #[10]).data.toList, (ByteArray.mk #[40, 91]).data.toList, (ByteArray.mk #[41, 93]).data.toList, (ByteArray.mk #[34]).data.toList, [], (ByteArray.mk #[45]).data.toList, [], (ByteArray.mk #[60, 61]).data.toList])
def zer (a : Int) : Option (Int × Int) :=
 (zst a).bind fun f =>
 cond (!f)
 (some ((0, 7)))
 (cond (decide (48 <= a))
 (cond (decide (a <= 57))
 (some ((6, 0)))
 (cond (decide (97 <= a))
 (cond (decide (a <= 122))
 (some ((8, 0)))
 ((zg4).bind fun g =>
 Option.bind (
 lpO (fun (b : Int) =>
 cond (decide (b < 10))
 (zh g b fun i =>
 zf (IntKind.wrap .i32 a) fun j =>
 (xO i j).bind fun k =>
 cond k
 (some (.inr (.inr ((b, 0)))))
 (zf (IntKind.wrap .i64 (b + 1)) fun l =>
 some (.inl l)))
 (some (.inr (.inl ())))) (0))
 (Sum.elim (fun (_ : Unit) =>
 some ((10, 0))) some)))
 ((zg4).bind fun m =>
 Option.bind (
 lpO (fun (c : Int) =>
 cond (decide (c < 10))
 (zh m c fun n =>
 zf (IntKind.wrap .i32 a) fun o =>
 (xO n o).bind fun p =>
 cond p
 (some (.inr (.inr ((c, 0)))))
 (zf (IntKind.wrap .i64 (c + 1)) fun q =>
 some (.inl q)))
 (some (.inr (.inl ())))) (0))
 (Sum.elim (fun (_ : Unit) =>
 some ((10, 0))) some))))
 (cond (decide (97 <= a))
 (cond (decide (a <= 122))
 (some ((8, 0)))
 ((zg4).bind fun s =>
 Option.bind (
 lpO (fun (d : Int) =>
 cond (decide (d < 10))
 (zh s d fun t =>
 zf (IntKind.wrap .i32 a) fun u =>
 (xO t u).bind fun v =>
 cond v
 (some (.inr (.inr ((d, 0)))))
 (zf (IntKind.wrap .i64 (d + 1)) fun w =>
 some (.inl w)))
 (some (.inr (.inl ())))) (0))
 (Sum.elim (fun (_ : Unit) =>
 some ((10, 0))) some)))
 ((zg4).bind fun x =>
 Option.bind (
 lpO (fun (e : Int) =>
 cond (decide (e < 10))
 (zh x e fun y =>
 zf (IntKind.wrap .i32 a) fun z =>
 (xO y z).bind fun A =>
 cond A
 (some (.inr (.inr ((e, 0)))))
 (zf (IntKind.wrap .i64 (e + 1)) fun C =>
 some (.inl C)))
 (some (.inr (.inl ())))) (0))
 (Sum.elim (fun (_ : Unit) =>
 some ((10, 0))) some))))
def ze2 (a : List UInt8) : Option (Int) :=
 zh a (0) fun b =>
 zf (IntKind.wrap .u64 (↑(UInt8.toNat b) : Int)) fun c =>
 zh a (1) fun d =>
 zf (IntKind.wrap .u64 (↑(UInt8.toNat d) : Int)) fun e =>
 zf (IntKind.wrap .u64 (e * 2 ^ min (Int.toNat 8) (IntKind.bits IntKind.u64))) fun f =>
 zh a (2) fun g =>
 zf (IntKind.wrap .u64 (↑(UInt8.toNat g) : Int)) fun i =>
 zf (IntKind.wrap .u64 (i * 2 ^ min (Int.toNat 16) (IntKind.bits IntKind.u64))) fun j =>
 zh a (3) fun k =>
 zf (IntKind.wrap .u64 (↑(UInt8.toNat k) : Int)) fun l =>
 zf (IntKind.wrap .u64 (l * 2 ^ min (Int.toNat 24) (IntKind.bits IntKind.u64))) fun m =>
 zh a (4) fun n =>
 zf (IntKind.wrap .u64 (↑(UInt8.toNat n) : Int)) fun o =>
 zf (IntKind.wrap .u64 (o * 2 ^ min (Int.toNat 32) (IntKind.bits IntKind.u64))) fun p =>
 zh a (5) fun q =>
 zf (IntKind.wrap .u64 (↑(UInt8.toNat q) : Int)) fun s =>
 zf (IntKind.wrap .u64 (s * 2 ^ min (Int.toNat 40) (IntKind.bits IntKind.u64))) fun t =>
 zh a (6) fun u =>
 zf (IntKind.wrap .u64 (↑(UInt8.toNat u) : Int)) fun v =>
 zf (IntKind.wrap .u64 (v * 2 ^ min (Int.toNat 48) (IntKind.bits IntKind.u64))) fun w =>
 zh a (7) fun x =>
 zf (IntKind.wrap .u64 (↑(UInt8.toNat x) : Int)) fun y =>
 zf (IntKind.wrap .u64 (y * 2 ^ min (Int.toNat 56) (IntKind.bits IntKind.u64))) fun z =>
 some (bits BinOp.or IntKind.u64 (bits BinOp.or IntKind.u64 (bits BinOp.or IntKind.u64 (bits BinOp.or IntKind.u64 (bits BinOp.or IntKind.u64 (bits BinOp.or IntKind.u64 (bits BinOp.or IntKind.u64 c f) j) m) p) t) w) z)
def zC9 (m : List UInt8) : Option (Bool) :=
 Option.bind (
 lpO (fun (a : List UInt8) =>
 cond (decide (0 < (↑(List.length a) : Int)))
 (zh a (0) fun c =>
 cond (decide ((↑(UInt8.toNat c) : Int) < 128))
 (zi ((0 : Int) <= (1 : Int) /\ (1 : Int) <= (↑(List.length a) : Int)) (
 cond (decide (8 < (↑(List.length (List.drop (Int.toNat 1) (List.take (Int.toNat (↑(List.length a) : Int)) a))) : Int)))
 ((ze2 (List.drop (Int.toNat 1) (List.take (Int.toNat (↑(List.length a) : Int)) a))).bind fun d =>
 cond (decide (bits BinOp.and IntKind.u64 d 9259542123273814144 = 0))
 (zi ((0 : Int) <= (8 : Int) /\ (8 : Int) <= (↑(List.length (List.drop (Int.toNat (1 : Int)) (List.take (Int.toNat (↑(List.length a) : Int)) a))) : Int)) (
 cond (decide (16 < (↑(List.length (List.drop (Int.toNat 8) (List.take (Int.toNat (↑(List.length (List.drop (Int.toNat 1) (List.take (Int.toNat (↑(List.length a) : Int)) a))) : Int)) (List.drop (Int.toNat 1) (List.take (Int.toNat (↑(List.length a) : Int)) a))))) : Int)))
 ((ze2 (List.drop (Int.toNat 8) (List.take (Int.toNat (↑(List.length (List.drop (Int.toNat 1) (List.take (Int.toNat (↑(List.length a) : Int)) a))) : Int)) (List.drop (Int.toNat 1) (List.take (Int.toNat (↑(List.length a) : Int)) a))))).bind fun e =>
 zi ((0 : Int) <= (8 : Int) /\ (8 : Int) <= (↑(List.length (List.drop (Int.toNat (8 : Int)) (List.take (Int.toNat (↑(List.length (List.drop (Int.toNat (1 : Int)) (List.take (Int.toNat (↑(List.length a) : Int)) a))) : Int)) (List.drop (Int.toNat (1 : Int)) (List.take (Int.toNat (↑(List.length a) : Int)) a))))) : Int)) (
 (ze2 (List.drop (Int.toNat 8) (List.take (Int.toNat (↑(List.length (List.drop (Int.toNat 8) (List.take (Int.toNat (↑(List.length (List.drop (Int.toNat 1) (List.take (Int.toNat (↑(List.length a) : Int)) a))) : Int)) (List.drop (Int.toNat 1) (List.take (Int.toNat (↑(List.length a) : Int)) a))))) : Int)) (List.drop (Int.toNat 8) (List.take (Int.toNat (↑(List.length (List.drop (Int.toNat 1) (List.take (Int.toNat (↑(List.length a) : Int)) a))) : Int)) (List.drop (Int.toNat 1) (List.take (Int.toNat (↑(List.length a) : Int)) a))))))).bind fun f =>
 cond (decide (bits BinOp.and IntKind.u64 (bits BinOp.or IntKind.u64 e f) 9259542123273814144 = 0))
 (zi ((0 : Int) <= (16 : Int) /\ (16 : Int) <= (↑(List.length (List.drop (Int.toNat (8 : Int)) (List.take (Int.toNat (↑(List.length (List.drop (Int.toNat (1 : Int)) (List.take (Int.toNat (↑(List.length a) : Int)) a))) : Int)) (List.drop (Int.toNat (1 : Int)) (List.take (Int.toNat (↑(List.length a) : Int)) a))))) : Int)) (
 Option.bind (
 lpO (fun (b : List UInt8) =>
 cond (decide (32 < (↑(List.length b) : Int)))
 ((ze2 b).bind fun g =>
 zi ((0 : Int) <= (8 : Int) /\ (8 : Int) <= (↑(List.length b) : Int)) (
 (ze2 (List.drop (Int.toNat 8) (List.take (Int.toNat (↑(List.length b) : Int)) b))).bind fun i =>
 zi ((0 : Int) <= (16 : Int) /\ (16 : Int) <= (↑(List.length b) : Int)) (
 (ze2 (List.drop (Int.toNat 16) (List.take (Int.toNat (↑(List.length b) : Int)) b))).bind fun j =>
 zi ((0 : Int) <= (24 : Int) /\ (24 : Int) <= (↑(List.length b) : Int)) (
 (ze2 (List.drop (Int.toNat 24) (List.take (Int.toNat (↑(List.length b) : Int)) b))).bind fun k =>
 cond (decide (bits BinOp.and IntKind.u64 (bits BinOp.or IntKind.u64 (bits BinOp.or IntKind.u64 g i) (bits BinOp.or IntKind.u64 j k)) 9259542123273814144 = 0))
 (zi ((0 : Int) <= (32 : Int) /\ (32 : Int) <= (↑(List.length b) : Int)) (
 some (.inl (List.drop (Int.toNat 32) (List.take (Int.toNat (↑(List.length b) : Int)) b)))))
 (some (.inr (.inl b)))))))
 (some (.inr (.inl b)))) (List.drop (Int.toNat 16) (List.take (Int.toNat (↑(List.length (List.drop (Int.toNat 8) (List.take (Int.toNat (↑(List.length (List.drop (Int.toNat 1) (List.take (Int.toNat (↑(List.length a) : Int)) a))) : Int)) (List.drop (Int.toNat 1) (List.take (Int.toNat (↑(List.length a) : Int)) a))))) : Int)) (List.drop (Int.toNat 8) (List.take (Int.toNat (↑(List.length (List.drop (Int.toNat 1) (List.take (Int.toNat (↑(List.length a) : Int)) a))) : Int)) (List.drop (Int.toNat 1) (List.take (Int.toNat (↑(List.length a) : Int)) a)))))))
 (Sum.elim (fun (l : List UInt8) =>
 some (.inl l)) some)))
 (some (.inl (List.drop (Int.toNat 8) (List.take (Int.toNat (↑(List.length (List.drop (Int.toNat 1) (List.take (Int.toNat (↑(List.length a) : Int)) a))) : Int)) (List.drop (Int.toNat 1) (List.take (Int.toNat (↑(List.length a) : Int)) a))))))))
 (some (.inl (List.drop (Int.toNat 8) (List.take (Int.toNat (↑(List.length (List.drop (Int.toNat 1) (List.take (Int.toNat (↑(List.length a) : Int)) a))) : Int)) (List.drop (Int.toNat 1) (List.take (Int.toNat (↑(List.length a) : Int)) a))))))))
 (some (.inl (List.drop (Int.toNat 1) (List.take (Int.toNat (↑(List.length a) : Int)) a)))))
 (some (.inl (List.drop (Int.toNat 1) (List.take (Int.toNat (↑(List.length a) : Int)) a))))))
 (none))
 (some (.inr (.inl ())))) m)
 (Sum.elim (fun (_ : Unit) =>
 some (true)) some)
def ztz (a : TK) : Option (Int) :=
 Option.bind (
 cond (decide (a.Kind = 1))
 (some (.inl ((0, a.S))))
 (cond (decide (a.Kind = 3))
 (some (.inl ((0, a.S))))
 (cond (decide (a.Kind = 2))
 (some (.inl ((a.N, []))))
 (some (.inl ((0, [])))))))
 (Sum.elim (fun (f : Int × List UInt8) =>
 cond (decide (a.Kind < 1))
 (some (2))
 (cond (decide (9 < a.Kind))
 (some (2))
 (cond (!(decide (a.Kind = a.Kind) && (decide (a.From = a.From) && (decide (a.To = a.To) && (decide (a.N = f.fst) && (decide (a.S = f.snd) && true))))))
 (some (2))
 (Option.bind (
 cond (decide (a.Kind = 1))
 (cond (decide ((↑(List.length a.S) : Int) <= 0))
 (some (.inr (6)))
 (zh (a.S) (0) fun g =>
 zf (IntKind.wrap .i64 (↑(UInt8.toNat g) : Int)) fun i =>
 (zer i).bind fun j =>
 cond (!decide (j.fst = 8))
 (some (.inr (6)))
 (zh (a.S) (0) fun k =>
 zf (IntKind.wrap .i64 (↑(UInt8.toNat k) : Int)) fun l =>
 (zer l).bind fun m =>
 Option.bind (
 lpO (fun (b : Int × Int) =>
 cond (decide (b.fst = 8))
 (zf (IntKind.wrap .i64 (b.snd + 1)) fun c =>
 cond (decide ((↑(List.length a.S) : Int) <= c))
 (some (.inl ((10, c))))
 (zh (a.S) c fun n =>
 zf (IntKind.wrap .i64 (↑(UInt8.toNat n) : Int)) fun o =>
 (zer o).bind fun p =>
 some (.inl ((p.fst, c)))))
 (cond (decide (b.fst = 6))
 (zf (IntKind.wrap .i64 (b.snd + 1)) fun d =>
 cond (decide ((↑(List.length a.S) : Int) <= d))
 (some (.inl ((10, d))))
 (zh (a.S) d fun q =>
 zf (IntKind.wrap .i64 (↑(UInt8.toNat q) : Int)) fun s =>
 (zer s).bind fun t =>
 some (.inl ((t.fst, d)))))
 (some (.inr (.inl ((decide (b.fst = 6), b))))))) ((m.fst, 0)))
 (Sum.elim (fun (e : Bool × Int × Int) =>
 zi ((0 : Int) <= (0 : Int) /\ 0 <= e.snd.snd /\ e.snd.snd <= (↑(List.length a.S) : Int)) (
 cond (!decide (List.drop (Int.toNat 0) (List.take (Int.toNat e.snd.snd) a.S) = a.S))
 (some (.inr (6)))
 (some (.inl (16))))) some))))
 (cond (decide (a.Kind = 3))
 ((zC9 (a.S)).bind fun u =>
 cond (!u)
 (some (.inr (6)))
 (some (.inl (2000))))
 (some (.inl (0)))))
 (Sum.elim (fun (v : Int) =>
 cond (decide (v < (↑(List.length a.S) : Int)))
 (some (3))
 (some (0))) some))))) some)
def zjm (a : List UInt8) : Option (Bool) :=
 cond (decide (a = (ByteArray.mk #[118, 97, 114]).data.toList))
 (some (false))
 (cond (decide (a = (ByteArray.mk #[100, 101, 102]).data.toList))
 (some (false))
 (cond (decide (a = (ByteArray.mk #[111, 117, 116]).data.toList))
 (some (false))
 (cond (decide (a = (ByteArray.mk #[105, 102]).data.toList))
 (some (false))
 (cond (decide (a = (ByteArray.mk #[101, 108, 115, 101]).data.toList))
 (some (false))
 (cond (decide (a = (ByteArray.mk #[119, 104, 105, 108, 101]).data.toList))
 (some (false))
 (cond (decide (a = (ByteArray.mk #[101, 110, 100]).data.toList))
 (some (false))
 (cond (decide (a = (ByteArray.mk #[114, 101, 108, 101, 97, 115, 101]).data.toList))
 (some (false))
 (cond (decide (a = (ByteArray.mk #[105, 110, 116]).data.toList))
 (some (false))
 (cond (decide (a = (ByteArray.mk #[99, 104, 97, 114]).data.toList))
 (some (false))
 ((zpg a).bind fun b =>
 cond (decide (b.snd = 0))
 (some (false))
 ((ztz (TK.mk 1 0 0 0 a)).bind fun c =>
 some (decide (c = 0)))))))))))))
def xc (b : TL) (a : Int) : Option (Bool) :=
 cond (decide (0 <= a))
 (some (decide (a < (↑(List.length (List.map SV.str b.Names)) : Int))))
 (some (false))
def zs5 (c : TP) : Option (Int × Int) :=
 cond (decide (16 < (↑(List.length (List.map zW c.Channels)) : Int)))
 (some (((-1 : Int), 3)))
 (Option.bind (
 lpO (fun (a : Int × List (List UInt8)) =>
 cond (decide (a.fst < (↑(List.length (List.map zW c.Channels)) : Int)))
 (zh (c.Channels) (a.fst) fun b =>
 (zjm (b.s_)).bind fun d =>
 cond (!d)
 (some (.inr (.inr ((a.fst, 24)))))
 (cond (inL (b.s_) (a.snd))
 (some (.inr (.inr ((a.fst, 8)))))
 (cond (inL (b.s_) (a.snd))
 ((xc (c.Lattice) (b.at_)).bind fun e =>
 cond (!e)
 (some (.inr (.inr ((a.fst, 7)))))
 (zf (IntKind.wrap .i64 (a.fst + 1)) fun f =>
 some (.inl ((f, a.snd)))))
 ((xc (c.Lattice) (b.at_)).bind fun g =>
 cond (!g)
 (some (.inr (.inr ((a.fst, 7)))))
 (zf (IntKind.wrap .i64 (a.fst + 1)) fun i =>
 some (.inl ((i, a.snd ++ [b.s_]))))))))
 (some (.inr (.inl ())))) ((0, [])))
 (Sum.elim (fun (_ : Unit) =>
 some ((0, 0))) some))
def zo5 (e : TL) (f : List Int) : Option (Int) :=
 (zbz e).bind fun b =>
 cond (!decide (b.snd = 0))
 (some (b.snd))
 (Option.bind (
 lpO (fun (a : Int) =>
 cond (decide (a < (↑(List.length (List.map (SV.int .i64) f)) : Int)))
 (zh f a fun c =>
 cond (decide (c < 0))
 (some (.inr (.inr (7))))
 (cond (decide ((↑(List.length (List.map SV.str e.Names)) : Int) <= c))
 (some (.inr (.inr (7))))
 (zf (IntKind.wrap .i64 (a + 1)) fun d =>
 some (.inl d))))
 (some (.inr (.inl ())))) (0))
 (Sum.elim (fun (_ : Unit) =>
 some (0)) some))
def zo1 (c : Int) : Option (Int) :=
 zh ((ByteArray.mk (List.toArray (List.append (List.append [(0 : UInt8), 1, 1, 2, 1, 2, 2, 3, 1, 2, 2, 3, 2, 3, 3, 4, 1, 2, 2, 3, 2, 3, 3, 4, 2, 3, 3, 4, 3, 4, 4, 5, 1, 2, 2, 3, 2, 3, 3, 4, 2, 3, 3, 4, 3, 4, 4, 5, 2, 3, 3, 4, 3, 4, 4, 5, 3, 4, 4, 5, 4, 5, 5, 6] [(1 : UInt8), 2, 2, 3, 2, 3, 3, 4, 2, 3, 3, 4, 3, 4, 4, 5, 2, 3, 3, 4, 3, 4, 4, 5, 3, 4, 4, 5, 4, 5, 5, 6, 2, 3, 3, 4, 3, 4, 4, 5, 3, 4, 4, 5, 4, 5, 5, 6, 3, 4, 4, 5, 4, 5, 5, 6, 4, 5, 5, 6, 5, 6, 6, 7]) (List.append [(1 : UInt8), 2, 2, 3, 2, 3, 3, 4, 2, 3, 3, 4, 3, 4, 4, 5, 2, 3, 3, 4, 3, 4, 4, 5, 3, 4, 4, 5, 4, 5, 5, 6, 2, 3, 3, 4, 3, 4, 4, 5, 3, 4, 4, 5, 4, 5, 5, 6, 3, 4, 4, 5, 4, 5, 5, 6, 4, 5, 5, 6, 5, 6, 6, 7] [(2 : UInt8), 3, 3, 4, 3, 4, 4, 5, 3, 4, 4, 5, 4, 5, 5, 6, 3, 4, 4, 5, 4, 5, 5, 6, 4, 5, 5, 6, 5, 6, 6, 7, 3, 4, 4, 5, 4, 5, 5, 6, 4, 5, 5, 6, 5, 6, 6, 7, 4, 5, 5, 6, 5, 6, 6, 7, 5, 6, 6, 7, 6, 7, 7, 8])))).data.toList) c fun a =>
 zf (IntKind.wrap .i64 (↑(UInt8.toNat a) : Int)) fun b =>
 some b
def zuc (i : List Int) (g : Int) : Option (Int) :=
 Option.bind (
 lpO (fun (a : Int) =>
 zf (IntKind.wrap .i64 (g - 1)) fun b =>
 cond (decide (a < b))
 (zi (0 <= a /\ a < (↑(8 : Nat) : Int)) (
 zh i ((↑(Int.toNat a) : Int)) fun c =>
 (zo1 c).bind fun d =>
 cond (decide (d < g))
 (zf (IntKind.wrap .i64 (a + 1)) fun e =>
 some (.inl e))
 (some (.inr (.inl a)))))
 (some (.inr (.inl a)))) (0))
 (Sum.elim (fun (f : Int) =>
 some f) some)
def zsb (d : TL) : Option (Int × Int) :=
 (zo5 d ([])).bind fun a =>
 cond (!decide (a = 0))
 (some ((0, a)))
 ((zhk d).bind fun b =>
 (zuc (b.up_) (b.n_)).bind fun c =>
 some ((c, 0)))
def zul (f : TL) (d : List Int) : Option (Int × Int) :=
 (zbz f).bind fun b =>
 cond (!decide (b.snd = 0))
 (some (((-1 : Int), b.snd)))
 (cond (decide (64 < (↑(List.length (List.map (SV.int .i64) d)) : Int)))
 (some (((-1 : Int), 3)))
 (Option.bind (
 lpO (fun (a : Int) =>
 cond (decide (a < (↑(List.length (List.map (SV.int .i64) d)) : Int)))
 (zh d a fun c =>
 cond (decide (c < 0))
 (some (.inr (.inr ((a, 7)))))
 (cond (decide ((↑(List.length (List.map SV.str f.Names)) : Int) <= c))
 (some (.inr (.inr ((a, 7)))))
 (zf (IntKind.wrap .i64 (a + 1)) fun e =>
 some (.inl e))))
 (some (.inr (.inl ())))) (0))
 (Sum.elim (fun (_ : Unit) =>
 some ((0, 0))) some)))
def zp2 (c : TL) (d : Int) (b : Int) : Option (Bool) :=
 zh (c.Up) d fun a =>
 zi (0 <= b) (
 some (decide (bits BinOp.and IntKind.u8 (Int.fdiv a (2 ^ min (Int.toNat b) (IntKind.bits IntKind.u8))) 1 = 1)))
def zw2 (b : Int) (c : TL) (d : Int) : Option (Bool) :=
 (zp2 c b d).bind fun a =>
 some (!a)
def zug (e : List Int) (f : TL × Int) : Option (Int) :=
 Option.bind (
 lpO (fun (a : Int) =>
 cond (decide (a < (↑(List.length (List.map (SV.int .i64) e)) : Int)))
 (zh e a fun b =>
 (zw2 b (f.fst) (f.snd)).bind fun c =>
 cond c
 (some (.inr (.inr a)))
 (zf (IntKind.wrap .i64 (a + 1)) fun d =>
 some (.inl d)))
 (some (.inr (.inl ())))) (0))
 (Sum.elim (fun (_ : Unit) =>
 some ((-1 : Int))) some)
def zkp (c : TL) (e : List Int) (d : Int) : Option (Int × Int) :=
 (zul c e).bind fun a =>
 cond (!decide (a.snd = 0))
 (some a)
 (cond (decide (d < 0))
 (some (((-1 : Int), 7)))
 (cond (decide ((↑(List.length (List.map SV.str c.Names)) : Int) <= d))
 (some (((-1 : Int), 7)))
 ((zug e ((c, d))).bind fun b =>
 cond (decide (0 <= b))
 (some ((b, 25)))
 (some ((0, 0))))))
def zkg (b : TL) (a : TY) : Option (Int) :=
 (zsb b).bind fun c =>
 cond (!decide (c.snd = 0))
 (some (c.snd))
 (cond (!decide (a.Kind = 1))
 (cond (!decide (a.Kind = 2))
 (some (7))
 (cond (decide (a.Rank < 0))
 (some (7))
 (cond (decide (2 < a.Rank))
 (some (7))
 ((xc b (a.Axes.fst)).bind fun i =>
 cond (!i)
 (some (7))
 ((xc b (a.Axes.snd)).bind fun j =>
 cond (!j)
 (some (7))
 ((xc b (a.Data)).bind fun k =>
 cond (!k)
 (some (7))
 (zi (0 <= a.Rank /\ a.Rank <= (↑(2 : Nat) : Int)) (
 Option.bind (
 lpO (fun (d : Int) =>
 cond (decide (d < (↑(List.length (List.drop (Int.toNat a.Rank) (List.take (Int.toNat (↑(2 : Nat) : Int)) [SV.int .i64 a.Axes.fst, SV.int .i64 a.Axes.snd]))) : Int)))
 (zh (List.drop (Int.toNat a.Rank) (List.take (Int.toNat (↑(2 : Nat) : Int)) [a.Axes.fst, a.Axes.snd])) d fun l =>
 cond (!decide (l = c.fst))
 (some (.inr (.inr (6))))
 (zf (IntKind.wrap .i64 (d + 1)) fun m =>
 some (.inl m)))
 (some (.inr (.inl ())))) (0))
 (Sum.elim (fun (_ : Unit) =>
 zi (0 <= a.Rank /\ a.Rank <= (↑(2 : Nat) : Int)) (
 (zkp b (List.drop (Int.toNat 0) (List.take (Int.toNat a.Rank) [a.Axes.fst, a.Axes.snd])) (a.Data)).bind fun f =>
 cond (!decide (f.snd = 0))
 (some (f.snd))
 (some (0)))) some)))))))))
 (cond (decide (a.Rank < 0))
 (some (7))
 (cond (decide (2 < a.Rank))
 (some (7))
 ((xc b (a.Axes.fst)).bind fun n =>
 cond (!n)
 (some (7))
 ((xc b (a.Axes.snd)).bind fun o =>
 cond (!o)
 (some (7))
 ((xc b (a.Data)).bind fun p =>
 cond (!p)
 (some (7))
 (zi (0 <= a.Rank /\ a.Rank <= (↑(2 : Nat) : Int)) (
 Option.bind (
 lpO (fun (e : Int) =>
 cond (decide (e < (↑(List.length (List.drop (Int.toNat a.Rank) (List.take (Int.toNat (↑(2 : Nat) : Int)) [SV.int .i64 a.Axes.fst, SV.int .i64 a.Axes.snd]))) : Int)))
 (zh (List.drop (Int.toNat a.Rank) (List.take (Int.toNat (↑(2 : Nat) : Int)) [a.Axes.fst, a.Axes.snd])) e fun q =>
 cond (!decide (q = c.fst))
 (some (.inr (.inr (6))))
 (zf (IntKind.wrap .i64 (e + 1)) fun s =>
 some (.inl s)))
 (some (.inr (.inl ())))) (0))
 (Sum.elim (fun (_ : Unit) =>
 zi (0 <= a.Rank /\ a.Rank <= (↑(2 : Nat) : Int)) (
 (zkp b (List.drop (Int.toNat 0) (List.take (Int.toNat a.Rank) [a.Axes.fst, a.Axes.snd])) (a.Data)).bind fun g =>
 cond (!decide (g.snd = 0))
 (some (g.snd))
 (some (0)))) some)))))))))
def ztm (c : TP) : Option (Int × Int) :=
 cond (decide (32 < (↑(List.length (List.map wL c.Vars)) : Int)))
 (some (((-1 : Int), 3)))
 (Option.bind (
 lpO (fun (a : Int × List (List UInt8)) =>
 cond (decide (a.fst < (↑(List.length (List.map wL c.Vars)) : Int)))
 (zh (c.Vars) (a.fst) fun b =>
 (zjm (b.Name)).bind fun f =>
 cond (!f)
 (some (.inr (.inr ((a.fst, 24)))))
 (cond (inL (b.Name) (a.snd))
 (some (.inr (.inr ((a.fst, 8)))))
 (cond (inL (b.Name) (a.snd))
 ((zkg (c.Lattice) (b.Type_)).bind fun d =>
 cond (!decide (d = 0))
 (some (.inr (.inr ((a.fst, d)))))
 (zf (IntKind.wrap .i64 (a.fst + 1)) fun g =>
 some (.inl ((g, a.snd)))))
 ((zkg (c.Lattice) (b.Type_)).bind fun e =>
 cond (!decide (e = 0))
 (some (.inr (.inr ((a.fst, e)))))
 (zf (IntKind.wrap .i64 (a.fst + 1)) fun i =>
 some (.inl ((i, a.snd ++ [b.Name]))))))))
 (some (.inr (.inl ())))) ((0, [])))
 (Sum.elim (fun (_ : Unit) =>
 some ((0, 0))) some))
def ztc (c : TP) : Option (Int × Int) :=
 cond (decide (64 < (↑(List.length (List.map qE c.Rules)) : Int)))
 (some (((-1 : Int), 3)))
 (Option.bind (
 lpO (fun (a : Int × List (Int × Int)) =>
 cond (decide (a.fst < (↑(List.length (List.map qE c.Rules)) : Int)))
 (zh (c.Rules) (a.fst) fun b =>
 (xc (c.Lattice) (b.From)).bind fun d =>
 cond (!d)
 (some (.inr (.inr ((a.fst, 7)))))
 ((xc (c.Lattice) (b.Goal)).bind fun e =>
 cond (!e)
 (some (.inr (.inr ((a.fst, 7)))))
 (cond (decide (b.From = b.Goal))
 (some (.inr (.inr ((a.fst, 25)))))
 (zh (c.Lattice.Up) (b.Goal) fun f =>
 zi (0 <= b.From) (
 cond (decide (bits BinOp.and IntKind.u8 (Int.fdiv f (2 ^ min (Int.toNat b.From) (IntKind.bits IntKind.u8))) 1 = 0))
 (some (.inr (.inr ((a.fst, 25)))))
 (cond (inL ((b.From, b.Goal)) (a.snd))
 (some (.inr (.inr ((a.fst, 8)))))
 (cond (decide (b.K < 2))
 (some (.inr (.inr ((a.fst, 3)))))
 (cond (decide (400 < b.K))
 (some (.inr (.inr ((a.fst, 3)))))
 (cond (inL ((b.From, b.Goal)) (a.snd))
 (zf (IntKind.wrap .i64 (a.fst + 1)) fun g =>
 some (.inl ((g, a.snd))))
 (zf (IntKind.wrap .i64 (a.fst + 1)) fun i =>
 some (.inl ((i, a.snd ++ [(b.From, b.Goal)])))))))))))))
 (some (.inr (.inl ())))) ((0, [])))
 (Sum.elim (fun (_ : Unit) =>
 some ((0, 0))) some))
def zh1 (f : TP) : Option (Int × Int × Int) :=
 Option.bind (
 (zxt f).bind fun b =>
 cond (!decide (b.snd = 0))
 (some (.inl ((1, b.snd, b.fst))))
 ((zs5 f).bind fun c =>
 cond (!decide (c.snd = 0))
 (some (.inl ((2, c.snd, c.fst))))
 ((ztm f).bind fun d =>
 cond (!decide (d.snd = 0))
 (some (.inl ((3, d.snd, d.fst))))
 ((ztc f).bind fun a =>
 cond (!decide (a.snd = 0))
 (some (.inl ((4, a.snd, a.fst))))
 (some (.inl ((0, a.snd, a.fst))))))))
 (Sum.elim (fun (e : Int × Int × Int) =>
 some ((e.fst, e.snd.snd, e.snd.fst))) some)
def zob (a : Int) : Option (List UInt8 × Int) :=
 cond (decide (a < 1))
 (some (((ByteArray.mk #[]).data.toList, 2)))
 (cond (decide (4 < a))
 (some (((ByteArray.mk #[]).data.toList, 2)))
 (zt4 a [
 some (([], 0)),
 some (([(115 : UInt8), (117 : UInt8), (109 : UInt8)], 0)),
 some (([(99 : UInt8), (111 : UInt8), (117 : UInt8), (110 : UInt8), (116 : UInt8)], 0)),
 some (([(108 : UInt8), (101 : UInt8), (97 : UInt8), (115 : UInt8), (116 : UInt8)], 0)),
 some (([(109 : UInt8), (111 : UInt8), (115 : UInt8), (116 : UInt8)], 0))]))
def ztn (b : TP) (e : Int) (f : Int) : Option (Int × Int) :=
 (zh1 b).bind fun d =>
 cond (!decide (d.snd.snd = 0))
 (some ((0, d.snd.snd)))
 ((xc (b.Lattice) e).bind fun g =>
 cond (!g)
 (some ((0, 7)))
 ((xc (b.Lattice) f).bind fun i =>
 cond (!i)
 (some ((0, 7)))
 (Option.bind (
 lpO (fun (a : Int) =>
 cond (decide (a < (↑(List.length (List.map qE b.Rules)) : Int)))
 (zh (b.Rules) a fun c =>
 cond (decide (c.From = e))
 (cond (decide (c.Goal = f))
 (some (.inr (.inr ((c.K, 0)))))
 (zf (IntKind.wrap .i64 (a + 1)) fun j =>
 some (.inl j)))
 (zf (IntKind.wrap .i64 (a + 1)) fun k =>
 some (.inl k)))
 (some (.inr (.inl ())))) (0))
 (Sum.elim (fun (_ : Unit) =>
 some ((0, 4))) some))))
def zss (a : TE) (b : Int) : Option (Bool) :=
 cond (decide (a.Cells < b))
 (some (decide (a.Value.fst = 0) && (decide (a.Value.snd = 0) && true)))
 (cond (!decide (a.Value.fst = 1))
 (some (false))
 (cond (!decide (a.Fold = 2))
 (some (true))
 (cond (decide (0 <= a.Value.snd))
 (some (decide (a.Value.snd <= a.Cells)))
 (some (false)))))
def zt5 (f : TP) (a : TE) : Option (Int) :=
 (zh1 f).bind fun c =>
 cond (!decide (c.snd.snd = 0))
 (some (c.snd.snd))
 ((zob (a.Fold)).bind fun d =>
 cond (!decide (d.snd = 0))
 (some (d.snd))
 ((ztn f (a.From) (a.Goal)).bind fun b =>
 cond (decide (a.Site < 0))
 (some (7))
 (cond (decide (1000000000 < a.Site))
 (some (7))
 (cond (decide (a.Cells < 0))
 (some (7))
 (cond (decide (400 < a.Cells))
 (some (7))
 (cond (!decide (b.snd = 0))
 (some (b.snd))
 ((zss a (b.fst)).bind fun e =>
 cond (!e)
 (some (6))
 (some (0)))))))))
def zpz (f : TP) (e : List TE) : Option (Int × Int) :=
 (zh1 f).bind fun b =>
 cond (!decide (b.snd.snd = 0))
 (some (((-1 : Int), b.snd.snd)))
 (cond (decide (2000 < (↑(List.length (List.map zx e)) : Int)))
 (some (((-1 : Int), 3)))
 (Option.bind (
 lpO (fun (a : Int) =>
 cond (decide (a < (↑(List.length (List.map zx e)) : Int)))
 (zh e a fun c =>
 (zt5 f c).bind fun d =>
 cond (!decide (d = 0))
 (some (.inr (.inr ((a, d)))))
 (cond (decide (c.Site = 0))
 (some (.inr (.inr ((a, 6)))))
 (zf (IntKind.wrap .i64 (a + 1)) fun g =>
 some (.inl g))))
 (some (.inr (.inl ())))) (0))
 (Sum.elim (fun (_ : Unit) =>
 some ((0, 0))) some)))
def zj8 (b : Int) : Option (List UInt8) :=
 (yp b (10)).bind fun a =>
 some a
def zkd (g : TP) (b : TE) : Option (List UInt8) :=
 (zj8 (b.Site)).bind fun c =>
 (zob (b.Fold)).bind fun d =>
 cond (!decide (d.snd = 0))
 ((yO ([c]) ((ByteArray.mk #[32]).data.toList)).bind fun e =>
 zi ((↑(List.length e + (1 : Nat)) : Int) <= (9223372036854775807 : Int)) (
 some (e ++ (ByteArray.mk #[10]).data.toList)))
 (zh (g.Lattice.Names) (b.From) fun i =>
 zh (g.Lattice.Names) (b.Goal) fun j =>
 (zj8 (b.Cells)).bind fun k =>
 zi (((1 : Nat) + (4 : Nat)) * (16 : Nat) <= (70368744177664 : Nat)) (
 Option.bind (
 lpO (fun (a : Int × List (List UInt8)) =>
 cond (decide (a.fst < 2))
 (zh ([b.Value.fst, b.Value.snd]) (a.fst) fun l =>
 (zj8 l).bind fun m =>
 zi ((List.length (List.map SV.str a.snd) + (1 : Nat)) * (16 : Nat) <= (70368744177664 : Nat)) (
 zf (IntKind.wrap .i64 (a.fst + 1)) fun n =>
 some (.inl ((n, a.snd ++ [m])))))
 (some (.inr (.inl (a.snd))))) ((0, [c] ++ [d.fst, i, j, k])))
 (Sum.elim (fun (o : List (List UInt8)) =>
 (yO o ((ByteArray.mk #[32]).data.toList)).bind fun f =>
 zi ((↑(List.length f + (1 : Nat)) : Int) <= (9223372036854775807 : Int)) (
 some (f ++ (ByteArray.mk #[10]).data.toList))) some)))
def xY (f : TP) (b : List TE) : Option (List UInt8 × Int) :=
 (zpz f b).bind fun e =>
 cond (!decide (e.snd = 0))
 (some (((ByteArray.mk #[]).data.toList, e.snd)))
 (cond (decide (0 < (↑(List.length (List.map zx b)) : Int)))
 (zh b (0) fun j =>
 (zkd f j).bind fun c =>
 zi (c ≠ [] /\ List.length c <= (100000000 : Nat)) (
 lpO (fun (a : Int × Bool × List UInt8) =>
 cond (decide (a.fst < (↑(List.length (List.map zx b)) : Int)))
 (zh b (a.fst) fun g =>
 (zkd f g).bind fun d =>
 zi (a.snd.snd ≠ [] /\ List.length (a.snd.snd ++ d) <= (100000000 : Nat)) (
 zf (IntKind.wrap .i64 (a.fst + 1)) fun i =>
 some (.inl ((i, decide (a.fst < (↑(List.length (List.map zx b)) : Int)), a.snd.snd ++ d)))))
 (zi (a.snd.snd ≠ []) (
 some (.inr ((a.snd.snd, 0)))))) ((1, decide (0 < (↑(List.length (List.map zx b)) : Int)), c))))
 (some (([], 0))))
def zpq (a : Int) : Option (Bool) :=
 cond (decide (97 <= a))
 (some (decide (a <= 122)))
 (some (false))
def ug (a : Int) : Option (Bool) :=
 cond (decide (48 <= a))
 (some (decide (a <= 57)))
 (some (false))
def zuh (b : List UInt8) : Option (Bool) :=
 cond (decide ((↑(List.length b) : Int) < 1))
 (some (false))
 (cond (decide (16 < (↑(List.length b) : Int)))
 (some (false))
 (zh b (0) fun c =>
 (zpq ((↑(UInt8.toNat c) : Int))).bind fun d =>
 cond (!d)
 (some (false))
 (Option.bind (
 lpO (fun (a : Int) =>
 cond (decide (a < (↑(List.length b) : Int)))
 (zh b a fun e =>
 (zpq ((↑(UInt8.toNat e) : Int))).bind fun f =>
 cond (!f)
 (zh b a fun g =>
 (ug ((↑(UInt8.toNat g) : Int))).bind fun i =>
 cond (!i)
 (zh b a fun j =>
 cond (!decide ((↑(UInt8.toNat j) : Int) = 45))
 (some (.inr (.inr (false))))
 (zf (IntKind.wrap .i64 (a + 1)) fun k =>
 some (.inl k)))
 (zf (IntKind.wrap .i64 (a + 1)) fun l =>
 some (.inl l)))
 (zf (IntKind.wrap .i64 (a + 1)) fun m =>
 some (.inl m)))
 (some (.inr (.inl ())))) (0))
 (Sum.elim (fun (_ : Unit) =>
 some (true)) some))))
def zt9 (c : List (List UInt8)) : Option (Int × Int) :=
 cond (decide ((↑(List.length (List.map SV.str c)) : Int) < 1))
 (some (((-1 : Int), 3)))
 (cond (decide (8 < (↑(List.length (List.map SV.str c)) : Int)))
 (some (((-1 : Int), 3)))
 (Option.bind (
 lpO (fun (a : Int) =>
 cond (decide (a < (↑(List.length (List.map SV.str c)) : Int)))
 (zh c a fun d =>
 (zuh d).bind fun e =>
 cond (!e)
 (some (.inr (.inr ((a, 6)))))
 (Option.bind (
 lpO (fun (b : Int) =>
 cond (decide (b < a))
 (zh c b fun f =>
 zh c a fun g =>
 cond (decide (f = g))
 (some (.inr (.inr (.inr (.inr ((a, 8)))))))
 (zf (IntKind.wrap .i64 (b + 1)) fun i =>
 some (.inl i)))
 (some (.inr (.inl ())))) (0))
 (Sum.elim (fun (_ : Unit) =>
 zf (IntKind.wrap .i64 (a + 1)) fun j =>
 some (.inl j)) some)))
 (some (.inr (.inl ())))) (0))
 (Sum.elim (fun (_ : Unit) =>
 some ((0, 0))) some)))
def uV (d : TL) (a : Int) (b : Int) : Option (Bool) :=
 cond (decide (0 <= a))
 (cond (decide (a < (↑(List.length (List.map (SV.int .u8) d.Up)) : Int)))
 (cond (decide (0 <= b))
 (zh (d.Up) a fun c =>
 zi (0 <= b) (
 some (decide (Int.tmod (Int.fdiv c (2 ^ min (Int.toNat b) (IntKind.bits IntKind.u8))) 2 = 1))))
 (some (false)))
 (some (false)))
 (some (false))
def zsj (b : TL) (f : Int) : Option (Bool) :=
 zh (b.Up) f fun g =>
 zf (IntKind.wrap .i64 g) fun e =>
 zi ((0 : Int) <= (↑(List.length (List.map SV.str b.Names)) : Int)) (
 cond (decide (0 < Int.fdiv e (2 ^ min (Int.toNat (↑(List.length (List.map SV.str b.Names)) : Int)) (IntKind.bits IntKind.i64))))
 (some (false))
 ((uV b f f).bind fun i =>
 cond (!i)
 (some (false))
 (Option.bind (
 lpO (fun (a : Int) =>
 cond (decide (a < (↑(List.length (List.map SV.str b.Names)) : Int)))
 ((uV b f a).bind fun j =>
 cond (!j)
 (zf (IntKind.wrap .i64 (a + 1)) fun k =>
 some (.inl k))
 (zh (b.Up) a fun l =>
 zf (IntKind.wrap .i64 l) fun c =>
 zi ((0 : Int) <= (↑(List.length (List.map SV.str b.Names)) : Int)) (
 zf (IntKind.wrap .i64 (1 * 2 ^ min (Int.toNat (↑(List.length (List.map SV.str b.Names)) : Int)) (IntKind.bits IntKind.i64))) fun m =>
 zf (IntKind.wrap .i64 (m - 1)) fun d =>
 cond (!decide (a = f))
 ((uV b a f).bind fun n =>
 cond n
 (some (.inr (.inr (false))))
 (cond (!decide (bits BinOp.and IntKind.i64 (bits BinOp.and IntKind.i64 c d) e = bits BinOp.and IntKind.i64 c d))
 (some (.inr (.inr (false))))
 (zf (IntKind.wrap .i64 (a + 1)) fun o =>
 some (.inl o))))
 (cond (!decide (bits BinOp.and IntKind.i64 (bits BinOp.and IntKind.i64 c d) e = bits BinOp.and IntKind.i64 c d))
 (some (.inr (.inr (false))))
 (zf (IntKind.wrap .i64 (a + 1)) fun p =>
 some (.inl p))))))
 (some (.inr (.inl ())))) (0))
 (Sum.elim (fun (_ : Unit) =>
 some (true)) some))))
def zpw (c : TL) : Option (List Int) :=
 zi ((0 : Int) <= (↑(List.length (List.map SV.str c.Names)) : Int) /\ (↑(List.length (List.map SV.str c.Names)) : Int) = (↑(List.length (List.map SV.str c.Names)) : Int) /\ (↑(List.length (List.map SV.str c.Names)) : Int) <= (70368744177664 : Int) /\ (↑(List.length (List.map SV.str c.Names)) : Int) * (↑(1 : Nat) : Int) <= (70368744177664 : Int)) (
 Option.bind (
 lpO (fun (b : Int × List Int) =>
 cond (decide (b.fst < (↑(List.length (List.map SV.str c.Names)) : Int)))
 (Option.bind (
 lpO (fun (a : Int × List Int) =>
 cond (decide (a.fst < (↑(List.length (List.map SV.str c.Names)) : Int)))
 ((uV c (b.fst) (a.fst)).bind fun d =>
 cond d
 (zi (0 <= a.fst /\ a.fst < (↑(List.length (List.map (SV.int .u8) a.snd)) : Int)) (
 zh (a.snd) ((↑(Int.toNat a.fst) : Int)) fun e =>
 zi (0 <= b.fst) (
 zf (IntKind.wrap .u8 (1 * 2 ^ min (Int.toNat b.fst) (IntKind.bits IntKind.u8))) fun f =>
 zi (0 <= a.fst /\ a.fst < (↑(List.length (List.map (SV.int .u8) a.snd)) : Int)) (
 zh (a.snd) ((↑(Int.toNat a.fst) : Int)) fun _ =>
 zf (IntKind.wrap .i64 (a.fst + 1)) fun g =>
 some (.inl ((g, List.set a.snd (Int.toNat a.fst) (bits BinOp.or IntKind.u8 e f))))))))
 (zf (IntKind.wrap .i64 (a.fst + 1)) fun i =>
 some (.inl ((i, a.snd)))))
 (some (.inr (.inl (a.snd))))) ((0, b.snd)))
 (Sum.elim (fun (j : List Int) =>
 zf (IntKind.wrap .i64 (b.fst + 1)) fun k =>
 some (.inl ((k, j)))) some))
 (some (.inr (.inl (b.snd))))) ((0, List.replicate (Int.toNat (↑(List.length (List.map SV.str c.Names)) : Int)) 0)))
 (Sum.elim (fun (l : List Int) =>
 some l) some))
def zkj (b : List Int) (g : Int) (i : Int) : Option (Int) :=
 zh b g fun c =>
 zh b i fun d =>
 Option.bind (
 lpO (fun (a : Int) =>
 cond (decide (a < (↑(List.length (List.map (SV.int .u8) b)) : Int)))
 (zh b a fun e =>
 cond (decide (e = bits BinOp.and IntKind.u8 c d))
 (some (.inr (.inr a)))
 (zf (IntKind.wrap .i64 (a + 1)) fun f =>
 some (.inl f)))
 (some (.inr (.inl ())))) (0))
 (Sum.elim (fun (_ : Unit) =>
 some ((-1 : Int))) some)
def zd6 (b : TL) : Option (Int × Int) :=
 (zt9 (b.Names)).bind fun e =>
 cond (!decide (e.snd = 0))
 (some e)
 (cond (!decide ((↑(List.length (List.map (SV.int .u8) b.Up)) : Int) = (↑(List.length (List.map SV.str b.Names)) : Int)))
 (some (((-1 : Int), 6)))
 (Option.bind (
 lpO (fun (c : Int) =>
 cond (decide (c < (↑(List.length (List.map SV.str b.Names)) : Int)))
 ((zsj b c).bind fun f =>
 cond (!f)
 (some (.inr (.inr ((c, 6)))))
 (zf (IntKind.wrap .i64 (c + 1)) fun g =>
 some (.inl g)))
 (some (.inr (.inl ())))) (0))
 (Sum.elim (fun (_ : Unit) =>
 (zpw b).bind fun i =>
 Option.bind (
 lpO (fun (a : Int) =>
 cond (decide (a < (↑(List.length (List.map SV.str b.Names)) : Int)))
 (Option.bind (
 lpO (fun (d : Int) =>
 cond (decide (d < (↑(List.length (List.map SV.str b.Names)) : Int)))
 ((zkj (b.Up) a d).bind fun j =>
 cond (decide (j < 0))
 (some (.inr (.inr (.inr (.inr ((a, 4)))))))
 ((zkj i a d).bind fun k =>
 cond (decide (k < 0))
 (some (.inr (.inr (.inr (.inr ((a, 4)))))))
 (zf (IntKind.wrap .i64 (d + 1)) fun l =>
 some (.inl l))))
 (some (.inr (.inl ())))) (0))
 (Sum.elim (fun (_ : Unit) =>
 zf (IntKind.wrap .i64 (a + 1)) fun m =>
 some (.inl m)) some))
 (some (.inr (.inl ())))) (0))
 (Sum.elim (fun (_ : Unit) =>
 some ((0, 0))) some)) some)))
def zr4 : Option (List (List UInt8)) :=
 some ([(ByteArray.mk #[110, 101, 103]).data.toList, (ByteArray.mk #[97, 98, 115]).data.toList, (ByteArray.mk #[110, 111, 116]).data.toList, (ByteArray.mk #[115, 104, 97, 112, 101]).data.toList, (ByteArray.mk #[114, 97, 118, 101, 108]).data.toList, (ByteArray.mk #[114, 101, 118, 101, 114, 115, 101]).data.toList, (ByteArray.mk #[102, 108, 105, 112]).data.toList, (ByteArray.mk #[105, 111, 116, 97]).data.toList, (ByteArray.mk #[115, 117, 109]).data.toList, (ByteArray.mk #[108, 101, 97, 115, 116]).data.toList, (ByteArray.mk #[109, 111, 115, 116]).data.toList, (ByteArray.mk #[99, 111, 117, 110, 116]).data.toList, (ByteArray.mk #[115, 99, 97, 110]).data.toList, (ByteArray.mk #[103, 114, 97, 100, 101]).data.toList, (ByteArray.mk #[97, 100, 100]).data.toList, (ByteArray.mk #[115, 117, 98]).data.toList, (ByteArray.mk #[109, 117, 108]).data.toList, (ByteArray.mk #[100, 105, 118]).data.toList, (ByteArray.mk #[109, 111, 100]).data.toList, (ByteArray.mk #[112, 108, 117, 115]).data.toList, (ByteArray.mk #[109, 105, 110, 117, 115]).data.toList, (ByteArray.mk #[116, 105, 109, 101, 115]).data.toList, (ByteArray.mk #[101, 113]).data.toList, (ByteArray.mk #[110, 101]).data.toList, (ByteArray.mk #[108, 116]).data.toList, (ByteArray.mk #[108, 101]).data.toList, (ByteArray.mk #[103, 116]).data.toList, (ByteArray.mk #[103, 101]).data.toList, (ByteArray.mk #[97, 110, 100]).data.toList, (ByteArray.mk #[111, 114]).data.toList, (ByteArray.mk #[109, 105, 110]).data.toList, (ByteArray.mk #[109, 97, 120]).data.toList, (ByteArray.mk #[116, 97, 107, 101]).data.toList, (ByteArray.mk #[100, 114, 111, 112]).data.toList, (ByteArray.mk #[102, 105, 108, 108]).data.toList, (ByteArray.mk #[103, 114, 105, 100]).data.toList, (ByteArray.mk #[99, 97, 116]).data.toList, (ByteArray.mk #[97, 116]).data.toList, (ByteArray.mk #[105, 110]).data.toList, (ByteArray.mk #[112, 105, 99, 107]).data.toList])
def zsm (f : List UInt8) : Option (Int × Int) :=
 (zr4).bind fun b =>
 Option.bind (
 lpO (fun (a : Int) =>
 cond (decide (a < (↑(List.length (List.map SV.str b)) : Int)))
 (zh b a fun c =>
 cond (decide (c = f))
 (zf (IntKind.wrap .i64 (a + 1)) fun d =>
 some (.inr (.inr ((d, 0)))))
 (zf (IntKind.wrap .i64 (a + 1)) fun e =>
 some (.inl e)))
 (some (.inr (.inl ())))) (0))
 (Sum.elim (fun (_ : Unit) =>
 some ((0, 4))) some)
def zpr (a : Int) : Option (Bool) :=
 cond (decide (97 <= a))
 (some (decide (a <= 122)))
 (some (false))
def zta (a : Int) : Option (Bool) :=
 cond (decide (48 <= a))
 (some (decide (a <= 57)))
 (some (false))
def zcm (b : List UInt8) : Option (Bool) :=
 cond (decide (b = (ByteArray.mk #[]).data.toList))
 (some (false))
 (zh b (0) fun c =>
 (zpr ((↑(UInt8.toNat c) : Int))).bind fun d =>
 cond (!d)
 (some (false))
 (Option.bind (
 lpO (fun (a : Int) =>
 cond (decide (a < (↑(List.length b) : Int)))
 (zh b a fun e =>
 (zpr ((↑(UInt8.toNat e) : Int))).bind fun f =>
 cond (!f)
 (zh b a fun g =>
 (zta ((↑(UInt8.toNat g) : Int))).bind fun i =>
 cond (!i)
 (some (.inr (.inr (false))))
 (zf (IntKind.wrap .i64 (a + 1)) fun j =>
 some (.inl j)))
 (zf (IntKind.wrap .i64 (a + 1)) fun k =>
 some (.inl k)))
 (some (.inr (.inl ())))) (0))
 (Sum.elim (fun (_ : Unit) =>
 some (true)) some)))
def zgm (a : List UInt8) : Option (List Int × Bool) :=
 Option.bind (
 lpO (fun (_ : Unit) =>
 cond (decide (0 < (↑(List.length a) : Int)))
 (none)
 (some (.inr (.inl ())))) (()))
 (Sum.elim (fun (_ : Unit) =>
 some (([], true))) some)
def zuj (a : TK) : Option (Int) :=
 cond (decide (a.Kind < 1))
 (some (2))
 (cond (decide (9 < a.Kind))
 (some (2))
 (cond (!decide (a.Kind = 2))
 (cond (!decide (a.N = 0))
 (some (2))
 (cond (!decide (a.Kind = 1))
 (cond (!decide (a.Kind = 3))
 (cond (!decide (a.S = (ByteArray.mk #[]).data.toList))
 (some (2))
 (cond (decide (a.Kind = 1))
 ((zcm (a.S)).bind fun b =>
 cond (!b)
 (some (6))
 (cond (decide (16 < (↑(List.length a.S) : Int)))
 (some (3))
 (some (0))))
 (cond (decide (a.Kind = 3))
 ((zgm (a.S)).bind fun c =>
 cond (!c.snd)
 (some (6))
 (cond (decide (2000 < (↑(List.length a.S) : Int)))
 (some (3))
 (some (0))))
 (some (0)))))
 (cond (decide (a.Kind = 1))
 ((zcm (a.S)).bind fun d =>
 cond (!d)
 (some (6))
 (cond (decide (16 < (↑(List.length a.S) : Int)))
 (some (3))
 (some (0))))
 (cond (decide (a.Kind = 3))
 ((zgm (a.S)).bind fun e =>
 cond (!e.snd)
 (some (6))
 (cond (decide (2000 < (↑(List.length a.S) : Int)))
 (some (3))
 (some (0))))
 (some (0)))))
 (cond (decide (a.Kind = 1))
 ((zcm (a.S)).bind fun f =>
 cond (!f)
 (some (6))
 (cond (decide (16 < (↑(List.length a.S) : Int)))
 (some (3))
 (some (0))))
 (cond (decide (a.Kind = 3))
 ((zgm (a.S)).bind fun g =>
 cond (!g.snd)
 (some (6))
 (cond (decide (2000 < (↑(List.length a.S) : Int)))
 (some (3))
 (some (0))))
 (some (0))))))
 (cond (!decide (a.Kind = 1))
 (cond (!decide (a.Kind = 3))
 (cond (!decide (a.S = (ByteArray.mk #[]).data.toList))
 (some (2))
 (cond (decide (a.Kind = 1))
 ((zcm (a.S)).bind fun i =>
 cond (!i)
 (some (6))
 (cond (decide (16 < (↑(List.length a.S) : Int)))
 (some (3))
 (some (0))))
 (cond (decide (a.Kind = 3))
 ((zgm (a.S)).bind fun j =>
 cond (!j.snd)
 (some (6))
 (cond (decide (2000 < (↑(List.length a.S) : Int)))
 (some (3))
 (some (0))))
 (some (0)))))
 (cond (decide (a.Kind = 1))
 ((zcm (a.S)).bind fun k =>
 cond (!k)
 (some (6))
 (cond (decide (16 < (↑(List.length a.S) : Int)))
 (some (3))
 (some (0))))
 (cond (decide (a.Kind = 3))
 ((zgm (a.S)).bind fun l =>
 cond (!l.snd)
 (some (6))
 (cond (decide (2000 < (↑(List.length a.S) : Int)))
 (some (3))
 (some (0))))
 (some (0)))))
 (cond (decide (a.Kind = 1))
 ((zcm (a.S)).bind fun m =>
 cond (!m)
 (some (6))
 (cond (decide (16 < (↑(List.length a.S) : Int)))
 (some (3))
 (some (0))))
 (cond (decide (a.Kind = 3))
 ((zgm (a.S)).bind fun n =>
 cond (!n.snd)
 (some (6))
 (cond (decide (2000 < (↑(List.length a.S) : Int)))
 (some (3))
 (some (0))))
 (some (0)))))))
def zte (d : List UInt8) : Option (Bool) :=
 Option.bind (
 lpO (fun (a : Int) =>
 cond (decide (a < (↑(10 : Nat) : Int)))
 (zi (0 <= a /\ a < (↑(10 : Nat) : Int)) (
 zh ([(ByteArray.mk #[118, 97, 114]).data.toList, (ByteArray.mk #[100, 101, 102]).data.toList, (ByteArray.mk #[111, 117, 116]).data.toList, (ByteArray.mk #[105, 102]).data.toList, (ByteArray.mk #[101, 108, 115, 101]).data.toList, (ByteArray.mk #[119, 104, 105, 108, 101]).data.toList, (ByteArray.mk #[101, 110, 100]).data.toList, (ByteArray.mk #[114, 101, 108, 101, 97, 115, 101]).data.toList, (ByteArray.mk #[105, 110, 116]).data.toList, (ByteArray.mk #[99, 104, 97, 114]).data.toList]) ((↑(Int.toNat a) : Int)) fun b =>
 cond (decide (b = d))
 (some (.inr (.inr (true))))
 (zf (IntKind.wrap .i64 (a + 1)) fun c =>
 some (.inl c))))
 (some (.inr (.inl ())))) (0))
 (Sum.elim (fun (_ : Unit) =>
 some (false)) some)
def zsw (a : List UInt8) : Option (Bool) :=
 (zsm a).bind fun b =>
 (zuj (TK.mk 1 0 0 0 a)).bind fun c =>
 cond (decide (c = 0))
 (cond (!decide (b.snd = 0))
 ((zte a).bind fun d =>
 some (!d))
 (some (false)))
 (some (false))
def zpx (e : List UInt8) (f : List (List UInt8)) : Option (Int) :=
 (zsw e).bind fun b =>
 cond (!b)
 (some (24))
 (Option.bind (
 lpO (fun (a : Int) =>
 cond (decide (a < (↑(List.length (List.map SV.str f)) : Int)))
 (zh f a fun c =>
 cond (decide (c = e))
 (some (.inr (.inr (8))))
 (zf (IntKind.wrap .i64 (a + 1)) fun d =>
 some (.inl d)))
 (some (.inr (.inl ())))) (0))
 (Sum.elim (fun (_ : Unit) =>
 some (0)) some))
def xL (b : TL) (a : Int) : Option (Bool) :=
 cond (decide (0 <= a))
 (some (decide (a < (↑(List.length (List.map SV.str b.Names)) : Int))))
 (some (false))
def zui (c : TP) : Option (Int × Int) :=
 cond (decide (16 < (↑(List.length (List.map zW c.Channels)) : Int)))
 (some (((-1 : Int), 3)))
 (Option.bind (
 lpO (fun (a : Int × List (List UInt8)) =>
 cond (decide (a.fst < (↑(List.length (List.map zW c.Channels)) : Int)))
 (zh (c.Channels) (a.fst) fun d =>
 (zpx (d.s_) (a.snd)).bind fun b =>
 cond (decide (b = 0))
 (zh (c.Channels) (a.fst) fun e =>
 (xL (c.Lattice) (e.at_)).bind fun f =>
 cond (!f)
 (some (.inr (.inr ((a.fst, 7)))))
 (cond (!decide (b = 0))
 (some (.inr (.inr ((a.fst, b)))))
 (zh (c.Channels) (a.fst) fun g =>
 zi ((List.length (List.map SV.str a.snd) + (1 : Nat)) * (16 : Nat) <= (70368744177664 : Nat)) (
 zf (IntKind.wrap .i64 (a.fst + 1)) fun i =>
 some (.inl ((i, a.snd ++ [g.s_])))))))
 (cond (!decide (b = 0))
 (some (.inr (.inr ((a.fst, b)))))
 (zh (c.Channels) (a.fst) fun j =>
 zi ((List.length (List.map SV.str a.snd) + (1 : Nat)) * (16 : Nat) <= (70368744177664 : Nat)) (
 zf (IntKind.wrap .i64 (a.fst + 1)) fun k =>
 some (.inl ((k, a.snd ++ [j.s_])))))))
 (some (.inr (.inl ())))) ((0, [])))
 (Sum.elim (fun (_ : Unit) =>
 some ((0, 0))) some))
def zr7 (b : TL) (c : Int) (d : Int) : Option (Int) :=
 (zd6 b).bind fun a =>
 cond (decide (a.snd = 0))
 (cond (decide (c < 0))
 (some (7))
 (cond (decide ((↑(List.length (List.map SV.str b.Names)) : Int) <= c))
 (some (7))
 (cond (decide (d < 0))
 (some (7))
 (cond (decide ((↑(List.length (List.map SV.str b.Names)) : Int) <= d))
 (some (7))
 (some (a.snd))))))
 (some (a.snd))
def zm5 (c : TL) : Option (Int × Int) :=
 (zr7 c (0) (0)).bind fun b =>
 cond (!decide (b = 0))
 (some ((0, b)))
 ((zpw c).bind fun d =>
 Option.bind (
 lpO (fun (a : Int × Int) =>
 cond (decide (a.fst < (↑(List.length (List.map SV.str c.Names)) : Int)))
 ((zkj d (a.fst) (a.snd)).bind fun e =>
 zf (IntKind.wrap .i64 (a.fst + 1)) fun f =>
 some (.inl ((f, e))))
 (some (.inr (.inl (a.snd))))) ((0, 0)))
 (Sum.elim (fun (g : Int) =>
 some ((g, 0))) some))
def zn1 (b : TL) (a : TY) : Option (Int) :=
 (zd6 b).bind fun g =>
 cond (!decide (g.snd = 0))
 (some (g.snd))
 (cond (!decide (a.Kind = 1))
 (cond (!decide (a.Kind = 2))
 (some (7))
 (cond (decide (a.Rank < 0))
 (some (7))
 (cond (decide (2 < a.Rank))
 (some (7))
 ((xL b (a.Axes.fst)).bind fun i =>
 cond (!i)
 (some (7))
 ((xL b (a.Axes.snd)).bind fun j =>
 cond (!j)
 (some (7))
 ((xL b (a.Data)).bind fun k =>
 cond (!k)
 (some (7))
 ((zm5 b).bind fun l =>
 Option.bind (
 lpO (fun (c : Int) =>
 cond (decide (c < 2))
 (zi (0 <= c /\ c < (↑(2 : Nat) : Int)) (
 zh ([a.Axes.fst, a.Axes.snd]) ((↑(Int.toNat c) : Int)) fun m =>
 cond (!decide (m = l.fst))
 (some (.inr (.inr (6))))
 (zf (IntKind.wrap .i64 (c + 1)) fun n =>
 some (.inl n))))
 (some (.inr (.inl ())))) (a.Rank))
 (Sum.elim (fun (_ : Unit) =>
 Option.bind (
 lpO (fun (d : Int) =>
 cond (decide (d < a.Rank))
 (zi (0 <= d /\ d < (↑(2 : Nat) : Int)) (
 zh ([a.Axes.fst, a.Axes.snd]) ((↑(Int.toNat d) : Int)) fun o =>
 (uV b o (a.Data)).bind fun p =>
 cond (!p)
 (some (.inr (.inr (25))))
 (zf (IntKind.wrap .i64 (d + 1)) fun q =>
 some (.inl q))))
 (some (.inr (.inl ())))) (0))
 (Sum.elim (fun (_ : Unit) =>
 some (0)) some)) some))))))))
 (cond (decide (a.Rank < 0))
 (some (7))
 (cond (decide (2 < a.Rank))
 (some (7))
 ((xL b (a.Axes.fst)).bind fun s =>
 cond (!s)
 (some (7))
 ((xL b (a.Axes.snd)).bind fun t =>
 cond (!t)
 (some (7))
 ((xL b (a.Data)).bind fun u =>
 cond (!u)
 (some (7))
 ((zm5 b).bind fun v =>
 Option.bind (
 lpO (fun (e : Int) =>
 cond (decide (e < 2))
 (zi (0 <= e /\ e < (↑(2 : Nat) : Int)) (
 zh ([a.Axes.fst, a.Axes.snd]) ((↑(Int.toNat e) : Int)) fun w =>
 cond (!decide (w = v.fst))
 (some (.inr (.inr (6))))
 (zf (IntKind.wrap .i64 (e + 1)) fun x =>
 some (.inl x))))
 (some (.inr (.inl ())))) (a.Rank))
 (Sum.elim (fun (_ : Unit) =>
 Option.bind (
 lpO (fun (f : Int) =>
 cond (decide (f < a.Rank))
 (zi (0 <= f /\ f < (↑(2 : Nat) : Int)) (
 zh ([a.Axes.fst, a.Axes.snd]) ((↑(Int.toNat f) : Int)) fun y =>
 (uV b y (a.Data)).bind fun z =>
 cond (!z)
 (some (.inr (.inr (25))))
 (zf (IntKind.wrap .i64 (f + 1)) fun A =>
 some (.inl A))))
 (some (.inr (.inl ())))) (0))
 (Sum.elim (fun (_ : Unit) =>
 some (0)) some)) some))))))))
def zs2 (b : TP) : Option (Int × Int) :=
 cond (decide (32 < (↑(List.length (List.map wL b.Vars)) : Int)))
 (some (((-1 : Int), 3)))
 (Option.bind (
 lpO (fun (a : Int × List (List UInt8)) =>
 cond (decide (a.fst < (↑(List.length (List.map wL b.Vars)) : Int)))
 (zh (b.Vars) (a.fst) fun e =>
 (zpx (e.Name) (a.snd)).bind fun c =>
 cond (decide (c = 0))
 (zh (b.Vars) (a.fst) fun f =>
 (zn1 (b.Lattice) (f.Type_)).bind fun d =>
 cond (!decide (d = 0))
 (some (.inr (.inr ((a.fst, d)))))
 (zh (b.Vars) (a.fst) fun g =>
 zi ((List.length (List.map SV.str a.snd) + (1 : Nat)) * (16 : Nat) <= (70368744177664 : Nat)) (
 zf (IntKind.wrap .i64 (a.fst + 1)) fun i =>
 some (.inl ((i, a.snd ++ [g.Name]))))))
 (cond (!decide (c = 0))
 (some (.inr (.inr ((a.fst, c)))))
 (zh (b.Vars) (a.fst) fun j =>
 zi ((List.length (List.map SV.str a.snd) + (1 : Nat)) * (16 : Nat) <= (70368744177664 : Nat)) (
 zf (IntKind.wrap .i64 (a.fst + 1)) fun k =>
 some (.inl ((k, a.snd ++ [j.Name])))))))
 (some (.inr (.inl ())))) ((0, [])))
 (Sum.elim (fun (_ : Unit) =>
 some ((0, 0))) some))
def zue (d : TP) : Option (Int × Int) :=
 cond (decide (64 < (↑(List.length (List.map qE d.Rules)) : Int)))
 (some (((-1 : Int), 3)))
 (Option.bind (
 lpO (fun (a : Int) =>
 cond (decide (a < (↑(List.length (List.map qE d.Rules)) : Int)))
 (zh (d.Rules) a fun b =>
 (xL (d.Lattice) (b.From)).bind fun e =>
 cond (!e)
 (some (.inr (.inr ((a, 7)))))
 ((xL (d.Lattice) (b.Goal)).bind fun f =>
 cond (!f)
 (some (.inr (.inr ((a, 7)))))
 (cond (decide (b.From = b.Goal))
 (some (.inr (.inr ((a, 25)))))
 ((uV (d.Lattice) (b.Goal) (b.From)).bind fun g =>
 cond (!g)
 (some (.inr (.inr ((a, 25)))))
 (Option.bind (
 lpO (fun (c : Int) =>
 cond (decide (c < a))
 (zh (d.Rules) c fun i =>
 cond (decide (i.From = b.From))
 (zh (d.Rules) c fun j =>
 cond (decide (j.Goal = b.Goal))
 (some (.inr (.inr (.inr (.inr ((a, 8)))))))
 (zf (IntKind.wrap .i64 (c + 1)) fun k =>
 some (.inl k)))
 (zf (IntKind.wrap .i64 (c + 1)) fun l =>
 some (.inl l)))
 (some (.inr (.inl ())))) (0))
 (Sum.elim (fun (_ : Unit) =>
 cond (decide (b.K < 2))
 (some (.inr (.inr ((a, 3)))))
 (cond (decide (400 < b.K))
 (some (.inr (.inr ((a, 3)))))
 (zf (IntKind.wrap .i64 (a + 1)) fun m =>
 some (.inl m)))) some))))))
 (some (.inr (.inl ())))) (0))
 (Sum.elim (fun (_ : Unit) =>
 some ((0, 0))) some))
def zg1 (e : TP) : Option (Int × Int × Int) :=
 (zd6 (e.Lattice)).bind fun a =>
 cond (!decide (a.snd = 0))
 (some ((1, a)))
 ((zui e).bind fun b =>
 cond (!decide (b.snd = 0))
 (some ((2, b)))
 ((zs2 e).bind fun c =>
 cond (!decide (c.snd = 0))
 (some ((3, c)))
 ((zue e).bind fun d =>
 cond (!decide (d.snd = 0))
 (some ((4, d)))
 (some ((0, 0, 0))))))
def zks : Option (List (List UInt8)) :=
 some ([(ByteArray.mk #[]).data.toList, (ByteArray.mk #[115, 117, 109]).data.toList, (ByteArray.mk #[99, 111, 117, 110, 116]).data.toList, (ByteArray.mk #[108, 101, 97, 115, 116]).data.toList, (ByteArray.mk #[109, 111, 115, 116]).data.toList])
def zni (a : Int) : Option (List UInt8 × Int) :=
 cond (decide (a < 1))
 (some (((ByteArray.mk #[]).data.toList, 2)))
 (cond (decide (4 < a))
 (some (((ByteArray.mk #[]).data.toList, 2)))
 ((zks).bind fun b =>
 zh b a fun c =>
 some ((c, 0))))
def zj4 (c : TP) (e : Int) (f : Int) : Option (Int × Int) :=
 (zg1 c).bind fun d =>
 cond (decide (d.snd.snd = 0))
 ((xL (c.Lattice) e).bind fun g =>
 cond (!g)
 (some ((0, 7)))
 ((xL (c.Lattice) f).bind fun i =>
 cond (!i)
 (some ((0, 7)))
 (cond (!decide (d.snd.snd = 0))
 (some ((0, d.snd.snd)))
 (Option.bind (
 lpO (fun (a : Int) =>
 cond (decide (a < (↑(List.length (List.map qE c.Rules)) : Int)))
 (zh (c.Rules) a fun j =>
 cond (decide (j.From = e))
 (zh (c.Rules) a fun k =>
 cond (decide (k.Goal = f))
 (zh (c.Rules) a fun l =>
 some (.inr (.inr ((l.K, 0)))))
 (zf (IntKind.wrap .i64 (a + 1)) fun m =>
 some (.inl m)))
 (zf (IntKind.wrap .i64 (a + 1)) fun n =>
 some (.inl n)))
 (some (.inr (.inl ())))) (0))
 (Sum.elim (fun (_ : Unit) =>
 some ((0, 4))) some)))))
 (cond (!decide (d.snd.snd = 0))
 (some ((0, d.snd.snd)))
 (Option.bind (
 lpO (fun (b : Int) =>
 cond (decide (b < (↑(List.length (List.map qE c.Rules)) : Int)))
 (zh (c.Rules) b fun o =>
 cond (decide (o.From = e))
 (zh (c.Rules) b fun p =>
 cond (decide (p.Goal = f))
 (zh (c.Rules) b fun q =>
 some (.inr (.inr ((q.K, 0)))))
 (zf (IntKind.wrap .i64 (b + 1)) fun s =>
 some (.inl s)))
 (zf (IntKind.wrap .i64 (b + 1)) fun t =>
 some (.inl t)))
 (some (.inr (.inl ())))) (0))
 (Sum.elim (fun (_ : Unit) =>
 some ((0, 4))) some)))
def zou (g : TP) (a : TE) : Option (Int) :=
 (zg1 g).bind fun f =>
 cond (decide (f.snd.snd = 0))
 ((zni (a.Fold)).bind fun b =>
 cond (decide (b.snd = 0))
 (cond (decide (a.Site < 0))
 (some (7))
 (cond (decide (1000000000 < a.Site))
 (some (7))
 (cond (!decide (b.snd = 0))
 (some (b.snd))
 ((zj4 g (a.From) (a.Goal)).bind fun c =>
 cond (decide (c.snd = 7))
 (some (7))
 (cond (decide (a.Cells < 0))
 (some (7))
 (cond (decide (400 < a.Cells))
 (some (7))
 (cond (!decide (c.snd = 0))
 (some (c.snd))
 (cond (decide (a.Cells < c.fst))
 (cond (!(decide (a.Value.fst = 0) && (decide (a.Value.snd = 0) && true)))
 (some (6))
 (some (0)))
 (cond (!decide (a.Value.fst = 1))
 (some (6))
 (cond (decide (a.Fold = 2))
 (cond (decide (a.Value.snd < 0))
 (some (6))
 (cond (decide (a.Cells < a.Value.snd))
 (some (6))
 (some (0))))
 (some (0))))))))))))
 (cond (!decide (b.snd = 0))
 (some (b.snd))
 ((zj4 g (a.From) (a.Goal)).bind fun d =>
 cond (decide (d.snd = 7))
 (some (7))
 (cond (decide (a.Cells < 0))
 (some (7))
 (cond (decide (400 < a.Cells))
 (some (7))
 (cond (!decide (d.snd = 0))
 (some (d.snd))
 (cond (decide (a.Cells < d.fst))
 (cond (!(decide (a.Value.fst = 0) && (decide (a.Value.snd = 0) && true)))
 (some (6))
 (some (0)))
 (cond (!decide (a.Value.fst = 1))
 (some (6))
 (cond (decide (a.Fold = 2))
 (cond (decide (a.Value.snd < 0))
 (some (6))
 (cond (decide (a.Cells < a.Value.snd))
 (some (6))
 (some (0))))
 (some (0)))))))))))
 (cond (!decide (f.snd.snd = 0))
 (some (f.snd.snd))
 ((zj4 g (a.From) (a.Goal)).bind fun e =>
 cond (decide (e.snd = 7))
 (some (7))
 (cond (decide (a.Cells < 0))
 (some (7))
 (cond (decide (400 < a.Cells))
 (some (7))
 (cond (!decide (e.snd = 0))
 (some (e.snd))
 (cond (decide (a.Cells < e.fst))
 (cond (!(decide (a.Value.fst = 0) && (decide (a.Value.snd = 0) && true)))
 (some (6))
 (some (0)))
 (cond (!decide (a.Value.fst = 1))
 (some (6))
 (cond (decide (a.Fold = 2))
 (cond (decide (a.Value.snd < 0))
 (some (6))
 (cond (decide (a.Cells < a.Value.snd))
 (some (6))
 (some (0))))
 (some (0))))))))))
def zgs (g : TP) (f : List TE) : Option (Int × Int) :=
 (zg1 g).bind fun c =>
 cond (decide (c.snd.snd = 0))
 (cond (decide (2000 < (↑(List.length (List.map zx f)) : Int)))
 (some (((-1 : Int), 3)))
 (cond (!decide (c.snd.snd = 0))
 (some (((-1 : Int), c.snd.snd)))
 (Option.bind (
 lpO (fun (a : Int) =>
 cond (decide (a < (↑(List.length (List.map zx f)) : Int)))
 (zh f a fun i =>
 (zou g i).bind fun d =>
 cond (decide (d = 0))
 (zh f a fun j =>
 cond (decide (j.Site = 0))
 (some (.inr (.inr ((a, 6)))))
 (cond (!decide (d = 0))
 (some (.inr (.inr ((a, d)))))
 (zf (IntKind.wrap .i64 (a + 1)) fun k =>
 some (.inl k))))
 (cond (!decide (d = 0))
 (some (.inr (.inr ((a, d)))))
 (zf (IntKind.wrap .i64 (a + 1)) fun l =>
 some (.inl l))))
 (some (.inr (.inl ())))) (0))
 (Sum.elim (fun (_ : Unit) =>
 some ((0, 0))) some))))
 (cond (!decide (c.snd.snd = 0))
 (some (((-1 : Int), c.snd.snd)))
 (Option.bind (
 lpO (fun (b : Int) =>
 cond (decide (b < (↑(List.length (List.map zx f)) : Int)))
 (zh f b fun m =>
 (zou g m).bind fun e =>
 cond (decide (e = 0))
 (zh f b fun n =>
 cond (decide (n.Site = 0))
 (some (.inr (.inr ((b, 6)))))
 (cond (!decide (e = 0))
 (some (.inr (.inr ((b, e)))))
 (zf (IntKind.wrap .i64 (b + 1)) fun o =>
 some (.inl o))))
 (cond (!decide (e = 0))
 (some (.inr (.inr ((b, e)))))
 (zf (IntKind.wrap .i64 (b + 1)) fun p =>
 some (.inl p))))
 (some (.inr (.inl ())))) (0))
 (Sum.elim (fun (_ : Unit) =>
 some ((0, 0))) some)))
def zkb (l : TP) (m : List TE) : Option (List UInt8 × Int) :=
 (zgs l m).bind fun k =>
 cond (!decide (k.snd = 0))
 (some (((ByteArray.mk #[]).data.toList, k.snd)))
 (Option.bind (
 lpO (fun (a : Int × List UInt8) =>
 cond (decide (a.fst < (↑(List.length (List.map zx m)) : Int)))
 (zh m (a.fst) fun f =>
 (zni (f.Fold)).bind fun c =>
 (qy (f.Site)).bind fun b =>
 zi ((↑(List.length a.snd + List.length b) : Int) <= (9223372036854775807 : Int)) (
 zi ((↑(List.length (a.snd ++ b) + (1 : Nat)) : Int) <= (9223372036854775807 : Int)) (
 zi ((↑(List.length (a.snd ++ b ++ (ByteArray.mk #[32]).data.toList) + List.length c.fst) : Int) <= (9223372036854775807 : Int)) (
 zi ((↑(List.length (a.snd ++ b ++ (ByteArray.mk #[32]).data.toList ++ c.fst) + (1 : Nat)) : Int) <= (9223372036854775807 : Int)) (
 zh (l.Lattice.Names) (f.From) fun d =>
 zi ((↑(List.length (a.snd ++ b ++ (ByteArray.mk #[32]).data.toList ++ c.fst ++ (ByteArray.mk #[32]).data.toList) + List.length d) : Int) <= (9223372036854775807 : Int)) (
 zi ((↑(List.length (a.snd ++ b ++ (ByteArray.mk #[32]).data.toList ++ c.fst ++ (ByteArray.mk #[32]).data.toList ++ d) + (1 : Nat)) : Int) <= (9223372036854775807 : Int)) (
 zh (l.Lattice.Names) (f.Goal) fun e =>
 zi ((↑(List.length (a.snd ++ b ++ (ByteArray.mk #[32]).data.toList ++ c.fst ++ (ByteArray.mk #[32]).data.toList ++ d ++ (ByteArray.mk #[32]).data.toList) + List.length e) : Int) <= (9223372036854775807 : Int)) (
 zi ((↑(List.length (a.snd ++ b ++ (ByteArray.mk #[32]).data.toList ++ c.fst ++ (ByteArray.mk #[32]).data.toList ++ d ++ (ByteArray.mk #[32]).data.toList ++ e) + (1 : Nat)) : Int) <= (9223372036854775807 : Int)) (
 (qy (f.Cells)).bind fun g =>
 zi ((↑(List.length (a.snd ++ b ++ (ByteArray.mk #[32]).data.toList ++ c.fst ++ (ByteArray.mk #[32]).data.toList ++ d ++ (ByteArray.mk #[32]).data.toList ++ e ++ (ByteArray.mk #[32]).data.toList) + List.length g) : Int) <= (9223372036854775807 : Int)) (
 zi ((↑(List.length (a.snd ++ b ++ (ByteArray.mk #[32]).data.toList ++ c.fst ++ (ByteArray.mk #[32]).data.toList ++ d ++ (ByteArray.mk #[32]).data.toList ++ e ++ (ByteArray.mk #[32]).data.toList ++ g) + (1 : Nat)) : Int) <= (9223372036854775807 : Int)) (
 (qy (f.Value.fst)).bind fun i =>
 zi ((↑(List.length (a.snd ++ b ++ (ByteArray.mk #[32]).data.toList ++ c.fst ++ (ByteArray.mk #[32]).data.toList ++ d ++ (ByteArray.mk #[32]).data.toList ++ e ++ (ByteArray.mk #[32]).data.toList ++ g ++ (ByteArray.mk #[32]).data.toList) + List.length i) : Int) <= (9223372036854775807 : Int)) (
 zi ((↑(List.length (a.snd ++ b ++ (ByteArray.mk #[32]).data.toList ++ c.fst ++ (ByteArray.mk #[32]).data.toList ++ d ++ (ByteArray.mk #[32]).data.toList ++ e ++ (ByteArray.mk #[32]).data.toList ++ g ++ (ByteArray.mk #[32]).data.toList ++ i) + (1 : Nat)) : Int) <= (9223372036854775807 : Int)) (
 (qy (f.Value.snd)).bind fun j =>
 zi ((↑(List.length (a.snd ++ b ++ (ByteArray.mk #[32]).data.toList ++ c.fst ++ (ByteArray.mk #[32]).data.toList ++ d ++ (ByteArray.mk #[32]).data.toList ++ e ++ (ByteArray.mk #[32]).data.toList ++ g ++ (ByteArray.mk #[32]).data.toList ++ i ++ (ByteArray.mk #[32]).data.toList) + List.length j) : Int) <= (9223372036854775807 : Int)) (
 zi ((↑(List.length (a.snd ++ b ++ (ByteArray.mk #[32]).data.toList ++ c.fst ++ (ByteArray.mk #[32]).data.toList ++ d ++ (ByteArray.mk #[32]).data.toList ++ e ++ (ByteArray.mk #[32]).data.toList ++ g ++ (ByteArray.mk #[32]).data.toList ++ i ++ (ByteArray.mk #[32]).data.toList ++ j) + (1 : Nat)) : Int) <= (9223372036854775807 : Int)) (
 zf (IntKind.wrap .i64 (a.fst + 1)) fun n =>
 some (.inl ((n, a.snd ++ b ++ (ByteArray.mk #[32]).data.toList ++ c.fst ++ (ByteArray.mk #[32]).data.toList ++ d ++ (ByteArray.mk #[32]).data.toList ++ e ++ (ByteArray.mk #[32]).data.toList ++ g ++ (ByteArray.mk #[32]).data.toList ++ i ++ (ByteArray.mk #[32]).data.toList ++ j ++ (ByteArray.mk #[10]).data.toList))))))))))))))))))
 (some (.inr (.inl (a.snd))))) ((0, (ByteArray.mk #[]).data.toList)))
 (Sum.elim (fun (o : List UInt8) =>
 some ((o, 0))) some))
def zkx (a : List UInt8) : Option (Int × Int) :=
 Option.bind (
 cond (decide ([(115 : UInt8), (117 : UInt8), (109 : UInt8)] = a))
 (some (.inr ((1, 0))))
 (cond (decide ([(99 : UInt8), (111 : UInt8), (117 : UInt8), (110 : UInt8), (116 : UInt8)] = a))
 (some (.inr ((2, 0))))
 (cond (decide ([(108 : UInt8), (101 : UInt8), (97 : UInt8), (115 : UInt8), (116 : UInt8)] = a))
 (some (.inr ((3, 0))))
 (cond (decide ([(109 : UInt8), (111 : UInt8), (115 : UInt8), (116 : UInt8)] = a))
 (some (.inr ((4, 0))))
 (some (.inl ()))))))
 (Sum.elim (fun (_ : Unit) =>
 some ((0, 4))) some)
def zpv (c : TL) (d : List UInt8) : Option (Int × Int) :=
 (zo5 c ([])).bind fun a =>
 cond (!decide (a = 0))
 (some ((0, a)))
 ((zo6 (c.Names) d).bind fun b =>
 cond (decide (0 <= b))
 (some ((b, 0)))
 (some ((0, 4))))
def zs9 (d : List Int) : Option (Int) :=
 Option.bind (
 lpO (fun (a : Int) =>
 cond (decide (a < (↑(List.length (List.map (SV.int .i64) d)) : Int)))
 (zh d a fun b =>
 cond (!decide (b = 0))
 (some (.inr (.inr b)))
 (zf (IntKind.wrap .i64 (a + 1)) fun c =>
 some (.inl c)))
 (some (.inr (.inl ())))) (0))
 (Sum.elim (fun (_ : Unit) =>
 some (0)) some)
def ztu (u : TP) (v : List UInt8) : Option (TE × Int) :=
 (wX v ((ByteArray.mk #[32]).data.toList)).bind fun c =>
 cond (!decide ((↑(List.length (List.map SV.str c)) : Int) = 7))
 (some ((TE.mk 0 0 0 0 0 (0, 0), 6)))
 (Option.bind (
 lpO (fun (a : Int × List Int) =>
 cond (decide (a.fst < (↑(4 : Nat) : Int)))
 (zi (0 <= a.fst /\ a.fst < (↑(4 : Nat) : Int)) (
 zh ([0, 4, 5, 6]) ((↑(Int.toNat a.fst) : Int)) fun i =>
 zh c i fun j =>
 (uj j ((-9223372036854775808 : Int)) (9223372036854775807)).bind fun d =>
 cond (!decide (d.snd = 0))
 (some (.inr (.inr ((TE.mk 0 0 0 0 0 (0, 0), 6)))))
 (zi ((List.length (List.map (SV.int .i64) a.snd) + (1 : Nat)) * (8 : Nat) <= (70368744177664 : Nat)) (
 zf (IntKind.wrap .i64 (a.fst + 1)) fun k =>
 some (.inl ((k, a.snd ++ [d.fst])))))))
 (some (.inr (.inl (a.snd))))) ((0, [])))
 (Sum.elim (fun (b : List Int) =>
 zh c (1) fun l =>
 (zkx l).bind fun e =>
 zh c (2) fun m =>
 (zpv (u.Lattice) m).bind fun f =>
 zh c (3) fun n =>
 (zpv (u.Lattice) n).bind fun g =>
 (zs9 ([e.snd, f.snd, g.snd])).bind fun o =>
 cond (!decide (o = 0))
 (some ((TE.mk 0 0 0 0 0 (0, 0), 4)))
 (zi ((0 : Int) <= (0 : Int) /\ (0 : Int) < (↑(List.length (List.map (SV.int .i64) b)) : Int)) (
 zh b ((↑(Int.toNat 0) : Int)) fun p =>
 zi ((0 : Int) <= (1 : Int) /\ (1 : Int) < (↑(List.length (List.map (SV.int .i64) b)) : Int)) (
 zh b ((↑(Int.toNat 1) : Int)) fun q =>
 zi ((0 : Int) <= (2 : Int) /\ (2 : Int) < (↑(List.length (List.map (SV.int .i64) b)) : Int)) (
 zh b ((↑(Int.toNat 2) : Int)) fun s =>
 zi ((0 : Int) <= (3 : Int) /\ (3 : Int) < (↑(List.length (List.map (SV.int .i64) b)) : Int)) (
 zh b ((↑(Int.toNat 3) : Int)) fun t =>
 some ((TE.mk p e.fst f.fst g.fst q (s, t), 0)))))))) some))
def zdk (j : TP) (b : List UInt8) : Option (List TE × Int × Int) :=
 (zh1 j).bind fun f =>
 cond (!decide (f.snd.snd = 0))
 (some (([], 0, f.snd.snd)))
 (cond (decide (200000 < (↑(List.length b) : Int)))
 (some (([], 0, 3)))
 ((ji b ((ByteArray.mk #[10]).data.toList)).bind fun k =>
 cond (decide (2000 < k))
 (some (([], 0, 3)))
 (cond (decide (b = (ByteArray.mk #[]).data.toList))
 (some (([], 0, 0)))
 ((yq b ((ByteArray.mk #[10]).data.toList)).bind fun l =>
 cond (!l)
 (some (([], 0, 6)))
 (zf (IntKind.wrap .i64 ((↑(List.length b) : Int) - 1)) fun c =>
 zi (0 <= c /\ c <= (↑(List.length b) : Int)) (
 (wX (List.drop (Int.toNat 0) (List.take (Int.toNat c) b)) ((ByteArray.mk #[10]).data.toList)).bind fun g =>
 Option.bind (
 lpO (fun (a : Int × List TE) =>
 cond (decide (a.fst < (↑(List.length (List.map SV.str g)) : Int)))
 (zh g (a.fst) fun m =>
 (ztu j m).bind fun d =>
 cond (!decide (d.snd = 0))
 (zf (IntKind.wrap .i64 (a.fst + 1)) fun n =>
 some (.inr (.inr (([], n, d.snd)))))
 (zi ((List.length (List.map zx a.snd) + (1 : Nat)) * (56 : Nat) <= (70368744177664 : Nat)) (
 zf (IntKind.wrap .i64 (a.fst + 1)) fun o =>
 some (.inl ((o, a.snd ++ [d.fst]))))))
 (some (.inr (.inl (a.snd))))) ((0, [])))
 (Sum.elim (fun (i : List TE) =>
 (zpz j i).bind fun e =>
 cond (!decide (e.snd = 0))
 (zf (IntKind.wrap .i64 (e.fst + 1)) fun p =>
 some (([], p, e.snd)))
 (some ((i, 0, 0)))) some)))))))
def zc3 (b : List UInt8) (k : Int) : Option (List (List UInt8)) :=
 Option.bind (
 lpO (fun (a : Int × Int × List (List UInt8)) =>
 cond (decide (a.fst <= (↑(List.length b) : Int)))
 (cond (decide (a.fst = (↑(List.length b) : Int)))
 (zi (0 <= a.snd.fst /\ a.snd.fst <= a.fst /\ a.fst <= (↑(List.length b) : Int)) (
 zi ((List.length (List.map SV.str a.snd.snd) + (1 : Nat)) * (16 : Nat) <= (70368744177664 : Nat)) (
 zf (IntKind.wrap .i64 (a.fst + 1)) fun c =>
 zf (IntKind.wrap .i64 (a.fst + 1)) fun d =>
 some (.inl ((d, c, a.snd.snd ++ [List.drop (Int.toNat a.snd.fst) (List.take (Int.toNat a.fst) b)]))))))
 (zh b (a.fst) fun e =>
 cond (decide ((↑(UInt8.toNat e) : Int) = k))
 (zi (0 <= a.snd.fst /\ a.snd.fst <= a.fst /\ a.fst <= (↑(List.length b) : Int)) (
 zi ((List.length (List.map SV.str a.snd.snd) + (1 : Nat)) * (16 : Nat) <= (70368744177664 : Nat)) (
 zf (IntKind.wrap .i64 (a.fst + 1)) fun f =>
 zf (IntKind.wrap .i64 (a.fst + 1)) fun g =>
 some (.inl ((g, f, a.snd.snd ++ [List.drop (Int.toNat a.snd.fst) (List.take (Int.toNat a.fst) b)]))))))
 (zf (IntKind.wrap .i64 (a.fst + 1)) fun i =>
 some (.inl ((i, a.snd))))))
 (some (.inr (.inl (a.snd.snd))))) ((0, 0, [])))
 (Sum.elim (fun (j : List (List UInt8)) =>
 some j) some)
def zmh (a : List UInt8) : Option (Bool) :=
 cond (decide (1 < (↑(List.length a) : Int)))
 (zh a (0) fun g =>
 cond (decide ((↑(UInt8.toNat g) : Int) = 45))
 (zh a (1) fun i =>
 cond (!decide ((↑(UInt8.toNat i) : Int) = 48))
 (zi ((0 : Int) <= (1 : Int) /\ (1 : Int) <= (↑(List.length a) : Int)) (
 cond (decide ((↑(List.length (List.drop (Int.toNat 1) (List.take (Int.toNat (↑(List.length a) : Int)) a))) : Int) = 0))
 (some (false))
 (cond (decide (1 < (↑(List.length (List.drop (Int.toNat 1) (List.take (Int.toNat (↑(List.length a) : Int)) a))) : Int)))
 (zh (List.drop (Int.toNat 1) (List.take (Int.toNat (↑(List.length a) : Int)) a)) (0) fun j =>
 cond (decide ((↑(UInt8.toNat j) : Int) = 48))
 (some (false))
 (Option.bind (
 lpO (fun (b : Int) =>
 cond (decide (b < (↑(List.length (List.drop (Int.toNat 1) (List.take (Int.toNat (↑(List.length a) : Int)) a))) : Int)))
 (zh (List.drop (Int.toNat 1) (List.take (Int.toNat (↑(List.length a) : Int)) a)) b fun k =>
 (ug ((↑(UInt8.toNat k) : Int))).bind fun l =>
 cond (!l)
 (some (.inr (.inr (false))))
 (zf (IntKind.wrap .i64 (b + 1)) fun m =>
 some (.inl m)))
 (some (.inr (.inl ())))) (0))
 (Sum.elim (fun (_ : Unit) =>
 some (true)) some)))
 (Option.bind (
 lpO (fun (c : Int) =>
 cond (decide (c < (↑(List.length (List.drop (Int.toNat 1) (List.take (Int.toNat (↑(List.length a) : Int)) a))) : Int)))
 (zh (List.drop (Int.toNat 1) (List.take (Int.toNat (↑(List.length a) : Int)) a)) c fun n =>
 (ug ((↑(UInt8.toNat n) : Int))).bind fun o =>
 cond (!o)
 (some (.inr (.inr (false))))
 (zf (IntKind.wrap .i64 (c + 1)) fun p =>
 some (.inl p)))
 (some (.inr (.inl ())))) (0))
 (Sum.elim (fun (_ : Unit) =>
 some (true)) some)))))
 (cond (decide ((↑(List.length a) : Int) = 0))
 (some (false))
 (zh a (0) fun q =>
 cond (decide ((↑(UInt8.toNat q) : Int) = 48))
 (some (false))
 (Option.bind (
 lpO (fun (d : Int) =>
 cond (decide (d < (↑(List.length a) : Int)))
 (zh a d fun s =>
 (ug ((↑(UInt8.toNat s) : Int))).bind fun t =>
 cond (!t)
 (some (.inr (.inr (false))))
 (zf (IntKind.wrap .i64 (d + 1)) fun u =>
 some (.inl u)))
 (some (.inr (.inl ())))) (0))
 (Sum.elim (fun (_ : Unit) =>
 some (true)) some)))))
 (cond (decide ((↑(List.length a) : Int) = 0))
 (some (false))
 (zh a (0) fun v =>
 cond (decide ((↑(UInt8.toNat v) : Int) = 48))
 (some (false))
 (Option.bind (
 lpO (fun (e : Int) =>
 cond (decide (e < (↑(List.length a) : Int)))
 (zh a e fun w =>
 (ug ((↑(UInt8.toNat w) : Int))).bind fun x =>
 cond (!x)
 (some (.inr (.inr (false))))
 (zf (IntKind.wrap .i64 (e + 1)) fun y =>
 some (.inl y)))
 (some (.inr (.inl ())))) (0))
 (Sum.elim (fun (_ : Unit) =>
 some (true)) some)))))
 (cond (decide ((↑(List.length a) : Int) = 0))
 (some (false))
 (Option.bind (
 lpO (fun (f : Int) =>
 cond (decide (f < (↑(List.length a) : Int)))
 (zh a f fun z =>
 (ug ((↑(UInt8.toNat z) : Int))).bind fun A =>
 cond (!A)
 (some (.inr (.inr (false))))
 (zf (IntKind.wrap .i64 (f + 1)) fun C =>
 some (.inl C)))
 (some (.inr (.inl ())))) (0))
 (Sum.elim (fun (_ : Unit) =>
 some (true)) some)))
def zmf (d : List UInt8) (s : Int) (t : Int) : Option (Int × Int) :=
 (zmh d).bind fun f =>
 cond (!f)
 (some ((0, 6)))
 (zh d (0) fun g =>
 Option.bind (
 lpO (fun (a : Int × Int) =>
 cond (decide (a.fst < (↑(List.length d) : Int)))
 (zh d (a.fst) fun i =>
 cond (decide ((↑(UInt8.toNat i) : Int) = 45))
 (zf (IntKind.wrap .i64 (a.fst + 1)) fun j =>
 some (.inl ((j, a.snd))))
 (zh d (a.fst) fun k =>
 zf (IntKind.wrap .u8 ((↑(UInt8.toNat k) : Int) - 48)) fun l =>
 zf (IntKind.wrap .i64 l) fun e =>
 zf (IntKind.wrap .i64 ((-9223372036854775808 : Int) + e)) fun m =>
 zf (IntKind.wrap .i64 (Int.tdiv m 10)) fun n =>
 cond (decide (a.snd < n))
 (some (.inr (.inr ((0, 7)))))
 (zf (IntKind.wrap .i64 (10 * a.snd)) fun o =>
 zf (IntKind.wrap .i64 (o - e)) fun p =>
 zf (IntKind.wrap .i64 (a.fst + 1)) fun q =>
 some (.inl ((q, p))))))
 (some (.inr (.inl (a.snd))))) ((0, 0)))
 (Sum.elim (fun (b : Int) =>
 cond (!decide ((↑(UInt8.toNat g) : Int) = 45))
 (cond (decide (b = (-9223372036854775808 : Int)))
 (some ((0, 7)))
 (zf (IntKind.wrap .i64 (0 - b)) fun c =>
 cond (decide (c < s))
 (some ((0, 7)))
 (cond (decide (t < c))
 (some ((0, 7)))
 (some ((c, 0))))))
 (cond (decide (b < s))
 (some ((0, 7)))
 (cond (decide (t < b))
 (some ((0, 7)))
 (some ((b, 0)))))) some))
def zfs (e : List UInt8) : Option (Int × Int) :=
 Option.bind (
 lpO (fun (a : Int) =>
 cond (decide (a < 5))
 ((zks).bind fun b =>
 zh b a fun c =>
 cond (decide (c = e))
 (some (.inr (.inr ((a, 0)))))
 (zf (IntKind.wrap .i64 (a + 1)) fun d =>
 some (.inl d)))
 (some (.inr (.inl ())))) (1))
 (Sum.elim (fun (_ : Unit) =>
 some ((0, 4))) some)
def zi4 (c : TL) (f : List UInt8) : Option (Int × Int) :=
 (zd6 c).bind fun b =>
 cond (!decide (b.snd = 0))
 (some ((0, b.snd)))
 (Option.bind (
 lpO (fun (a : Int) =>
 cond (decide (a < (↑(List.length (List.map SV.str c.Names)) : Int)))
 (zh (c.Names) a fun d =>
 cond (decide (d = f))
 (some (.inr (.inr ((a, 0)))))
 (zf (IntKind.wrap .i64 (a + 1)) fun e =>
 some (.inl e)))
 (some (.inr (.inl ())))) (0))
 (Sum.elim (fun (_ : Unit) =>
 some ((0, 4))) some))
def zfe (t : TP) (u : List UInt8) : Option (TE × Int) :=
 (zc3 u (32)).bind fun b =>
 cond (!decide ((↑(List.length (List.map SV.str b)) : Int) = 7))
 (some ((TE.mk 0 0 0 0 0 (0, 0), 6)))
 (Option.bind (
 lpO (fun (a : Int × List Int) =>
 cond (decide (a.fst < 4))
 (zi (0 <= a.fst /\ a.fst < (↑(4 : Nat) : Int)) (
 zh ([0, 4, 5, 6]) ((↑(Int.toNat a.fst) : Int)) fun i =>
 zh b i fun j =>
 (zmf j ((-9223372036854775808 : Int)) (9223372036854775807)).bind fun d =>
 cond (!decide (d.snd = 0))
 (some (.inr (.inr ((TE.mk 0 0 0 0 0 (0, 0), 6)))))
 (zi (0 <= a.fst /\ a.fst < (↑(4 : Nat) : Int)) (
 zh (a.snd) ((↑(Int.toNat a.fst) : Int)) fun _ =>
 zf (IntKind.wrap .i64 (a.fst + 1)) fun k =>
 some (.inl ((k, List.set a.snd (Int.toNat a.fst) d.fst)))))))
 (some (.inr (.inl (a.snd))))) ((0, [0, 0, 0, 0])))
 (Sum.elim (fun (c : List Int) =>
 zh b (1) fun l =>
 (zfs l).bind fun e =>
 zh b (2) fun m =>
 (zi4 (t.Lattice) m).bind fun f =>
 zh b (3) fun n =>
 (zi4 (t.Lattice) n).bind fun g =>
 cond (!decide (e.snd = 0))
 (some ((TE.mk 0 0 0 0 0 (0, 0), 4)))
 (cond (!decide (f.snd = 0))
 (some ((TE.mk 0 0 0 0 0 (0, 0), 4)))
 (cond (!decide (g.snd = 0))
 (some ((TE.mk 0 0 0 0 0 (0, 0), 4)))
 (zh c ((↑(Int.toNat 0) : Int)) fun o =>
 zh c ((↑(Int.toNat 1) : Int)) fun p =>
 zh c ((↑(Int.toNat 2) : Int)) fun q =>
 zh c ((↑(Int.toNat 3) : Int)) fun s =>
 some ((TE.mk o e.fst f.fst g.fst p (q, s), 0)))))) some))
def zff (g : TP) (q : List UInt8) : Option (List TE × Int × Int) :=
 (zg1 g).bind fun e =>
 cond (!decide (e.snd.snd = 0))
 (some (([], 0, e.snd.snd)))
 ((zc3 q (10)).bind fun b =>
 cond (decide (200000 < (↑(List.length q) : Int)))
 (some (([], 0, 3)))
 (zf (IntKind.wrap .i64 ((↑(List.length (List.map SV.str b)) : Int) - 1)) fun i =>
 cond (decide (2000 < i))
 (some (([], 0, 3)))
 (zf (IntKind.wrap .i64 ((↑(List.length (List.map SV.str b)) : Int) - 1)) fun j =>
 zh b j fun k =>
 cond (!decide (k = (ByteArray.mk #[]).data.toList))
 (some (([], 0, 6)))
 (Option.bind (
 lpO (fun (a : Int × List TE) =>
 zf (IntKind.wrap .i64 (a.fst + 1)) fun l =>
 cond (decide (l < (↑(List.length (List.map SV.str b)) : Int)))
 (zh b (a.fst) fun m =>
 (zfe g m).bind fun c =>
 cond (!decide (c.snd = 0))
 (zf (IntKind.wrap .i64 (a.fst + 1)) fun n =>
 some (.inr (.inr (([], n, c.snd)))))
 (zi ((List.length (List.map zx a.snd) + (1 : Nat)) * (56 : Nat) <= (70368744177664 : Nat)) (
 zf (IntKind.wrap .i64 (a.fst + 1)) fun o =>
 some (.inl ((o, a.snd ++ [c.fst]))))))
 (some (.inr (.inl (a.snd))))) ((0, [])))
 (Sum.elim (fun (f : List TE) =>
 (zgs g f).bind fun d =>
 cond (!decide (d.snd = 0))
 (zf (IntKind.wrap .i64 (d.fst + 1)) fun p =>
 some (([], p, d.snd)))
 (some ((f, 0, 0)))) some)))))
def zah (d : List TE) (f : List TE) : Option (Bool) :=
 cond (!decide ((↑(List.length (List.map zx d)) : Int) = (↑(List.length (List.map zx f)) : Int)))
 (some (false))
 (Option.bind (
 lpO (fun (c : Int) =>
 cond (decide (c < (↑(List.length (List.map zx d)) : Int)))
 (zh d c fun a =>
 zh f c fun b =>
 cond (!(decide (a.Site = b.Site) && (decide (a.Fold = b.Fold) && (decide (a.From = b.From) && (decide (a.Goal = b.Goal) && (decide (a.Cells = b.Cells) && (decide (a.Value.fst = b.Value.fst) && (decide (a.Value.snd = b.Value.snd) && true) && true)))))))
 (some (.inr (.inr (false))))
 (zf (IntKind.wrap .i64 (c + 1)) fun e =>
 some (.inl e)))
 (some (.inr (.inl ())))) (0))
 (Sum.elim (fun (_ : Unit) =>
 some (true)) some))
def zua (a : TP) (g : List TE) (d : List UInt8) : Option (Bool) :=
 (Fz2 a).bind fun x =>
 cond x
 (some (true))
 ((Fz3 g).bind fun y =>
 cond y
 (some (true))
 (cond (decide (2000 < (↑(List.length d) : Int)))
 (cond (decide ((↑(List.length d) : Int) <= 200000))
 (some (true))
 (cond (decide (200010 < (↑(List.length d) : Int)))
 (some (true))
 ((xY a g).bind fun e =>
 (zkb a g).bind fun m =>
 (zdk a d).bind fun b =>
 (zff a d).bind fun i =>
 cond (!decide (e.fst = m.fst))
 (some (false))
 (cond (!decide (e.snd = m.snd))
 (some (false))
 ((zah (b.fst) (i.fst)).bind fun t =>
 cond (!t)
 (some (false))
 (cond (!decide (b.snd.fst = i.snd.fst))
 (some (false))
 (cond (!decide (b.snd.snd = i.snd.snd))
 (some (false))
 (cond (decide (e.snd = 0))
 ((zdk a (e.fst)).bind fun j =>
 cond (!decide (j.snd.snd = 0))
 (some (false))
 (cond (!decide (j.snd.fst = 0))
 (some (false))
 ((zah (j.fst) g).bind fun u =>
 cond (!u)
 (some (false))
 (cond (decide (b.snd.snd = 0))
 ((xY a (b.fst)).bind fun n =>
 cond (!decide (n.snd = 0))
 (some (false))
 (cond (!decide (n.fst = d))
 (some (false))
 (some (true))))
 (some (true))))))
 (cond (decide (b.snd.snd = 0))
 ((xY a (b.fst)).bind fun o =>
 cond (!decide (o.snd = 0))
 (some (false))
 (cond (!decide (o.fst = d))
 (some (false))
 (some (true))))
 (some (true)))))))))))
 (cond (decide (200010 < (↑(List.length d) : Int)))
 (some (true))
 ((xY a g).bind fun f =>
 (zkb a g).bind fun p =>
 (zdk a d).bind fun c =>
 (zff a d).bind fun k =>
 cond (!decide (f.fst = p.fst))
 (some (false))
 (cond (!decide (f.snd = p.snd))
 (some (false))
 ((zah (c.fst) (k.fst)).bind fun v =>
 cond (!v)
 (some (false))
 (cond (!decide (c.snd.fst = k.snd.fst))
 (some (false))
 (cond (!decide (c.snd.snd = k.snd.snd))
 (some (false))
 (cond (decide (f.snd = 0))
 ((zdk a (f.fst)).bind fun l =>
 cond (!decide (l.snd.snd = 0))
 (some (false))
 (cond (!decide (l.snd.fst = 0))
 (some (false))
 ((zah (l.fst) g).bind fun w =>
 cond (!w)
 (some (false))
 (cond (decide (c.snd.snd = 0))
 ((xY a (c.fst)).bind fun q =>
 cond (!decide (q.snd = 0))
 (some (false))
 (cond (!decide (q.fst = d))
 (some (false))
 (some (true))))
 (some (true))))))
 (cond (decide (c.snd.snd = 0))
 ((xY a (c.fst)).bind fun s =>
 cond (!decide (s.snd = 0))
 (some (false))
 (cond (!decide (s.fst = d))
 (some (false))
 (some (true))))
 (some (true))))))))))))
end Go.Sx.O
end
namespace Go.Sx.O
open Go
theorem zk2 {α τ : Type} {l : List α} (p : α -> Bool) {step : Int -> Option (Int ⊕ τ)} {d : τ} {g : Int -> τ}
 (h1 : ∀ (k : Nat) x, l[k]? = some x -> step (k : Int) = if p x then some (.inr (g k)) else some (.inl ((k : Int) + 1)))
 (h2 : step (l.length : Int) = some (.inr d)) :
 lpO step 0 = (match l.findIdx? p with | some i => some (g i) | none => some d) := by
 have key : ∀ j k, j + k = l.length -> lpO step (k : Int) = (match (l.drop k).findIdx? p with | some i => some (g ((k + i : Nat) : Int)) | none => some d) := by
  intro j
  induction j with
  | zero =>
    intro k hk
    rw [qn]
    have : k = l.length := by omega
    subst this
    rw [h2]
    simp
  | succ j ih =>
    intro k hk
    have hlt : k < l.length := by omega
    rw [qn, h1 k _ (List.getElem?_eq_getElem hlt), List.drop_eq_getElem_cons hlt, List.findIdx?_cons]
    split
    . simp
    . have := ih (k + 1) (by omega)
      simp only [Option.bind_some, Sum.elim_inl]
      push_cast at this
      rw [this]
      cases (l.drop (k + 1)).findIdx? p with
      | none => rfl
      | some i => simp; congr 1; omega
 have := key l.length 0 (by omega)
 simpa using this
open Go
theorem dropWhile_nil {α : Type} {p : α -> Bool} : ∀ {l : List α}, l.dropWhile p = [] ↔ ∀ x ∈ l, p x = true
 | [] => by simp
 | a :: l => by
   rw [List.dropWhile_cons]
   cases h : p a with
   | true => simp [h, dropWhile_nil (l := l)]
   | false => simp [h]
theorem uA (l : List (List UInt8)) (s : List UInt8) (hl : l.length <= 1000000000) :
 zo6 l s = some (match l.findIdx? (fun x => decide (s = x)) with | some i => (i : Int) | none => -1) := by
 unfold zo6
 rw [zk2 (l := l) (fun x => decide (s = x)) (d := .inl ()) (g := .inr) ?_ ?_]
 . cases l.findIdx? (fun x => decide (s = x)) <;> rfl
 . intro k x hx
   have hlt : k < l.length := by
    by_cases h : k < l.length
    . exact h
    . rw [List.getElem?_eq_none (by omega)] at hx; cases hx
   simp only [List.length_map, Int.ofNat_lt, hlt, decide_true, cond_true, zh, Int.toNat_natCast, hx, Option.bind_some, zf, Int.natCast_nonneg, if_true]
   rw [w64 (by omega) (by omega)]
   cases decide (s = x) <;> rfl
 . simp
theorem xp (l : List (List UInt8)) (s : List UInt8) (hl : l.length <= 1000000000) :
 zt0 l s = some (decide (s ∈ l)) := by
 unfold zt0
 rw [uA l s hl]
 cases h : l.findIdx? (fun x => decide (s = x)) with
 | none =>
   have := List.findIdx?_eq_none_iff.1 h
   simp only [Option.bind_some]
   congr 1
   have hn : s ∉ l := fun hm => by have := this s hm; simp at this
   simp [hn]
 | some i =>
   have := List.findIdx?_eq_some_iff_getElem.1 h
   obtain ⟨hi, h1, _⟩ := this
   have hm : s ∈ l := by
    have e : s = l[i] := by simpa using h1
    rw [e]; exact List.getElem_mem hi
   simp [hm]
def yZ (set : List Bool) (c : UInt8) : Bool := set.getD c.toNat false
theorem zdm (set : List Bool) (c : UInt8) (h : set.length = 256) : Fz7 set (c.toNat : Int) = some (yZ set c) := by
 unfold Fz7
 have hc : c.toNat < 256 := c.toNat_lt
 have h2 : set[c.toNat]? = some (set[c.toNat]'(by omega)) := List.getElem?_eq_getElem _
 have h3 : (c.toNat : Int) < 256 := by omega
 simp [zi, zh, yZ, h2, h3]
def uh (p : UInt8 -> Bool) (s : List UInt8) : List UInt8 := (s.reverse.dropWhile p).reverse
theorem zww {p : UInt8 -> Bool} {s : List UInt8} : (uh p s).dropWhile p = [] ↔ ∀ c ∈ s, p c = true := by
 unfold uh
 constructor
 . intro h c hc
   have h1 : ∀ c ∈ (s.reverse.dropWhile p).reverse, p c = true := dropWhile_nil.1 h
   have h2 : s.reverse.dropWhile p = [] := by
    cases e : s.reverse.dropWhile p with
    | nil => rfl
    | cons a r =>
      have := List.head?_dropWhile_not p s.reverse
      rw [e] at this
      simp at this
      rw [e] at h1
      rw [h1 a (by simp)] at this
      cases this
   exact dropWhile_nil.1 h2 c (by simpa using hc)
 . intro h
   have : s.reverse.dropWhile p = [] := dropWhile_nil.2 fun c hc => h c (by simpa using hc)
   rw [this]; rfl
theorem zdq (s : List UInt8) (set : List Bool) (h : set.length = 256) (hs : s.length <= 1000000000) : Fz8 s set = some (uh (yZ set) s) := by
 unfold Fz8
 apply Tot.eq
 simp only [zy]
 refine Tot.loop (fun s => s.length) (fun r => r.length <= 1000000000 /\ uh (yZ set) r = uh (yZ set) s) ?_ ⟨hs, rfl⟩
 rintro r ⟨hr, he⟩
 simp only [zv, zE, qh, qu, qM, zy, Sum.elim_inl, Sum.elim_inr, decide_eq_true_eq, decide_eq_false_iff_not]
 refine ⟨fun h1 => ?_, fun h1 => ?_⟩
 . have h0 : r ≠ [] := by rintro rfl; simp at h1
   rw [w64 (by omega) (by omega)]
   have e1 : ((r.length : Int) - 1).toNat = r.length - 1 := by omega
   rw [e1]
   refine ⟨by omega, _, List.getElem?_eq_getElem (by omega), ?_⟩
   rw [zdm set _ h]
   simp only [zv, Bool.not_eq_true', Bool.not_eq_false']
   have hr2 : r = r.dropLast ++ [r[r.length - 1]'(by omega)] := by
    rw [<- List.getLast_eq_getElem h0]; exact (List.dropLast_concat_getLast h0).symm
   refine ⟨fun h2 => ?_, fun h2 => ⟨⟨by omega, by omega⟩, ⟨by simp; omega, ?_⟩, by simp; omega⟩⟩
   . rw [<- he]
     unfold uh
     rw [hr2]
     simp [h2]
   . rw [<- he]
     simp only [Int.toNat_zero, List.drop_zero]
     rw [<- List.dropLast_eq_take]
     conv => rhs; rw [hr2]
     unfold uh
     simp [h2]
 . have h0 : r = [] := List.length_eq_zero_iff.1 (by omega)
   rw [<- he, h0]; rfl
theorem ze1 (s : List UInt8) (set : List Bool) (h : set.length = 256) (hs : s.length <= 1000000000) : Fz9 s set = some (s.dropWhile (yZ set)) := by
 unfold Fz9
 apply Tot.eq
 simp only [zy]
 refine Tot.loop (fun s => s.length) (fun r => r.length <= 1000000000 /\ r.dropWhile (yZ set) = s.dropWhile (yZ set)) ?_ ⟨hs, rfl⟩
 rintro r ⟨hr, he⟩
 simp only [zv, zE, qh, qu, qM, zy, Sum.elim_inl, Sum.elim_inr, decide_eq_true_eq, decide_eq_false_iff_not]
 cases r with
 | nil => simp [<- he]
 | cons a r =>
   refine ⟨fun h1 => ⟨by omega, a, rfl, ?_⟩, fun h1 => absurd h1 (by simp)⟩
   rw [zdm set _ h]
   simp only [zv, Bool.not_eq_true', Bool.not_eq_false']
   refine ⟨fun h2 => ?_, fun h2 => ⟨by simp; omega, ⟨?_, ?_⟩, ?_⟩⟩
   . rw [<- he]; simp [h2]
   . simp at hr ⊢; omega
   . rw [<- he]; simp [h2]
   . simp
open Go
theorem zvw {set : List Bool} {c d : UInt8} (h : set.length = 256) : yZ (set.set c.toNat true) d = (decide (d = c) || yZ set d) := by
 have hc : c.toNat < 256 := c.toNat_lt
 unfold yZ
 rw [List.getD_eq_getElem?_getD, List.getD_eq_getElem?_getD, List.getElem?_set]
 by_cases e : c.toNat = d.toNat
 . have : d = c := (UInt8.toNat_inj.1 e).symm
   subst this
   simp [h, hc]
 . have : d ≠ c := fun e' => e (by rw [e'])
   simp [e, this]
theorem zf2 (cs : List UInt8) (h : ∀ c ∈ cs, c.toNat < 128) (hs : cs.length <= 1000000000) : Tot (Fz6 cs) fun r => r.2 = true /\ r.1.length = 256 /\ ∀ d, yZ r.1 d = decide (d ∈ cs) := by
 unfold Fz6
 simp only [zy]
 refine Tot.count cs.length (fun k s => s.1 = (k : Int) /\ s.2.length = 256 /\ ∀ d, yZ s.2 d = decide (d ∈ cs.take k)) ?_ ⟨rfl, List.length_replicate, fun d => ?_⟩
 . rintro k ⟨i, set⟩ hk ⟨h0, h1, h2⟩
   simp only at h0 h1 h2
   subst h0
   simp only [zv, zE, qh, qu, qM, Sum.elim_inl, Sum.elim_inr, decide_eq_true_eq, decide_eq_false_iff_not, Int.toNat_natCast]
   refine ⟨fun hlt => ⟨by omega, _, List.getElem?_eq_getElem (by omega), fun h3 => ?_, fun h3 => ?_⟩, fun hlt => ?_⟩
   . have := h cs[k] (List.getElem_mem _)
     omega
   . have hc : cs[k].toNat < 256 := (cs[k]'(by omega)).toNat_lt
     refine ⟨⟨by omega, by omega⟩, by omega, _, List.getElem?_eq_getElem (by omega), ?_⟩
     rw [w64 (by omega) (by omega)]
     refine ⟨by omega, by omega, by simpa using h1, fun d => ?_⟩
     have hm : d ∈ cs.take (k + 1) ↔ d ∈ cs.take k \/ d = cs[k] := by
      rw [List.take_add_one, List.getElem?_eq_getElem (by omega), List.mem_append]
      simp
     rw [zvw h1, h2, Bool.eq_iff_iff]
     simp only [Bool.or_eq_true, decide_eq_true_eq, hm]
     exact or_comm
   . refine ⟨trivial, h1, fun d => ?_⟩
     rw [h2, List.take_of_length_le (by omega)]
 . unfold yZ
   rw [List.getD_eq_getElem?_getD, List.getElem?_replicate]
   split <;> simp
theorem zvq (s cs : List UInt8) (h : ∀ c ∈ cs, c.toNat < 128) (h1 : 2 <= cs.length) (hs : cs.length <= 1000000000) (hl : s.length <= 1000000000) :
 zsr s cs = some ((uh (fun c => decide (c ∈ cs)) s).dropWhile (fun c => decide (c ∈ cs))) := by
 unfold zsr
 have e0 : (ByteArray.mk #[]).data.toList = [] := rfl
 simp only [e0]
 cases s with
 | nil => simp [uh]
 | cons a r =>
   have e1 : decide (a :: r = []) = false := by simp
   have e2 : decide (cs = []) = false := by cases cs <;> simp at h1 ⊢
   have e3 : decide ((cs.length : Int) = 1) = false := by simp; omega
   simp only [e1, e2, e3, cond_false]
   obtain ⟨x, hx, hx1, hx2, hx3⟩ := zf2 cs h hs
   have e4 : yZ x.1 = fun c => decide (c ∈ cs) := funext hx3
   rw [hx]
   simp only [Option.bind_some, hx1, cond_true]
   rw [zdq _ _ hx2 hl]
   simp only [Option.bind_some]
   rw [ze1 _ _ hx2 (by
    refine Nat.le_trans ?_ hl
    unfold uh
    rw [List.length_reverse]
    refine Nat.le_trans (List.dropWhile_sublist _).length_le (by simp))]
   rw [e4]
   rfl
def wordSet : List UInt8 := [97, 98, 99, 100, 101, 102, 103, 104, 105, 106, 107, 108, 109, 110, 111, 112, 113, 114, 115, 116, 117, 118, 119, 120, 121, 122, 48, 49, 50, 51, 52, 53, 54, 55, 56, 57, 45]
def uo (s : List UInt8) : Bool := decide (s.length <= 16) && (match s with | [] => false | c :: _ => decide (97 <= c.toNat) && decide (c.toNat <= 122)) && s.all fun c => decide (c ∈ wordSet)
theorem zlh (s : List UInt8) (hl : s.length <= 1000000000) : zsi s = some (uo s) := by
 unfold zsi
 have e0 : (ByteArray.mk #[]).data.toList = [] := rfl
 simp only [e0]
 rw [zvq s _ (by decide) (by decide) (by decide) hl]
 cases s with
 | nil => rfl
 | cons a r =>
   have e1 : decide (a :: r = []) = false := by simp
   simp only [e1, cond_false, Option.bind_some]
   have e5 : zh (a :: r) 0 = fun f => (f a : Option Bool) := rfl
   simp only [e5]
   unfold uo
   by_cases h1 : (16 : Int) < ((a :: r).length : Int)
   . have : ¬ (a :: r).length <= 16 := by omega
     simp only [h1, decide_true, cond_true, this, decide_false, Bool.false_and]
   . have h1' : (a :: r).length <= 16 := by omega
     simp only [h1, decide_false, cond_false, h1', decide_true, Bool.true_and]
     by_cases h2 : (a.toNat : Int) < 97
     . have : ¬ 97 <= a.toNat := by omega
       simp only [h2, decide_true, cond_true, this, decide_false, Bool.false_and]
     . have h2' : 97 <= a.toNat := by omega
       simp only [h2, decide_false, cond_false, h2', decide_true, Bool.true_and]
       by_cases h3 : (122 : Int) < (a.toNat : Int)
       . have : ¬ a.toNat <= 122 := by omega
         simp only [h3, decide_true, cond_true, this, decide_false, Bool.false_and]
       . have h3' : a.toNat <= 122 := by omega
         simp only [h3, decide_false, cond_false, h3', decide_true, Bool.true_and]
         congr 1
         rw [Bool.eq_iff_iff, decide_eq_true_eq, zww, List.all_eq_true]
         rfl
open Go
theorem zC7 : ∀ u : Fin 256, ∀ b : Fin 9, bits .and .u8 (Int.fdiv (u.val : Int) (2 ^ min b.val (IntKind.bits .u8))) 1 = if Nat.testBit u b then 1 else 0 := by decide +kernel
theorem zdj {u : Int} {b : Nat} (h0 : 0 <= u) (h1 : u < 256) (hb : b <= 8) : bits .and .u8 (Int.fdiv u (2 ^ min b (IntKind.bits .u8))) 1 = if u.toNat.testBit b then 1 else 0 := by
 have := zC7 ⟨u.toNat, by omega⟩ ⟨b, by omega⟩
 simp only at this
 rw [Int.toNat_of_nonneg h0] at this
 exact this
theorem xX {u : Int} (h0 : 0 <= u) : BitVec.ofInt 8 u = BitVec.ofNat 8 u.toNat := by
 conv => lhs; rw [<- Int.toNat_of_nonneg h0]
 exact BitVec.ofInt_natCast 8 u.toNat
theorem zkc {n : Nat} (h : n < 256) : IntKind.wrap .u8 (n : Int) = n := by
 simp only [IntKind.wrap, IntKind.signed, IntKind.bits, Bool.false_and]
 have h3 : (2 : Int) ^ 8 = 256 := by decide
 simp only [h3]
 have : (n : Int) % 256 = n := by omega
 simp [this]
theorem zdi {a b : Int} (ha : 0 <= a) (ha' : a < 256) (hb : 0 <= b) (hb' : b < 256) : bits .and .u8 a b = ((a.toNat &&& b.toNat : Nat) : Int) := by
 have e : bits .and .u8 a b = IntKind.wrap .u8 ((BitVec.ofInt 8 a &&& BitVec.ofInt 8 b).toNat : Int) := rfl
 rw [e, xX ha, xX hb]
 rw [zkc (BitVec.isLt _)]
 rw [BitVec.toNat_and, BitVec.toNat_ofNat, BitVec.toNat_ofNat, Nat.mod_eq_of_lt (by omega), Nat.mod_eq_of_lt (by omega)]
theorem zrf {a b : Int} (ha : 0 <= a) (ha' : a < 256) (hb : 0 <= b) (hb' : b < 256) : bits .or .u8 a b = ((a.toNat ||| b.toNat : Nat) : Int) := by
 have e : bits .or .u8 a b = IntKind.wrap .u8 ((BitVec.ofInt 8 a ||| BitVec.ofInt 8 b).toNat : Int) := rfl
 rw [e, xX ha, xX hb]
 rw [zkc (BitVec.isLt _)]
 rw [BitVec.toNat_or, BitVec.toNat_ofNat, BitVec.toNat_ofNat, Nat.mod_eq_of_lt (by omega), Nat.mod_eq_of_lt (by omega)]
theorem zb3 {a b : Int} (ha : 0 <= a) (ha' : a < 256) (hb : 0 <= b) (hb' : b < 256) : bits .andNot .u8 a b = 0 ↔ ∀ i, a.toNat.testBit i = true -> b.toNat.testBit i = true := by
 have e : bits .andNot .u8 a b = IntKind.wrap .u8 ((BitVec.ofInt 8 a &&& ~~~BitVec.ofInt 8 b).toNat : Int) := rfl
 rw [e, xX ha, xX hb]
 rw [zkc (BitVec.isLt _)]
 have hbit : ∀ i, (BitVec.ofNat 8 a.toNat &&& ~~~BitVec.ofNat 8 b.toNat).getLsbD i = (decide (i < 8) && a.toNat.testBit i && !(b.toNat.testBit i)) := by
  intro i
  rw [BitVec.getLsbD_and, BitVec.getLsbD_not, BitVec.getLsbD_ofNat, BitVec.getLsbD_ofNat]
  cases decide (i < 8) <;> simp
 have h8 : ∀ i, a.toNat.testBit i = true -> i < 8 := by
  intro i hi
  rcases Nat.lt_or_ge i 8 with g | g
  . exact g
  . rw [Nat.testBit_lt_two_pow (Nat.lt_of_lt_of_le (show a.toNat < 2 ^ 8 by omega) (Nat.pow_le_pow_right (by omega) g))] at hi
    cases hi
 constructor
 . intro h i hi
   have h0 : (BitVec.ofNat 8 a.toNat &&& ~~~BitVec.ofNat 8 b.toNat).toNat = 0 := Int.ofNat_eq_zero.1 h
   have h1 := hbit i
   rw [<- BitVec.testBit_toNat, h0, Nat.zero_testBit] at h1
   have := h8 i hi
   simp [this, hi] at h1
   exact h1
 . intro h
   have h1 : (BitVec.ofNat 8 a.toNat &&& ~~~BitVec.ofNat 8 b.toNat).toNat = 0 := by
    apply Nat.eq_of_testBit_eq
    intro i
    rw [BitVec.testBit_toNat, hbit i, Nat.zero_testBit]
    cases hi : a.toNat.testBit i with
    | false => simp
    | true => simp [h i hi]
   rw [h1]; rfl
theorem zez {a b : Nat} (h : a < 256) : a &&& b < 256 := Nat.lt_of_le_of_lt Nat.and_le_left h
theorem zEb {a b : Nat} (h : a < 256) (k : b < 256) : a ||| b < 256 := Nat.or_lt_two_pow (n := 8) h k
theorem zp7 (ns : List (List UInt8)) (h : ns.length <= 20) (hn : ∀ s ∈ ns, s.length <= 1000) : Tot (zkt ns) fun r => r.2 = 0 -> 1 <= ns.length /\ ns.length <= 8 := by
 unfold zkt
 simp only [zE, zv, zy, List.length_map, decide_eq_true_eq, decide_eq_false_iff_not]
 refine ⟨fun _ h => absurd h (by decide), fun h1 => ⟨fun _ h => absurd h (by decide), fun h2 => ?_⟩⟩
 refine Tot.count ns.length (fun k s => s = (k : Int)) ?_ rfl
 rintro k _ hk rfl
 simp only [zv, zE, qh, qu, qM, zy, Sum.elim_inl, Sum.elim_inr, decide_eq_true_eq, decide_eq_false_iff_not, Int.toNat_natCast]
 refine ⟨fun hlt => ⟨by omega, _, List.getElem?_eq_getElem (by omega), ?_⟩, fun hlt => fun _ => by omega⟩
 rw [zlh _ (by have := hn ns[k] (List.getElem_mem _); omega), zv]
 refine ⟨fun _ h => absurd h (by decide), fun _ => ⟨⟨by omega, by omega⟩, ?_⟩⟩
 rw [xp _ _ (by simp; omega), zv]
 refine ⟨fun _ h => absurd h (by decide), fun _ => ?_⟩
 rw [w64 (by omega) (by omega)]
 exact ⟨by omega, by omega⟩
open Go
def U8s (l : List Int) : Prop := ∀ x ∈ l, 0 <= x /\ x < 256
theorem U8s.get {l : List Int} (h : U8s l) {i : Nat} {x : Int} (hx : l[i]? = some x) : 0 <= x /\ x < 256 := h x (List.mem_of_getElem? hx)
theorem U8s.set {l : List Int} (h : U8s l) {i : Nat} {x : Int} (h0 : 0 <= x) (h1 : x < 256) : U8s (l.set i x) := by
 intro y hy
 rcases List.mem_or_eq_of_mem_set hy with g | g
 . exact h y g
 . subst g; exact ⟨h0, h1⟩
theorem zms {e : Int} : 0 <= IntKind.wrap .u8 e /\ IntKind.wrap .u8 e < 256 := by
 simp only [IntKind.wrap, IntKind.signed, IntKind.bits, Bool.false_and]
 have h3 : (2 : Int) ^ 8 = 256 := by decide
 simp only [h3]
 refine ⟨?_, ?_⟩ <;> simp <;> omega
theorem orU {a b : Int} (ha : 0 <= a) (ha' : a < 256) (hb : 0 <= b) (hb' : b < 256) : 0 <= bits .or .u8 a b /\ bits .or .u8 a b < 256 := by
 rw [zrf ha ha' hb hb']
 have := zEb (a := a.toNat) (b := b.toNat) (by omega) (by omega)
 omega
theorem zG {α : Type} {l : List α} {i : Nat} (h : i < l.length) : ∃ x, l[i]? = some x := ⟨_, List.getElem?_eq_getElem h⟩
theorem zx2 (l : TL) (hu : U8s l.Up) (hn : l.Names.length <= 8) (hl : l.Up.length <= 8) :
 Tot (zhk l) fun o => o.n_ = l.Names.length /\ o.up_.length = 8 /\ o.down_.length = 8 /\ U8s o.up_ /\ U8s o.down_ := by
 unfold zhk
 simp only [zy, List.length_map]
 refine Tot.count l.Up.length (fun k s => s.1 = (k : Int) /\ s.2.1.length = 8 /\ s.2.2.length = 8 /\ U8s s.2.1 /\ U8s s.2.2) ?_ ⟨rfl, rfl, rfl, by intro x hx; simp at hx; omega, by intro x hx; simp at hx; omega⟩
 rintro k ⟨i, up, down⟩ hk ⟨h0, h1, h2, h3, h4⟩
 simp only at h0 h1 h2 h3 h4
 subst h0
 simp only [zv, zE, qh, qu, qM, zy, Sum.elim_inl, Sum.elim_inr, decide_eq_true_eq, decide_eq_false_iff_not, Int.toNat_natCast]
 refine ⟨fun hlt => ?_, fun hlt => ⟨trivial, h1, h2, h3, h4⟩⟩
 obtain ⟨x, hx⟩ := zG (l := l.Up) (i := k) (by omega)
 obtain ⟨y, hy⟩ := zG (l := up) (i := k) (by omega)
 refine ⟨by omega, x, hx, ⟨by omega, by omega⟩, by omega, y, hy, ?_⟩
 have hx' := hu.get hx
 refine Tot.count l.Names.length (fun j s => s.1 = (j : Int) /\ s.2.length = 8 /\ U8s s.2) ?_ ⟨rfl, h2, h4⟩
 rintro j ⟨i', d⟩ hj ⟨g0, g1, g2⟩
 simp only at g0 g1 g2
 subst g0
 simp only [zv, zE, qh, qu, qM, zy, Sum.elim_inl, Sum.elim_inr, decide_eq_true_eq, decide_eq_false_iff_not, Int.toNat_natCast]
 refine ⟨fun hlt' => ?_, fun _ => ?_⟩
 . obtain ⟨z, hz⟩ := zG (l := d) (i := j) (by omega)
   have hz' := g2.get hz
   rw [w64 (by omega) (by omega)]
   refine ⟨⟨by omega, by omega⟩, by omega, z, hz, by omega, by omega, ⟨by omega, by omega⟩, by omega, z, hz, by omega, by omega, by simpa using g1, ?_⟩
   have hw := zms (e := bits .and .u8 (Int.fdiv x (2 ^ min j (IntKind.bits .u8))) 1 * 2 ^ min k (IntKind.bits .u8))
   have ho := orU hz'.1 hz'.2 hw.1 hw.2
   exact g2.set ho.1 ho.2
 . rw [w64 (by omega) (by omega)]
   exact ⟨by omega, by omega, by simpa using h1, g1, h3.set hx'.1 hx'.2, g2⟩
theorem zbr (m : List Int) (n : Nat) (a b : Nat) (hm : m.length = 8) (hu : U8s m) (hn : n <= 8) (ha : a < n) (hb : b < n) : Tot (zjx m n a b) fun _ => True := by
 unfold zjx
 obtain ⟨x, hx⟩ := zG (l := m) (i := a) (by omega)
 obtain ⟨y, hy⟩ := zG (l := m) (i := b) (by omega)
 simp only [zv, zE, qh, qu, qM, zy, Int.toNat_natCast]
 refine ⟨⟨by omega, by omega⟩, by omega, x, hx, ⟨by omega, by omega⟩, by omega, y, hy, ?_⟩
 refine Tot.count n (fun k s => s = (k : Int)) ?_ rfl
 rintro k _ hk rfl
 simp only [zv, zE, qh, qu, qM, zy, Sum.elim_inl, Sum.elim_inr, decide_eq_true_eq, decide_eq_false_iff_not, Int.toNat_natCast]
 refine ⟨fun hlt => ⟨by omega, fun _ => ?_, fun _ => ?_⟩, fun _ => trivial⟩
 . obtain ⟨z, hz⟩ := zG (l := m) (i := k) (by omega)
   rw [w64 (by omega) (by omega)]
   exact ⟨⟨by omega, by omega⟩, by omega, z, hz, fun _ => trivial, fun _ => ⟨by omega, by omega⟩⟩
 . rw [w64 (by omega) (by omega)]
   exact ⟨by omega, by omega⟩
theorem zfy (m : List Int) (n : Nat) (a b : Nat) (hm : m.length = 8) (hu : U8s m) (hn : n <= 8) (ha : a < n) (hb : b < n) : Tot (zr6 m n a b) fun _ => True := zbr m n a b hm hu hn ha hb
theorem zsq (x : Int) (h0 : 0 <= x) (h1 : x < 256) : Tot (zje x) fun _ => True := by
 unfold zje
 rw [qu]
 refine ⟨h0, ?_⟩
 have key : ∀ l : List UInt8, l.length = 256 -> ∃ y, l[x.toNat]? = some y /\ Tot (zf (IntKind.wrap .i64 (y.toNat : Int)) fun z => some z) fun _ => True := by
  intro l hl
  obtain ⟨y, hy⟩ := zG (l := l) (i := x.toNat) (by omega)
  exact ⟨y, hy, .mk trivial⟩
 exact key _ (by decide +kernel)
def up (l : TL) (a b : Nat) : Bool := (l.Up.getD a 0).toNat.testBit b
def uk (l : TL) (a b : Nat) : Prop := up l a b = true -> (b ≠ a -> up l b a = false) /\ ∀ i, i < l.Names.length -> up l b i = true -> up l a i = true
structure LatOK (l : TL) : Prop where
 pos : 1 <= l.Names.length
 le : l.Names.length <= 8
 len : l.Up.length = l.Names.length
 u8 : U8s l.Up
 self : ∀ a, a < l.Names.length -> up l a a = true
 row : ∀ a, a < l.Names.length -> ∀ b, b < l.Names.length -> uk l a b
theorem xu {l : TL} {a : Nat} {x : Int} (h : l.Up[a]? = some x) (b : Nat) : up l a b = x.toNat.testBit b := by
 unfold up; rw [List.getD_eq_getElem?_getD, h]; rfl
theorem zna (n : Nat) (h : n <= 8) (i : Nat) : (IntKind.wrap .u8 (IntKind.wrap .u8 (1 * 2 ^ min n (IntKind.bits .u8)) - 1)).toNat.testBit i = decide (i < n) := by
 have key : ∀ n : Fin 9, (IntKind.wrap .u8 (IntKind.wrap .u8 (1 * 2 ^ min n.val (IntKind.bits .u8)) - 1)).toNat = 2 ^ n.val - 1 := by decide +kernel
 rw [key ⟨n, by omega⟩]
 exact Nat.testBit_two_pow_sub_one n i
theorem zlp (l : TL) (hu : U8s l.Up) (hn : l.Names.length <= 20) (hs : ∀ s ∈ l.Names, s.length <= 1000) : Tot (zbz l) fun r => r.2 = 0 -> LatOK l := by
 unfold zbz
 simp only [zy, List.length_map]
 refine (zp7 l.Names hn hs).mono fun x53 h53 => ?_
 simp only [zE, zv, Bool.not_eq_true', Bool.not_eq_false', decide_eq_true_eq, decide_eq_false_iff_not]
 refine ⟨fun h h' => absurd h' h, fun h => ⟨fun _ h' => absurd h' (by decide), fun hlen => ?_⟩⟩
 obtain ⟨p1, p8⟩ := h53 h
 have hlen' : l.Up.length = l.Names.length := by omega
 rw [qM, qh, qh, zy]
 refine ⟨by omega, ?_⟩
 rw [Int.toNat_natCast]
 have hmask := zna l.Names.length p8
 have hm0 := zms (e := IntKind.wrap .u8 (1 * 2 ^ min l.Names.length (IntKind.bits .u8)) - 1)
 revert hmask hm0
 generalize IntKind.wrap .u8 (IntKind.wrap .u8 (1 * 2 ^ min l.Names.length (IntKind.bits .u8)) - 1) = mask
 intro hmask hm0
 refine Tot.count l.Names.length (fun k s => s = (k : Int) /\ (∀ a, a < k -> up l a a = true) /\ ∀ a, a < k -> ∀ b, b < l.Names.length -> uk l a b) ?_ ⟨rfl, fun a ha => absurd ha (by omega), fun a ha => absurd ha (by omega)⟩
 rintro k _ hk ⟨rfl, hself, hrow⟩
 simp only [zE, zv, qh, Sum.elim_inl, Sum.elim_inr, decide_eq_true_eq, decide_eq_false_iff_not]
 refine ⟨fun hlt => ?_, fun hlt => ?_⟩
 . -- a round
   simp only [qu, Int.toNat_natCast]
   obtain ⟨x, hx⟩ := zG (l := l.Up) (i := k) (by omega)
   have hx' := hu.get hx
   refine ⟨by omega, x, hx, ?_⟩
   rw [zy]
   refine (zsq x hx'.1 hx'.2).mono fun x91 _ => ?_
   simp only [zE, zv, qM, Sum.elim_inl, Sum.elim_inr, decide_eq_true_eq, decide_eq_false_iff_not, Int.toNat_natCast]
   refine ⟨fun _ h' => absurd h' (by decide), fun _ => ⟨by omega, fun _ h' => absurd h' (by decide), fun hs => ?_⟩⟩
   rw [zdj hx'.1 hx'.2 (by omega), <- xu hx] at hs
   have hkk : up l k k = true := by
    cases e : up l k k with
    | true => rfl
    | false => rw [e] at hs; simp at hs
   rw [zy]
   refine Tot.count l.Names.length (fun j s => s = (j : Int) /\ ∀ b, b < j -> uk l k b) ?_ ⟨rfl, fun b hb => absurd hb (by omega)⟩
   rintro j _ hj ⟨rfl, hr⟩
   have fin : (∀ b, b < l.Names.length -> uk l k b) -> k < l.Names.length /\ IntKind.wrap .i64 ((k : Int) + 1) = ((k + 1 : Nat) : Int) /\ (∀ a, a < k + 1 -> up l a a = true) /\ ∀ a, a < k + 1 -> ∀ b, b < l.Names.length -> uk l a b := by
    intro hall
    rw [w64 (by omega) (by omega)]
    refine ⟨by omega, by omega, fun a ha => ?_, fun a ha => ?_⟩
    . rcases Nat.lt_or_ge a k with g | g
      . exact hself a g
      . have : a = k := by omega
        subst this; exact hkk
    . rcases Nat.lt_or_ge a k with g | g
      . exact hrow a g
      . have : a = k := by omega
        subst this; exact hall
   have ext : ∀ {b}, uk l k j -> b < j + 1 -> uk l k b := by
    intro b h hb
    rcases Nat.lt_or_ge b j with g | g
    . exact hr b g
    . have : b = j := by omega
      subst this; exact h
   simp only [zE, zv, qh, qM, Sum.elim_inl, Sum.elim_inr, decide_eq_true_eq, decide_eq_false_iff_not, Bool.not_eq_true', Bool.not_eq_false', Int.toNat_natCast]
   refine ⟨fun hjl => ?_, fun hjl => ?_⟩
   . simp only [qu, Int.toNat_natCast]
     obtain ⟨y, hy⟩ := zG (l := l.Up) (i := j) (by omega)
     have hy' := hu.get hy
     refine ⟨by omega, y, hy, ?_⟩
     simp only [zE, zv, qh, qM, Sum.elim_inl, Sum.elim_inr, decide_eq_true_eq, decide_eq_false_iff_not, Bool.not_eq_true', Bool.not_eq_false', Int.toNat_natCast]
     rw [zdj hx'.1 hx'.2 (by omega), <- xu hx]
     rw [w64 (e := (l.Names.length : Int) - 1) (by omega) (by omega)]
     have stay : uk l k j -> ((j : Int) = (l.Names.length : Int) - 1 -> k < l.Names.length /\ IntKind.wrap .i64 ((k : Int) + 1) = ((k + 1 : Nat) : Int) /\ (∀ a, a < k + 1 -> up l a a = true) /\ ∀ a, a < k + 1 -> ∀ b, b < l.Names.length -> uk l a b) /\ (¬ (j : Int) = (l.Names.length : Int) - 1 -> j < l.Names.length /\ IntKind.wrap .i64 ((j : Int) + 1) = ((j + 1 : Nat) : Int) /\ ∀ b, b < j + 1 -> uk l k b) := by
      intro hrow'
      refine ⟨fun e => fin fun b hb => ext hrow' (by omega), fun e => ?_⟩
      rw [w64 (by omega) (by omega)]
      exact ⟨by omega, by omega, fun b hb => ext hrow' hb⟩
     refine ⟨by omega, fun hb => ?_, fun hb => ⟨fun hne => ⟨by omega, fun _ h' => absurd h' (by decide), fun hba => ⟨fun _ h' => absurd h' (by decide), fun han => ?_⟩⟩, fun heq => ⟨fun _ h' => absurd h' (by decide), fun han => ?_⟩⟩⟩
     . refine stay fun hup => ?_
       rw [hup] at hb; simp at hb
     . refine stay fun _ => ⟨fun _ => ?_, fun i hi hyi => ?_⟩
       . rw [zdj hy'.1 hy'.2 (by omega), <- xu hy] at hba
         cases e : up l j k with
         | false => rfl
         | true => rw [e] at hba; simp at hba
       . rw [zdi hy'.1 hy'.2 hm0.1 hm0.2] at han
         have hand := zez (a := y.toNat) (b := mask.toNat) (by omega)
         have := (zb3 (by omega) (by omega) hx'.1 hx'.2).1 han i (by
          rw [Int.toNat_natCast, Nat.testBit_and, hmask, <- xu hy, hyi]; simp [hi])
         rw [xu hx]; exact this
     . refine stay fun _ => ⟨fun hne => absurd (by omega) hne, fun i hi hyi => ?_⟩
       rw [zdi hy'.1 hy'.2 hm0.1 hm0.2] at han
       have hand := zez (a := y.toNat) (b := mask.toNat) (by omega)
       have := (zb3 (by omega) (by omega) hx'.1 hx'.2).1 han i (by
        rw [Int.toNat_natCast, Nat.testBit_and, hmask, <- xu hy, hyi]; simp [hi])
       rw [xu hx]; exact this
   . exact fin fun b hb => hr b (by omega)
 . -- the end
   have hk' : k = l.Names.length := by omega
   subst hk'
   have good : LatOK l := ⟨p1, p8, hlen', hu, hself, hrow⟩
   rw [zy]
   refine (zx2 l hu p8 (by omega)).mono fun o ho => ?_
   obtain ⟨_, o1, o2, o3, o4⟩ := ho
   rw [zy]
   refine Tot.count l.Names.length (fun j s => s = (j : Int)) ?_ rfl
   rintro j _ hj rfl
   simp only [zE, zv, qh, zy, Sum.elim_inl, Sum.elim_inr, decide_eq_true_eq, decide_eq_false_iff_not]
   refine ⟨fun hlt => ?_, fun _ _ => good⟩
   refine Tot.count l.Names.length (fun i s => s = (i : Int)) ?_ rfl
   rintro i _ hi rfl
   simp only [zE, zv, qh, zy, Sum.elim_inl, Sum.elim_inr, decide_eq_true_eq, decide_eq_false_iff_not]
   refine ⟨fun hlt' => ?_, fun _ => ?_⟩
   . refine (zbr _ _ _ _ o1 o3 p8 (by omega) (by omega)).mono fun b1 _ => ⟨fun _ h' => absurd h' (by decide), fun _ => ?_⟩
     refine (zfy _ _ _ _ o2 o4 p8 (by omega) (by omega)).mono fun b2 _ => ⟨fun _ h' => absurd h' (by decide), fun _ => ?_⟩
     rw [w64 (by omega) (by omega)]
     exact ⟨by omega, by omega⟩
   . rw [w64 (by omega) (by omega)]
     exact ⟨by omega, by omega⟩
end Go.Sx.O
noncomputable section
namespace Go.Sx.O
open Go
structure LatIn (l : TL) : Prop where
 u8 : U8s l.Up
 names : l.Names.length <= 20
 name : ∀ s ∈ l.Names, s.length <= 1000
def qG (l : TL) : Int × Int := (zbz l).getD (0, 0)
theorem uf {l : TL} (h : LatIn l) : zbz l = some (qG l) := by
 obtain ⟨r, e, _⟩ := zlp l h.u8 h.names h.name
 unfold qG; rw [e]; rfl
theorem uF {l : TL} (h : LatIn l) (k : (qG l).2 = 0) : LatOK l := by
 obtain ⟨r, e, q⟩ := zlp l h.u8 h.names h.name
 have := uf h
 rw [e] at this; cases this
 exact q k
def wv (l : TL) (a : Int) : Bool := decide (0 <= a) && decide (a < (l.Names.length : Int))
def zb4 (l : TL) (xs : List Int) : Int := if (qG l).2 = 0 then (if xs.all (wv l) then 0 else 7) else (qG l).2
theorem zgb {l : TL} (h : LatIn l) (xs : List Int) (hx : xs.length <= 1000000000) : zo5 l xs = some (zb4 l xs) := by
 unfold zo5 zb4
 rw [uf h]
 simp only [Option.bind_some]
 by_cases h0 : (qG l).2 = 0
 . simp only [h0, decide_true, Bool.not_true, cond_false, if_true]
   apply Tot.eq
   simp only [zy, List.length_map]
   refine Tot.count xs.length (fun k s => s = (k : Int) /\ (xs.take k).all (wv l) = true) ?_ ⟨rfl, by simp⟩
   rintro k _ hk ⟨rfl, hall⟩
   simp only [zE, zv, qh, qu, Sum.elim_inl, Sum.elim_inr, decide_eq_true_eq, decide_eq_false_iff_not, Int.toNat_natCast]
   refine ⟨fun hlt => ?_, fun hlt => ?_⟩
   . obtain ⟨x, hx'⟩ := zG (l := xs) (i := k) (by omega)
     have hm := List.mem_of_getElem? hx'
     have bad : wv l x = false -> (7 : Int) = if xs.all (wv l) = true then 0 else 7 := by
      intro e
      have : xs.all (wv l) = false := by
       rw [List.all_eq_false]; exact ⟨x, hm, by simp [e]⟩
      simp [this]
     refine ⟨by omega, x, hx', fun g => bad (by unfold wv; simp; omega), fun g1 => ⟨fun g => bad (by unfold wv; simp; omega), fun g2 => ?_⟩⟩
     rw [w64 (by omega) (by omega)]
     refine ⟨by omega, by omega, ?_⟩
     rw [List.take_add_one, hx', List.all_append, hall]
     simp [wv]; omega
   . rw [List.take_of_length_le (by omega)] at hall
     simp [hall]
 . simp only [h0, decide_false, Bool.not_false, cond_true, if_false]
def zDr (l : TL) (a o : Int) : Bool := decide ((qG l).2 = 0) && wv l a && wv l o && up l a.toNat o.toNat
end Go.Sx.O
end
namespace Go.Sx.O
open Go
theorem zby (x : Int) : Tot (zev x) fun _ => True := by
 unfold zev
 simp only [zE, zv, implies_true, and_self]
open Go
theorem zjl {l : List UInt8} {c : UInt8} (h : c ∉ l) : Lib.indexByte l c = -1 := by
 induction l with
 | nil => rfl
 | cons a l ih =>
   simp only [List.mem_cons, not_or] at h
   have : (a == c) = false := by simp; exact fun e => h.1 e.symm
   simp [Lib.indexByte, this, ih h.2]
theorem zv9 {r : Int} (h0 : 128 <= r) (h1 : r < 256) : ∃ x y, (Utf8.encode r).data.toList = [x, y] /\ 128 <= y.toNat := by
 refine ⟨UInt8.ofNat (0xC0 + r.toNat / 64), UInt8.ofNat (0x80 + r.toNat % 64), ?_, ?_⟩
 . have hv : Utf8.valid r = true := by unfold Utf8.valid; simp; omega
   unfold Utf8.encode
   simp only [hv, if_true]
   rw [if_neg (by omega), if_pos (by omega)]
 . rw [UInt8.toNat_ofNat']; omega
theorem zin (s : List UInt8) (r : Int) (hs : ∀ c ∈ s, c.toNat < 128) (hl : s.length <= 1000) (h0 : 0 <= r) (h1 : r < 256) : Tot (zjw s r) fun _ => True := by
 unfold zjw
 have e0 : decide (0 <= r) = true := by simp [h0]
 simp only [e0, cond_true]
 rw [zE]
 refine ⟨fun _ => ?_, fun h2 => ?_⟩
 . rw [qh, zy]
   unfold zd2 qm
   simp only [Option.bind_some, zv]
 . simp only [decide_eq_false_iff_not] at h2
   obtain ⟨x, y, exy, hy⟩ := zv9 (r := r) (by omega) h1
   have e1 : decide (r = 65533) = false := by simp; omega
   simp only [e1, cond_false, exy]
   rw [zy]
   refine (zby r).mono fun v _ => ?_
   rw [zE]
   refine ⟨fun _ => .mk trivial, fun _ => ?_⟩
   rw [qh]
   have e2 : IntKind.wrap .i64 (((List.length [x, y] : Nat) : Int) - 1) = 1 := rfl
   rw [e2, zy]
   refine Tot.loop (fun _ => 0) (fun _ => True) (fun _ _ => ?_) trivial
   rw [zE]
   refine ⟨fun h3 => ?_, fun _ => ?_⟩
   . simp only [decide_eq_true_eq] at h3
     obtain ⟨c, hc⟩ := zG (l := s) (i := 1) (by omega)
     have hc' := hs c (List.mem_of_getElem? hc)
     have e3 : (1 : Int).toNat = 1 := rfl
     simp only [qu, e3]
     refine ⟨by omega, c, hc, by omega, y, rfl, ?_⟩
     have e4 : decide ((c.toNat : Int) = (y.toNat : Int)) = false := by simp; omega
     simp only [e4, Bool.not_false, cond_true]
     rw [qh]
     have e5 : IntKind.wrap .i64 (1 + 1) = 2 := rfl
     rw [e5, qM]
     refine ⟨by omega, ?_⟩
     simp only [qu, e3]
     refine ⟨by omega, y, rfl, ?_⟩
     unfold zd2 qm
     simp only [Option.bind_some]
     have hn : ((y.toNat : Int).toNat.toUInt8) = y := by simp
     rw [hn, zjl (fun hm => by
      have := hs y (List.mem_of_mem_take (List.mem_of_mem_drop hm))
      omega)]
     have e6 : decide ((-1 : Int) < 0) = true := rfl
     simp only [e6, cond_true, zv, Sum.elim_inr]
   . simp only [zv, Sum.elim_inr, Sum.elim_inl]
theorem zec (s : List UInt8) (r : Int) (hs : ∀ c ∈ s, c.toNat < 128) (hl : s.length <= 1000) (h0 : 0 <= r) (h1 : r < 256) : Tot (xO s r) fun _ => True := by
 unfold xO
 rw [zy]
 exact (zin s r hs hl h0 h1).mono fun _ _ => .mk trivial
theorem zpc {r : Int} (h0 : 0 <= r) (h1 : r < 256) : IntKind.wrap .i32 r = r := by
 simp only [IntKind.wrap, IntKind.signed, IntKind.bits]
 have h3 : (2 : Int) ^ 32 = 4294967296 := by decide
 have h4 : (2 : Int) ^ (32 - 1) = 2147483648 := by decide
 simp only [h3, h4, Bool.true_and, decide_eq_true_eq, ge_iff_le]
 split <;> omega
end Go.Sx.O
