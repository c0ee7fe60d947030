/-
  An own text of this claim.
-/
import Derived.Test.YtkmifafghlbeaaaGreatDoorQ3
namespace Go.Sx.Tz
open Go.Proofs Go.Sx.O
set_option maxRecDepth 100000
set_option maxHeartbeats 4000000
set_option linter.unusedSimpArgs false
theorem rg {α : Type} {f : Nat} {fn : Func} {vs : List SV} {r : SV} {x : Option α} {y : α} (cuts : List Nat) (hf : E.P.funcs[f]? = some fn) (h : x = some y) (hx : x.bind some = some y -> fnG E cuts fn vs fun v => Wk v r) (hB : fnB fn = true := by kernel_rfl) (hl : Nat.ble vs.length fn.ntmps = true := by exact rfl) : Ret E f vs r := zq1 ok hf hB hl (hx (zB8 h))
theorem Rz0 {b : List (List UInt8)} {r : Bool} (h : Fz0 b = some r) : Ret E 19 [zm 1 SV.str b] (SV.bool r) := by
 refine rg [0] Tryz.func19 h fun h => ?_
 refine zp (fun (f : Unit) => [(2, .fls), (0, (zm 1 SV.str) b)]) (fun _ => []) 1 h (fun f h => ?_) (fun j a d h => ?_)
 cases h; exact .r
 refine zl (fun (c : Int) => [(3, .int .i64 c), (2, .fls), (0, (zm 1 SV.str) b)]) (fun _ => []) 2 h zd (fun c i k e h => ?_)
 refine za h ?_ ?_ <;> intro _ h
 refine za h ?_ ?_ <;> intro _ h
 refine zt SV.str h rfl fun _ h => za h (fun _ h => ?_) fun _ h => ?_
 refine d ?_
 cases h; exact .r
 refine zb h fun g h => ?_
 exact e g h zd
 exact a (()) h zd
 exact a (()) h zd
theorem Rz1 {a : TL} {r : Bool} (h : Fz1 a = some r) : Ret E 9 [zH a] (SV.bool r) := by
 refine rg [] Tryz.func9 h fun h => ?_
 refine ze h (fun _ => Rz0) fun _ h => ?_
 refine zL h (fun b h => ?_) (fun b h => ?_)
 cases h; exact .r
 cases h; exact .r
theorem Rz2 {a : TP} {r : Bool} (h : Fz2 a = some r) : Ret E 4 [qe a] (SV.bool r) := by
 refine rg [0, 2] Tryz.func4 h fun h => ?_
 refine zp (fun (i : Unit) => [(2, .fls), (1, .ptr 0 [])]) (fun i => [(0, .var true (qe a))]) 1 h (fun i h => ?_) (fun v d j h => ?_)
 refine zp (fun (e : Unit) => [(2, .fls), (1, .ptr 0 [])]) (fun e => [(0, .var true (qe a))]) 1 h (fun e h => ?_) (fun s b f h => ?_)
 refine ze h (fun _ => Rz1) fun _ h => ?_
 refine zL h (fun k h => ?_) (fun k h => ?_)
 cases h; exact .r
 refine zL h (fun l h => ?_) (fun l h => ?_)
 cases h; exact .r
 refine zL h (fun m h => ?_) (fun m h => ?_)
 cases h; exact .r
 cases h; exact .r
 refine zl (fun (c : Int) => [(4, .int .i64 c), (2, .fls), (1, .ptr 0 [])]) (fun c => [(0, .var true (qe a))]) 2 h zd (fun c q t g h => ?_)
 refine za h ?_ ?_ <;> intro _ h
 refine za h ?_ ?_ <;> intro _ h
 refine zt wy h rfl fun _ h => za h (fun _ h => ?_) fun _ h => ?_
 refine f ?_
 cases h; exact .r
 refine zb h fun n h => ?_
 exact g n h zd
 exact b (()) h zd
 exact b (()) h zd
 refine zl (fun (s3 : Int) => [(3, .int .i64 s3), (2, .fls), (1, .ptr 0 [])]) (fun s3 => [(0, .var true (qe a))]) 3 h zd (fun s3 u w o h => ?_)
 refine za h ?_ ?_ <;> intro _ h
 refine za h ?_ ?_ <;> intro _ h
 refine zt zT h rfl fun _ h => za h (fun _ h => ?_) fun _ h => ?_
 refine j ?_
 cases h; exact .r
 refine zb h fun p h => ?_
 exact o p h zd
 exact d (()) h zd
 exact d (()) h zd
theorem Rz3 {a : List TE} {r : Bool} (h : Fz3 a = some r) : Ret E 5 [zm 7 zM a] (SV.bool r) := by
 refine rg [] Tryz.func5 h fun h => ?_
 refine za h ?_ ?_ <;> intro _ h
 refine zL h (fun b h => ?_) (fun b h => ?_)
 cases h; exact .r
 cases h; exact .r
 cases h; exact .r
theorem Rz4 {f : List UInt8} {d : Int} {r : List UInt8} (h : Fz4 f d = some r) : Ret E 158 [SV.str f, SV.int .u8 d] (SV.str r) := by
 refine rg [0] Tryz.func158 h fun h => ?_
 refine zp (fun (c : List UInt8) => [(4, .str ((ByteArray.mk #[]).data.toList)), (0, .str c)]) (fun _ => []) 1 h (fun c h => ?_) (fun k b i h => ?_)
 cases h; exact .r
 refine zl (fun (a : List UInt8) => [(4, .str ((ByteArray.mk #[]).data.toList)), (1, .int .u8 d), (0, .str a)]) (fun _ => []) 1 h zd (fun a j l e h => ?_)
 refine za h ?_ ?_ <;> intro _ h
 refine zb h fun m h => zy h fun n h => za h (fun _ h => ?_) fun _ h => ?_
 refine zb h fun g h => zo h fun _ h => ?_
 exact e (List.drop (Int.toNat (0 : Int)) (List.take (Int.toNat g) a)) h zd
 exact b a h zd
 exact b a h zd
theorem Rz5 {f : List UInt8} {d : Int} {r : List UInt8} (h : Fz5 f d = some r) : Ret E 157 [SV.str f, SV.int .u8 d] (SV.str r) := by
 refine rg [0] Tryz.func157 h fun h => ?_
 refine zp (fun (c : List UInt8) => [(4, .str ((ByteArray.mk #[]).data.toList)), (0, .str c)]) (fun _ => []) 1 h (fun c h => ?_) (fun j b g h => ?_)
 cases h; exact .r
 refine zl (fun (a : List UInt8) => [(4, .str ((ByteArray.mk #[]).data.toList)), (1, .int .u8 d), (0, .str a)]) (fun _ => []) 1 h zd (fun a i k e h => ?_)
 refine za h ?_ ?_ <;> intro _ h
 refine zy h fun l h => za h (fun _ h => ?_) fun _ h => ?_
 refine zo h fun _ h => ?_
 exact e (List.drop (Int.toNat (1 : Int)) (List.take (Int.toNat (↑(List.length a) : Int)) a)) h zd
 exact b a h zd
 exact b a h zd
theorem Rz6 {c : List UInt8} {r : List Bool × Bool} (h : Fz6 c = some r) : Ret E 159 [SV.str c] (SV.tup [qt 256 1 SV.bool r.fst, .bool r.snd]) := by
 refine rg [0] Tryz.func159 h fun h => ?_
 refine zp (fun (b : List Bool) => [(3, .fls), (2, .ptr 0 [])]) (fun b => [(0, .var true ((qt 256 1 SV.bool) b))]) 1 h (fun b h => ?_) (fun k d e h => ?_)
 cases h; exact .r
 refine zl (fun (a : Int × List Bool) => [(4, .int .i64 (a.fst)), (3, .fls), (2, .ptr 0 []), (0, .str c)]) (fun a => [(0, .var true ((qt 256 1 SV.bool) (a.snd)))]) 3 h (qx ⟨.refl _, .refl _, .refl _, .refl _, trivial⟩ ⟨(.var (.arr (zgf (by kernel_rfl)))), trivial⟩ rfl rfl rfl) (fun a j l f h => ?_)
 refine za h ?_ ?_ <;> intro _ h
 refine zy h fun i h => za h (fun _ h => ?_) fun _ h => ?_
 refine e ?_
 cases h; exact .r
 refine zo h fun _ h => zt SV.bool h rfl fun _ h => zb h fun g h => ?_
 exact f ((g, List.set a.snd (Int.toNat (↑(UInt8.toNat i) : Int)) true)) h (qx ⟨.refl _, .refl _, .refl _, .refl _, trivial⟩ ⟨(.var (.arr (.setm .refl .tru))), trivial⟩ rfl rfl rfl)
 exact d (a.snd) h zd
theorem Rz7 {a : List Bool} {b : Int} {r : Bool} (h : Fz7 a b = some r) : Ret E 177 [wW (qt 256 1 SV.bool) a, SV.int .u8 b] (SV.bool r) := by
 refine rg [] Tryz.func177 h fun h => ?_
 refine zo h fun _ h => zt SV.bool h rfl fun c h => ?_
 cases h; exact .r
theorem Rz8 {g : List UInt8} {e : List Bool} {r : List UInt8} (h : Fz8 g e = some r) : Ret E 161 [SV.str g, wW (qt 256 1 SV.bool) e] (SV.str r) := by
 refine rg [0] Tryz.func161 h fun h => ?_
 refine zp (fun (c : List UInt8) => [(4, .str ((ByteArray.mk #[]).data.toList)), (0, .str c)]) (fun _ => []) 1 h (fun c h => ?_) (fun k b i h => ?_)
 cases h; exact .r
 refine zl (fun (a : List UInt8) => [(4, .str ((ByteArray.mk #[]).data.toList)), (1, (wW (qt 256 1 SV.bool)) e), (0, .str a)]) (fun _ => []) 1 h zd (fun a j l d h => ?_)
 refine za h ?_ ?_ <;> intro _ h
 refine zb h fun _ h => zy h fun _ h => ze h (fun _ => Rz7) fun _ h => za h (fun _ h => ?_) fun _ h => ?_
 exact b a h zd
 refine zb h fun f h => zo h fun _ h => ?_
 exact d (List.drop (Int.toNat (0 : Int)) (List.take (Int.toNat f) a)) h zd
 exact b a h zd
theorem Rz9 {f : List UInt8} {e : List Bool} {r : List UInt8} (h : Fz9 f e = some r) : Ret E 160 [SV.str f, wW (qt 256 1 SV.bool) e] (SV.str r) := by
 refine rg [0] Tryz.func160 h fun h => ?_
 refine zp (fun (c : List UInt8) => [(4, .str ((ByteArray.mk #[]).data.toList)), (0, .str c)]) (fun _ => []) 1 h (fun c h => ?_) (fun j b g h => ?_)
 cases h; exact .r
 refine zl (fun (a : List UInt8) => [(4, .str ((ByteArray.mk #[]).data.toList)), (1, (wW (qt 256 1 SV.bool)) e), (0, .str a)]) (fun _ => []) 1 h zd (fun a i k d h => ?_)
 refine za h ?_ ?_ <;> intro _ h
 refine zy h fun l h => ze h (fun _ => Rz7) fun _ h => za h (fun _ h => ?_) fun _ h => ?_
 exact b a h zd
 refine zo h fun _ h => ?_
 exact d (List.drop (Int.toNat (1 : Int)) (List.take (Int.toNat (↑(List.length a) : Int)) a)) h zd
 exact b a h zd
theorem zEw {a : Int} {r : Bool} (h : zxe a = some r) : Ret E 208 [SV.int .u8 a] (SV.bool r) := by
 refine rg [] Tryz.func208 h fun h => ?_
 unfold zxe at h
 cases h; exact .r
theorem zA1 {a : List UInt8} {r : Int × Int} (h : zu6 a = some r) : Ret E 206 [SV.str a] (SV.tup [SV.int .i32 r.fst, SV.int .i64 r.snd]) := by
 refine rg [] Tryz.func206 h fun h => ?_
 refine za h ?_ ?_ <;> intro _ h
 cases h; exact .r
 refine zy h fun _ h => ?_
 exact uC h
theorem zxc {a : List UInt8} {r : Int × Int} (h : zsu a = some r) : Ret E 178 [SV.str a] (SV.tup [SV.int .i32 r.fst, SV.int .i64 r.snd]) := by
 refine rg [] Tryz.func178 h fun h => ?_
 refine za h ?_ ?_ <;> intro _ h
 refine zy h fun b h => za h (fun _ h => ?_) fun _ h => ?_
 refine zy h fun _ h => zb h fun _ h => ?_
 cases h; exact .r
 refine ze h (fun _ => zA1) fun c h => ?_
 cases h; exact .r
 refine ze h (fun _ => zA1) fun d h => ?_
 cases h; exact .r
theorem zDl {c : List UInt8} {r : Int × Int} (h : zBn c = some r) : Ret E 180 [SV.str c] (SV.tup [SV.int .i32 r.fst, SV.int .i64 r.snd]) := by
 refine rg [0] Tryz.func180 h fun h => ?_
 refine za h ?_ ?_ <;> intro _ h
 cases h; exact .r
 refine zb h fun l h => zy h fun _ h => zb h fun d h => za h (fun _ h => ?_) fun _ h => ?_
 cases h; exact .r
 refine zb h fun g h => zb h fun _ h => ?_
 refine zp (fun (e : Int) => [(5, .int .i64 e), (2, .int .i32 d), (4, .int .i64 ((↑(List.length c) : Int))), (3, .int .i64 0), (0, .str c)]) (fun _ => []) 1 h (fun e h => ?_) (fun m b j h => ?_)
 refine za h ?_ ?_ <;> intro _ h
 refine zo h fun _ h => ze h (fun _ => zxc) fun n h => zb h fun _ h => za h (fun _ h => ?_) fun _ h => ?_
 cases h; exact .r
 cases h; exact .r
 refine zo h fun _ h => ze h (fun _ => zxc) fun o h => zb h fun p h => za h (fun _ h => ?_) fun _ h => ?_
 cases h; exact .r
 cases h; exact .r
 refine zl (fun (a : Int) => [(5, .int .i64 a), (6, .int .i64 (max g 0)), (2, .int .i32 d), (4, .int .i64 ((↑(List.length c) : Int))), (3, .int .i64 0), (0, .str c)]) (fun _ => []) 24 h zd (fun a k q f h => ?_)
 refine za h ?_ ?_ <;> intro _ h
 refine zy h fun s h => ze h (fun _ => zEw) fun t h => za h (fun _ h => ?_) fun _ h => ?_
 exact b a h zd
 refine zb h fun i h => ?_
 exact f i h zd
 exact b a h zd
theorem zwv {a : List UInt8} {b : Int} {r : Int} (h : zdz a b = some r) : Ret E 238 [SV.str a, SV.int .u8 b] (SV.int .i64 r) := by
 refine rg [] Tryz.func238 h fun h => ?_
 refine ze h (fun _ => jV) fun _ h => ?_
 cases h; exact .r
theorem zvx {a : Int} {r : Bool} (h : zd1 a = some r) : Ret E 239 [SV.int .i32 a] (SV.bool r) := by
 refine rg [] Tryz.func239 h fun h => ?_
 refine za h ?_ ?_ <;> intro _ h
 refine za h ?_ ?_ <;> intro _ h
 cases h; exact .r
 refine za h ?_ ?_ <;> intro _ h
 refine za h ?_ ?_ <;> intro _ h
 cases h; exact .r
 cases h; exact .r
 cases h; exact .r
 refine za h ?_ ?_ <;> intro _ h
 refine za h ?_ ?_ <;> intro _ h
 cases h; exact .r
 cases h; exact .r
 cases h; exact .r
theorem zEc {d : List UInt8} {a : Int} {r : Int} (h : ziu d a = some r) : Ret E 207 [SV.str d, SV.int .i32 a] (SV.int .i64 r) := by
 refine rg [9, 1, 3, 5, 7] Tryz.func207 h fun h => ?_
 refine za h ?_ ?_ <;> intro _ h
 refine za h ?_ ?_ <;> intro _ h
 refine zb h fun Z h => ze h (fun _ => zwv) fun _ h => ?_
 cases h; exact .r
 refine za h ?_ ?_ <;> intro _ h
 exact uC h
 refine ze h (fun _ => zvx) fun a2 h => za h (fun _ h => ?_) fun _ h => ?_
 cases h; exact .r
 refine zb h fun b h => ?_
 refine zp (fun (y : Unit) => [(9, .int .i64 b), (8, .int .i64 b), (7, .str ((Utf8.encode a).data.toList)), (4, .int .i64 0), (1, .int .i32 a), (0, .str d)]) (fun _ => []) 1 h (fun y h => ?_) (fun a3 n e h => ?_)
 cases h; exact .r
 refine zl (fun (z : Unit) => [(10, .int .i64 0), (9, .int .i64 b), (8, .int .i64 b), (7, .str ((Utf8.encode a).data.toList)), (4, .int .i64 0), (1, .int .i32 a), (0, .str d)]) (fun _ => []) 25 h zd (fun z N a4 O h => ?_)
 refine za h ?_ ?_ <;> intro _ h
 refine ⟨by trivial, ?_⟩
 refine zy h fun a5 h => zy h fun a6 h => za h (fun _ h => ?_) fun _ h => ?_
 refine ⟨by trivial, ?_⟩
 refine zb h fun _ h => zo h fun _ h => zy h fun a7 h => ze h (fun _ => zwv) fun a8 h => za h (fun _ h => ?_) fun _ h => ?_
 refine e ?_
 cases h; exact .r
 refine zb h fun a9 h => zb h fun g h => ?_
 refine zp (fun (A : Unit) => [(9, .int .i64 g), (10, .int .i64 0), (8, .int .i64 b), (7, .str ((Utf8.encode a).data.toList)), (4, .int .i64 0), (1, .int .i32 a), (0, .str d)]) (fun _ => []) 1 h (fun A h => ?_) (fun b0 o P h => ?_)
 refine zb h fun b1 h => ?_
 refine e ?_
 cases h; exact .r
 refine zl (fun (i : Int) => [(12, .int .i64 i), (9, .int .i64 g), (10, .int .i64 0), (8, .int .i64 b), (7, .str ((Utf8.encode a).data.toList)), (4, .int .i64 0), (1, .int .i32 a), (0, .str d)]) (fun _ => []) 53 h zd (fun i Q b2 p h => ?_)
 refine za h ?_ ?_ <;> intro _ h
 refine ⟨by trivial, ?_⟩
 refine zb h fun _ h => zy h fun _ h => zb h fun _ h => zy h fun _ h => za h (fun _ h => ?_) fun _ h => ?_
 exact uC h
 refine zb h fun C h => ?_
 exact p C h zd
 exact o (()) h zd
 refine zp (fun (D : Unit) => [(10, .int .i64 0), (9, .int .i64 b), (8, .int .i64 b), (7, .str ((Utf8.encode a).data.toList)), (4, .int .i64 0), (1, .int .i32 a), (0, .str d)]) (fun _ => []) 1 h (fun D h => ?_) (fun b3 q R h => ?_)
 refine zb h fun b4 h => ?_
 refine e ?_
 cases h; exact .r
 refine zl (fun (j : Int) => [(12, .int .i64 j), (10, .int .i64 0), (9, .int .i64 b), (8, .int .i64 b), (7, .str ((Utf8.encode a).data.toList)), (4, .int .i64 0), (1, .int .i32 a), (0, .str d)]) (fun _ => []) 37 h zd (fun j S b5 s h => ?_)
 refine za h ?_ ?_ <;> intro _ h
 refine ⟨by trivial, ?_⟩
 refine zb h fun _ h => zy h fun _ h => zb h fun b6 h => zy h fun _ h => za h (fun _ h => ?_) fun _ h => ?_
 exact uC h
 refine zb h fun F h => ?_
 exact s F h zd
 exact q (()) h zd
 exact n (()) h zd
 refine za h ?_ ?_ <;> intro _ h
 exact uC h
 refine ze h (fun _ => zvx) fun b7 h => za h (fun _ h => ?_) fun _ h => ?_
 cases h; exact .r
 refine zb h fun c h => ?_
 refine zp (fun (G : Unit) => [(9, .int .i64 c), (8, .int .i64 c), (7, .str ((Utf8.encode a).data.toList)), (4, .int .i64 0), (1, .int .i32 a), (0, .str d)]) (fun _ => []) 1 h (fun G h => ?_) (fun b8 t f h => ?_)
 cases h; exact .r
 refine zl (fun (H : Unit) => [(10, .int .i64 0), (9, .int .i64 c), (8, .int .i64 c), (7, .str ((Utf8.encode a).data.toList)), (4, .int .i64 0), (1, .int .i32 a), (0, .str d)]) (fun _ => []) 23 h zd (fun H T b9 U h => ?_)
 refine za h ?_ ?_ <;> intro _ h
 refine ⟨by trivial, ?_⟩
 refine zy h fun c0 h => zy h fun _ h => za h (fun _ h => ?_) fun _ h => ?_
 refine ⟨by trivial, ?_⟩
 refine zb h fun _ h => zo h fun _ h => zy h fun _ h => ze h (fun _ => zwv) fun c2 h => za h (fun _ h => ?_) fun _ h => ?_
 refine f ?_
 cases h; exact .r
 refine zb h fun _ h => zb h fun k h => ?_
 refine zp (fun (I : Unit) => [(9, .int .i64 k), (10, .int .i64 0), (8, .int .i64 c), (7, .str ((Utf8.encode a).data.toList)), (4, .int .i64 0), (1, .int .i32 a), (0, .str d)]) (fun _ => []) 1 h (fun I h => ?_) (fun c3 u V h => ?_)
 refine zb h fun _ h => ?_
 refine f ?_
 cases h; exact .r
 refine zl (fun (l : Int) => [(12, .int .i64 l), (9, .int .i64 k), (10, .int .i64 0), (8, .int .i64 c), (7, .str ((Utf8.encode a).data.toList)), (4, .int .i64 0), (1, .int .i32 a), (0, .str d)]) (fun _ => []) 51 h zd (fun l W c4 v h => ?_)
 refine za h ?_ ?_ <;> intro _ h
 refine ⟨by trivial, ?_⟩
 refine zb h fun c5 h => zy h fun _ h => zb h fun c6 h => zy h fun c7 h => za h (fun _ h => ?_) fun _ h => ?_
 exact uC h
 refine zb h fun J h => ?_
 exact v J h zd
 exact u (()) h zd
 refine zp (fun (K : Unit) => [(10, .int .i64 0), (9, .int .i64 c), (8, .int .i64 c), (7, .str ((Utf8.encode a).data.toList)), (4, .int .i64 0), (1, .int .i32 a), (0, .str d)]) (fun _ => []) 1 h (fun K h => ?_) (fun c8 w X h => ?_)
 refine zb h fun c9 h => ?_
 refine f ?_
 cases h; exact .r
 refine zl (fun (m : Int) => [(12, .int .i64 m), (10, .int .i64 0), (9, .int .i64 c), (8, .int .i64 c), (7, .str ((Utf8.encode a).data.toList)), (4, .int .i64 0), (1, .int .i32 a), (0, .str d)]) (fun _ => []) 35 h zd (fun m Y d0 x h => ?_)
 refine za h ?_ ?_ <;> intro _ h
 refine ⟨by trivial, ?_⟩
 refine zb h fun d1 h => zy h fun d2 h => zb h fun d3 h => zy h fun d4 h => za h (fun L h => ?_) (fun L h => ?_)
 exact uC h
 refine zb h fun M h => ?_
 exact x M h zd
 exact w (()) h zd
 exact t (()) h zd
theorem zfk {a : List UInt8} {b : Int} {r : Bool} (h : xB a b = some r) : Ret E 179 [SV.str a, SV.int .i32 b] (SV.bool r) := by
 refine rg [] Tryz.func179 h fun h => ?_
 refine ze h (fun _ => zEc) fun c h => ?_
 cases h; exact .r
theorem zA6 {i : List UInt8} {e : List UInt8} {r : List UInt8} (h : zvk i e = some r) : Ret E 163 [SV.str i, .str e] (SV.str r) := by
 refine rg [0] Tryz.func163 h fun h => ?_
 refine zp (fun (d : List UInt8) => [(4, .str ((ByteArray.mk #[]).data.toList)), (0, .str d)]) (fun _ => []) 1 h (fun d h => ?_) (fun l b j h => ?_)
 cases h; exact .r
 refine zl (fun (a : List UInt8) => [(4, .str ((ByteArray.mk #[]).data.toList)), (1, .str e), (0, .str a)]) (fun _ => []) 1 h zd (fun a k m c h => ?_)
 refine za h ?_ ?_ <;> intro _ h
 refine zb h fun _ h => zy h fun _ h => zb h fun n h => za h (fun _ h => ?_) fun _ h => ?_
 refine ze h (fun _ => zDl) fun o h => ze h (fun _ => zfk) fun p h => za h (fun _ h => ?_) fun _ h => ?_
 exact b a h zd
 refine zb h fun f h => zo h fun _ h => ?_
 exact c (List.drop (Int.toNat (0 : Int)) (List.take (Int.toNat f) a)) h zd
 refine ze h (fun _ => zfk) fun q h => za h (fun _ h => ?_) fun _ h => ?_
 exact b a h zd
 refine zb h fun g h => zo h fun _ h => ?_
 exact c (List.drop (Int.toNat (0 : Int)) (List.take (Int.toNat g) a)) h zd
 exact b a h zd
theorem zA0 {g : List UInt8} {e : List UInt8} {r : List UInt8} (h : zvd g e = some r) : Ret E 162 [SV.str g, .str e] (SV.str r) := by
 refine rg [0] Tryz.func162 h fun h => ?_
 refine zp (fun (c : List UInt8) => [(4, .str ((ByteArray.mk #[]).data.toList)), (0, .str c)]) (fun _ => []) 1 h (fun c h => ?_) (fun k b i h => ?_)
 cases h; exact .r
 refine zl (fun (a : List UInt8) => [(4, .str ((ByteArray.mk #[]).data.toList)), (1, .str e), (0, .str a)]) (fun _ => []) 1 h zd (fun a j l d h => ?_)
 refine za h ?_ ?_ <;> intro _ h
 refine ze h (fun _ => zxc) fun f h => ze h (fun _ => zfk) fun m h => za h (fun _ h => ?_) fun _ h => ?_
 exact b a h zd
 refine zo h fun _ h => ?_
 exact d (List.drop (Int.toNat f.snd) (List.take (Int.toNat (↑(List.length a) : Int)) a)) h zd
 exact b a h zd
theorem zDe {a : List UInt8} {b : List UInt8} {r : List UInt8} (h : zqc a b = some r) : Ret E 124 [SV.str a, .str b] (SV.str r) := by
 refine rg [] Tryz.func124 h fun h => ?_
 refine zL h (fun c h => ?_) (fun c h => ?_)
 cases h; exact .r
 refine za h ?_ ?_ <;> intro _ h
 cases h; exact .r
 refine za h ?_ ?_ <;> intro _ h
 refine zy h fun n h => za h (fun _ h => ?_) fun _ h => ?_
 refine ⟨by trivial, ?_⟩
 refine zy h fun o h => ze h (fun _ => Rz4) fun _ h => zy h fun _ h => ze h (fun _ => Rz5) fun _ h => ?_
 cases h; exact .r
 refine ze h (fun _ => Rz6) fun d h => za h (fun _ h => ?_) fun _ h => ?_
 refine ze h (fun _ => Rz8) fun e h => ze h (fun _ => Rz9) fun f h => ?_
 cases h; exact .r
 refine ze h (fun _ => zA6) fun g h => ze h (fun _ => zA0) fun i h => ?_
 cases h; exact .r
 refine ze h (fun _ => Rz6) fun j h => za h (fun _ h => ?_) fun _ h => ?_
 refine ze h (fun _ => Rz8) fun k h => ze h (fun _ => Rz9) fun l h => ?_
 cases h; exact .r
 refine ze h (fun _ => zA6) fun m h => ze h (fun _ => zA0) fun _ h => ?_
 cases h; exact .r
theorem zEv {a : List UInt8} {r : Bool} (h : zrg a = some r) : Ret E 108 [SV.str a] (SV.bool r) := by
 refine rg [] Tryz.func108 h fun h => ?_
 refine zL h (fun b h => ?_) (fun b h => ?_)
 cases h; exact .r
 refine zL h (fun c h => ?_) (fun c h => ?_)
 cases h; exact .r
 refine zy h fun _ h => ?_
 refine zL h (fun d h => ?_) (fun d h => ?_)
 cases h; exact .r
 refine zy h fun _ h => za h (fun _ h => ?_) fun _ h => ?_
 cases h; exact .r
 refine ze h (fun _ => zDe) fun e h => ?_
 cases h; exact .r
theorem zC1 {b : List (List UInt8)} {f : List UInt8} {r : Int} (h : zr4 b f = some r) : Ret E 125 [zm 1 SV.str b, .str f] (SV.int .i64 r) := by
 refine rg [0] Tryz.func125 h fun h => ?_
 refine zp (fun (g : Unit) => [(4, .int .i64 0)]) (fun _ => []) 1 h (fun g h => ?_) (fun k c d h => ?_)
 cases h; exact .r
 refine zl (fun (a : Int) => [(8, .int .i64 a), (7, .int .i64 ((↑(List.length (List.map SV.str b)) : Int))), (4, .int .i64 0), (1, .str f), (0, (zm 1 SV.str) b)]) (fun _ => []) 4 h zd (fun a j l e h => ?_)
 refine za h ?_ ?_ <;> intro _ h
 refine zt SV.str h rfl fun m h => za h (fun _ h => ?_) fun _ h => ?_
 refine d ?_
 cases h; exact .r
 refine zb h fun i h => ?_
 exact e i h zd
 exact c (()) h zd
theorem zDz {a : List (List UInt8)} {b : List UInt8} {r : Bool} (h : zrb a b = some r) : Ret E 109 [zm 1 SV.str a, .str b] (SV.bool r) := by
 refine rg [] Tryz.func109 h fun h => ?_
 refine ze h (fun _ => zC1) fun c h => ?_
 cases h; exact .r
theorem zDj {a : List (List UInt8)} {r : Int × Int} (h : zih a = some r) : Ret E 91 [zm 1 SV.str a] (SV.tup [SV.int .i64 r.fst, SV.int .i64 r.snd]) := by
 refine rg [0] Tryz.func91 h fun h => ?_
 refine zL h (fun f h => ?_) (fun f h => ?_)
 cases h; exact .r
 refine za h ?_ ?_ <;> intro _ h
 cases h; exact .r
 refine zp (fun (g : Unit) => [(3, .int .i64 0), (2, .int .i64 0)]) (fun _ => []) 1 h (fun g h => ?_) (fun k d b h => ?_)
 cases h; exact .r
 refine zl (fun (c : Int) => [(16, .int .i64 c), (15, .int .i64 ((↑(List.length (List.map SV.str a)) : Int))), (14, (zm 1 SV.str) a), (3, .int .i64 0), (2, .int .i64 0), (0, (zm 1 SV.str) a)]) (fun _ => []) 13 h zd (fun c j l e h => ?_)
 refine za h ?_ ?_ <;> intro _ h
 refine zt SV.str h rfl fun _ h => ze h (fun _ => zEv) fun _ h => za h (fun _ h => ?_) fun _ h => ?_
 refine b ?_
 cases h; exact .r
 refine zo h fun _ h => ze h (fun _ hx => zck (zDz hx) (WkT.wk (.sl (.of (by first | (simp only [zm, qt, List.map_append, List.map_take, List.map_drop, List.map_set, List.map_replicate]; done) | (simp [zm, qt, List.map_append, List.map_take, List.map_drop, List.map_set, List.map_replicate]; done) | rfl))) rfl rfl rfl (WkT.same WkT.nil))) fun m h => ?_
 refine za h ?_ ?_ <;> intro _ h
 refine b ?_
 cases h; exact .r
 refine zb h fun i h => ?_
 exact e i h zd
 exact d (()) h zd
theorem zDp {a : Int} {r : Int} (h : zhx a = some r) : Ret E 92 [SV.int .u8 a] (SV.int .i64 r) := by
 refine rg [] Tryz.func92 h fun h => ?_
 refine zy h fun b h => zb h fun c h => ?_
 cases h; exact .r
theorem zA7 {c : TL} {r : Tlattice_order} (h : zgc c = some r) : Ret E 93 [wW zH c] (qj r) := by
 refine rg [0, 2] Tryz.func93 h fun h => ?_
 refine zp (fun (d : List Int × List Int) => [(3, .ptr (7) []), (2, .ptr 0 [])]) (fun d => [(7, .var true (qj (Tlattice_order.mk (↑(List.length (List.map SV.str c.Names)) : Int) d.fst d.snd))), (0, .var true (qj (Tlattice_order.mk 0 [0, 0, 0, 0, 0, 0, 0, 0] [0, 0, 0, 0, 0, 0, 0, 0])))]) 8 h (fun d h => ?_) (fun u g p h => ?_)
 cases h; exact .r
 refine zl (fun (a : Int × List Int × List Int) => [(18, .int .i64 (a.fst)), (17, .int .i64 ((↑(List.length (List.map (SV.int .u8) c.Up)) : Int))), (16, (zm 1 (SV.int .u8)) (c.Up)), (3, .ptr (7) []), (2, .ptr 0 [])]) (fun a => [(7, .var true (qj (Tlattice_order.mk (↑(List.length (List.map SV.str c.Names)) : Int) a.snd.fst a.snd.snd))), (0, .var true (qj (Tlattice_order.mk 0 [0, 0, 0, 0, 0, 0, 0, 0] [0, 0, 0, 0, 0, 0, 0, 0])))]) 15 h zd (fun a q v i h => ?_)
 refine za h ?_ ?_ <;> intro _ h
 refine zt (SV.int .u8) h rfl fun e h => zo h fun _ h => zt (SV.int .u8) h rfl fun w h => ?_
 refine zp (fun (f : List Int) => [(18, .int .i64 (a.fst)), (17, .int .i64 ((↑(List.length (List.map (SV.int .u8) c.Up)) : Int))), (16, (zm 1 (SV.int .u8)) (c.Up)), (3, .ptr (7) []), (2, .ptr 0 [])]) (fun f => [(7, .var true (SV.agg [SV.int .i64 (↑(List.length (List.map SV.str c.Names)) : Int), SV.arr 8 1 (List.set (List.map (SV.int .u8) a.snd.fst) (Int.toNat a.fst) (SV.int .u8 e)), qt 8 1 (SV.int .u8) f])), (0, .var true (qj (Tlattice_order.mk 0 [0, 0, 0, 0, 0, 0, 0, 0] [0, 0, 0, 0, 0, 0, 0, 0])))]) 8 h (fun f h => ?_) (fun x j s h => ?_)
 refine zb h fun l h => ?_
 exact i ((l, List.set a.snd.fst (Int.toNat a.fst) e, f)) h (qx ⟨.refl _, .refl _, .refl _, .refl _, .refl _, trivial⟩ ⟨(.var (.agg (.cons .refl (.cons (.arr (.setm .refl .refl)) (.cons .refl .nil))))), .refl, trivial⟩ rfl rfl rfl)
 refine zl (fun (b : Int × List Int) => [(29, .int .i64 (b.fst)), (28, .int .i64 ((↑(List.length (List.map SV.str c.Names)) : Int))), (5, .int .u8 e), (4, .int .i64 (a.fst)), (18, .int .i64 (a.fst)), (17, .int .i64 ((↑(List.length (List.map (SV.int .u8) c.Up)) : Int))), (16, (zm 1 (SV.int .u8)) (c.Up)), (3, .ptr (7) []), (2, .ptr 0 [])]) (fun b => [(7, .var true (SV.agg [SV.int .i64 (↑(List.length (List.map SV.str c.Names)) : Int), SV.arr 8 1 (List.set (List.map (SV.int .u8) a.snd.fst) (Int.toNat a.fst) (SV.int .u8 e)), qt 8 1 (SV.int .u8) b.snd])), (0, .var true (qj (Tlattice_order.mk 0 [0, 0, 0, 0, 0, 0, 0, 0] [0, 0, 0, 0, 0, 0, 0, 0])))]) 29 h zd (fun b t y k h => ?_)
 refine za h ?_ ?_ <;> intro _ h
 refine ⟨by trivial, ?_⟩
 refine zo h fun _ h => zt (SV.int .u8) h rfl fun m h => zo h fun _ h => zo h fun _ h => zb h fun n h => zo h fun _ h => zt (SV.int .u8) h rfl fun z h => zb h fun o h => ?_
 exact k ((o, List.set b.snd (Int.toNat b.fst) (bits BinOp.or IntKind.u8 m n))) h (qx ⟨.refl _, .refl _, .refl _, .refl _, .refl _, .refl _, .refl _, .refl _, .refl _, trivial⟩ ⟨(.var (.agg (.cons .refl (.cons .refl (.cons (.arr (.setm .refl .refl)) .nil))))), .refl, trivial⟩ rfl rfl rfl)
 exact j (b.snd) h zd
 exact g (a.snd) h zd
theorem zEh {e : List Int} {f : Int} {m : Int} {n : Int} {r : Int} (h : zi4 e f m n = some r) : Ret E 94 [qt 8 1 (SV.int .u8) e, SV.int .i64 f, SV.int .i64 m, SV.int .i64 n] (SV.int .i64 r) := by
 refine rg [0] Tryz.func94 h fun h => ?_
 refine ⟨by trivial, ?_⟩
 refine zo h fun _ h => zt (SV.int .u8) h rfl fun g h => zo h fun _ h => zt (SV.int .u8) h rfl fun i h => ?_
 refine zp (fun (j : Unit) => [(8, .int .i64 0)]) (fun _ => []) 1 h (fun j h => ?_) (fun p c d h => ?_)
 cases h; exact .r
 refine zl (fun (a : Int) => [(19, .int .i64 a), (18, .int .i64 f), (9, .int .u8 (bits BinOp.and IntKind.u8 g i)), (8, .int .i64 0), (4, .ptr 0 [])]) (fun a => [(0, .var true ((qt 8 1 (SV.int .u8)) e))]) 12 h zd (fun a o q b h => ?_)
 refine za h ?_ ?_ <;> intro _ h
 refine zo h fun _ h => za h (fun _ h => ?_) fun _ h => ?_
 refine zo h fun _ h => zt (SV.int .u8) h rfl fun _ h => za h (fun _ h => ?_) fun _ h => ?_
 refine d ?_
 cases h; exact .r
 refine zb h fun k h => ?_
 exact b k h zd
 refine zb h fun l h => ?_
 exact b l h zd
 exact c (()) h zd
theorem zEb {e : List Int} {f : Int} {m : Int} {n : Int} {r : Int} (h : zql e f m n = some r) : Ret E 95 [qt 8 1 (SV.int .u8) e, SV.int .i64 f, SV.int .i64 m, SV.int .i64 n] (SV.int .i64 r) := by
 refine rg [0] Tryz.func95 h fun h => ?_
 refine ⟨by trivial, ?_⟩
 refine zo h fun _ h => zt (SV.int .u8) h rfl fun g h => zo h fun _ h => zt (SV.int .u8) h rfl fun i h => ?_
 refine zp (fun (j : Unit) => [(8, .int .i64 0)]) (fun _ => []) 1 h (fun j h => ?_) (fun p c d h => ?_)
 cases h; exact .r
 refine zl (fun (a : Int) => [(19, .int .i64 a), (18, .int .i64 f), (9, .int .u8 (bits BinOp.and IntKind.u8 g i)), (8, .int .i64 0), (4, .ptr 0 [])]) (fun a => [(0, .var true ((qt 8 1 (SV.int .u8)) e))]) 12 h zd (fun a o q b h => ?_)
 refine za h ?_ ?_ <;> intro _ h
 refine zo h fun _ h => za h (fun _ h => ?_) fun _ h => ?_
 refine zo h fun _ h => zt (SV.int .u8) h rfl fun s h => za h (fun _ h => ?_) fun _ h => ?_
 refine d ?_
 cases h; exact .r
 refine zb h fun k h => ?_
 exact b k h zd
 refine zb h fun l h => ?_
 exact b l h zd
 exact c (()) h zd
theorem zu7 {a : TL} {r : Int × Int} (h : zba a = some r) : Ret E 63 [zH a] (SV.tup [SV.int .i64 r.fst, SV.int .i64 r.snd]) := by
 refine rg [0, 2, 5, 7] Tryz.func63 h fun h => ?_
 refine ze h (fun _ => zDj) fun _ h => za h (fun _ h => ?_) fun _ h => ?_
 cases h; exact .r
 refine za h ?_ ?_ <;> intro _ h
 cases h; exact .r
 refine zo h fun _ h => zb h fun a5 h => zb h fun o h => ?_
 refine zp (fun (y : Unit) => [(6, .int .i64 ((↑(List.length (List.map SV.str a.Names)) : Int))), (3, .int .i64 0), (2, .int .i64 0), (1, .ptr 0 [])]) (fun y => [(0, .var true (zH a))]) 1 h (fun y h => ?_) (fun a6 z d h => ?_)
 refine ze h (fun _ => zA7) fun j h => ?_
 refine zp (fun (A : Unit) => [(3, .int .i64 0), (2, .int .i64 0)]) (fun _ => []) 1 h (fun A h => ?_) (fun T t m h => ?_)
 cases h; exact .r
 refine zl (fun (c : Int) => [(96, .int .i64 c), (95, .int .i64 ((↑(List.length (List.map SV.str a.Names)) : Int))), (12, .ptr 2 []), (6, .int .i64 ((↑(List.length (List.map SV.str a.Names)) : Int))), (3, .int .i64 0), (2, .int .i64 0)]) (fun c => [(2, .var true (qj j))]) 6 h zd (fun c Q U u h => ?_)
 refine za h ?_ ?_ <;> intro _ h
 refine zp (fun (p : Unit) => [(96, .int .i64 c), (95, .int .i64 ((↑(List.length (List.map SV.str a.Names)) : Int))), (12, .ptr 2 []), (6, .int .i64 ((↑(List.length (List.map SV.str a.Names)) : Int))), (3, .int .i64 0), (2, .int .i64 0)]) (fun p => [(2, .var true (qj j))]) 3 h (fun p h => ?_) (fun V v n h => ?_)
 refine zb h fun C h => ?_
 exact u C h zd
 refine zl (fun (k : Int) => [(100, .int .i64 k), (99, .int .i64 ((↑(List.length (List.map SV.str a.Names)) : Int))), (13, .int .i64 c), (96, .int .i64 c), (95, .int .i64 ((↑(List.length (List.map SV.str a.Names)) : Int))), (12, .ptr 2 []), (6, .int .i64 ((↑(List.length (List.map SV.str a.Names)) : Int))), (3, .int .i64 0), (2, .int .i64 0)]) (fun k => [(2, .var true (qj j))]) 11 h zd (fun k R W w h => ?_)
 refine za h ?_ ?_ <;> intro _ h
 refine ze h (fun _ => zEh) fun X h => ?_
 refine zL h (fun D h => ?_) (fun D h => ?_)
 refine n ?_
 refine m ?_
 cases h; exact .r
 refine ze h (fun _ => zEb) fun _ h => za h (fun _ h => ?_) fun _ h => ?_
 refine n ?_
 refine m ?_
 cases h; exact .r
 refine zb h fun F h => ?_
 exact w F h zd
 exact v (()) h zd
 exact t (()) h zd
 refine zl (fun (f : Int) => [(39, .int .i64 f), (38, .int .i64 ((↑(List.length (List.map (SV.int .u8) a.Up)) : Int))), (37, (zm 1 (SV.int .u8)) (a.Up)), (7, .int .u8 o), (6, .int .i64 ((↑(List.length (List.map SV.str a.Names)) : Int))), (3, .int .i64 0), (2, .int .i64 0), (1, .ptr 0 [])]) (fun f => [(0, .var true (zH a))]) 30 h zd (fun f Y a7 g h => ?_)
 refine za h ?_ ?_ <;> intro _ h
 refine zt (SV.int .u8) h rfl fun G h => ze h (fun _ => zDp) fun Z h => ?_
 refine zL h (fun H h => ?_) (fun H h => ?_)
 refine d ?_
 cases h; exact .r
 refine zo h fun _ h => za h (fun _ h => ?_) fun _ h => ?_
 refine d ?_
 cases h; exact .r
 refine zp (fun (q : Unit) => [(39, .int .i64 f), (38, .int .i64 ((↑(List.length (List.map (SV.int .u8) a.Up)) : Int))), (37, (zm 1 (SV.int .u8)) (a.Up)), (7, .int .u8 o), (6, .int .i64 ((↑(List.length (List.map SV.str a.Names)) : Int))), (3, .int .i64 0), (2, .int .i64 0), (1, .ptr 0 [])]) (fun q => [(0, .var true (zH a))]) 1 h (fun q h => ?_) (fun a1 x b h => ?_)
 refine zb h fun I h => ?_
 exact g I h zd
 refine zl (fun (l : Int) => [(59, .int .i64 l), (58, .int .i64 ((↑(List.length (List.map (SV.int .u8) a.Up)) : Int))), (57, (zm 1 (SV.int .u8)) (a.Up)), (9, .int .u8 G), (8, .int .i64 f), (39, .int .i64 f), (38, .int .i64 ((↑(List.length (List.map (SV.int .u8) a.Up)) : Int))), (37, (zm 1 (SV.int .u8)) (a.Up)), (7, .int .u8 o), (6, .int .i64 ((↑(List.length (List.map SV.str a.Names)) : Int))), (3, .int .i64 0), (2, .int .i64 0), (1, .ptr 0 [])]) (fun l => [(0, .var true (zH a))]) 51 h zd (fun l S a2 i h => ?_)
 refine za h ?_ ?_ <;> intro _ h
 refine zt (SV.int .u8) h rfl fun _ h => zo h fun _ h => za h (fun _ h => ?_) fun _ h => ?_
 refine zb h fun a3 h => za h (fun _ h => ?_) fun _ h => ?_
 refine b ?_
 refine zb h fun J h => ?_
 exact g J h zd
 refine zb h fun K h => ?_
 exact i K h zd
 refine za h (fun L h => ?_) (fun L h => ?_)
 refine zo h fun _ h => za h (fun s h => ?_) (fun s h => ?_)
 refine ⟨fun _ => ?_, fun e => absurd (e.symm.trans s) (by decide)⟩
 refine b ?_
 refine d ?_
 cases h; exact .r
 refine za h ?_ ?_ <;> intro _ h
 refine b ?_
 refine d ?_
 cases h; exact .r
 refine zb h fun _ h => za h (fun _ h => ?_) fun _ h => ?_
 refine b ?_
 refine zb h fun M h => ?_
 exact g M h zd
 refine zb h fun N h => ?_
 exact i N h zd
 refine za h ?_ ?_ <;> intro _ h
 refine b ?_
 refine d ?_
 cases h; exact .r
 refine zb h fun a4 h => za h (fun _ h => ?_) fun _ h => ?_
 refine b ?_
 refine zb h fun O h => ?_
 exact g O h zd
 refine zb h fun P h => ?_
 exact i P h zd
 exact x (()) h zd
 exact z (()) h zd
theorem zDw {a : TP} {r : Int × Int} (h : zu9 a = some r) : Ret E 62 [wW qe a] (SV.tup [SV.int .i64 r.fst, SV.int .i64 r.snd]) := by
 refine rg [] Tryz.func62 h fun h => ?_
 refine ze h (fun _ => zu7) fun b h => ?_
 cases h; exact .r
theorem zCz {l : List UInt8} {r : Int × Int} (h : zng l = some r) : Ret E 126 [SV.str l] (SV.tup [SV.int .i64 r.fst, SV.int .i64 r.snd]) := by
 refine rg [0] Tryz.func126 h fun h => ?_
 refine call L_prims_table ?_
 refine zp (fun (d : Unit) => [(3, .int .i64 0), (2, .int .i64 0)]) (fun _ => []) 1 h (fun d h => ?_) (fun m c b h => ?_)
 cases h; exact .r
 refine zjp fun n a => ?_
 refine pT ?_
 refine zj (by decide) rfl ?_
 refine pF ?_
 refine zv (r := (1 : Int)) (by decide) ?_
 refine a _ _ _ ?_
 refine pT ?_
 refine zj (by decide) rfl ?_
 refine pT ?_
 refine za h (fun e h => ?_) (fun e h => ?_)
 refine b ?_
 cases h; exact .r
 refine zv (r := (2 : Int)) (by decide) ?_
 refine a _ _ _ ?_
 refine pT ?_
 refine zj (by decide) rfl ?_
 refine pT ?_
 refine za h ?_ ?_ <;> intro _ h
 refine b ?_
 cases h; exact .r
 refine zv (r := (3 : Int)) (by decide) ?_
 refine a _ _ _ ?_
 refine pT ?_
 refine zj (by decide) rfl ?_
 refine pT ?_
 refine za h (fun f h => ?_) (fun f h => ?_)
 refine b ?_
 cases h; exact .r
 refine zv (r := (4 : Int)) (by decide) ?_
 refine a _ _ _ ?_
 refine pT ?_
 refine zj (by decide) rfl ?_
 refine pT ?_
 refine za h ?_ ?_ <;> intro _ h
 refine b ?_
 cases h; exact .r
 refine zv (r := (5 : Int)) (by decide) ?_
 refine a _ _ _ ?_
 refine pT ?_
 refine zj (by decide) rfl ?_
 refine pT ?_
 refine za h ?_ ?_ <;> intro _ h
 refine b ?_
 cases h; exact .r
 refine zv (r := (6 : Int)) (by decide) ?_
 refine a _ _ _ ?_
 refine pT ?_
 refine zj (by decide) rfl ?_
 refine pT ?_
 refine za h ?_ ?_ <;> intro _ h
 refine b ?_
 cases h; exact .r
 refine zv (r := (7 : Int)) (by decide) ?_
 refine a _ _ _ ?_
 refine pT ?_
 refine zj (by decide) rfl ?_
 refine pT ?_
 refine za h ?_ ?_ <;> intro _ h
 refine b ?_
 cases h; exact .r
 refine zv (r := (8 : Int)) (by decide) ?_
 refine a _ _ _ ?_
 refine pT ?_
 refine zj (by decide) rfl ?_
 refine pT ?_
 refine za h ?_ ?_ <;> intro _ h
 refine b ?_
 cases h; exact .r
 refine zv (r := (9 : Int)) (by decide) ?_
 refine a _ _ _ ?_
 refine pT ?_
 refine zj (by decide) rfl ?_
 refine pT ?_
 refine za h ?_ ?_ <;> intro _ h
 refine b ?_
 cases h; exact .r
 refine zv (r := (10 : Int)) (by decide) ?_
 refine a _ _ _ ?_
 refine pT ?_
 refine zj (by decide) rfl ?_
 refine pT ?_
 refine za h ?_ ?_ <;> intro _ h
 refine b ?_
 cases h; exact .r
 refine zv (r := (11 : Int)) (by decide) ?_
 refine a _ _ _ ?_
 refine pT ?_
 refine zj (by decide) rfl ?_
 refine pT ?_
 refine za h ?_ ?_ <;> intro _ h
 refine b ?_
 cases h; exact .r
 refine zv (r := (12 : Int)) (by decide) ?_
 refine a _ _ _ ?_
 refine pT ?_
 refine zj (by decide) rfl ?_
 refine pT ?_
 refine za h ?_ ?_ <;> intro _ h
 refine b ?_
 cases h; exact .r
 refine zv (r := (13 : Int)) (by decide) ?_
 refine a _ _ _ ?_
 refine pT ?_
 refine zj (by decide) rfl ?_
 refine pT ?_
 refine za h ?_ ?_ <;> intro _ h
 refine b ?_
 cases h; exact .r
 refine zv (r := (14 : Int)) (by decide) ?_
 refine a _ _ _ ?_
 refine pT ?_
 refine zj (by decide) rfl ?_
 refine pT ?_
 refine za h ?_ ?_ <;> intro _ h
 refine b ?_
 cases h; exact .r
 refine zv (r := (15 : Int)) (by decide) ?_
 refine a _ _ _ ?_
 refine pT ?_
 refine zj (by decide) rfl ?_
 refine pT ?_
 refine za h ?_ ?_ <;> intro _ h
 refine b ?_
 cases h; exact .r
 refine zv (r := (16 : Int)) (by decide) ?_
 refine a _ _ _ ?_
 refine pT ?_
 refine zj (by decide) rfl ?_
 refine pT ?_
 refine za h ?_ ?_ <;> intro _ h
 refine b ?_
 cases h; exact .r
 refine zv (r := (17 : Int)) (by decide) ?_
 refine a _ _ _ ?_
 refine pT ?_
 refine zj (by decide) rfl ?_
 refine pT ?_
 refine za h ?_ ?_ <;> intro _ h
 refine b ?_
 cases h; exact .r
 refine zv (r := (18 : Int)) (by decide) ?_
 refine a _ _ _ ?_
 refine pT ?_
 refine zj (by decide) rfl ?_
 refine pT ?_
 refine za h ?_ ?_ <;> intro _ h
 refine b ?_
 cases h; exact .r
 refine zv (r := (19 : Int)) (by decide) ?_
 refine a _ _ _ ?_
 refine pT ?_
 refine zj (by decide) rfl ?_
 refine pT ?_
 refine za h ?_ ?_ <;> intro _ h
 refine b ?_
 cases h; exact .r
 refine zv (r := (20 : Int)) (by decide) ?_
 refine a _ _ _ ?_
 refine pT ?_
 refine zj (by decide) rfl ?_
 refine pT ?_
 refine za h ?_ ?_ <;> intro _ h
 refine b ?_
 cases h; exact .r
 refine zv (r := (21 : Int)) (by decide) ?_
 refine a _ _ _ ?_
 refine pT ?_
 refine zj (by decide) rfl ?_
 refine pT ?_
 refine za h ?_ ?_ <;> intro _ h
 refine b ?_
 cases h; exact .r
 refine zv (r := (22 : Int)) (by decide) ?_
 refine a _ _ _ ?_
 refine pT ?_
 refine zj (by decide) rfl ?_
 refine pT ?_
 refine za h ?_ ?_ <;> intro _ h
 refine b ?_
 cases h; exact .r
 refine zv (r := (23 : Int)) (by decide) ?_
 refine a _ _ _ ?_
 refine pT ?_
 refine zj (by decide) rfl ?_
 refine pT ?_
 refine za h ?_ ?_ <;> intro _ h
 refine b ?_
 cases h; exact .r
 refine zv (r := (24 : Int)) (by decide) ?_
 refine a _ _ _ ?_
 refine pT ?_
 refine zj (by decide) rfl ?_
 refine pT ?_
 refine za h ?_ ?_ <;> intro _ h
 refine b ?_
 cases h; exact .r
 refine zv (r := (25 : Int)) (by decide) ?_
 refine a _ _ _ ?_
 refine pT ?_
 refine zj (by decide) rfl ?_
 refine pT ?_
 refine za h ?_ ?_ <;> intro _ h
 refine b ?_
 cases h; exact .r
 refine zv (r := (26 : Int)) (by decide) ?_
 refine a _ _ _ ?_
 refine pT ?_
 refine zj (by decide) rfl ?_
 refine pT ?_
 refine za h ?_ ?_ <;> intro _ h
 refine b ?_
 cases h; exact .r
 refine zv (r := (27 : Int)) (by decide) ?_
 refine a _ _ _ ?_
 refine pT ?_
 refine zj (by decide) rfl ?_
 refine pT ?_
 refine za h ?_ ?_ <;> intro _ h
 refine b ?_
 cases h; exact .r
 refine zv (r := (28 : Int)) (by decide) ?_
 refine a _ _ _ ?_
 refine pT ?_
 refine zj (by decide) rfl ?_
 refine pT ?_
 refine za h (fun g h => ?_) (fun g h => ?_)
 refine b ?_
 cases h; exact .r
 refine zv (r := (29 : Int)) (by decide) ?_
 refine a _ _ _ ?_
 refine pT ?_
 refine zj (by decide) rfl ?_
 refine pT ?_
 refine za h (fun i h => ?_) (fun i h => ?_)
 refine b ?_
 cases h; exact .r
 refine zv (r := (30 : Int)) (by decide) ?_
 refine a _ _ _ ?_
 refine pT ?_
 refine zj (by decide) rfl ?_
 refine pT ?_
 refine za h ?_ ?_ <;> intro _ h
 refine b ?_
 cases h; exact .r
 refine zv (r := (31 : Int)) (by decide) ?_
 refine a _ _ _ ?_
 refine pT ?_
 refine zj (by decide) rfl ?_
 refine pT ?_
 refine za h (fun j h => ?_) (fun j h => ?_)
 refine b ?_
 cases h; exact .r
 refine zv (r := (32 : Int)) (by decide) ?_
 refine a _ _ _ ?_
 refine pT ?_
 refine zj (by decide) rfl ?_
 refine pT ?_
 refine za h ?_ ?_ <;> intro _ h
 refine b ?_
 cases h; exact .r
 refine zv (r := (33 : Int)) (by decide) ?_
 refine a _ _ _ ?_
 refine pT ?_
 refine zj (by decide) rfl ?_
 refine pT ?_
 refine za h ?_ ?_ <;> intro _ h
 refine b ?_
 cases h; exact .r
 refine zv (r := (34 : Int)) (by decide) ?_
 refine a _ _ _ ?_
 refine pT ?_
 refine zj (by decide) rfl ?_
 refine pT ?_
 refine za h ?_ ?_ <;> intro _ h
 refine b ?_
 cases h; exact .r
 refine zv (r := (35 : Int)) (by decide) ?_
 refine a _ _ _ ?_
 refine pT ?_
 refine zj (by decide) rfl ?_
 refine pT ?_
 refine za h ?_ ?_ <;> intro _ h
 refine b ?_
 cases h; exact .r
 refine zv (r := (36 : Int)) (by decide) ?_
 refine a _ _ _ ?_
 refine pT ?_
 refine zj (by decide) rfl ?_
 refine pT ?_
 refine za h (fun k h => ?_) (fun k h => ?_)
 refine b ?_
 cases h; exact .r
 refine zv (r := (37 : Int)) (by decide) ?_
 refine a _ _ _ ?_
 refine pT ?_
 refine zj (by decide) rfl ?_
 refine pT ?_
 refine za h ?_ ?_ <;> intro _ h
 refine b ?_
 cases h; exact .r
 refine zv (r := (38 : Int)) (by decide) ?_
 refine a _ _ _ ?_
 refine pT ?_
 refine zj (by decide) rfl ?_
 refine pT ?_
 refine za h ?_ ?_ <;> intro _ h
 refine b ?_
 cases h; exact .r
 refine zv (r := (39 : Int)) (by decide) ?_
 refine a _ _ _ ?_
 refine pT ?_
 refine zj (by decide) rfl ?_
 refine pT ?_
 refine za h ?_ ?_ <;> intro _ h
 refine b ?_
 cases h; exact .r
 refine zv (r := (40 : Int)) (by decide) ?_
 refine a _ _ _ ?_
 refine pT ?_
 refine zj (by decide) rfl ?_
 refine pT ?_
 refine za h ?_ ?_ <;> intro _ h
 refine b ?_
 cases h; exact .r
 refine zv (r := (41 : Int)) (by decide) ?_
 refine a _ _ _ ?_
 refine pF ?_
 exact c (()) h zd
theorem zDm {b : Int} {r : Bool} (h : zqm b = some r) : Ret E 233 [SV.int .i64 b] (SV.bool r) := by
 refine rg [] Tryz.func233 h fun h => ?_
 refine zb h fun c h => zb h fun d h => za h (fun a h => ?_) (fun a h => ?_)
 refine zb h fun e h => ze h (fun _ => zvx) fun f h => ?_
 cases h; exact .r
 cases h; exact .r
theorem zqz {r : List (List UInt8)} (h : zfa = some r) : Ret E 234 [] (qt 10 1 SV.str r) := by
 refine rg [] Tryz.func234 h fun h => ?_
 unfold zfa at h
 cases h; exact .r
theorem yE {a : Int} {r : Int × Int} (h : zdh a = some r) : Ret E 202 [SV.int .i64 a] (SV.tup [SV.int .i64 r.fst, SV.int .i64 r.snd]) := by
 refine rg [1] Tryz.func202 h fun h => ?_
 refine ze h (fun _ => zDm) fun R h => za h (fun t h => ?_) (fun t h => ?_)
 cases h; exact .r
 refine za h (fun u h => ?_) (fun u h => ?_)
 refine za h ?_ ?_ <;> intro _ h
 cases h; exact .r
 refine za h (fun v h => ?_) (fun v h => ?_)
 refine za h ?_ ?_ <;> intro _ h
 cases h; exact .r
 refine ze h (fun _ => zqz) fun w h => ?_
 refine zp (fun (x : Unit) => [(3, .int .i64 0), (2, .int .i64 0)]) (fun _ => []) 1 h (fun x h => ?_) (fun S f g h => ?_)
 cases h; exact .r
 refine zl (fun (b : Int) => [(25, .int .i64 b), (24, (qt 10 1 SV.str) w), (3, .int .i64 0), (2, .int .i64 0), (0, .int .i64 a)]) (fun _ => []) 22 h zd (fun b N T i h => ?_)
 refine za h ?_ ?_ <;> intro _ h
 refine zt SV.str h rfl fun U h => zb h fun _ h => ze h (fun _ => zfk) fun _ h => za h (fun y h => ?_) (fun y h => ?_)
 refine g ?_
 cases h; exact .r
 refine zb h fun z h => ?_
 exact i z h zd
 exact f (()) h zd
 refine ze h (fun _ => zqz) fun A h => ?_
 refine zp (fun (C : Unit) => [(3, .int .i64 0), (2, .int .i64 0)]) (fun _ => []) 1 h (fun C h => ?_) (fun V j k h => ?_)
 cases h; exact .r
 refine zl (fun (c : Int) => [(25, .int .i64 c), (24, (qt 10 1 SV.str) A), (3, .int .i64 0), (2, .int .i64 0), (0, .int .i64 a)]) (fun _ => []) 20 h zd (fun c O W l h => ?_)
 refine za h ?_ ?_ <;> intro _ h
 refine zt SV.str h rfl fun X h => zb h fun Y h => ze h (fun _ => zfk) fun Z h => za h (fun _ h => ?_) fun _ h => ?_
 refine k ?_
 cases h; exact .r
 refine zb h fun D h => ?_
 exact l D h zd
 exact j (()) h zd
 refine za h ?_ ?_ <;> intro _ h
 refine za h ?_ ?_ <;> intro _ h
 cases h; exact .r
 refine ze h (fun _ => zqz) fun F h => ?_
 refine zp (fun (G : Unit) => [(3, .int .i64 0), (2, .int .i64 0)]) (fun _ => []) 1 h (fun G h => ?_) (fun a1 m n h => ?_)
 cases h; exact .r
 refine zl (fun (d : Int) => [(25, .int .i64 d), (24, (qt 10 1 SV.str) F), (3, .int .i64 0), (2, .int .i64 0), (0, .int .i64 a)]) (fun _ => []) 20 h zd (fun d P a2 o h => ?_)
 refine za h ?_ ?_ <;> intro _ h
 refine zt SV.str h rfl fun a3 h => zb h fun a4 h => ze h (fun _ => zfk) fun a5 h => za h (fun H h => ?_) (fun H h => ?_)
 refine n ?_
 cases h; exact .r
 refine zb h fun I h => ?_
 exact o I h zd
 exact m (()) h zd
 refine ze h (fun _ => zqz) fun J h => ?_
 refine zp (fun (K : Unit) => [(3, .int .i64 0), (2, .int .i64 0)]) (fun _ => []) 1 h (fun K h => ?_) (fun a6 p q h => ?_)
 cases h; exact .r
 refine zl (fun (e : Int) => [(25, .int .i64 e), (24, (qt 10 1 SV.str) J), (3, .int .i64 0), (2, .int .i64 0), (0, .int .i64 a)]) (fun _ => []) 18 h zd (fun e Q a7 s h => ?_)
 refine za h ?_ ?_ <;> intro _ h
 refine zt SV.str h rfl fun _ h => zb h fun a8 h => ze h (fun _ => zfk) fun a9 h => za h (fun L h => ?_) (fun L h => ?_)
 refine q ?_
 cases h; exact .r
 refine zb h fun M h => ?_
 exact s M h zd
 exact p (()) h zd
theorem zf6 {a : List UInt8} {r : Int} (h : zd3 a = some r) : Ret E 203 [SV.str a] (SV.int .u64 r) := by
 refine rg [] Tryz.func203 h fun h => ?_
 refine ⟨by trivial, ?_⟩
 refine zy h fun _ h => zb h fun b h => zy h fun _ h => zb h fun c h => ?_
 refine zX (by decide) ?_
 refine zb h fun d h => zy h fun e h => zb h fun f h => ?_
 refine zX (by decide) ?_
 refine zb h fun _ h => zy h fun _ h => zb h fun _ h => ?_
 refine zX (by decide) ?_
 refine zb h fun _ h => zy h fun _ h => zb h fun _ h => ?_
 refine zX (by decide) ?_
 refine zb h fun _ h => zy h fun _ h => zb h fun _ h => ?_
 refine zX (by decide) ?_
 refine zb h fun _ h => zy h fun _ h => zb h fun g h => ?_
 refine zX (by decide) ?_
 refine zb h fun _ h => zy h fun _ h => zb h fun _ h => ?_
 refine zX (by decide) ?_
 refine zb h fun _ h => ?_
 cases h; exact .r
theorem zC9 {n : List UInt8} {r : Bool} (h : zAk n = some r) : Ret E 167 [SV.str n] (SV.bool r) := by
 refine rg [0, 2] Tryz.func167 h fun h => ?_
 refine zp (fun (j : Unit) => [(2, .fls)]) (fun _ => []) 1 h (fun j h => ?_) (fun t g o h => ?_)
 cases h; exact .r
 refine zl (fun (a : List UInt8) => [(2, .fls), (0, .str a)]) (fun _ => []) 1 h zd (fun a p u b h => ?_)
 refine za h ?_ ?_ <;> intro _ h
 refine zy h fun f h => za h (fun _ h => ?_) fun _ h => ?_
 refine zo h fun _ h => za h (fun k h => ?_) (fun k h => ?_)
 refine ze h (fun _ => zf6) fun _ h => za h (fun l h => ?_) (fun l h => ?_)
 refine zo h fun _ h => ?_
 refine ⟨by trivial, ?_⟩
 refine za h ?_ ?_ <;> intro _ h
 refine ze h (fun _ => zf6) fun _ h => zo h fun _ h => ze h (fun _ => zf6) fun v h => za h (fun m h => ?_) (fun m h => ?_)
 refine zo h fun _ h => ?_
 refine zp (fun (d : List UInt8) => [(0, .str d), (3, .int .u8 ((↑(UInt8.toNat f) : Int))), (2, .fls)]) (fun _ => []) 1 h (fun d h => ?_) (fun w e q h => ?_)
 exact b d h zd
 refine zl (fun (c : List UInt8) => [(0, .str c), (3, .int .u8 ((↑(UInt8.toNat f) : Int))), (2, .fls)]) (fun _ => []) 40 h zd (fun c s x i h => ?_)
 refine ⟨by trivial, ?_⟩
 refine za h ?_ ?_ <;> intro _ h
 refine ze h (fun _ => zf6) fun _ h => zo h fun _ h => ze h (fun _ => zf6) fun _ h => zo h fun _ h => ze h (fun _ => zf6) fun _ h => zo h fun _ h => ze h (fun _ => zf6) fun _ h => ?_
 refine za h ?_ ?_ <;> intro _ h
 refine zo h fun _ h => ?_
 exact i (List.drop (Int.toNat (32 : Int)) (List.take (Int.toNat (↑(List.length c) : Int)) c)) h zd
 exact e c h zd
 exact e c h zd
 exact b (List.drop (Int.toNat (8 : Int)) (List.take (Int.toNat (↑(List.length (List.drop (Int.toNat (1 : Int)) (List.take (Int.toNat (↑(List.length a) : Int)) a))) : Int)) (List.drop (Int.toNat (1 : Int)) (List.take (Int.toNat (↑(List.length a) : Int)) a)))) h zd
 exact b (List.drop (Int.toNat (8 : Int)) (List.take (Int.toNat (↑(List.length (List.drop (Int.toNat (1 : Int)) (List.take (Int.toNat (↑(List.length a) : Int)) a))) : Int)) (List.drop (Int.toNat (1 : Int)) (List.take (Int.toNat (↑(List.length a) : Int)) a)))) h zd
 exact b (List.drop (Int.toNat (1 : Int)) (List.take (Int.toNat (↑(List.length a) : Int)) a)) h zd
 exact b (List.drop (Int.toNat (1 : Int)) (List.take (Int.toNat (↑(List.length a) : Int)) a)) h zd
 exact uC h
 exact g (()) h zd
theorem zD6 {a : TK} {r : Int} (h : zsc a = some r) : Ret E 127 [zU a] (SV.int .i64 r) := by
 refine rg [0, 1] Tryz.func127 h fun h => ?_
 refine zp (fun (f : Int × List UInt8) => [(3, .ptr (9) []), (2, .int .i64 0), (1, .ptr 0 [])]) (fun f => [(9, .var true (zU (TK.mk a.Kind a.From a.To f.fst f.snd))), (0, .var true (zU a))]) 10 h (fun f h => ?_) (fun O u M h => ?_)
 refine zL h (fun J h => ?_) (fun J h => ?_)
 cases h; exact .r
 refine zL h (fun K h => ?_) (fun K h => ?_)
 cases h; exact .r
 refine za h ?_ ?_ <;> intro _ h
 cases h; exact .r
 refine zp (fun (G : Int) => [(4, .int .i64 G), (2, .int .i64 0), (1, .ptr 0 [])]) (fun G => [(0, .var true (zU a))]) 1 h (fun G h => ?_) (fun P p g h => ?_)
 refine za h ?_ ?_ <;> intro _ h
 cases h; exact .r
 cases h; exact .r
 refine za h (fun L h => ?_) (fun L h => ?_)
 refine ⟨?_, trivial⟩
 refine ⟨?_, trivial⟩
 refine zI (fn := Tryz.f165) (cuts := []) ok Tryz.func165 (by kernel_rfl) rfl ?_
 refine za h (fun q h => ?_) (fun q h => ?_)
 refine ⟨?_, trivial⟩
 refine ⟨?_, trivial⟩
 refine ⟨?_, ?_⟩
 refine ⟨fun e => absurd e (by decide), fun _ => ?_⟩
 refine ⟨?_, ?_⟩
 refine ⟨?_, trivial⟩
 refine ⟨?_, trivial⟩
 refine ⟨?_, trivial⟩
 refine ⟨?_, trivial⟩
 refine g ?_
 cases h; exact .r
 refine ⟨?_, trivial⟩
 refine ⟨?_, ?_⟩
 refine ⟨?_, trivial⟩
 refine ⟨?_, trivial⟩
 refine ⟨?_, trivial⟩
 refine g ?_
 cases h; exact .r
 refine ⟨?_, trivial⟩
 refine ⟨?_, trivial⟩
 refine ⟨?_, trivial⟩
 refine ⟨?_, trivial⟩
 refine g ?_
 cases h; exact .r
 refine ⟨?_, trivial⟩
 refine ⟨fun e => absurd e (by decide), fun _ => ?_⟩
 refine ⟨?_, ?_⟩
 refine ⟨?_, ?_⟩
 refine ⟨?_, trivial⟩
 refine ⟨?_, trivial⟩
 refine ⟨?_, trivial⟩
 refine g ?_
 cases h; exact .r
 refine ⟨?_, trivial⟩
 refine ⟨?_, trivial⟩
 refine ⟨?_, trivial⟩
 refine ⟨?_, trivial⟩
 refine g ?_
 cases h; exact .r
 refine ⟨?_, trivial⟩
 refine ⟨?_, trivial⟩
 refine ⟨?_, trivial⟩
 refine ⟨?_, trivial⟩
 refine ⟨?_, trivial⟩
 refine g ?_
 cases h; exact .r
 refine zy h fun Q h => zb h fun R h => ze h (fun _ => yE) fun i h => ?_
 refine ⟨?_, trivial⟩
 refine ⟨?_, trivial⟩
 refine ⟨?_, ?_⟩
 refine zL h (fun H h => ?_) (fun H h => ?_)
 refine ⟨?_, ?_⟩
 refine ⟨?_, trivial⟩
 refine ⟨?_, trivial⟩
 refine ⟨?_, trivial⟩
 refine ⟨?_, trivial⟩
 refine g ?_
 cases h; exact .r
 refine ⟨?_, trivial⟩
 refine ⟨?_, ?_⟩
 refine ⟨?_, trivial⟩
 refine ⟨?_, trivial⟩
 refine ⟨?_, trivial⟩
 refine g ?_
 cases h; exact .r
 refine ⟨?_, trivial⟩
 refine ⟨?_, trivial⟩
 refine ⟨?_, trivial⟩
 refine ⟨?_, trivial⟩
 refine g ?_
 cases h; exact .r
 refine ⟨?_, ?_⟩
 refine zI (fn := Tryz.f166) (cuts := [0]) ok Tryz.func166 (by kernel_rfl) rfl ?_
 refine zI (fn := Tryz.f165) (cuts := []) ok Tryz.func165 (by kernel_rfl) rfl ?_
 refine ⟨fun e => absurd (e.symm.trans q) (by decide), fun _ => ?_⟩
 refine zy h fun v h => zb h fun w h => ze h (fun _ => yE) fun x h => ?_
 refine zp (fun (d : Bool × Int × Int) => [(26, .bool (d.fst)), (8, .int .i64 (d.snd.fst)), (7, .int .i64 0), (6, .str ((ByteArray.mk #[]).data.toList)), (2, .int .i64 6), (1, .int .i64 8), (0, .ptr 31 []), (1000051, .ptr 31 []), (1000050, .fls), (1000049, .bool (!decide (i.fst = 8))), (1000048, .int .i64 (i.fst)), (1000047, .ptr 31 []), (1000005, .ptr 31 []), (1000046, .ptr 31 []), (1000045, zT (TR.mk a.S 0)), (1000044, .str (a.S)), (1000043, .ptr 0 ([] ++ [Step.fld 4 4])), (1000041, .bool (decide (a.Kind = 1))), (1000042, .bool (decide (a.Kind = 1))), (1000040, .int .i64 (a.Kind)), (1000039, .ptr 0 ([] ++ [Step.fld 0 0])), (1000004, .int .i64 0), (1000035, zU a), (1000034, .fls), (1000033, .bool (decide (9 < a.Kind))), (1000032, .bool (decide (9 < a.Kind))), (1000031, .int .i64 (a.Kind)), (1000030, .ptr 0 ([] ++ [Step.fld 0 0])), (1000029, .fls), (1000028, .bool (decide (a.Kind < 1))), (1000027, .int .i64 (a.Kind)), (1000026, .ptr 0 ([] ++ [Step.fld 0 0])), (1000003, .ptr (9) []), (1000002, .int .i64 0), (1000001, .ptr 0 [])]) (fun d => [(31, .var true (zT (TR.mk a.S d.snd.snd))), (9, .var true (zU (TK.mk a.Kind a.From a.To f.fst f.snd))), (0, .var true (zU a))]) 32 h (fun d h => ?_) (fun y l s h => ?_)
 refine ⟨by trivial, ?_⟩
 refine zo h fun _ h => ?_
 refine ⟨?_, trivial⟩
 refine ⟨?_, trivial⟩
 refine ⟨?_, trivial⟩
 refine ⟨?_, trivial⟩
 refine za h ?_ ?_ <;> intro _ h
 refine g ?_
 cases h; exact .r
 exact p ((16 : Int)) h zd
 refine zl (fun (b : Int × Int) => [(8, .int .i64 (b.fst)), (7, .int .i64 0), (6, .str ((ByteArray.mk #[]).data.toList)), (2, .int .i64 6), (1, .int .i64 8), (0, .ptr 31 []), (1000051, .ptr 31 []), (1000050, .fls), (1000049, .bool (!decide (i.fst = 8))), (1000048, .int .i64 (i.fst)), (1000047, .ptr 31 []), (1000005, .ptr 31 []), (1000046, .ptr 31 []), (1000045, zT (TR.mk a.S 0)), (1000044, .str (a.S)), (1000043, .ptr 0 ([] ++ [Step.fld 4 4])), (1000041, .bool (decide (a.Kind = 1))), (1000042, .bool (decide (a.Kind = 1))), (1000040, .int .i64 (a.Kind)), (1000039, .ptr 0 ([] ++ [Step.fld 0 0])), (1000004, .int .i64 0), (1000035, zU a), (1000034, .fls), (1000033, .bool (decide (9 < a.Kind))), (1000032, .bool (decide (9 < a.Kind))), (1000031, .int .i64 (a.Kind)), (1000030, .ptr 0 ([] ++ [Step.fld 0 0])), (1000029, .fls), (1000028, .bool (decide (a.Kind < 1))), (1000027, .int .i64 (a.Kind)), (1000026, .ptr 0 ([] ++ [Step.fld 0 0])), (1000003, .ptr (9) []), (1000002, .int .i64 0), (1000001, .ptr 0 [])]) (fun b => [(31, .var true (zT (TR.mk a.S b.snd))), (9, .var true (zU (TK.mk a.Kind a.From a.To f.fst f.snd))), (0, .var true (zU a))]) 95 h zd (fun b t z c h => ?_)
 refine zL h (fun m h => ?_) (fun m h => ?_)
 refine zb h fun j h => ?_
 refine zI (fn := Tryz.f165) (cuts := []) ok Tryz.func165 (by kernel_rfl) rfl ?_
 refine za h ?_ ?_ <;> intro _ h
 exact c (((10 : Int), j)) h zd
 refine zy h fun A h => zb h fun C h => ze h (fun _ => yE) fun n h => ?_
 exact c ((n.fst, j)) h zd
 refine za h ?_ ?_ <;> intro _ h
 refine zb h fun k h => ?_
 refine zI (fn := Tryz.f165) (cuts := []) ok Tryz.func165 (by kernel_rfl) rfl ?_
 refine za h ?_ ?_ <;> intro _ h
 exact c (((10 : Int), k)) h zd
 refine zy h fun D h => zb h fun F h => ze h (fun _ => yE) fun o h => ?_
 exact c ((o.fst, k)) h zd
 exact l ((decide (b.fst = (6 : Int)), b)) h zd
 refine ⟨?_, trivial⟩
 refine ⟨?_, ?_⟩
 refine zI (fn := Tryz.f166) (cuts := [0]) ok Tryz.func166 (by kernel_rfl) rfl ?_
 refine zI (fn := Tryz.f165) (cuts := []) ok Tryz.func165 (by kernel_rfl) rfl ?_
 refine ⟨fun e => absurd (e.symm.trans q) (by decide), fun _ => ?_⟩
 refine zy h fun v h => zb h fun w h => ze h (fun _ => yE) fun x h => ?_
 refine zp (fun (d : Bool × Int × Int) => [(26, .bool (d.fst)), (8, .int .i64 (d.snd.fst)), (7, .int .i64 0), (6, .str ((ByteArray.mk #[]).data.toList)), (2, .int .i64 6), (1, .int .i64 8), (0, .ptr 31 []), (1000053, .ptr 0 ([] ++ [Step.fld 4 4])), (1000051, .ptr 31 []), (1000050, .fls), (1000049, .bool (!decide (i.fst = 8))), (1000048, .int .i64 (i.fst)), (1000047, .ptr 31 []), (1000005, .ptr 31 []), (1000046, .ptr 31 []), (1000045, zT (TR.mk a.S 0)), (1000044, .str (a.S)), (1000043, .ptr 0 ([] ++ [Step.fld 4 4])), (1000041, .bool (decide (a.Kind = 1))), (1000042, .bool (decide (a.Kind = 1))), (1000040, .int .i64 (a.Kind)), (1000039, .ptr 0 ([] ++ [Step.fld 0 0])), (1000004, .int .i64 0), (1000035, zU a), (1000034, .fls), (1000033, .bool (decide (9 < a.Kind))), (1000032, .bool (decide (9 < a.Kind))), (1000031, .int .i64 (a.Kind)), (1000030, .ptr 0 ([] ++ [Step.fld 0 0])), (1000029, .fls), (1000028, .bool (decide (a.Kind < 1))), (1000027, .int .i64 (a.Kind)), (1000026, .ptr 0 ([] ++ [Step.fld 0 0])), (1000003, .ptr (9) []), (1000002, .int .i64 0), (1000001, .ptr 0 [])]) (fun d => [(31, .var true (zT (TR.mk a.S d.snd.snd))), (9, .var true (zU (TK.mk a.Kind a.From a.To f.fst f.snd))), (0, .var true (zU a))]) 32 h (fun d h => ?_) (fun y l s h => ?_)
 refine ⟨by trivial, ?_⟩
 refine zo h fun _ h => ?_
 refine ⟨?_, trivial⟩
 refine ⟨?_, trivial⟩
 refine ⟨?_, trivial⟩
 refine za h ?_ ?_ <;> intro _ h
 refine g ?_
 cases h; exact .r
 exact p ((16 : Int)) h zd
 refine zl (fun (b : Int × Int) => [(8, .int .i64 (b.fst)), (7, .int .i64 0), (6, .str ((ByteArray.mk #[]).data.toList)), (2, .int .i64 6), (1, .int .i64 8), (0, .ptr 31 []), (1000053, .ptr 0 ([] ++ [Step.fld 4 4])), (1000051, .ptr 31 []), (1000050, .fls), (1000049, .bool (!decide (i.fst = 8))), (1000048, .int .i64 (i.fst)), (1000047, .ptr 31 []), (1000005, .ptr 31 []), (1000046, .ptr 31 []), (1000045, zT (TR.mk a.S 0)), (1000044, .str (a.S)), (1000043, .ptr 0 ([] ++ [Step.fld 4 4])), (1000041, .bool (decide (a.Kind = 1))), (1000042, .bool (decide (a.Kind = 1))), (1000040, .int .i64 (a.Kind)), (1000039, .ptr 0 ([] ++ [Step.fld 0 0])), (1000004, .int .i64 0), (1000035, zU a), (1000034, .fls), (1000033, .bool (decide (9 < a.Kind))), (1000032, .bool (decide (9 < a.Kind))), (1000031, .int .i64 (a.Kind)), (1000030, .ptr 0 ([] ++ [Step.fld 0 0])), (1000029, .fls), (1000028, .bool (decide (a.Kind < 1))), (1000027, .int .i64 (a.Kind)), (1000026, .ptr 0 ([] ++ [Step.fld 0 0])), (1000003, .ptr (9) []), (1000002, .int .i64 0), (1000001, .ptr 0 [])]) (fun b => [(31, .var true (zT (TR.mk a.S b.snd))), (9, .var true (zU (TK.mk a.Kind a.From a.To f.fst f.snd))), (0, .var true (zU a))]) 96 h zd (fun b t z c h => ?_)
 refine zL h (fun m h => ?_) (fun m h => ?_)
 refine zb h fun j h => ?_
 refine zI (fn := Tryz.f165) (cuts := []) ok Tryz.func165 (by kernel_rfl) rfl ?_
 refine za h ?_ ?_ <;> intro _ h
 exact c (((10 : Int), j)) h zd
 refine zy h fun A h => zb h fun C h => ze h (fun _ => yE) fun n h => ?_
 exact c ((n.fst, j)) h zd
 refine za h ?_ ?_ <;> intro _ h
 refine zb h fun k h => ?_
 refine zI (fn := Tryz.f165) (cuts := []) ok Tryz.func165 (by kernel_rfl) rfl ?_
 refine za h ?_ ?_ <;> intro _ h
 exact c (((10 : Int), k)) h zd
 refine zy h fun D h => zb h fun F h => ze h (fun _ => yE) fun o h => ?_
 exact c ((o.fst, k)) h zd
 exact l ((decide (b.fst = (6 : Int)), b)) h zd
 refine ⟨?_, trivial⟩
 refine ⟨?_, trivial⟩
 refine zI (fn := Tryz.f166) (cuts := [0]) ok Tryz.func166 (by kernel_rfl) rfl ?_
 refine zI (fn := Tryz.f165) (cuts := []) ok Tryz.func165 (by kernel_rfl) rfl ?_
 refine ⟨fun e => absurd (e.symm.trans q) (by decide), fun _ => ?_⟩
 refine zy h fun v h => zb h fun w h => ze h (fun _ => yE) fun x h => ?_
 refine zp (fun (d : Bool × Int × Int) => [(26, .bool (d.fst)), (8, .int .i64 (d.snd.fst)), (7, .int .i64 0), (6, .str ((ByteArray.mk #[]).data.toList)), (2, .int .i64 6), (1, .int .i64 8), (0, .ptr 31 []), (1000054, .str (a.S)), (1000053, .ptr 0 ([] ++ [Step.fld 4 4])), (1000051, .ptr 31 []), (1000050, .fls), (1000049, .bool (!decide (i.fst = 8))), (1000048, .int .i64 (i.fst)), (1000047, .ptr 31 []), (1000005, .ptr 31 []), (1000046, .ptr 31 []), (1000045, zT (TR.mk a.S 0)), (1000044, .str (a.S)), (1000043, .ptr 0 ([] ++ [Step.fld 4 4])), (1000041, .bool (decide (a.Kind = 1))), (1000042, .bool (decide (a.Kind = 1))), (1000040, .int .i64 (a.Kind)), (1000039, .ptr 0 ([] ++ [Step.fld 0 0])), (1000004, .int .i64 0), (1000035, zU a), (1000034, .fls), (1000033, .bool (decide (9 < a.Kind))), (1000032, .bool (decide (9 < a.Kind))), (1000031, .int .i64 (a.Kind)), (1000030, .ptr 0 ([] ++ [Step.fld 0 0])), (1000029, .fls), (1000028, .bool (decide (a.Kind < 1))), (1000027, .int .i64 (a.Kind)), (1000026, .ptr 0 ([] ++ [Step.fld 0 0])), (1000003, .ptr (9) []), (1000002, .int .i64 0), (1000001, .ptr 0 [])]) (fun d => [(31, .var true (zT (TR.mk a.S d.snd.snd))), (9, .var true (zU (TK.mk a.Kind a.From a.To f.fst f.snd))), (0, .var true (zU a))]) 32 h (fun d h => ?_) (fun y l s h => ?_)
 refine ⟨by trivial, ?_⟩
 refine zo h fun _ h => ?_
 refine ⟨?_, trivial⟩
 refine ⟨?_, trivial⟩
 refine za h ?_ ?_ <;> intro _ h
 refine g ?_
 cases h; exact .r
 exact p ((16 : Int)) h zd
 refine zl (fun (b : Int × Int) => [(8, .int .i64 (b.fst)), (7, .int .i64 0), (6, .str ((ByteArray.mk #[]).data.toList)), (2, .int .i64 6), (1, .int .i64 8), (0, .ptr 31 []), (1000054, .str (a.S)), (1000053, .ptr 0 ([] ++ [Step.fld 4 4])), (1000051, .ptr 31 []), (1000050, .fls), (1000049, .bool (!decide (i.fst = 8))), (1000048, .int .i64 (i.fst)), (1000047, .ptr 31 []), (1000005, .ptr 31 []), (1000046, .ptr 31 []), (1000045, zT (TR.mk a.S 0)), (1000044, .str (a.S)), (1000043, .ptr 0 ([] ++ [Step.fld 4 4])), (1000041, .bool (decide (a.Kind = 1))), (1000042, .bool (decide (a.Kind = 1))), (1000040, .int .i64 (a.Kind)), (1000039, .ptr 0 ([] ++ [Step.fld 0 0])), (1000004, .int .i64 0), (1000035, zU a), (1000034, .fls), (1000033, .bool (decide (9 < a.Kind))), (1000032, .bool (decide (9 < a.Kind))), (1000031, .int .i64 (a.Kind)), (1000030, .ptr 0 ([] ++ [Step.fld 0 0])), (1000029, .fls), (1000028, .bool (decide (a.Kind < 1))), (1000027, .int .i64 (a.Kind)), (1000026, .ptr 0 ([] ++ [Step.fld 0 0])), (1000003, .ptr (9) []), (1000002, .int .i64 0), (1000001, .ptr 0 [])]) (fun b => [(31, .var true (zT (TR.mk a.S b.snd))), (9, .var true (zU (TK.mk a.Kind a.From a.To f.fst f.snd))), (0, .var true (zU a))]) 97 h zd (fun b t z c h => ?_)
 refine zL h (fun m h => ?_) (fun m h => ?_)
 refine zb h fun j h => ?_
 refine zI (fn := Tryz.f165) (cuts := []) ok Tryz.func165 (by kernel_rfl) rfl ?_
 refine za h ?_ ?_ <;> intro _ h
 exact c (((10 : Int), j)) h zd
 refine zy h fun A h => zb h fun C h => ze h (fun _ => yE) fun n h => ?_
 exact c ((n.fst, j)) h zd
 refine za h ?_ ?_ <;> intro _ h
 refine zb h fun k h => ?_
 refine zI (fn := Tryz.f165) (cuts := []) ok Tryz.func165 (by kernel_rfl) rfl ?_
 refine za h ?_ ?_ <;> intro _ h
 exact c (((10 : Int), k)) h zd
 refine zy h fun D h => zb h fun F h => ze h (fun _ => yE) fun o h => ?_
 exact c ((o.fst, k)) h zd
 exact l ((decide (b.fst = (6 : Int)), b)) h zd
 refine ⟨?_, trivial⟩
 refine zL h (fun H h => ?_) (fun H h => ?_)
 refine ⟨?_, ?_⟩
 refine ⟨?_, ?_⟩
 refine ⟨?_, trivial⟩
 refine ⟨?_, trivial⟩
 refine ⟨?_, trivial⟩
 refine g ?_
 cases h; exact .r
 refine ⟨?_, trivial⟩
 refine ⟨?_, trivial⟩
 refine ⟨?_, trivial⟩
 refine ⟨?_, trivial⟩
 refine g ?_
 cases h; exact .r
 refine ⟨?_, trivial⟩
 refine ⟨?_, trivial⟩
 refine ⟨?_, trivial⟩
 refine ⟨?_, trivial⟩
 refine ⟨?_, trivial⟩
 refine g ?_
 cases h; exact .r
 refine ⟨?_, ?_⟩
 refine ⟨?_, ?_⟩
 refine zI (fn := Tryz.f166) (cuts := [0]) ok Tryz.func166 (by kernel_rfl) rfl ?_
 refine zI (fn := Tryz.f165) (cuts := []) ok Tryz.func165 (by kernel_rfl) rfl ?_
 refine ⟨fun e => absurd (e.symm.trans q) (by decide), fun _ => ?_⟩
 refine zy h fun v h => zb h fun w h => ze h (fun _ => yE) fun x h => ?_
 refine zp (fun (d : Bool × Int × Int) => [(26, .bool (d.fst)), (8, .int .i64 (d.snd.fst)), (7, .int .i64 0), (6, .str ((ByteArray.mk #[]).data.toList)), (2, .int .i64 6), (1, .int .i64 8), (0, .ptr 31 []), (1000051, .ptr 31 []), (1000053, .ptr 0 ([] ++ [Step.fld 4 4])), (1000050, .fls), (1000049, .bool (!decide (i.fst = 8))), (1000048, .int .i64 (i.fst)), (1000047, .ptr 31 []), (1000005, .ptr 31 []), (1000046, .ptr 31 []), (1000045, zT (TR.mk a.S 0)), (1000044, .str (a.S)), (1000043, .ptr 0 ([] ++ [Step.fld 4 4])), (1000041, .bool (decide (a.Kind = 1))), (1000042, .bool (decide (a.Kind = 1))), (1000040, .int .i64 (a.Kind)), (1000039, .ptr 0 ([] ++ [Step.fld 0 0])), (1000004, .int .i64 0), (1000035, zU a), (1000034, .fls), (1000033, .bool (decide (9 < a.Kind))), (1000032, .bool (decide (9 < a.Kind))), (1000031, .int .i64 (a.Kind)), (1000030, .ptr 0 ([] ++ [Step.fld 0 0])), (1000029, .fls), (1000028, .bool (decide (a.Kind < 1))), (1000027, .int .i64 (a.Kind)), (1000026, .ptr 0 ([] ++ [Step.fld 0 0])), (1000003, .ptr (9) []), (1000002, .int .i64 0), (1000001, .ptr 0 [])]) (fun d => [(31, .var true (zT (TR.mk a.S d.snd.snd))), (9, .var true (zU (TK.mk a.Kind a.From a.To f.fst f.snd))), (0, .var true (zU a))]) 32 h (fun d h => ?_) (fun y l s h => ?_)
 refine ⟨by trivial, ?_⟩
 refine zo h fun _ h => ?_
 refine ⟨?_, trivial⟩
 refine ⟨?_, trivial⟩
 refine ⟨?_, trivial⟩
 refine za h ?_ ?_ <;> intro _ h
 refine g ?_
 cases h; exact .r
 exact p ((16 : Int)) h zd
 refine zl (fun (b : Int × Int) => [(8, .int .i64 (b.fst)), (7, .int .i64 0), (6, .str ((ByteArray.mk #[]).data.toList)), (2, .int .i64 6), (1, .int .i64 8), (0, .ptr 31 []), (1000051, .ptr 31 []), (1000053, .ptr 0 ([] ++ [Step.fld 4 4])), (1000050, .fls), (1000049, .bool (!decide (i.fst = 8))), (1000048, .int .i64 (i.fst)), (1000047, .ptr 31 []), (1000005, .ptr 31 []), (1000046, .ptr 31 []), (1000045, zT (TR.mk a.S 0)), (1000044, .str (a.S)), (1000043, .ptr 0 ([] ++ [Step.fld 4 4])), (1000041, .bool (decide (a.Kind = 1))), (1000042, .bool (decide (a.Kind = 1))), (1000040, .int .i64 (a.Kind)), (1000039, .ptr 0 ([] ++ [Step.fld 0 0])), (1000004, .int .i64 0), (1000035, zU a), (1000034, .fls), (1000033, .bool (decide (9 < a.Kind))), (1000032, .bool (decide (9 < a.Kind))), (1000031, .int .i64 (a.Kind)), (1000030, .ptr 0 ([] ++ [Step.fld 0 0])), (1000029, .fls), (1000028, .bool (decide (a.Kind < 1))), (1000027, .int .i64 (a.Kind)), (1000026, .ptr 0 ([] ++ [Step.fld 0 0])), (1000003, .ptr (9) []), (1000002, .int .i64 0), (1000001, .ptr 0 [])]) (fun b => [(31, .var true (zT (TR.mk a.S b.snd))), (9, .var true (zU (TK.mk a.Kind a.From a.To f.fst f.snd))), (0, .var true (zU a))]) 96 h zd (fun b t z c h => ?_)
 refine zL h (fun m h => ?_) (fun m h => ?_)
 refine zb h fun j h => ?_
 refine zI (fn := Tryz.f165) (cuts := []) ok Tryz.func165 (by kernel_rfl) rfl ?_
 refine za h ?_ ?_ <;> intro _ h
 exact c (((10 : Int), j)) h zd
 refine zy h fun A h => zb h fun C h => ze h (fun _ => yE) fun n h => ?_
 exact c ((n.fst, j)) h zd
 refine za h ?_ ?_ <;> intro _ h
 refine zb h fun k h => ?_
 refine zI (fn := Tryz.f165) (cuts := []) ok Tryz.func165 (by kernel_rfl) rfl ?_
 refine za h ?_ ?_ <;> intro _ h
 exact c (((10 : Int), k)) h zd
 refine zy h fun D h => zb h fun F h => ze h (fun _ => yE) fun o h => ?_
 exact c ((o.fst, k)) h zd
 exact l ((decide (b.fst = (6 : Int)), b)) h zd
 refine ⟨?_, trivial⟩
 refine ⟨?_, trivial⟩
 refine zI (fn := Tryz.f166) (cuts := [0]) ok Tryz.func166 (by kernel_rfl) rfl ?_
 refine zI (fn := Tryz.f165) (cuts := []) ok Tryz.func165 (by kernel_rfl) rfl ?_
 refine ⟨fun e => absurd (e.symm.trans q) (by decide), fun _ => ?_⟩
 refine zy h fun v h => zb h fun w h => ze h (fun _ => yE) fun x h => ?_
 refine zp (fun (d : Bool × Int × Int) => [(26, .bool (d.fst)), (8, .int .i64 (d.snd.fst)), (7, .int .i64 0), (6, .str ((ByteArray.mk #[]).data.toList)), (2, .int .i64 6), (1, .int .i64 8), (0, .ptr 31 []), (1000054, .str (a.S)), (1000051, .ptr 31 []), (1000053, .ptr 0 ([] ++ [Step.fld 4 4])), (1000050, .fls), (1000049, .bool (!decide (i.fst = 8))), (1000048, .int .i64 (i.fst)), (1000047, .ptr 31 []), (1000005, .ptr 31 []), (1000046, .ptr 31 []), (1000045, zT (TR.mk a.S 0)), (1000044, .str (a.S)), (1000043, .ptr 0 ([] ++ [Step.fld 4 4])), (1000041, .bool (decide (a.Kind = 1))), (1000042, .bool (decide (a.Kind = 1))), (1000040, .int .i64 (a.Kind)), (1000039, .ptr 0 ([] ++ [Step.fld 0 0])), (1000004, .int .i64 0), (1000035, zU a), (1000034, .fls), (1000033, .bool (decide (9 < a.Kind))), (1000032, .bool (decide (9 < a.Kind))), (1000031, .int .i64 (a.Kind)), (1000030, .ptr 0 ([] ++ [Step.fld 0 0])), (1000029, .fls), (1000028, .bool (decide (a.Kind < 1))), (1000027, .int .i64 (a.Kind)), (1000026, .ptr 0 ([] ++ [Step.fld 0 0])), (1000003, .ptr (9) []), (1000002, .int .i64 0), (1000001, .ptr 0 [])]) (fun d => [(31, .var true (zT (TR.mk a.S d.snd.snd))), (9, .var true (zU (TK.mk a.Kind a.From a.To f.fst f.snd))), (0, .var true (zU a))]) 32 h (fun d h => ?_) (fun y l s h => ?_)
 refine ⟨by trivial, ?_⟩
 refine zo h fun _ h => ?_
 refine ⟨?_, trivial⟩
 refine ⟨?_, trivial⟩
 refine za h ?_ ?_ <;> intro _ h
 refine g ?_
 cases h; exact .r
 exact p ((16 : Int)) h zd
 refine zl (fun (b : Int × Int) => [(8, .int .i64 (b.fst)), (7, .int .i64 0), (6, .str ((ByteArray.mk #[]).data.toList)), (2, .int .i64 6), (1, .int .i64 8), (0, .ptr 31 []), (1000054, .str (a.S)), (1000051, .ptr 31 []), (1000053, .ptr 0 ([] ++ [Step.fld 4 4])), (1000050, .fls), (1000049, .bool (!decide (i.fst = 8))), (1000048, .int .i64 (i.fst)), (1000047, .ptr 31 []), (1000005, .ptr 31 []), (1000046, .ptr 31 []), (1000045, zT (TR.mk a.S 0)), (1000044, .str (a.S)), (1000043, .ptr 0 ([] ++ [Step.fld 4 4])), (1000041, .bool (decide (a.Kind = 1))), (1000042, .bool (decide (a.Kind = 1))), (1000040, .int .i64 (a.Kind)), (1000039, .ptr 0 ([] ++ [Step.fld 0 0])), (1000004, .int .i64 0), (1000035, zU a), (1000034, .fls), (1000033, .bool (decide (9 < a.Kind))), (1000032, .bool (decide (9 < a.Kind))), (1000031, .int .i64 (a.Kind)), (1000030, .ptr 0 ([] ++ [Step.fld 0 0])), (1000029, .fls), (1000028, .bool (decide (a.Kind < 1))), (1000027, .int .i64 (a.Kind)), (1000026, .ptr 0 ([] ++ [Step.fld 0 0])), (1000003, .ptr (9) []), (1000002, .int .i64 0), (1000001, .ptr 0 [])]) (fun b => [(31, .var true (zT (TR.mk a.S b.snd))), (9, .var true (zU (TK.mk a.Kind a.From a.To f.fst f.snd))), (0, .var true (zU a))]) 97 h zd (fun b t z c h => ?_)
 refine zL h (fun m h => ?_) (fun m h => ?_)
 refine zb h fun j h => ?_
 refine zI (fn := Tryz.f165) (cuts := []) ok Tryz.func165 (by kernel_rfl) rfl ?_
 refine za h ?_ ?_ <;> intro _ h
 exact c (((10 : Int), j)) h zd
 refine zy h fun A h => zb h fun C h => ze h (fun _ => yE) fun n h => ?_
 exact c ((n.fst, j)) h zd
 refine za h ?_ ?_ <;> intro _ h
 refine zb h fun k h => ?_
 refine zI (fn := Tryz.f165) (cuts := []) ok Tryz.func165 (by kernel_rfl) rfl ?_
 refine za h ?_ ?_ <;> intro _ h
 exact c (((10 : Int), k)) h zd
 refine zy h fun D h => zb h fun F h => ze h (fun _ => yE) fun o h => ?_
 exact c ((o.fst, k)) h zd
 exact l ((decide (b.fst = (6 : Int)), b)) h zd
 refine ⟨?_, trivial⟩
 refine ⟨?_, trivial⟩
 refine ⟨?_, trivial⟩
 refine zI (fn := Tryz.f166) (cuts := [0]) ok Tryz.func166 (by kernel_rfl) rfl ?_
 refine zI (fn := Tryz.f165) (cuts := []) ok Tryz.func165 (by kernel_rfl) rfl ?_
 refine ⟨fun e => absurd (e.symm.trans q) (by decide), fun _ => ?_⟩
 refine zy h fun v h => zb h fun w h => ze h (fun _ => yE) fun x h => ?_
 refine zp (fun (d : Bool × Int × Int) => [(26, .bool (d.fst)), (8, .int .i64 (d.snd.fst)), (7, .int .i64 0), (6, .str ((ByteArray.mk #[]).data.toList)), (2, .int .i64 6), (1, .int .i64 8), (0, .ptr 31 []), (1000051, .ptr 31 []), (1000054, .str (a.S)), (1000053, .ptr 0 ([] ++ [Step.fld 4 4])), (1000050, .fls), (1000049, .bool (!decide (i.fst = 8))), (1000048, .int .i64 (i.fst)), (1000047, .ptr 31 []), (1000005, .ptr 31 []), (1000046, .ptr 31 []), (1000045, zT (TR.mk a.S 0)), (1000044, .str (a.S)), (1000043, .ptr 0 ([] ++ [Step.fld 4 4])), (1000041, .bool (decide (a.Kind = 1))), (1000042, .bool (decide (a.Kind = 1))), (1000040, .int .i64 (a.Kind)), (1000039, .ptr 0 ([] ++ [Step.fld 0 0])), (1000004, .int .i64 0), (1000035, zU a), (1000034, .fls), (1000033, .bool (decide (9 < a.Kind))), (1000032, .bool (decide (9 < a.Kind))), (1000031, .int .i64 (a.Kind)), (1000030, .ptr 0 ([] ++ [Step.fld 0 0])), (1000029, .fls), (1000028, .bool (decide (a.Kind < 1))), (1000027, .int .i64 (a.Kind)), (1000026, .ptr 0 ([] ++ [Step.fld 0 0])), (1000003, .ptr (9) []), (1000002, .int .i64 0), (1000001, .ptr 0 [])]) (fun d => [(31, .var true (zT (TR.mk a.S d.snd.snd))), (9, .var true (zU (TK.mk a.Kind a.From a.To f.fst f.snd))), (0, .var true (zU a))]) 32 h (fun d h => ?_) (fun y l s h => ?_)
 refine ⟨by trivial, ?_⟩
 refine zo h fun _ h => ?_
 refine ⟨?_, trivial⟩
 refine ⟨?_, trivial⟩
 refine za h ?_ ?_ <;> intro _ h
 refine g ?_
 cases h; exact .r
 exact p ((16 : Int)) h zd
 refine zl (fun (b : Int × Int) => [(8, .int .i64 (b.fst)), (7, .int .i64 0), (6, .str ((ByteArray.mk #[]).data.toList)), (2, .int .i64 6), (1, .int .i64 8), (0, .ptr 31 []), (1000051, .ptr 31 []), (1000054, .str (a.S)), (1000053, .ptr 0 ([] ++ [Step.fld 4 4])), (1000050, .fls), (1000049, .bool (!decide (i.fst = 8))), (1000048, .int .i64 (i.fst)), (1000047, .ptr 31 []), (1000005, .ptr 31 []), (1000046, .ptr 31 []), (1000045, zT (TR.mk a.S 0)), (1000044, .str (a.S)), (1000043, .ptr 0 ([] ++ [Step.fld 4 4])), (1000041, .bool (decide (a.Kind = 1))), (1000042, .bool (decide (a.Kind = 1))), (1000040, .int .i64 (a.Kind)), (1000039, .ptr 0 ([] ++ [Step.fld 0 0])), (1000004, .int .i64 0), (1000035, zU a), (1000034, .fls), (1000033, .bool (decide (9 < a.Kind))), (1000032, .bool (decide (9 < a.Kind))), (1000031, .int .i64 (a.Kind)), (1000030, .ptr 0 ([] ++ [Step.fld 0 0])), (1000029, .fls), (1000028, .bool (decide (a.Kind < 1))), (1000027, .int .i64 (a.Kind)), (1000026, .ptr 0 ([] ++ [Step.fld 0 0])), (1000003, .ptr (9) []), (1000002, .int .i64 0), (1000001, .ptr 0 [])]) (fun b => [(31, .var true (zT (TR.mk a.S b.snd))), (9, .var true (zU (TK.mk a.Kind a.From a.To f.fst f.snd))), (0, .var true (zU a))]) 97 h zd (fun b t z c h => ?_)
 refine zL h (fun m h => ?_) (fun m h => ?_)
 refine zb h fun j h => ?_
 refine zI (fn := Tryz.f165) (cuts := []) ok Tryz.func165 (by kernel_rfl) rfl ?_
 refine za h ?_ ?_ <;> intro _ h
 exact c (((10 : Int), j)) h zd
 refine zy h fun A h => zb h fun C h => ze h (fun _ => yE) fun n h => ?_
 exact c ((n.fst, j)) h zd
 refine za h ?_ ?_ <;> intro _ h
 refine zb h fun k h => ?_
 refine zI (fn := Tryz.f165) (cuts := []) ok Tryz.func165 (by kernel_rfl) rfl ?_
 refine za h ?_ ?_ <;> intro _ h
 exact c (((10 : Int), k)) h zd
 refine zy h fun D h => zb h fun F h => ze h (fun _ => yE) fun o h => ?_
 exact c ((o.fst, k)) h zd
 exact l ((decide (b.fst = (6 : Int)), b)) h zd
 refine za h ?_ ?_ <;> intro _ h
 refine ze h (fun _ => zC9) fun T h => za h (fun _ h => ?_) fun _ h => ?_
 refine g ?_
 cases h; exact .r
 exact p ((2000 : Int)) h zd
 exact p ((0 : Int)) h zd
 refine za h (fun I h => ?_) (fun I h => ?_)
 refine ⟨fun _ => ?_, fun e => absurd (e.symm.trans I) (by decide)⟩
 exact u (((0 : Int), a.S)) h zd
 refine za h ?_ ?_ <;> intro _ h
 exact u (((0 : Int), a.S)) h zd
 refine za h ?_ ?_ <;> intro _ h
 exact u ((a.N, [])) h zd
 exact u (((0 : Int), [])) h zd
theorem zBs {l : List UInt8} {r : Bool} (h : zix l = some r) : Ret E 110 [SV.str l] (SV.bool r) := by
 refine rg [] Tryz.func110 h fun h => ?_
 refine za h (fun a h => ?_) (fun a h => ?_)
 refine ⟨fun _ => ?_, fun e => absurd (e.symm.trans a) (by decide)⟩
 cases h; exact .r
 refine za h (fun b h => ?_) (fun b h => ?_)
 refine ⟨fun _ => ?_, fun e => absurd (e.symm.trans b) (by decide)⟩
 cases h; exact .r
 refine za h (fun c h => ?_) (fun c h => ?_)
 refine ⟨fun _ => ?_, fun e => absurd (e.symm.trans c) (by decide)⟩
 cases h; exact .r
 refine za h (fun d h => ?_) (fun d h => ?_)
 refine ⟨fun _ => ?_, fun e => absurd (e.symm.trans d) (by decide)⟩
 cases h; exact .r
 refine za h (fun f h => ?_) (fun f h => ?_)
 refine ⟨fun _ => ?_, fun e => absurd (e.symm.trans f) (by decide)⟩
 cases h; exact .r
 refine za h (fun g h => ?_) (fun g h => ?_)
 refine ⟨fun _ => ?_, fun e => absurd (e.symm.trans g) (by decide)⟩
 cases h; exact .r
 refine za h (fun i h => ?_) (fun i h => ?_)
 refine ⟨fun _ => ?_, fun e => absurd (e.symm.trans i) (by decide)⟩
 cases h; exact .r
 refine za h (fun j h => ?_) (fun j h => ?_)
 refine ⟨fun _ => ?_, fun e => absurd (e.symm.trans j) (by decide)⟩
 cases h; exact .r
 refine za h (fun k h => ?_) (fun k h => ?_)
 refine ⟨fun _ => ?_, fun e => absurd (e.symm.trans k) (by decide)⟩
 cases h; exact .r
 refine za h ?_ ?_ <;> intro _ h
 cases h; exact .r
 refine ze h (fun _ => zCz) fun _ h => za h (fun _ h => ?_) fun _ h => ?_
 cases h; exact .r
 refine ze h (fun _ => zD6) fun m h => ?_
 cases h; exact .r
theorem uq {a : TL} {b : Int} {r : Bool} (h : jQ a b = some r) : Ret E 67 [wW zH a, SV.int .i64 b] (SV.bool r) := by
 refine rg [] Tryz.func67 h fun h => ?_
 refine za h ?_ ?_ <;> intro _ h
 cases h; exact .r
 cases h; exact .r
theorem zCt {f : TP} {r : Int × Int} (h : zr5 f = some r) : Ret E 64 [wW qe f] (SV.tup [SV.int .i64 r.fst, SV.int .i64 r.snd]) := by
 refine rg [0] Tryz.func64 h fun h => ?_
 refine za h ?_ ?_ <;> intro _ h
 cases h; exact .r
 refine zp (fun (i : Unit) => [(3, .int .i64 0), (2, .int .i64 0)]) (fun _ => []) 1 h (fun i h => ?_) (fun s g b h => ?_)
 cases h; exact .r
 refine zl (fun (a : Int × List (List UInt8)) => [(20, .int .i64 (a.fst)), (19, .int .i64 ((↑(List.length (List.map zT f.Channels)) : Int))), (18, (zm 2 zT) (f.Channels)), (4, .mpr (8)), (3, .int .i64 0), (2, .int .i64 0), (0, (wW qe) f)]) (fun a => [(8, .mp (List.map (zcl SV.str) a.snd))]) 16 h zd (fun a q t d h => ?_)
 refine za h (fun j h => ?_) (fun j h => ?_)
 refine zt zT h rfl fun c h => ?_
 refine zI (fn := Tryz.f96) (cuts := []) ok Tryz.func96 (by kernel_rfl) rfl ?_
 refine ze h (fun _ => zBs) fun _ h => za h (fun _ h => ?_) fun _ h => ?_
 refine pT ?_
 refine b ?_
 cases h; exact .r
 refine zh1 (enc := SV.str) (k := c.s_) (l := a.snd) h rfl (fun _ => zbv (by kernel_rfl) _ _) (fun m h u => ?_) (fun m h => ?_)
 refine pT ?_
 refine b ?_
 cases h; exact .r
 refine zh1 (enc := SV.str) (k := c.s_) (l := a.snd) h rfl (fun _ => zbv (by kernel_rfl) _ _) (fun n h v => ?_) (fun n h => ?_)
 refine pF ?_
 refine ⟨by trivial, ?_⟩
 refine ze h (fun _ => uq) fun w h => za h (fun _ h => ?_) fun _ h => ?_
 refine b ?_
 cases h; exact .r
 refine zb h fun o h => ?_
 exact d ((o, a.snd)) h zd
 refine pF ?_
 refine ⟨by trivial, ?_⟩
 refine ze h (fun _ => uq) fun y h => za h (fun _ h => ?_) fun _ h => ?_
 refine b ?_
 cases h; exact .r
 refine zb h fun p h => ?_
 exact d ((p, a.snd ++ [c.s_])) h (qx ⟨.refl _, .refl _, .refl _, .refl _, .refl _, .refl _, .refl _, trivial⟩ ⟨(.eq (congrArg Blk.mp (zf4 (e := SV.str) (x := c.s_) (l := a.snd)))), trivial⟩ rfl rfl rfl)
 exact g (()) h zd
theorem zEo {f : TL} {c : List Int} {r : Int} (h : zqu f c = some r) : Ret E 128 [wW zH f, zm 1 (SV.int .i64) c] (SV.int .i64 r) := by
 refine rg [0] Tryz.func128 h fun h => ?_
 refine ze h (fun _ => zu7) fun m h => za h (fun _ h => ?_) fun _ h => ?_
 cases h; exact .r
 refine zp (fun (g : Unit) => [(4, .int .i64 0)]) (fun _ => []) 1 h (fun g h => ?_) (fun n d a h => ?_)
 cases h; exact .r
 refine zl (fun (b : Int) => [(21, .int .i64 b), (20, .int .i64 ((↑(List.length (List.map (SV.int .i64) c)) : Int))), (19, (zm 1 (SV.int .i64)) c), (4, .int .i64 0), (0, (wW zH) f)]) (fun _ => []) 15 h zd (fun b l o e h => ?_)
 refine za h (fun i h => ?_) (fun i h => ?_)
 refine zt (SV.int .i64) h rfl fun p h => ?_
 refine zL h (fun j h => ?_) (fun j h => ?_)
 refine a ?_
 cases h; exact .r
 refine za h ?_ ?_ <;> intro _ h
 refine a ?_
 cases h; exact .r
 refine zb h fun k h => ?_
 exact e k h zd
 exact d (()) h zd
theorem zC0 {a : Int} {r : Int} (h : zk4 a = some r) : Ret E 168 [SV.int .u8 a] (SV.int .i64 r) := by
 refine rg [] Tryz.func168 h fun h => ?_
 refine zy h fun _ h => zb h fun _ h => ?_
 cases h; exact .r
theorem zCw {e : List Int} {f : Int} {r : Int} (h : zsw e f = some r) : Ret E 129 [qt 8 1 (SV.int .u8) e, SV.int .i64 f] (SV.int .i64 r) := by
 refine rg [0] Tryz.func129 h fun h => ?_
 refine zp (fun (c : Int) => [(5, .int .i64 c), (4, .int .i64 0)]) (fun _ => []) 1 h (fun c h => ?_) (fun l b j h => ?_)
 cases h; exact .r
 refine zl (fun (a : Int) => [(5, .int .i64 a), (4, .int .i64 0), (2, .ptr 0 []), (1, .int .i64 f)]) (fun a => [(0, .var true ((qt 8 1 (SV.int .u8)) e))]) 3 h zd (fun a k m d h => ?_)
 refine zb h fun _ h => za h (fun _ h => ?_) fun _ h => ?_
 refine zo h fun _ h => zt (SV.int .u8) h rfl fun _ h => ze h (fun _ => zC0) fun n h => za h (fun g h => ?_) (fun g h => ?_)
 refine zb h fun i h => ?_
 exact d i h zd
 exact b a h zd
 exact b a h zd
theorem zEt {a : TL} {r : Int × Int} (h : zqe a = some r) : Ret E 111 [zH a] (SV.tup [SV.int .i64 r.fst, SV.int .i64 r.snd]) := by
 refine rg [] Tryz.func111 h fun h => ?_
 refine ze h (fun _ hx => zck (zEo hx) (WkT.same (WkT.wk .nils rfl rfl rfl WkT.nil))) fun b h => za h (fun _ h => ?_) fun _ h => ?_
 cases h; exact .r
 refine ze h (fun _ => zA7) fun c h => ze h (fun _ => zCw) fun d h => ?_
 cases h; exact .r
theorem zD7 {f : TL} {c : List Int} {r : Int × Int} (h : zqt f c = some r) : Ret E 130 [zH f, zm 1 (SV.int .i64) c] (SV.tup [SV.int .i64 r.fst, SV.int .i64 r.snd]) := by
 refine rg [0] Tryz.func130 h fun h => ?_
 refine ze h (fun _ => zu7) fun l h => za h (fun _ h => ?_) fun _ h => ?_
 cases h; exact .r
 refine za h ?_ ?_ <;> intro _ h
 cases h; exact .r
 refine zp (fun (g : Unit) => [(5, .int .i64 0), (4, .int .i64 0)]) (fun _ => []) 1 h (fun g h => ?_) (fun m d b h => ?_)
 cases h; exact .r
 refine zl (fun (a : Int) => [(23, .int .i64 a), (22, .int .i64 ((↑(List.length (List.map (SV.int .i64) c)) : Int))), (21, (zm 1 (SV.int .i64)) c), (5, .int .i64 0), (4, .int .i64 0), (2, .ptr 0 [])]) (fun a => [(0, .var true (zH f))]) 18 h zd (fun a k n e h => ?_)
 refine za h ?_ ?_ <;> intro _ h
 refine zt (SV.int .i64) h rfl fun o h => ?_
 refine zL h (fun i h => ?_) (fun i h => ?_)
 refine b ?_
 cases h; exact .r
 refine za h ?_ ?_ <;> intro _ h
 refine b ?_
 cases h; exact .r
 refine zb h fun j h => ?_
 exact e j h zd
 exact d (()) h zd
theorem zDx {a : TL} {b : Int} {c : Int} {r : Bool} (h : zn2 a b c = some r) : Ret E 133 [wW zH a, SV.int .i64 b, SV.int .i64 c] (SV.bool r) := by
 refine rg [] Tryz.func133 h fun h => ?_
 refine zt (SV.int .u8) h rfl fun d h => zo h fun _ h => ?_
 cases h; exact .r
theorem zEj {a : Int} {b : TL} {c : Int} {r : Bool} (h : zxi a b c = some r) : Ret E 132 [SV.int .i64 a, wW zH b, wW (SV.int .i64) c] (SV.bool r) := by
 refine rg [] Tryz.func132 h fun h => ?_
 refine ze h (fun _ => zDx) fun d h => ?_
 cases h; exact .r
theorem zC4 {c : List Int} {a : TL × Int} {r : Int} (h : zqr c a = some r) : Ret E 131 [zm 1 (SV.int .i64) c, SV.fn 132 [wW zH a.fst, wW (SV.int .i64) a.snd]] (SV.int .i64 r) := by
 refine rg [0] Tryz.func131 h fun h => ?_
 refine zp (fun (g : Unit) => [(4, .int .i64 0)]) (fun _ => []) 1 h (fun g h => ?_) (fun m d e h => ?_)
 cases h; exact .r
 refine zl (fun (b : Int) => [(8, .int .i64 b), (7, .int .i64 ((↑(List.length (List.map (SV.int .i64) c)) : Int))), (4, .int .i64 0), (1, .fn 132 [wW zH a.fst, wW (SV.int .i64) a.snd]), (0, (zm 1 (SV.int .i64)) c)]) (fun _ => []) 4 h zd (fun b l n f h => ?_)
 refine za h (fun i h => ?_) (fun i h => ?_)
 refine zt (SV.int .i64) h rfl fun _ h => ze h (fun _ => zEj) fun o h => za h (fun j h => ?_) (fun j h => ?_)
 refine e ?_
 cases h; exact .r
 refine zb h fun k h => ?_
 exact f k h zd
 exact d (()) h zd
theorem zBo {c : TL} {d : List Int} {e : Int} {r : Int × Int} (h : zif c d e = some r) : Ret E 112 [zH c, zm 1 (SV.int .i64) d, SV.int .i64 e] (SV.tup [SV.int .i64 r.fst, SV.int .i64 r.snd]) := by
 refine rg [] Tryz.func112 h fun h => ?_
 refine ze h (fun _ => zD7) fun _ h => za h (fun _ h => ?_) fun _ h => ?_
 cases h; exact .r
 refine zL h (fun a h => ?_) (fun a h => ?_)
 cases h; exact .r
 refine za h (fun b h => ?_) (fun b h => ?_)
 cases h; exact .r
 refine ze h (fun _ => zC4) fun _ h => za h (fun _ h => ?_) fun _ h => ?_
 cases h; exact .r
 cases h; exact .r
theorem zAr {d : TL} {a : TY} {r : Int} (h : zjd d a = some r) : Ret E 97 [zH d, wM a] (SV.int .i64 r) := by
 refine rg [1] Tryz.func97 h fun h => ?_
 refine ze h (fun _ => zEt) fun f h => za h (fun x h => ?_) (fun x h => ?_)
 cases h; exact .r
 refine za h ?_ ?_ <;> intro _ h
 refine za h (fun g h => ?_) (fun g h => ?_)
 refine ⟨fun _ => ?_, fun e => absurd (e.symm.trans g) (by decide)⟩
 cases h; exact .r
 refine za h (fun i h => ?_) (fun i h => ?_)
 refine ⟨fun _ => ?_, fun e => absurd (e.symm.trans i) (by decide)⟩
 cases h; exact .r
 refine za h (fun y h => ?_) (fun y h => ?_)
 cases h; exact .r
 refine zX (by decide) ?_
 refine zj (by decide) rfl ?_
 refine ze h (fun _ => uq) fun I h => za h (fun j h => ?_) (fun j h => ?_)
 refine ⟨fun _ => ?_, fun e => absurd (e.symm.trans j) (by decide)⟩
 cases h; exact .r
 refine zX (by decide) ?_
 refine zj (by decide) rfl ?_
 refine ze h (fun _ => uq) fun J h => za h (fun k h => ?_) (fun k h => ?_)
 refine ⟨fun _ => ?_, fun e => absurd (e.symm.trans k) (by decide)⟩
 cases h; exact .r
 refine ze h (fun _ => uq) fun K h => za h (fun z h => ?_) (fun z h => ?_)
 cases h; exact .r
 refine zo h fun _ h => ?_
 refine zp (fun (l : Unit) => [(4, .int .i64 0), (3, .ptr (1) []), (2, .ptr 0 [])]) (fun l => [(1, .var false (wM a)), (0, .var true (zH d))]) 2 h (fun l h => ?_) (fun L q s h => ?_)
 refine ⟨by trivial, ?_⟩
 refine zo h fun _ h => ze h (fun _ hx => zck (zBo hx) (WkT.same (WkT.wk (.sl (.of (by first | (simp only [zm, qt, List.map_append, List.map_take, List.map_drop, List.map_set, List.map_replicate]; done) | (simp [zm, qt, List.map_append, List.map_take, List.map_drop, List.map_set, List.map_replicate]; done) | rfl))) rfl rfl rfl (WkT.same WkT.nil)))) fun M h => ?_
 refine za h ?_ ?_ <;> intro _ h
 cases h; exact .r
 cases h; exact .r
 refine zl (fun (b : Int) => [(55, .int .i64 b), (54, .int .i64 ((↑(List.length (List.drop (Int.toNat a.Rank) (List.take (Int.toNat (↑(2 : Nat) : Int)) [SV.int .i64 a.Axes.fst, SV.int .i64 a.Axes.snd]))) : Int))), (53, .sl 1 (List.drop (Int.toNat a.Rank) (List.take (Int.toNat (↑(2 : Nat) : Int)) [SV.int .i64 a.Axes.fst, SV.int .i64 a.Axes.snd]))), (5, .int .i64 (f.fst)), (4, .int .i64 0), (3, .ptr (1) []), (2, .ptr 0 [])]) (fun b => [(1, .var false (wM a)), (0, .var true (zH d))]) 53 h zd (fun b G N t h => ?_)
 refine za h ?_ ?_ <;> intro _ h
 refine zt (SV.int .i64) h (by first | (simp only [zm, qt, List.map_append, List.map_take, List.map_drop, List.map_set, List.map_replicate]; done) | (simp [zm, qt, List.map_append, List.map_take, List.map_drop, List.map_set, List.map_replicate]; done) | rfl) fun _ h => za h (fun _ h => ?_) fun _ h => ?_
 refine s ?_
 cases h; exact .r
 refine zb h fun A h => ?_
 exact t A h zd
 exact q (()) h zd
 refine za h (fun m h => ?_) (fun m h => ?_)
 refine ⟨fun _ => ?_, fun e => absurd (e.symm.trans m) (by decide)⟩
 cases h; exact .r
 refine za h (fun C h => ?_) (fun C h => ?_)
 cases h; exact .r
 refine zX (by decide) ?_
 refine zj (by decide) rfl ?_
 refine ze h (fun _ => uq) fun O h => za h (fun n h => ?_) (fun n h => ?_)
 refine ⟨fun _ => ?_, fun e => absurd (e.symm.trans n) (by decide)⟩
 cases h; exact .r
 refine zX (by decide) ?_
 refine zj (by decide) rfl ?_
 refine ze h (fun _ => uq) fun P h => za h (fun o h => ?_) (fun o h => ?_)
 refine ⟨fun _ => ?_, fun e => absurd (e.symm.trans o) (by decide)⟩
 cases h; exact .r
 refine ze h (fun _ => uq) fun _ h => za h (fun _ h => ?_) fun _ h => ?_
 cases h; exact .r
 refine zo h fun _ h => ?_
 refine zp (fun (p : Unit) => [(4, .int .i64 0), (3, .ptr (1) []), (2, .ptr 0 [])]) (fun p => [(1, .var false (wM a)), (0, .var true (zH d))]) 2 h (fun p h => ?_) (fun Q u v h => ?_)
 refine ⟨by trivial, ?_⟩
 refine zo h fun _ h => ze h (fun _ hx => zck (zBo hx) (WkT.same (WkT.wk (.sl (.of (by first | (simp only [zm, qt, List.map_append, List.map_take, List.map_drop, List.map_set, List.map_replicate]; done) | (simp [zm, qt, List.map_append, List.map_take, List.map_drop, List.map_set, List.map_replicate]; done) | rfl))) rfl rfl rfl (WkT.same WkT.nil)))) fun R h => ?_
 refine za h ?_ ?_ <;> intro _ h
 cases h; exact .r
 cases h; exact .r
 refine zl (fun (c : Int) => [(55, .int .i64 c), (54, .int .i64 ((↑(List.length (List.drop (Int.toNat a.Rank) (List.take (Int.toNat (↑(2 : Nat) : Int)) [SV.int .i64 a.Axes.fst, SV.int .i64 a.Axes.snd]))) : Int))), (53, .sl 1 (List.drop (Int.toNat a.Rank) (List.take (Int.toNat (↑(2 : Nat) : Int)) [SV.int .i64 a.Axes.fst, SV.int .i64 a.Axes.snd]))), (5, .int .i64 (f.fst)), (4, .int .i64 0), (3, .ptr (1) []), (2, .ptr 0 [])]) (fun c => [(1, .var false (wM a)), (0, .var true (zH d))]) 50 h zd (fun c H S w h => ?_)
 refine za h ?_ ?_ <;> intro _ h
 refine zt (SV.int .i64) h (by first | (simp only [zm, qt, List.map_append, List.map_take, List.map_drop, List.map_set, List.map_replicate]; done) | (simp [zm, qt, List.map_append, List.map_take, List.map_drop, List.map_set, List.map_replicate]; done) | rfl) fun T h => za h (fun D h => ?_) (fun D h => ?_)
 refine v ?_
 cases h; exact .r
 refine zb h fun F h => ?_
 exact w F h zd
 exact u (()) h zd
theorem zEl {f : TP} {r : Int × Int} (h : zro f = some r) : Ret E 65 [wW qe f] (SV.tup [SV.int .i64 r.fst, SV.int .i64 r.snd]) := by
 refine rg [0] Tryz.func65 h fun h => ?_
 refine za h ?_ ?_ <;> intro _ h
 cases h; exact .r
 refine zp (fun (i : Unit) => [(3, .int .i64 0), (2, .int .i64 0)]) (fun _ => []) 1 h (fun i h => ?_) (fun q g b h => ?_)
 cases h; exact .r
 refine zl (fun (a : Int × List (List UInt8)) => [(21, .int .i64 (a.fst)), (20, .int .i64 ((↑(List.length (List.map wy f.Vars)) : Int))), (19, (zm 6 wy) (f.Vars)), (4, .mpr (8)), (3, .int .i64 0), (2, .int .i64 0), (0, (wW qe) f)]) (fun a => [(8, .mp (List.map (zcl SV.str) a.snd))]) 16 h zd (fun a p s d h => ?_)
 refine za h ?_ ?_ <;> intro _ h
 refine zt wy h rfl fun c h => ?_
 refine zI (fn := Tryz.f96) (cuts := []) ok Tryz.func96 (by kernel_rfl) rfl ?_
 refine ze h (fun _ => zBs) fun t h => za h (fun _ h => ?_) fun _ h => ?_
 refine pT ?_
 refine b ?_
 cases h; exact .r
 refine zh1 (enc := SV.str) (k := c.Name) (l := a.snd) h rfl (fun _ => zbv (by kernel_rfl) _ _) (fun j h u => ?_) (fun j h => ?_)
 refine pT ?_
 refine b ?_
 cases h; exact .r
 refine zh1 (enc := SV.str) (k := c.Name) (l := a.snd) h rfl (fun _ => zbv (by kernel_rfl) _ _) (fun m h v => ?_) (fun m h => ?_)
 refine pF ?_
 refine ⟨by trivial, ?_⟩
 refine ze h (fun _ => zAr) fun w h => za h (fun _ h => ?_) fun _ h => ?_
 refine b ?_
 cases h; exact .r
 refine zb h fun n h => ?_
 exact d ((n, a.snd)) h zd
 refine pF ?_
 refine ⟨by trivial, ?_⟩
 refine ze h (fun _ => zAr) fun y h => za h (fun _ h => ?_) fun _ h => ?_
 refine b ?_
 cases h; exact .r
 refine zb h fun o h => ?_
 exact d ((o, a.snd ++ [c.Name])) h (qx ⟨.refl _, .refl _, .refl _, .refl _, .refl _, .refl _, .refl _, trivial⟩ ⟨(.eq (congrArg Blk.mp (zf4 (e := SV.str) (x := c.Name) (l := a.snd)))), trivial⟩ rfl rfl rfl)
 exact g (()) h zd
theorem zCs {f : TP} {r : Int × Int} (h : zsg f = some r) : Ret E 66 [wW qe f] (SV.tup [SV.int .i64 r.fst, SV.int .i64 r.snd]) := by
 refine rg [0] Tryz.func66 h fun h => ?_
 refine za h ?_ ?_ <;> intro _ h
 cases h; exact .r
 refine zp (fun (m : Unit) => [(3, .int .i64 0), (2, .int .i64 0)]) (fun _ => []) 1 h (fun m h => ?_) (fun y j a h => ?_)
 cases h; exact .r
 refine zl (fun (b : Int × List (Int × Int)) => [(20, .int .i64 (b.fst)), (19, .int .i64 ((↑(List.length (List.map qv f.Rules)) : Int))), (18, (zm 3 qv) (f.Rules)), (4, .mpr (8)), (3, .int .i64 0), (2, .int .i64 0), (0, (wW qe) f)]) (fun b => [(8, .mp (List.map (zcl (jI 1 (SV.int .i64))) b.snd))]) 16 h zd (fun b w z d h => ?_)
 refine za h (fun n h => ?_) (fun n h => ?_)
 refine zt qv h rfl fun c h => ?_
 refine ⟨by trivial, ?_⟩
 refine ze h (fun _ => uq) fun A h => za h (fun g h => ?_) (fun g h => ?_)
 refine ⟨fun _ => ?_, fun e => absurd (e.symm.trans g) (by decide)⟩
 refine a ?_
 cases h; exact .r
 refine ⟨by trivial, ?_⟩
 refine ze h (fun _ => uq) fun C h => za h (fun o h => ?_) (fun o h => ?_)
 refine a ?_
 cases h; exact .r
 refine za h (fun i h => ?_) (fun i h => ?_)
 refine ⟨fun _ => ?_, fun e => absurd (e.symm.trans i) (by decide)⟩
 refine a ?_
 cases h; exact .r
 refine ⟨by trivial, ?_⟩
 refine zt (SV.int .u8) h rfl fun D h => zo h fun _ h => za h (fun _ h => ?_) fun _ h => ?_
 refine a ?_
 cases h; exact .r
 refine zh1 (enc := (jI 1 (SV.int .i64))) (k := (c.From, c.Goal)) (l := b.snd) h rfl (fun _ => zp3 (e := 3) (q := .i64) (by kernel_rfl) (by kernel_rfl) (by kernel_rfl) (by kernel_rfl) _ _) (fun p h F => ?_) (fun p h => ?_)
 refine a ?_
 cases h; exact .r
 refine zL h (fun s h => ?_) (fun s h => ?_)
 refine a ?_
 cases h; exact .r
 refine za h ?_ ?_ <;> intro _ h
 refine a ?_
 cases h; exact .r
 refine zh1 (enc := (jI 1 (SV.int .i64))) (k := (c.From, c.Goal)) (l := b.snd) h rfl (fun _ => zp3 (e := 3) (q := .i64) (by kernel_rfl) (by kernel_rfl) (by kernel_rfl) (by kernel_rfl) _ _) (fun t h G => ?_) (fun t h => ?_)
 refine zb h fun u h => ?_
 exact d ((u, b.snd)) h zd
 refine zb h fun v h => ?_
 exact d ((v, b.snd ++ [(c.From, c.Goal)])) h (qx ⟨.refl _, .refl _, .refl _, .refl _, .refl _, .refl _, .refl _, trivial⟩ ⟨(.eq (congrArg Blk.mp (zf4 (e := (jI 1 (SV.int .i64))) (x := (c.From, c.Goal)) (l := b.snd)))), trivial⟩ rfl rfl rfl)
 exact j (()) h zd
theorem zvn {i : TP} {r : Int × Int × Int} (h : zhz i = some r) : Ret E 26 [qe i] (SV.tup [SV.int .i64 r.fst, SV.int .i64 r.snd.fst, SV.int .i64 r.snd.snd]) := by
 refine rg [0] Tryz.func26 h fun h => ?_
 refine call L_policy_parts ?_
 refine zp (fun (c : Int × Int × Int) => [(2, .int .i64 (c.fst)), (4, .int .i64 (c.snd.fst)), (3, .int .i64 (c.snd.snd))]) (fun _ => []) 1 h (fun c h => ?_) (fun l a k h => ?_)
 cases h; exact .r
 refine zjp fun m b => ?_
 refine pT ?_
 refine zj (by decide) rfl ?_
 refine ze h (fun _ => zDw) fun e h => za h (fun _ h => ?_) fun _ h => ?_
 refine zv (r := (1 : Int)) (by decide) ?_
 exact a (((1 : Int), e.snd, e.fst)) h zd
 refine zv (r := (1 : Int)) (by decide) ?_
 refine b _ _ _ ?_
 refine pT ?_
 refine zj (by decide) rfl ?_
 refine ze h (fun _ => zCt) fun f h => za h (fun _ h => ?_) fun _ h => ?_
 refine zv (r := (2 : Int)) (by decide) ?_
 exact a (((2 : Int), f.snd, f.fst)) h zd
 refine zv (r := (2 : Int)) (by decide) ?_
 refine b _ _ _ ?_
 refine pT ?_
 refine zj (by decide) rfl ?_
 refine ze h (fun _ => zEl) fun g h => za h (fun j h => ?_) (fun j h => ?_)
 refine zv (r := (3 : Int)) (by decide) ?_
 exact a (((3 : Int), g.snd, g.fst)) h zd
 refine zv (r := (3 : Int)) (by decide) ?_
 refine b _ _ _ ?_
 refine pT ?_
 refine zj (by decide) rfl ?_
 refine ze h (fun _ => zCs) fun d h => za h (fun _ h => ?_) fun _ h => ?_
 refine zv (r := (4 : Int)) (by decide) ?_
 exact a (((4 : Int), d.snd, d.fst)) h zd
 refine zv (r := (4 : Int)) (by decide) ?_
 refine b _ _ _ ?_
 refine pF ?_
 exact a (((0 : Int), d.snd, d.fst)) h zd
theorem zDs {a : Int} {r : List UInt8 × Int} (h : zrd a = some r) : Ret E 37 [SV.int .i64 a] (SV.tup [SV.str r.fst, SV.int .i64 r.snd]) := by
 refine rg [] Tryz.func37 h fun h => ?_
 refine zL h (fun b h => ?_) (fun b h => ?_)
 cases h; exact .r
 refine za h ?_ ?_ <;> intro _ h
 cases h; exact .r
 refine call L_release_folds ?_
 refine zA5 h (zaq (fun _ h => ?_) (zaq (fun _ h => ?_) (zaq (fun _ h => ?_) (zaq (fun _ h => ?_) (zaq (fun _ h => ?_) zzg)))))
 cases h; exact .r
 cases h; exact .r
 cases h; exact .r
 cases h; exact .r
 cases h; exact .r
theorem zD9 {b : TP} {d : Int} {e : Int} {r : Int × Int} (h : zrm b d e = some r) : Ret E 39 [qe b, SV.int .i64 d, SV.int .i64 e] (SV.tup [SV.int .i64 r.fst, SV.int .i64 r.snd]) := by
 refine rg [0] Tryz.func39 h fun h => ?_
 refine ze h (fun _ => zvn) fun n h => za h (fun _ h => ?_) fun _ h => ?_
 cases h; exact .r
 refine ze h (fun _ => uq) fun _ h => ?_
 refine zL h (fun i h => ?_) (fun i h => ?_)
 cases h; exact .r
 refine ze h (fun _ => uq) fun o h => za h (fun _ h => ?_) fun _ h => ?_
 cases h; exact .r
 refine zp (fun (j : Unit) => [(7, .int .i64 0), (6, .int .i64 0)]) (fun _ => []) 1 h (fun j h => ?_) (fun p f g h => ?_)
 cases h; exact .r
 refine zl (fun (c : Int) => [(35, .int .i64 c), (34, .int .i64 ((↑(List.length (List.map qv b.Rules)) : Int))), (33, (zm 3 qv) (b.Rules)), (7, .int .i64 0), (6, .int .i64 0), (2, .int .i64 e), (1, .int .i64 d)]) (fun _ => []) 28 h zd (fun c m q a h => ?_)
 refine za h ?_ ?_ <;> intro _ h
 refine zt qv h rfl fun _ h => za h (fun _ h => ?_) fun _ h => ?_
 refine za h ?_ ?_ <;> intro _ h
 refine g ?_
 cases h; exact .r
 refine zb h fun k h => ?_
 exact a k h zd
 refine zb h fun l h => ?_
 exact a l h zd
 exact f (()) h zd
theorem zDh {a : TE} {b : Int} {r : Bool} (h : zrv a b = some r) : Ret E 40 [wW zM a, SV.int .i64 b] (SV.bool r) := by
 refine rg [] Tryz.func40 h fun h => ?_
 refine za h ?_ ?_ <;> intro _ h
 cases h; exact .r
 refine zX (by decide) ?_
 refine zj (by decide) rfl ?_
 refine za h ?_ ?_ <;> intro _ h
 cases h; exact .r
 refine ⟨by trivial, ?_⟩
 refine zL h (fun c h => ?_) (fun c h => ?_)
 cases h; exact .r
 refine zX (by decide) ?_
 refine zj (by decide) rfl ?_
 refine za h ?_ ?_ <;> intro _ h
 refine zX (by decide) ?_
 refine zj (by decide) rfl ?_
 cases h; exact .r
 cases h; exact .r
theorem zD4 {a : TP} {b : TE} {r : Int} (h : zp9 a b = some r) : Ret E 27 [qe a, zM b] (SV.int .i64 r) := by
 refine rg [] Tryz.func27 h fun h => ?_
 refine ze h (fun _ => zvn) fun _ h => za h (fun _ h => ?_) fun _ h => ?_
 cases h; exact .r
 refine ze h (fun _ => zDs) fun _ h => za h (fun _ h => ?_) fun _ h => ?_
 cases h; exact .r
 refine ze h (fun _ => zD9) fun f h => ?_
 refine zL h (fun c h => ?_) (fun c h => ?_)
 cases h; exact .r
 refine zL h (fun d h => ?_) (fun d h => ?_)
 cases h; exact .r
 refine zL h (fun e h => ?_) (fun e h => ?_)
 cases h; exact .r
 refine za h ?_ ?_ <;> intro _ h
 cases h; exact .r
 refine za h ?_ ?_ <;> intro _ h
 cases h; exact .r
 refine ze h (fun _ => zDh) fun g h => za h (fun _ h => ?_) fun _ h => ?_
 cases h; exact .r
 cases h; exact .r
theorem zDu {d : TP} {c : List TE} {r : Int × Int} (h : zsl d c = some r) : Ret E 15 [qe d, zm 7 zM c] (SV.tup [SV.int .i64 r.fst, SV.int .i64 r.snd]) := by
 refine rg [0] Tryz.func15 h fun h => ?_
 refine ze h (fun _ => zvn) fun _ h => za h (fun _ h => ?_) fun _ h => ?_
 cases h; exact .r
 refine za h ?_ ?_ <;> intro _ h
 cases h; exact .r
 refine zp (fun (g : Unit) => [(5, .int .i64 0), (4, .int .i64 0)]) (fun _ => []) 1 h (fun g h => ?_) (fun k e a h => ?_)
 cases h; exact .r
 refine zl (fun (b : Int) => [(26, .int .i64 b), (25, .int .i64 ((↑(List.length (List.map zM c)) : Int))), (24, (zm 7 zM) c), (5, .int .i64 0), (4, .int .i64 0), (2, .ptr 0 [])]) (fun b => [(0, .var true (qe d))]) 20 h zd (fun b j l f h => ?_)
 refine za h ?_ ?_ <;> intro _ h
 refine zt zM h rfl fun m h => ze h (fun _ => zD4) fun n h => za h (fun _ h => ?_) fun _ h => ?_
 refine a ?_
 cases h; exact .r
 refine za h ?_ ?_ <;> intro _ h
 refine a ?_
 cases h; exact .r
 refine zb h fun i h => ?_
 exact f i h zd
 exact e (()) h zd
theorem zD5 {H : TP} {o : List TE} {r : List (Int × Int × Int × Int × Int) × Int} (h : zq8 H o = some r) : Ret E 7 [qe H, zm 7 zM o] (SV.tup [zm 5 (fun (x : Int × Int × Int × Int × Int) => SV.agg [SV.int .i64 x.fst, SV.int .i64 x.snd.fst, SV.int .i64 x.snd.snd.fst, SV.int .i64 x.snd.snd.snd.fst, SV.int .i64 x.snd.snd.snd.snd]) r.fst, SV.int .i64 r.snd]) := by
 refine rg [0, 2] Tryz.func7 h fun h => ?_
 refine ze h (fun _ => zDu) fun X h => za h (fun _ h => ?_) fun _ h => ?_
 cases h; exact .r
 refine zp (fun (g : List (Int × Int × Int) × List ((Int × Int × Int) × Int × Int × Int × Int × Int)) => [(9, .osl (15) 3), (8, .mpr (13)), (5, .int .i64 0), (4, .osl (1) 5)]) (fun g => [(15, .row true 3 (List.map (wt 1 (SV.int .i64)) g.fst)), (13, .mp (List.map (xp (wt 1 (SV.int .i64)) fun (x : Int × Int × Int × Int × Int) => SV.agg [SV.int .i64 x.fst, SV.int .i64 x.snd.fst, SV.int .i64 x.snd.snd.fst, SV.int .i64 x.snd.snd.snd.fst, SV.int .i64 x.snd.snd.snd.snd]) g.snd)), (1, .row true 5 [])]) 16 h (fun g h => ?_) (fun Y s Q h => ?_)
 refine yM (hK := ?_)
 refine zo h fun _ h => ?_
 refine zp (fun (j : List (Int × Int × Int × Int × Int)) => [(15, .osl 17 5), (5, .int .i64 0), (4, .osl (1) 5)]) (fun j => [(17, .row true 5 (List.map (fun (x : Int × Int × Int × Int × Int) => SV.agg [SV.int .i64 x.fst, SV.int .i64 x.snd.fst, SV.int .i64 x.snd.snd.fst, SV.int .i64 x.snd.snd.snd.fst, SV.int .i64 x.snd.snd.snd.snd]) j)), (1, .row true 5 [])]) 18 h (fun j h => ?_) (fun R p O h => ?_)
 cases h; exact .r
 refine zl (fun (f : Int × List (Int × Int × Int × Int × Int)) => [(80, .int .i64 (f.fst)), (79, .int .i64 ((↑(List.length (List.map s3 (sortK g.fst))) : Int))), (78, .osl (15) 3), (15, .osl 17 5), (8, .mpr (13)), (5, .int .i64 0), (4, .osl (1) 5)]) (fun f => [(17, .row true 5 (List.map (fun (x : Int × Int × Int × Int × Int) => SV.agg [SV.int .i64 x.fst, SV.int .i64 x.snd.fst, SV.int .i64 x.snd.snd.fst, SV.int .i64 x.snd.snd.snd.fst, SV.int .i64 x.snd.snd.snd.snd]) f.snd)), (15, .row true 3 (List.map s3 (sortK g.fst))), (13, .mp (List.map (xp (wt 1 (SV.int .i64)) fun (x : Int × Int × Int × Int × Int) => SV.agg [SV.int .i64 x.fst, SV.int .i64 x.snd.fst, SV.int .i64 x.snd.snd.fst, SV.int .i64 x.snd.snd.snd.fst, SV.int .i64 x.snd.snd.snd.snd]) g.snd)), (1, .row true 5 [])]) 21 h zd (fun f P S m h => ?_)
 refine za h ?_ ?_ <;> intro _ h
 refine zo h fun _ h => zt (wt 1 (SV.int .i64)) h rfl fun t h => ?_
 refine zeb (eK := (wt 1 (SV.int .i64))) (eV := (fun (x : Int × Int × Int × Int × Int) => SV.agg [SV.int .i64 x.fst, SV.int .i64 x.snd.fst, SV.int .i64 x.snd.snd.fst, SV.int .i64 x.snd.snd.snd.fst, SV.int .i64 x.snd.snd.snd.snd])) (k := t) (l := g.snd) h rfl (fun _ => uL (e := 3) (q := .i64) (by kernel_rfl) (by kernel_rfl) (by kernel_rfl) (by kernel_rfl) _ _) (fun T u h => ?_) (fun h => ?_)
 refine zo h fun _ h => zb h fun w h => ?_
 exact m ((w, f.snd ++ [u])) h (qx ⟨.refl _, .refl _, .refl _, .refl _, .refl _, .refl _, .refl _, trivial⟩ ⟨(.row (.appm .refl (.cons .refl .refl))), .refl, .refl, .refl, trivial⟩ rfl rfl rfl)
 refine zo h fun _ h => zb h fun y h => ?_
 exact m ((y, f.snd ++ [((0 : Int), (0 : Int), (0 : Int), (0 : Int), (0 : Int))])) h (qx ⟨.refl _, .refl _, .refl _, .refl _, .refl _, .refl _, .refl _, trivial⟩ ⟨(.row (.appm .refl (.cons .refl .refl))), .refl, .refl, .refl, trivial⟩ rfl rfl rfl)
 exact p (f.snd) h zd
 refine zl (fun (b : Int × List (Int × Int × Int) × List ((Int × Int × Int) × Int × Int × Int × Int × Int)) => [(30, .int .i64 (b.fst)), (29, .int .i64 ((↑(List.length (List.map zM o)) : Int))), (28, (zm 7 zM) o), (9, .osl (15) 3), (8, .mpr (13)), (5, .int .i64 0), (4, .osl (1) 5)]) (fun b => [(15, .row true 3 (List.map (wt 1 (SV.int .i64)) b.snd.fst)), (13, .mp (List.map (xp (wt 1 (SV.int .i64)) fun (x : Int × Int × Int × Int × Int) => SV.agg [SV.int .i64 x.fst, SV.int .i64 x.snd.fst, SV.int .i64 x.snd.snd.fst, SV.int .i64 x.snd.snd.snd.fst, SV.int .i64 x.snd.snd.snd.snd]) b.snd.snd)), (1, .row true 5 [])]) 19 h zd (fun b U Z d h => ?_)
 refine za h ?_ ?_ <;> intro _ h
 refine zt zM h rfl fun a h => ?_
 refine zeb (eK := (wt 1 (SV.int .i64))) (eV := (fun (x : Int × Int × Int × Int × Int) => SV.agg [SV.int .i64 x.fst, SV.int .i64 x.snd.fst, SV.int .i64 x.snd.snd.fst, SV.int .i64 x.snd.snd.snd.fst, SV.int .i64 x.snd.snd.snd.snd])) (k := (a.From, a.Goal, a.Fold)) (l := b.snd.snd) h rfl (fun _ => uL (e := 3) (q := .i64) (by kernel_rfl) (by kernel_rfl) (by kernel_rfl) (by kernel_rfl) _ _) (fun a2 c h => ?_) (fun h => ?_)
 refine pF ?_
 refine zb h fun i h => ?_
 refine zX (by decide) ?_
 refine zj (by decide) rfl ?_
 refine za h ?_ ?_ <;> intro _ h
 refine zb h fun n h => ?_
 refine zeb (eK := (wt 1 (SV.int .i64))) (eV := (fun (x : Int × Int × Int × Int × Int) => SV.agg [SV.int .i64 x.fst, SV.int .i64 x.snd.fst, SV.int .i64 x.snd.snd.fst, SV.int .i64 x.snd.snd.snd.fst, SV.int .i64 x.snd.snd.snd.snd])) (k := (a.From, a.Goal, a.Fold)) (l := b.snd.snd) h rfl (fun _ => uL (e := 3) (q := .i64) (by kernel_rfl) (by kernel_rfl) (by kernel_rfl) (by kernel_rfl) _ _) (fun I a3 h => ?_) (fun h => ?_)
 refine zb h fun J h => ?_
 exact d ((J, b.snd.fst, List.set b.snd.snd I ((a.From, a.Goal, a.Fold), c.fst, c.snd.fst, c.snd.snd.fst, i, n))) h (qx ⟨.refl _, .refl _, .refl _, .refl _, .refl _, .refl _, .refl _, trivial⟩ ⟨.refl, (.eq (congrArg Blk.mp (zha (eK := (wt 1 (SV.int .i64))) (eV := (fun (x : Int × Int × Int × Int × Int) => SV.agg [SV.int .i64 x.fst, SV.int .i64 x.snd.fst, SV.int .i64 x.snd.snd.fst, SV.int .i64 x.snd.snd.snd.fst, SV.int .i64 x.snd.snd.snd.snd])) (k := (a.From, a.Goal, a.Fold)) (v := (c.fst, c.snd.fst, c.snd.snd.fst, i, n)) (l := b.snd.snd)))), .refl, trivial⟩ rfl rfl rfl)
 refine zb h fun K h => ?_
 exact d ((K, b.snd.fst, b.snd.snd ++ [((a.From, a.Goal, a.Fold), c.fst, c.snd.fst, c.snd.snd.fst, i, n)])) h (qx ⟨.refl _, .refl _, .refl _, .refl _, .refl _, .refl _, .refl _, trivial⟩ ⟨.refl, (.eq (congrArg Blk.mp (zd7 (eK := (wt 1 (SV.int .i64))) (eV := (fun (x : Int × Int × Int × Int × Int) => SV.agg [SV.int .i64 x.fst, SV.int .i64 x.snd.fst, SV.int .i64 x.snd.snd.fst, SV.int .i64 x.snd.snd.snd.fst, SV.int .i64 x.snd.snd.snd.snd])) (k := (a.From, a.Goal, a.Fold)) (v := (c.fst, c.snd.fst, c.snd.snd.fst, i, n)) (l := b.snd.snd)))), .refl, trivial⟩ rfl rfl rfl)
 refine zeb (eK := (wt 1 (SV.int .i64))) (eV := (fun (x : Int × Int × Int × Int × Int) => SV.agg [SV.int .i64 x.fst, SV.int .i64 x.snd.fst, SV.int .i64 x.snd.snd.fst, SV.int .i64 x.snd.snd.snd.fst, SV.int .i64 x.snd.snd.snd.snd])) (k := (a.From, a.Goal, a.Fold)) (l := b.snd.snd) h rfl (fun _ => uL (e := 3) (q := .i64) (by kernel_rfl) (by kernel_rfl) (by kernel_rfl) (by kernel_rfl) _ _) (fun L a4 h => ?_) (fun h => ?_)
 refine zb h fun M h => ?_
 exact d ((M, b.snd.fst, List.set b.snd.snd L ((a.From, a.Goal, a.Fold), c.fst, c.snd.fst, c.snd.snd.fst, i, c.snd.snd.snd.snd))) h (qx ⟨.refl _, .refl _, .refl _, .refl _, .refl _, .refl _, .refl _, trivial⟩ ⟨.refl, (.eq (congrArg Blk.mp (zha (eK := (wt 1 (SV.int .i64))) (eV := (fun (x : Int × Int × Int × Int × Int) => SV.agg [SV.int .i64 x.fst, SV.int .i64 x.snd.fst, SV.int .i64 x.snd.snd.fst, SV.int .i64 x.snd.snd.snd.fst, SV.int .i64 x.snd.snd.snd.snd])) (k := (a.From, a.Goal, a.Fold)) (v := (c.fst, c.snd.fst, c.snd.snd.fst, i, c.snd.snd.snd.snd)) (l := b.snd.snd)))), .refl, trivial⟩ rfl rfl rfl)
 refine zb h fun N h => ?_
 exact d ((N, b.snd.fst, b.snd.snd ++ [((a.From, a.Goal, a.Fold), c.fst, c.snd.fst, c.snd.snd.fst, i, c.snd.snd.snd.snd)])) h (qx ⟨.refl _, .refl _, .refl _, .refl _, .refl _, .refl _, .refl _, trivial⟩ ⟨.refl, (.eq (congrArg Blk.mp (zd7 (eK := (wt 1 (SV.int .i64))) (eV := (fun (x : Int × Int × Int × Int × Int) => SV.agg [SV.int .i64 x.fst, SV.int .i64 x.snd.fst, SV.int .i64 x.snd.snd.fst, SV.int .i64 x.snd.snd.snd.fst, SV.int .i64 x.snd.snd.snd.snd])) (k := (a.From, a.Goal, a.Fold)) (v := (c.fst, c.snd.fst, c.snd.snd.fst, i, c.snd.snd.snd.snd)) (l := b.snd.snd)))), .refl, trivial⟩ rfl rfl rfl)
 refine pT ?_
 refine zo h fun _ h => zv (r := (1 : Int)) (by decide) ?_
 refine zX (by decide) ?_
 refine zj (by decide) rfl ?_
 refine za h ?_ ?_ <;> intro _ h
 refine zv (r := (1 : Int)) (by decide) ?_
 refine zeb (eK := (wt 1 (SV.int .i64))) (eV := (fun (x : Int × Int × Int × Int × Int) => SV.agg [SV.int .i64 x.fst, SV.int .i64 x.snd.fst, SV.int .i64 x.snd.snd.fst, SV.int .i64 x.snd.snd.snd.fst, SV.int .i64 x.snd.snd.snd.snd])) (k := (a.From, a.Goal, a.Fold)) (l := b.snd.snd) h rfl (fun _ => uL (e := 3) (q := .i64) (by kernel_rfl) (by kernel_rfl) (by kernel_rfl) (by kernel_rfl) _ _) (fun z V h => ?_) (fun h => ?_)
 refine zb h fun A h => ?_
 exact d ((A, b.snd.fst ++ [(a.From, a.Goal, a.Fold)], List.set b.snd.snd z ((a.From, a.Goal, a.Fold), a.From, a.Goal, a.Fold, (1 : Int), (1 : Int)))) h (qx ⟨.refl _, .refl _, .refl _, .refl _, .refl _, .refl _, .refl _, trivial⟩ ⟨(.row (.appm .refl (.cons .refl .refl))), (.eq (congrArg Blk.mp (zha (eK := (wt 1 (SV.int .i64))) (eV := (fun (x : Int × Int × Int × Int × Int) => SV.agg [SV.int .i64 x.fst, SV.int .i64 x.snd.fst, SV.int .i64 x.snd.snd.fst, SV.int .i64 x.snd.snd.snd.fst, SV.int .i64 x.snd.snd.snd.snd])) (k := (a.From, a.Goal, a.Fold)) (v := (a.From, a.Goal, a.Fold, (1 : Int), (1 : Int))) (l := b.snd.snd)))), .refl, trivial⟩ rfl rfl rfl)
 refine zb h fun C h => ?_
 exact d ((C, b.snd.fst ++ [(a.From, a.Goal, a.Fold)], b.snd.snd ++ [((a.From, a.Goal, a.Fold), a.From, a.Goal, a.Fold, (1 : Int), (1 : Int))])) h (qx ⟨.refl _, .refl _, .refl _, .refl _, .refl _, .refl _, .refl _, trivial⟩ ⟨(.row (.appm .refl (.cons .refl .refl))), (.eq (congrArg Blk.mp (zd7 (eK := (wt 1 (SV.int .i64))) (eV := (fun (x : Int × Int × Int × Int × Int) => SV.agg [SV.int .i64 x.fst, SV.int .i64 x.snd.fst, SV.int .i64 x.snd.snd.fst, SV.int .i64 x.snd.snd.snd.fst, SV.int .i64 x.snd.snd.snd.snd])) (k := (a.From, a.Goal, a.Fold)) (v := (a.From, a.Goal, a.Fold, (1 : Int), (1 : Int))) (l := b.snd.snd)))), .refl, trivial⟩ rfl rfl rfl)
 refine zeb (eK := (wt 1 (SV.int .i64))) (eV := (fun (x : Int × Int × Int × Int × Int) => SV.agg [SV.int .i64 x.fst, SV.int .i64 x.snd.fst, SV.int .i64 x.snd.snd.fst, SV.int .i64 x.snd.snd.snd.fst, SV.int .i64 x.snd.snd.snd.snd])) (k := (a.From, a.Goal, a.Fold)) (l := b.snd.snd) h rfl (fun _ => uL (e := 3) (q := .i64) (by kernel_rfl) (by kernel_rfl) (by kernel_rfl) (by kernel_rfl) _ _) (fun D W h => ?_) (fun h => ?_)
 refine zb h fun F h => ?_
 exact d ((F, b.snd.fst ++ [(a.From, a.Goal, a.Fold)], List.set b.snd.snd D ((a.From, a.Goal, a.Fold), a.From, a.Goal, a.Fold, (1 : Int), (0 : Int)))) h (qx ⟨.refl _, .refl _, .refl _, .refl _, .refl _, .refl _, .refl _, trivial⟩ ⟨(.row (.appm .refl (.cons .refl .refl))), (.eq (congrArg Blk.mp (zha (eK := (wt 1 (SV.int .i64))) (eV := (fun (x : Int × Int × Int × Int × Int) => SV.agg [SV.int .i64 x.fst, SV.int .i64 x.snd.fst, SV.int .i64 x.snd.snd.fst, SV.int .i64 x.snd.snd.snd.fst, SV.int .i64 x.snd.snd.snd.snd])) (k := (a.From, a.Goal, a.Fold)) (v := (a.From, a.Goal, a.Fold, (1 : Int), (0 : Int))) (l := b.snd.snd)))), .refl, trivial⟩ rfl rfl rfl)
 refine zb h fun G h => ?_
 exact d ((G, b.snd.fst ++ [(a.From, a.Goal, a.Fold)], b.snd.snd ++ [((a.From, a.Goal, a.Fold), a.From, a.Goal, a.Fold, (1 : Int), (0 : Int))])) h (qx ⟨.refl _, .refl _, .refl _, .refl _, .refl _, .refl _, .refl _, trivial⟩ ⟨(.row (.appm .refl (.cons .refl .refl))), (.eq (congrArg Blk.mp (zd7 (eK := (wt 1 (SV.int .i64))) (eV := (fun (x : Int × Int × Int × Int × Int) => SV.agg [SV.int .i64 x.fst, SV.int .i64 x.snd.fst, SV.int .i64 x.snd.snd.fst, SV.int .i64 x.snd.snd.snd.fst, SV.int .i64 x.snd.snd.snd.snd])) (k := (a.From, a.Goal, a.Fold)) (v := (a.From, a.Goal, a.Fold, (1 : Int), (0 : Int))) (l := b.snd.snd)))), .refl, trivial⟩ rfl rfl rfl)
 exact s (b.snd) h zd
theorem zzy {a : Int} {r : Bool} (h : zl6 a = some r) : Ret E 113 [SV.int .u8 a] (SV.bool r) := by
 refine rg [] Tryz.func113 h fun h => ?_
 refine za h ?_ ?_ <;> intro _ h
 cases h; exact .r
 cases h; exact .r
theorem zDn {a : Int} {r : Bool} (h : zqw a = some r) : Ret E 114 [SV.int .u8 a] (SV.bool r) := by
 refine rg [] Tryz.func114 h fun h => ?_
 refine za h ?_ ?_ <;> intro _ h
 cases h; exact .r
 cases h; exact .r
theorem zDr {e : List UInt8} {r : Bool} (h : zsm e = some r) : Ret E 99 [SV.str e] (SV.bool r) := by
 refine rg [0] Tryz.func99 h fun h => ?_
 refine zL h (fun f h => ?_) (fun f h => ?_)
 cases h; exact .r
 refine zL h (fun g h => ?_) (fun g h => ?_)
 cases h; exact .r
 refine zy h fun _ h => ze h (fun _ => zzy) fun _ h => za h (fun _ h => ?_) fun _ h => ?_
 cases h; exact .r
 refine zp (fun (i : Unit) => [(2, .fls)]) (fun _ => []) 1 h (fun i h => ?_) (fun n c d h => ?_)
 cases h; exact .r
 refine zl (fun (b : Int) => [(3, .int .i64 b), (2, .fls), (0, .str e)]) (fun _ => []) 16 h zd (fun b m o a h => ?_)
 refine za h ?_ ?_ <;> intro _ h
 refine zy h fun p h => ze h (fun _ => zzy) fun q h => za h (fun _ h => ?_) fun _ h => ?_
 refine zy h fun s h => ze h (fun _ => zDn) fun t h => za h (fun _ h => ?_) fun _ h => ?_
 refine zy h fun _ h => za h (fun _ h => ?_) fun _ h => ?_
 refine d ?_
 cases h; exact .r
 refine zb h fun j h => ?_
 exact a j h zd
 refine zb h fun k h => ?_
 exact a k h zd
 refine zb h fun l h => ?_
 exact a l h zd
 exact c (()) h zd
theorem zDv {c : List (List UInt8)} {r : Int × Int} (h : zrp c = some r) : Ret E 74 [zm 1 SV.str c] (SV.tup [SV.int .i64 r.fst, SV.int .i64 r.snd]) := by
 refine rg [0, 2] Tryz.func74 h fun h => ?_
 refine zL h (fun k h => ?_) (fun k h => ?_)
 cases h; exact .r
 refine za h ?_ ?_ <;> intro _ h
 cases h; exact .r
 refine zp (fun (l : Unit) => [(3, .int .i64 0), (2, .int .i64 0)]) (fun _ => []) 1 h (fun l h => ?_) (fun s e b h => ?_)
 cases h; exact .r
 refine zl (fun (a : Int) => [(4, .int .i64 a), (3, .int .i64 0), (2, .int .i64 0), (0, (zm 1 SV.str) c)]) (fun _ => []) 11 h zd (fun a p t f h => ?_)
 refine za h ?_ ?_ <;> intro _ h
 refine zt SV.str h rfl fun _ h => ze h (fun _ => zDr) fun u h => za h (fun _ h => ?_) fun _ h => ?_
 refine b ?_
 cases h; exact .r
 refine zp (fun (m : Unit) => [(4, .int .i64 a), (3, .int .i64 0), (2, .int .i64 0), (0, (zm 1 SV.str) c)]) (fun _ => []) 1 h (fun m h => ?_) (fun v g i h => ?_)
 refine zb h fun n h => ?_
 exact f n h zd
 refine zl (fun (d : Int) => [(5, .int .i64 d), (4, .int .i64 a), (3, .int .i64 0), (2, .int .i64 0), (0, (zm 1 SV.str) c)]) (fun _ => []) 22 h zd (fun d q w j h => ?_)
 refine za h ?_ ?_ <;> intro _ h
 refine ⟨by trivial, ?_⟩
 refine zt SV.str h rfl fun x h => zt SV.str h rfl fun y h => za h (fun _ h => ?_) fun _ h => ?_
 refine i ?_
 refine b ?_
 cases h; exact .r
 refine zb h fun o h => ?_
 exact j o h zd
 exact g (()) h zd
 exact e (()) h zd
theorem zft {a : TL} {b : Int} {c : Int} {r : Bool} (h : ur a b c = some r) : Ret E 81 [zH a, SV.int .i64 b, SV.int .i64 c] (SV.bool r) := by
 refine rg [] Tryz.func81 h fun h => ?_
 refine za h ?_ ?_ <;> intro _ h
 refine za h ?_ ?_ <;> intro _ h
 refine za h ?_ ?_ <;> intro _ h
 refine zt (SV.int .u8) h rfl fun d h => zo h fun _ h => ?_
 refine zX (by decide) ?_
 cases h; exact .r
 cases h; exact .r
 cases h; exact .r
 cases h; exact .r
theorem zDf {d : TL} {f : Int} {r : Bool} (h : zr2 d f = some r) : Ret E 75 [zH d, SV.int .i64 f] (SV.bool r) := by
 refine rg [0] Tryz.func75 h fun h => ?_
 refine zt (SV.int .u8) h rfl fun p h => zb h fun g h => zo h fun _ h => ?_
 refine zL h (fun i h => ?_) (fun i h => ?_)
 cases h; exact .r
 refine ze h (fun _ => zft) fun q h => za h (fun _ h => ?_) fun _ h => ?_
 cases h; exact .r
 refine zp (fun (j : Unit) => [(4, .fls)]) (fun _ => []) 1 h (fun j h => ?_) (fun s e a h => ?_)
 cases h; exact .r
 refine zl (fun (c : Int) => [(7, .int .i64 c), (6, .int .i64 g), (5, .int .i64 ((↑(List.length (List.map SV.str d.Names)) : Int))), (4, .fls), (2, .ptr 0 []), (1, .int .i64 f)]) (fun c => [(0, .var true (zH d))]) 25 h zd (fun c o t b h => ?_)
 refine za h ?_ ?_ <;> intro _ h
 refine ze h (fun _ => zft) fun _ h => za h (fun _ h => ?_) fun _ h => ?_
 refine zb h fun k h => ?_
 exact b k h zd
 refine ⟨by trivial, ?_⟩
 refine zt (SV.int .u8) h rfl fun _ h => zb h fun u h => zo h fun _ h => zb h fun v h => zb h fun _ h => za h (fun _ h => ?_) fun _ h => ?_
 refine ze h (fun _ => zft) fun _ h => ?_
 refine zL h (fun l h => ?_) (fun l h => ?_)
 refine a ?_
 cases h; exact .r
 refine za h ?_ ?_ <;> intro _ h
 refine a ?_
 cases h; exact .r
 refine zb h fun m h => ?_
 exact b m h zd
 refine za h ?_ ?_ <;> intro _ h
 refine a ?_
 cases h; exact .r
 refine zb h fun n h => ?_
 exact b n h zd
 exact e (()) h zd
theorem zz6 {f : TL} {r : List Int} (h : zn1 f = some r) : Ret E 76 [zH f] (zm 1 (SV.int .u8) r) := by
 refine rg [0, 2] Tryz.func76 h fun h => ?_
 refine zo h fun _ h => ?_
 refine zp (fun (d : List Int) => [(3, .osl (5) 1), (2, .osl (1) 1)]) (fun d => [(5, .row true 1 (List.map (SV.int .u8) d)), (1, .row true 1 [])]) 6 h (fun d h => ?_) (fun u g p h => ?_)
 cases h; exact .r
 refine zl (fun (b : Int × List Int) => [(4, .int .i64 (b.fst)), (3, .osl (5) 1), (2, .osl (1) 1), (1, .ptr 0 [])]) (fun b => [(5, .row true 1 (List.map (SV.int .u8) b.snd)), (1, .row true 1 []), (0, .var true (zH f))]) 8 h (qx ⟨.refl _, .refl _, .refl _, .refl _, trivial⟩ ⟨(.row (.of (by first | (simp only [zm, qt, List.map_append, List.map_take, List.map_drop, List.map_set, List.map_replicate]; done) | (simp [zm, qt, List.map_append, List.map_take, List.map_drop, List.map_set, List.map_replicate]; done) | rfl))), .refl, .refl, trivial⟩ rfl rfl rfl) (fun b q v i h => ?_)
 refine za h ?_ ?_ <;> intro _ h
 refine zp (fun (c : List Int) => [(4, .int .i64 (b.fst)), (3, .osl (5) 1), (2, .osl (1) 1), (1, .ptr 0 [])]) (fun c => [(5, .row true 1 (List.map (SV.int .u8) c)), (1, .row true 1 []), (0, .var true (zH f))]) 6 h (fun c h => ?_) (fun w j s h => ?_)
 refine zb h fun k h => ?_
 exact i ((k, c)) h zd
 refine zl (fun (a : Int × List Int) => [(5, .int .i64 (a.fst)), (4, .int .i64 (b.fst)), (3, .osl (5) 1), (2, .osl (1) 1), (1, .ptr 0 [])]) (fun a => [(5, .row true 1 (List.map (SV.int .u8) a.snd)), (1, .row true 1 []), (0, .var true (zH f))]) 14 h zd (fun a t x e h => ?_)
 refine za h ?_ ?_ <;> intro _ h
 refine ze h (fun _ => zft) fun y h => za h (fun _ h => ?_) fun _ h => ?_
 refine ⟨by trivial, ?_⟩
 refine zo h fun _ h => zt (SV.int .u8) h rfl fun l h => zo h fun _ h => zb h fun m h => zo h fun _ h => zt (SV.int .u8) h rfl fun _ h => zb h fun n h => ?_
 exact e ((n, List.set a.snd (Int.toNat a.fst) (bits BinOp.or IntKind.u8 l m))) h (qx ⟨.refl _, .refl _, .refl _, .refl _, .refl _, trivial⟩ ⟨(.row (.setm .refl .refl)), .refl, .refl, trivial⟩ rfl rfl rfl)
 refine zb h fun o h => ?_
 exact e ((o, a.snd)) h zd
 exact j (a.snd) h zd
 exact g (b.snd) h zd
theorem zvo {e : List Int} {m : Int} {n : Int} {r : Int} (h : zh0 e m n = some r) : Ret E 77 [zm 1 (SV.int .u8) e, SV.int .i64 m, SV.int .i64 n] (SV.int .i64 r) := by
 refine rg [0] Tryz.func77 h fun h => ?_
 refine ⟨by trivial, ?_⟩
 refine zt (SV.int .u8) h rfl fun f h => zt (SV.int .u8) h rfl fun g h => ?_
 refine zp (fun (i : Unit) => [(6, .int .i64 0)]) (fun _ => []) 1 h (fun i h => ?_) (fun p b c h => ?_)
 cases h; exact .r
 refine zl (fun (a : Int) => [(8, .int .i64 a), (7, .int .u8 (bits BinOp.and IntKind.u8 f g)), (6, .int .i64 0), (0, (zm 1 (SV.int .u8)) e)]) (fun _ => []) 12 h zd (fun a o q d h => ?_)
 refine za h (fun j h => ?_) (fun j h => ?_)
 refine zt (SV.int .u8) h rfl fun s h => za h (fun k h => ?_) (fun k h => ?_)
 refine c ?_
 cases h; exact .r
 refine zb h fun l h => ?_
 exact d l h zd
 exact b (()) h zd
theorem zvb {a : TL} {r : Int × Int} (h : zi8 a = some r) : Ret E 52 [zH a] (SV.tup [SV.int .i64 r.fst, SV.int .i64 r.snd]) := by
 refine rg [0, 2, 4] Tryz.func52 h fun h => ?_
 refine ze h (fun _ => zDv) fun D h => za h (fun _ h => ?_) fun _ h => ?_
 cases h; exact .r
 refine za h ?_ ?_ <;> intro _ h
 cases h; exact .r
 refine zp (fun (i : Unit) => [(6, .int .i64 ((↑(List.length (List.map SV.str a.Names)) : Int))), (3, .int .i64 0), (2, .int .i64 0), (1, .ptr 0 [])]) (fun i => [(0, .var true (zH a))]) 1 h (fun i h => ?_) (fun F k l h => ?_)
 refine ze h (fun _ => zz6) fun c h => ?_
 refine zp (fun (s : Unit) => [(3, .int .i64 0), (2, .int .i64 0)]) (fun _ => []) 1 h (fun s h => ?_) (fun G m f h => ?_)
 cases h; exact .r
 refine zl (fun (b : Int) => [(9, .int .i64 b), (8, (zm 1 (SV.int .u8)) c), (6, .int .i64 ((↑(List.length (List.map SV.str a.Names)) : Int))), (3, .int .i64 0), (2, .int .i64 0), (1, .ptr 0 [])]) (fun b => [(0, .var true (zH a))]) 5 h zd (fun b z H n h => ?_)
 refine za h (fun t h => ?_) (fun t h => ?_)
 refine zp (fun (j : Unit) => [(9, .int .i64 b), (8, (zm 1 (SV.int .u8)) c), (6, .int .i64 ((↑(List.length (List.map SV.str a.Names)) : Int))), (3, .int .i64 0), (2, .int .i64 0), (1, .ptr 0 [])]) (fun j => [(0, .var true (zH a))]) 1 h (fun j h => ?_) (fun I o g h => ?_)
 refine zb h fun u h => ?_
 exact n u h zd
 refine zl (fun (d : Int) => [(10, .int .i64 d), (9, .int .i64 b), (8, (zm 1 (SV.int .u8)) c), (6, .int .i64 ((↑(List.length (List.map SV.str a.Names)) : Int))), (3, .int .i64 0), (2, .int .i64 0), (1, .ptr 0 [])]) (fun d => [(0, .var true (zH a))]) 9 h zd (fun d A J p h => ?_)
 refine za h (fun v h => ?_) (fun v h => ?_)
 refine ze h (fun _ => zvo) fun K h => ?_
 refine zL h (fun w h => ?_) (fun w h => ?_)
 refine g ?_
 refine f ?_
 cases h; exact .r
 refine ze h (fun _ => zvo) fun L h => za h (fun _ h => ?_) fun _ h => ?_
 refine g ?_
 refine f ?_
 cases h; exact .r
 refine zb h fun x h => ?_
 exact p x h zd
 exact o (()) h zd
 exact m (()) h zd
 refine zl (fun (e : Int) => [(7, .int .i64 e), (6, .int .i64 ((↑(List.length (List.map SV.str a.Names)) : Int))), (3, .int .i64 0), (2, .int .i64 0), (1, .ptr 0 [])]) (fun e => [(0, .var true (zH a))]) 23 h zd (fun e C M q h => ?_)
 refine za h ?_ ?_ <;> intro _ h
 refine ze h (fun _ => zDf) fun _ h => za h (fun _ h => ?_) fun _ h => ?_
 refine l ?_
 cases h; exact .r
 refine zb h fun y h => ?_
 exact q y h zd
 exact k (()) h zd
theorem zEf {r : List (List UInt8)} (h : zqa = some r) : Ret E 134 [] (zm 1 SV.str r) := by
 refine rg [] Tryz.func134 h fun h => ?_
 unfold zqa at h
 cases h; exact .r
theorem zEs {e : List UInt8} {r : Int × Int} (h : zqb e = some r) : Ret E 115 [SV.str e] (SV.tup [SV.int .i64 r.fst, SV.int .i64 r.snd]) := by
 refine rg [0] Tryz.func115 h fun h => ?_
 refine ze h (fun _ => zEf) fun f h => ?_
 refine zp (fun (g : Unit) => [(3, .int .i64 0), (2, .int .i64 0)]) (fun _ => []) 1 h (fun g h => ?_) (fun k b c h => ?_)
 cases h; exact .r
 refine zl (fun (a : Int) => [(5, .int .i64 a), (4, (zm 1 SV.str) f), (3, .int .i64 0), (2, .int .i64 0), (0, .str e)]) (fun _ => []) 5 h zd (fun a j l d h => ?_)
 refine za h ?_ ?_ <;> intro _ h
 refine zt SV.str h rfl fun m h => za h (fun _ h => ?_) fun _ h => ?_
 refine zb h fun _ h => ?_
 refine c ?_
 cases h; exact .r
 refine zb h fun i h => ?_
 exact d i h zd
 exact b (()) h zd
theorem zBd {a : Int} {r : Bool} (h : zn4 a = some r) : Ret E 169 [SV.int .u8 a] (SV.bool r) := by
 refine rg [] Tryz.func169 h fun h => ?_
 refine za h ?_ ?_ <;> intro _ h
 cases h; exact .r
 cases h; exact .r
theorem zEa {b : Int} {r : Bool} (h : zrj b = some r) : Ret E 170 [SV.int .u8 b] (SV.bool r) := by
 refine rg [] Tryz.func170 h fun h => ?_
 refine za h (fun a h => ?_) (fun a h => ?_)
 cases h; exact .r
 cases h; exact .r
theorem zh5 {e : List UInt8} {r : Bool} (h : zcs e = some r) : Ret E 135 [SV.str e] (SV.bool r) := by
 refine rg [0] Tryz.func135 h fun h => ?_
 refine zL h (fun f h => ?_) (fun f h => ?_)
 cases h; exact .r
 refine zy h fun n h => ze h (fun _ => zBd) fun o h => za h (fun _ h => ?_) fun _ h => ?_
 cases h; exact .r
 refine zp (fun (g : Unit) => [(2, .fls)]) (fun _ => []) 1 h (fun g h => ?_) (fun p c d h => ?_)
 cases h; exact .r
 refine zl (fun (b : Int) => [(3, .int .i64 b), (2, .fls), (0, .str e)]) (fun _ => []) 10 h zd (fun b m q a h => ?_)
 refine za h (fun i h => ?_) (fun i h => ?_)
 refine zy h fun s h => ze h (fun _ => zBd) fun t h => za h (fun _ h => ?_) fun _ h => ?_
 refine zy h fun u h => ze h (fun _ => zEa) fun v h => za h (fun j h => ?_) (fun j h => ?_)
 refine d ?_
 cases h; exact .r
 refine zb h fun k h => ?_
 exact a k h zd
 refine zb h fun l h => ?_
 exact a l h zd
 exact c (()) h zd
theorem zi7 {d : List UInt8} {r : List Int × Bool} (h : zfd d = some r) : Ret E 136 [SV.str d] (SV.tup [zm 1 (SV.int .i64) r.fst, .bool r.snd]) := by
 refine rg [0] Tryz.func136 h fun h => ?_
 refine zp (fun (a : Unit) => [(4, .osl (2) 1), (3, .fls), (2, .osl 0 1)]) (fun a => [(2, .row true 1 []), (0, .row true 1 [])]) 3 h (fun a h => ?_) (fun i c e h => ?_)
 cases h; exact .r
 refine zl (fun (b : Unit) => [(5, .int .i64 0), (4, .osl (2) 1), (3, .fls), (2, .osl 0 1), (0, .str d)]) (fun b => [(2, .row true 1 []), (0, .row true 1 [])]) 4 h zd (fun b f j g h => ?_)
 refine za h ?_ ?_ <;> intro _ h
 exact uC h
 exact c (()) h zd
theorem zCm {t : TK} {r : Int} (h : zsh t = some r) : Ret E 116 [zU t] (SV.int .i64 r) := by
 refine rg [] Tryz.func116 h fun h => ?_
 refine zL h (fun a h => ?_) (fun a h => ?_)
 cases h; exact .r
 refine zL h (fun b h => ?_) (fun b h => ?_)
 cases h; exact .r
 refine za h ?_ ?_ <;> intro _ h
 refine zL h (fun c h => ?_) (fun c h => ?_)
 cases h; exact .r
 refine za h ?_ ?_ <;> intro _ h
 refine za h ?_ ?_ <;> intro _ h
 refine za h ?_ ?_ <;> intro _ h
 cases h; exact .r
 refine za h ?_ ?_ <;> intro _ h
 refine ze h (fun _ => zh5) fun u h => za h (fun d h => ?_) (fun d h => ?_)
 cases h; exact .r
 refine za h (fun e h => ?_) (fun e h => ?_)
 cases h; exact .r
 cases h; exact .r
 refine za h (fun f h => ?_) (fun f h => ?_)
 refine ze h (fun _ => zi7) fun v h => za h (fun g h => ?_) (fun g h => ?_)
 cases h; exact .r
 refine za h ?_ ?_ <;> intro _ h
 cases h; exact .r
 cases h; exact .r
 cases h; exact .r
 refine za h (fun i h => ?_) (fun i h => ?_)
 refine ze h (fun _ => zh5) fun _ h => za h (fun _ h => ?_) fun _ h => ?_
 cases h; exact .r
 refine za h ?_ ?_ <;> intro _ h
 cases h; exact .r
 cases h; exact .r
 refine za h ?_ ?_ <;> intro _ h
 refine ze h (fun _ => zi7) fun w h => za h (fun _ h => ?_) fun _ h => ?_
 cases h; exact .r
 refine za h ?_ ?_ <;> intro _ h
 cases h; exact .r
 cases h; exact .r
 cases h; exact .r
 refine za h ?_ ?_ <;> intro _ h
 refine ze h (fun _ => zh5) fun _ h => za h (fun _ h => ?_) fun _ h => ?_
 cases h; exact .r
 refine za h ?_ ?_ <;> intro _ h
 cases h; exact .r
 cases h; exact .r
 refine za h ?_ ?_ <;> intro _ h
 refine ze h (fun _ => zi7) fun x h => za h (fun _ h => ?_) fun _ h => ?_
 cases h; exact .r
 refine za h (fun j h => ?_) (fun j h => ?_)
 cases h; exact .r
 cases h; exact .r
 cases h; exact .r
 refine za h ?_ ?_ <;> intro _ h
 refine za h ?_ ?_ <;> intro _ h
 refine za h (fun k h => ?_) (fun k h => ?_)
 cases h; exact .r
 refine za h ?_ ?_ <;> intro _ h
 refine ze h (fun _ => zh5) fun y h => za h (fun l h => ?_) (fun l h => ?_)
 cases h; exact .r
 refine za h ?_ ?_ <;> intro _ h
 cases h; exact .r
 cases h; exact .r
 refine za h ?_ ?_ <;> intro _ h
 refine ze h (fun _ => zi7) fun z h => za h (fun _ h => ?_) fun _ h => ?_
 cases h; exact .r
 refine za h ?_ ?_ <;> intro _ h
 cases h; exact .r
 cases h; exact .r
 cases h; exact .r
 refine za h ?_ ?_ <;> intro _ h
 refine ze h (fun _ => zh5) fun A h => za h (fun m h => ?_) (fun m h => ?_)
 cases h; exact .r
 refine za h (fun n h => ?_) (fun n h => ?_)
 cases h; exact .r
 cases h; exact .r
 refine za h ?_ ?_ <;> intro _ h
 refine ze h (fun _ => zi7) fun _ h => za h (fun _ h => ?_) fun _ h => ?_
 cases h; exact .r
 refine za h (fun o h => ?_) (fun o h => ?_)
 cases h; exact .r
 cases h; exact .r
 cases h; exact .r
 refine za h ?_ ?_ <;> intro _ h
 refine ze h (fun _ => zh5) fun C h => za h (fun _ h => ?_) fun _ h => ?_
 cases h; exact .r
 refine za h (fun p h => ?_) (fun p h => ?_)
 cases h; exact .r
 cases h; exact .r
 refine za h (fun q h => ?_) (fun q h => ?_)
 refine ze h (fun _ => zi7) fun D h => za h (fun s h => ?_) (fun s h => ?_)
 cases h; exact .r
 refine za h ?_ ?_ <;> intro _ h
 cases h; exact .r
 cases h; exact .r
 cases h; exact .r
theorem zC8 {e : List UInt8} {r : Bool} (h : zsi e = some r) : Ret E 117 [SV.str e] (SV.bool r) := by
 refine rg [0] Tryz.func117 h fun h => ?_
 refine zp (fun (f : Unit) => [(2, .fls)]) (fun _ => []) 1 h (fun f h => ?_) (fun j b c h => ?_)
 cases h; exact .r
 refine zl (fun (a : Int) => [(4, .int .i64 a), (3, .osl (1) 1), (2, .fls), (0, .str e)]) (fun a => [(1, .row true 1 [SV.str (ByteArray.mk #[118, 97, 114]).data.toList, .str (ByteArray.mk #[100, 101, 102]).data.toList, .str (ByteArray.mk #[111, 117, 116]).data.toList, .str (ByteArray.mk #[105, 102]).data.toList, .str (ByteArray.mk #[101, 108, 115, 101]).data.toList, .str (ByteArray.mk #[119, 104, 105, 108, 101]).data.toList, .str (ByteArray.mk #[101, 110, 100]).data.toList, .str (ByteArray.mk #[114, 101, 108, 101, 97, 115, 101]).data.toList, .str (ByteArray.mk #[105, 110, 116]).data.toList, .str (ByteArray.mk #[99, 104, 97, 114]).data.toList])]) 4 h zd (fun a i k d h => ?_)
 refine za h ?_ ?_ <;> intro _ h
 refine zo h fun _ h => zt SV.str h (by first | (simp only [zm, qt, List.map_append, List.map_take, List.map_drop, List.map_set, List.map_replicate]; done) | (simp [zm, qt, List.map_append, List.map_take, List.map_drop, List.map_set, List.map_replicate]; done) | rfl) fun l h => ?_
 refine za h ?_ ?_ <;> intro _ h
 refine c ?_
 cases h; exact .r
 refine zb h fun g h => ?_
 exact d g h zd
 exact b (()) h zd
theorem zC3 {a : List UInt8} {r : Bool} (h : zq5 a = some r) : Ret E 100 [SV.str a] (SV.bool r) := by
 refine rg [] Tryz.func100 h fun h => ?_
 refine ze h (fun _ => zEs) fun b h => ze h (fun _ => zCm) fun _ h => za h (fun _ h => ?_) fun _ h => ?_
 refine za h ?_ ?_ <;> intro _ h
 refine ze h (fun _ => zC8) fun c h => ?_
 cases h; exact .r
 cases h; exact .r
 cases h; exact .r
theorem zzx {e : List UInt8} {f : List (List UInt8)} {r : Int} (h : zmf e f = some r) : Ret E 78 [SV.str e, zm 1 SV.str f] (SV.int .i64 r) := by
 refine rg [0] Tryz.func78 h fun h => ?_
 refine ze h (fun _ => zC3) fun k h => za h (fun _ h => ?_) fun _ h => ?_
 cases h; exact .r
 refine zp (fun (g : Unit) => [(4, .int .i64 0)]) (fun _ => []) 1 h (fun g h => ?_) (fun l b c h => ?_)
 cases h; exact .r
 refine zl (fun (a : Int) => [(5, .int .i64 a), (4, .int .i64 0), (1, (zm 1 SV.str) f), (0, .str e)]) (fun _ => []) 5 h zd (fun a j m d h => ?_)
 refine za h ?_ ?_ <;> intro _ h
 refine zt SV.str h rfl fun _ h => za h (fun _ h => ?_) fun _ h => ?_
 refine c ?_
 cases h; exact .r
 refine zb h fun i h => ?_
 exact d i h zd
 exact b (()) h zd
theorem zan {a : TL} {b : Int} {r : Bool} (h : xg a b = some r) : Ret E 79 [zH a, SV.int .i64 b] (SV.bool r) := by
 refine rg [] Tryz.func79 h fun h => ?_
 refine za h ?_ ?_ <;> intro _ h
 cases h; exact .r
 cases h; exact .r
theorem zEk {e : TP} {r : Int × Int} (h : zrf e = some r) : Ret E 53 [qe e] (SV.tup [SV.int .i64 r.fst, SV.int .i64 r.snd]) := by
 refine rg [0] Tryz.func53 h fun h => ?_
 refine za h ?_ ?_ <;> intro _ h
 cases h; exact .r
 refine zp (fun (f : Unit) => [(3, .int .i64 0), (2, .int .i64 0)]) (fun _ => []) 1 h (fun f h => ?_) (fun o d b h => ?_)
 cases h; exact .r
 refine zl (fun (a : Int × List (List UInt8)) => [(5, .int .i64 (a.fst)), (4, .osl (7) 1), (3, .int .i64 0), (2, .int .i64 0), (1, .ptr 0 [])]) (fun a => [(7, .row true 1 (List.map SV.str a.snd)), (0, .var true (qe e))]) 9 h zd (fun a n p c h => ?_)
 refine za h ?_ ?_ <;> intro _ h
 refine zt zT h rfl fun q h => ze h (fun _ => zzx) fun s h => ?_
 refine ⟨by trivial, ?_⟩
 refine za h (fun g h => ?_) (fun g h => ?_)
 refine zt zT h rfl fun _ h => ze h (fun _ => zan) fun t h => za h (fun i h => ?_) (fun i h => ?_)
 refine pT ?_
 refine b ?_
 cases h; exact .r
 refine za h ?_ ?_ <;> intro _ h
 refine b ?_
 cases h; exact .r
 refine zt zT h rfl fun j h => zo h fun _ h => zb h fun k h => ?_
 exact c ((k, a.snd ++ [j.s_])) h (qx ⟨.refl _, .refl _, .refl _, .refl _, .refl _, trivial⟩ ⟨(.row (.appm .refl (.cons .refl .refl))), .refl, trivial⟩ rfl rfl rfl)
 refine za h ?_ ?_ <;> intro _ h
 refine b ?_
 cases h; exact .r
 refine zt zT h rfl fun l h => zo h fun _ h => zb h fun m h => ?_
 exact c ((m, a.snd ++ [l.s_])) h (qx ⟨.refl _, .refl _, .refl _, .refl _, .refl _, trivial⟩ ⟨(.row (.appm .refl (.cons .refl .refl))), .refl, trivial⟩ rfl rfl rfl)
 exact d (()) h zd
theorem zDq {e : TL} {f : Int} {g : Int} {r : Int} (h : zr7 e f g = some r) : Ret E 118 [zH e, SV.int .i64 f, SV.int .i64 g] (SV.int .i64 r) := by
 refine rg [] Tryz.func118 h fun h => ?_
 refine ze h (fun _ => zvb) fun i h => za h (fun a h => ?_) (fun a h => ?_)
 refine zL h (fun b h => ?_) (fun b h => ?_)
 cases h; exact .r
 refine zL h (fun c h => ?_) (fun c h => ?_)
 cases h; exact .r
 refine zL h (fun d h => ?_) (fun d h => ?_)
 cases h; exact .r
 refine za h ?_ ?_ <;> intro _ h
 cases h; exact .r
 cases h; exact .r
 cases h; exact .r
theorem zBi {e : TL} {r : Int × Int} (h : zna e = some r) : Ret E 101 [zH e] (SV.tup [SV.int .i64 r.fst, SV.int .i64 r.snd]) := by
 refine rg [0] Tryz.func101 h fun h => ?_
 refine ze h (fun _ => zDq) fun l h => za h (fun _ h => ?_) fun _ h => ?_
 cases h; exact .r
 refine ze h (fun _ => zz6) fun f h => ?_
 refine zp (fun (b : Int) => [(6, .int .i64 b), (3, .int .i64 0), (2, .int .i64 0)]) (fun _ => []) 1 h (fun b h => ?_) (fun m c j h => ?_)
 cases h; exact .r
 refine zl (fun (a : Int × Int) => [(7, .int .i64 (a.fst)), (6, .int .i64 (a.snd)), (5, (zm 1 (SV.int .u8)) f), (3, .int .i64 0), (2, .int .i64 0), (1, .ptr 0 [])]) (fun a => [(0, .var true (zH e))]) 13 h zd (fun a k n d h => ?_)
 refine za h ?_ ?_ <;> intro _ h
 refine ze h (fun _ => zvo) fun g h => zb h fun i h => ?_
 exact d ((i, g)) h zd
 exact c (a.snd) h zd
theorem zCq {a : TL} {b : TY} {r : Int} (h : zni a b = some r) : Ret E 80 [zH a, wM b] (SV.int .i64 r) := by
 refine rg [0, 2] Tryz.func80 h fun h => ?_
 refine ze h (fun _ => zvb) fun V h => za h (fun w h => ?_) (fun w h => ?_)
 cases h; exact .r
 refine za h ?_ ?_ <;> intro _ h
 refine zL h (fun x h => ?_) (fun x h => ?_)
 cases h; exact .r
 refine zL h (fun y h => ?_) (fun y h => ?_)
 cases h; exact .r
 refine zL h (fun z h => ?_) (fun z h => ?_)
 cases h; exact .r
 refine zX (by decide) ?_
 refine zj (by decide) rfl ?_
 refine ze h (fun _ => zan) fun W h => ?_
 refine zL h (fun A h => ?_) (fun A h => ?_)
 cases h; exact .r
 refine zX (by decide) ?_
 refine zj (by decide) rfl ?_
 refine ze h (fun _ => zan) fun X h => ?_
 refine zL h (fun C h => ?_) (fun C h => ?_)
 cases h; exact .r
 refine ze h (fun _ => zan) fun Y h => za h (fun D h => ?_) (fun D h => ?_)
 cases h; exact .r
 refine ze h (fun _ => zBi) fun F h => ?_
 refine zp (fun (g : Unit) => [(4, .int .i64 0), (3, .ptr (1) []), (2, .ptr 0 [])]) (fun g => [(1, .var true (wM b)), (0, .var true (zH a))]) 2 h (fun g h => ?_) (fun Z j k h => ?_)
 refine zp (fun (G : Unit) => [(4, .int .i64 0)]) (fun _ => []) 1 h (fun G h => ?_) (fun a2 l m h => ?_)
 cases h; exact .r
 refine zl (fun (c : Int) => [(10, .int .i64 c), (4, .int .i64 0), (3, .ptr (1) []), (2, .ptr 0 [])]) (fun c => [(1, .var true (wM b)), (0, .var true (zH a))]) 3 h zd (fun c R a3 n h => ?_)
 refine za h ?_ ?_ <;> intro _ h
 refine ⟨by trivial, ?_⟩
 refine zo h fun _ h => zt (SV.int .i64) h (by first | (simp only [zm, qt, List.map_append, List.map_take, List.map_drop, List.map_set, List.map_replicate]; done) | (simp [zm, qt, List.map_append, List.map_take, List.map_drop, List.map_set, List.map_replicate]; done) | rfl) fun a4 h => ?_
 refine ze h (fun _ => zft) fun a5 h => za h (fun _ h => ?_) fun _ h => ?_
 refine m ?_
 cases h; exact .r
 refine zb h fun H h => ?_
 exact n H h zd
 exact l (()) h zd
 refine zl (fun (d : Int) => [(9, .int .i64 d), (7, .int .i64 (F.fst)), (4, .int .i64 0), (3, .ptr (1) []), (2, .ptr 0 [])]) (fun d => [(1, .var true (wM b)), (0, .var true (zH a))]) 63 h zd (fun d S a6 o h => ?_)
 refine za h ?_ ?_ <;> intro _ h
 refine zo h fun _ h => zt (SV.int .i64) h (by first | (simp only [zm, qt, List.map_append, List.map_take, List.map_drop, List.map_set, List.map_replicate]; done) | (simp [zm, qt, List.map_append, List.map_take, List.map_drop, List.map_set, List.map_replicate]; done) | rfl) fun a7 h => ?_
 refine za h ?_ ?_ <;> intro _ h
 refine k ?_
 cases h; exact .r
 refine zb h fun I h => ?_
 exact o I h zd
 exact j (()) h zd
 refine zL h (fun J h => ?_) (fun J h => ?_)
 cases h; exact .r
 refine zL h (fun K h => ?_) (fun K h => ?_)
 cases h; exact .r
 refine zX (by decide) ?_
 refine zj (by decide) rfl ?_
 refine ze h (fun _ => zan) fun a8 h => ?_
 refine zL h (fun L h => ?_) (fun L h => ?_)
 cases h; exact .r
 refine zX (by decide) ?_
 refine zj (by decide) rfl ?_
 refine ze h (fun _ => zan) fun a9 h => ?_
 refine zL h (fun M h => ?_) (fun M h => ?_)
 cases h; exact .r
 refine ze h (fun _ => zan) fun b0 h => za h (fun _ h => ?_) fun _ h => ?_
 cases h; exact .r
 refine ze h (fun _ => zBi) fun N h => ?_
 refine zp (fun (i : Unit) => [(4, .int .i64 0), (3, .ptr (1) []), (2, .ptr 0 [])]) (fun i => [(1, .var true (wM b)), (0, .var true (zH a))]) 2 h (fun i h => ?_) (fun b1 p q h => ?_)
 refine zp (fun (O : Unit) => [(4, .int .i64 0)]) (fun _ => []) 1 h (fun O h => ?_) (fun b2 s t h => ?_)
 cases h; exact .r
 refine zl (fun (e : Int) => [(10, .int .i64 e), (4, .int .i64 0), (3, .ptr (1) []), (2, .ptr 0 [])]) (fun e => [(1, .var true (wM b)), (0, .var true (zH a))]) 3 h zd (fun e T b3 u h => ?_)
 refine za h ?_ ?_ <;> intro _ h
 refine ⟨by trivial, ?_⟩
 refine zo h fun _ h => zt (SV.int .i64) h (by first | (simp only [zm, qt, List.map_append, List.map_take, List.map_drop, List.map_set, List.map_replicate]; done) | (simp [zm, qt, List.map_append, List.map_take, List.map_drop, List.map_set, List.map_replicate]; done) | rfl) fun b4 h => ?_
 refine ze h (fun _ => zft) fun b5 h => za h (fun _ h => ?_) fun _ h => ?_
 refine t ?_
 cases h; exact .r
 refine zb h fun P h => ?_
 exact u P h zd
 exact s (()) h zd
 refine zl (fun (f : Int) => [(9, .int .i64 f), (7, .int .i64 (N.fst)), (4, .int .i64 0), (3, .ptr (1) []), (2, .ptr 0 [])]) (fun f => [(1, .var true (wM b)), (0, .var true (zH a))]) 60 h zd (fun f U b6 v h => ?_)
 refine za h ?_ ?_ <;> intro _ h
 refine zo h fun _ h => zt (SV.int .i64) h (by first | (simp only [zm, qt, List.map_append, List.map_take, List.map_drop, List.map_set, List.map_replicate]; done) | (simp [zm, qt, List.map_append, List.map_take, List.map_drop, List.map_set, List.map_replicate]; done) | rfl) fun _ h => ?_
 refine za h ?_ ?_ <;> intro _ h
 refine q ?_
 cases h; exact .r
 refine zb h fun Q h => ?_
 exact v Q h zd
 exact p (()) h zd
theorem zCp {e : TP} {r : Int × Int} (h : zrx e = some r) : Ret E 54 [qe e] (SV.tup [SV.int .i64 r.fst, SV.int .i64 r.snd]) := by
 refine rg [0] Tryz.func54 h fun h => ?_
 refine za h ?_ ?_ <;> intro _ h
 cases h; exact .r
 refine zp (fun (f : Unit) => [(3, .int .i64 0), (2, .int .i64 0)]) (fun _ => []) 1 h (fun f h => ?_) (fun p d b h => ?_)
 cases h; exact .r
 refine zl (fun (a : Int × List (List UInt8)) => [(5, .int .i64 (a.fst)), (4, .osl (7) 1), (3, .int .i64 0), (2, .int .i64 0), (1, .ptr 0 [])]) (fun a => [(7, .row true 1 (List.map SV.str a.snd)), (0, .var true (qe e))]) 9 h zd (fun a o q c h => ?_)
 refine za h ?_ ?_ <;> intro _ h
 refine zt wy h rfl fun s h => ze h (fun _ => zzx) fun t h => za h (fun g h => ?_) (fun g h => ?_)
 refine ⟨by trivial, ?_⟩
 refine zt wy h rfl fun u h => ze h (fun _ => zCq) fun v h => za h (fun i h => ?_) (fun i h => ?_)
 refine b ?_
 cases h; exact .r
 refine zt wy h rfl fun j h => zo h fun _ h => zb h fun k h => ?_
 exact c ((k, a.snd ++ [j.Name])) h (qx ⟨.refl _, .refl _, .refl _, .refl _, .refl _, trivial⟩ ⟨(.row (.appm .refl (.cons .refl .refl))), .refl, trivial⟩ rfl rfl rfl)
 refine za h (fun l h => ?_) (fun l h => ?_)
 refine b ?_
 cases h; exact .r
 refine zt wy h rfl fun m h => zo h fun _ h => zb h fun n h => ?_
 exact c ((n, a.snd ++ [m.Name])) h (qx ⟨.refl _, .refl _, .refl _, .refl _, .refl _, trivial⟩ ⟨(.row (.appm .refl (.cons .refl .refl))), .refl, trivial⟩ rfl rfl rfl)
 exact d (()) h zd
theorem zDd {e : TP} {r : Int × Int} (h : zqy e = some r) : Ret E 55 [qe e] (SV.tup [SV.int .i64 r.fst, SV.int .i64 r.snd]) := by
 refine rg [0, 2] Tryz.func55 h fun h => ?_
 refine za h ?_ ?_ <;> intro _ h
 cases h; exact .r
 refine zp (fun (m : Unit) => [(3, .int .i64 0), (2, .int .i64 0)]) (fun _ => []) 1 h (fun m h => ?_) (fun A i a h => ?_)
 cases h; exact .r
 refine zl (fun (b : Int) => [(4, .int .i64 b), (3, .int .i64 0), (2, .int .i64 0), (1, .ptr 0 [])]) (fun b => [(0, .var true (qe e))]) 8 h zd (fun b y C j h => ?_)
 refine za h (fun n h => ?_) (fun n h => ?_)
 refine zt qv h rfl fun f h => ze h (fun _ => zan) fun D h => ?_
 refine zL h (fun o h => ?_) (fun o h => ?_)
 refine a ?_
 cases h; exact .r
 refine ze h (fun _ => zan) fun _ h => za h (fun p h => ?_) (fun p h => ?_)
 refine a ?_
 cases h; exact .r
 refine zL h (fun q h => ?_) (fun q h => ?_)
 refine a ?_
 cases h; exact .r
 refine ze h (fun _ => zft) fun F h => za h (fun _ h => ?_) fun _ h => ?_
 refine a ?_
 cases h; exact .r
 refine zp (fun (g : Unit) => [(5, .ptr 18 []), (4, .int .i64 b), (3, .int .i64 0), (2, .int .i64 0), (1, .ptr 0 [])]) (fun g => [(18, .var true (qv f)), (0, .var true (qe e))]) 19 h (fun g h => ?_) (fun G k l h => ?_)
 refine zL h (fun s h => ?_) (fun s h => ?_)
 refine a ?_
 cases h; exact .r
 refine za h ?_ ?_ <;> intro _ h
 refine a ?_
 cases h; exact .r
 refine zb h fun t h => ?_
 exact j t h zd
 refine zl (fun (c : Int) => [(6, .int .i64 c), (5, .ptr 18 []), (4, .int .i64 b), (3, .int .i64 0), (2, .int .i64 0), (1, .ptr 0 [])]) (fun c => [(18, .var true (qv f)), (0, .var true (qe e))]) 50 h zd (fun c z H d h => ?_)
 refine za h (fun u h => ?_) (fun u h => ?_)
 refine ⟨by trivial, ?_⟩
 refine zt qv h rfl fun I h => za h (fun v h => ?_) (fun v h => ?_)
 refine zt qv h rfl fun J h => za h (fun _ h => ?_) fun _ h => ?_
 refine l ?_
 refine a ?_
 cases h; exact .r
 refine zb h fun w h => ?_
 exact d w h zd
 refine zb h fun x h => ?_
 exact d x h zd
 exact k (()) h zd
 exact i (()) h zd
theorem zwf {b : TP} {r : Int × Int × Int} (h : zjc b = some r) : Ret E 31 [qe b] (SV.tup [SV.int .i64 r.fst, SV.int .i64 r.snd.fst, SV.int .i64 r.snd.snd]) := by
 refine rg [] Tryz.func31 h fun h => ?_
 refine ze h (fun _ => zvb) fun c h => za h (fun _ h => ?_) fun _ h => ?_
 cases h; exact .r
 refine ze h (fun _ => zEk) fun _ h => za h (fun _ h => ?_) fun _ h => ?_
 cases h; exact .r
 refine ze h (fun _ => zCp) fun d h => za h (fun _ h => ?_) fun _ h => ?_
 cases h; exact .r
 refine ze h (fun _ => zDd) fun e h => za h (fun a h => ?_) (fun a h => ?_)
 cases h; exact .r
 cases h; exact .r
theorem zDt {r : List (List UInt8)} (h : zrc = some r) : Ret E 82 [] (qt 5 1 SV.str r) := by
 refine rg [] Tryz.func82 h fun h => ?_
 unfold zrc at h
 cases h; exact .r
theorem zC2 {b : Int} {r : List UInt8 × Int} (h : zqo b = some r) : Ret E 56 [SV.int .i64 b] (SV.tup [SV.str r.fst, SV.int .i64 r.snd]) := by
 refine rg [] Tryz.func56 h fun h => ?_
 refine zL h (fun a h => ?_) (fun a h => ?_)
 cases h; exact .r
 refine za h ?_ ?_ <;> intro _ h
 cases h; exact .r
 refine ze h (fun _ => zDt) fun c h => zt SV.str h rfl fun d h => ?_
 cases h; exact .r
theorem zv5 {e : TP} {f : Int} {g : Int} {r : Int × Int} (h : zi2 e f g = some r) : Ret E 57 [qe e, SV.int .i64 f, SV.int .i64 g] (SV.tup [SV.int .i64 r.fst, SV.int .i64 r.snd]) := by
 refine rg [0] Tryz.func57 h fun h => ?_
 refine ze h (fun _ => zwf) fun _ h => za h (fun _ h => ?_) fun _ h => ?_
 refine ze h (fun _ => zan) fun _ h => ?_
 refine zL h (fun m h => ?_) (fun m h => ?_)
 refine pT ?_
 cases h; exact .r
 refine ze h (fun _ => zan) fun _ h => za h (fun _ h => ?_) fun _ h => ?_
 refine pT ?_
 cases h; exact .r
 refine za h ?_ ?_ <;> intro _ h
 cases h; exact .r
 refine zp (fun (n : Unit) => [(7, .int .i64 0), (6, .int .i64 0)]) (fun _ => []) 1 h (fun n h => ?_) (fun w i j h => ?_)
 cases h; exact .r
 refine zl (fun (a : Int) => [(11, .int .i64 a), (7, .int .i64 0), (6, .int .i64 0), (3, .ptr 0 []), (2, .int .i64 g), (1, .int .i64 f)]) (fun a => [(0, .var true (qe e))]) 31 h zd (fun a u x c h => ?_)
 refine za h ?_ ?_ <;> intro _ h
 refine zt qv h rfl fun _ h => za h (fun _ h => ?_) fun _ h => ?_
 refine zt qv h rfl fun _ h => za h (fun _ h => ?_) fun _ h => ?_
 refine zt qv h rfl fun _ h => ?_
 refine j ?_
 cases h; exact .r
 refine zb h fun o h => ?_
 exact c o h zd
 refine zb h fun p h => ?_
 exact c p h zd
 exact i (()) h zd
 refine za h ?_ ?_ <;> intro _ h
 cases h; exact .r
 refine zp (fun (q : Unit) => [(7, .int .i64 0), (6, .int .i64 0)]) (fun _ => []) 1 h (fun q h => ?_) (fun y k l h => ?_)
 cases h; exact .r
 refine zl (fun (b : Int) => [(11, .int .i64 b), (7, .int .i64 0), (6, .int .i64 0), (3, .ptr 0 []), (2, .int .i64 g), (1, .int .i64 f)]) (fun b => [(0, .var true (qe e))]) 19 h zd (fun b v z d h => ?_)
 refine za h ?_ ?_ <;> intro _ h
 refine zt qv h rfl fun _ h => za h (fun _ h => ?_) fun _ h => ?_
 refine zt qv h rfl fun A h => za h (fun _ h => ?_) fun _ h => ?_
 refine zt qv h rfl fun C h => ?_
 refine l ?_
 cases h; exact .r
 refine zb h fun s h => ?_
 exact d s h zd
 refine zb h fun t h => ?_
 exact d t h zd
 exact k (()) h zd
theorem zAx {q : TP} {s : TE} {r : Int} (h : zmv q s = some r) : Ret E 32 [qe q, zM s] (SV.int .i64 r) := by
 refine rg [] Tryz.func32 h fun h => ?_
 refine ze h (fun _ => zwf) fun t h => za h (fun a h => ?_) (fun a h => ?_)
 refine ze h (fun _ => zC2) fun _ h => za h (fun _ h => ?_) fun _ h => ?_
 refine zL h (fun b h => ?_) (fun b h => ?_)
 refine pT ?_
 cases h; exact .r
 refine za h ?_ ?_ <;> intro _ h
 refine pT ?_
 cases h; exact .r
 refine za h ?_ ?_ <;> intro _ h
 cases h; exact .r
 refine ze h (fun _ => zv5) fun u h => ?_
 refine zL h (fun c h => ?_) (fun c h => ?_)
 cases h; exact .r
 refine zL h (fun d h => ?_) (fun d h => ?_)
 cases h; exact .r
 refine za h ?_ ?_ <;> intro _ h
 cases h; exact .r
 refine za h ?_ ?_ <;> intro _ h
 cases h; exact .r
 refine za h ?_ ?_ <;> intro _ h
 refine za h ?_ ?_ <;> intro _ h
 cases h; exact .r
 cases h; exact .r
 refine zX (by decide) ?_
 refine zj (by decide) rfl ?_
 refine zL h (fun f h => ?_) (fun f h => ?_)
 cases h; exact .r
 refine za h ?_ ?_ <;> intro _ h
 refine zX (by decide) ?_
 refine zj (by decide) rfl ?_
 refine zL h (fun g h => ?_) (fun g h => ?_)
 cases h; exact .r
 refine zX (by decide) ?_
 refine zj (by decide) rfl ?_
 refine za h ?_ ?_ <;> intro _ h
 cases h; exact .r
 cases h; exact .r
 cases h; exact .r
 refine za h ?_ ?_ <;> intro _ h
 cases h; exact .r
 refine ze h (fun _ => zv5) fun v h => ?_
 refine zL h (fun i h => ?_) (fun i h => ?_)
 cases h; exact .r
 refine zL h (fun j h => ?_) (fun j h => ?_)
 cases h; exact .r
 refine za h ?_ ?_ <;> intro _ h
 cases h; exact .r
 refine za h ?_ ?_ <;> intro _ h
 cases h; exact .r
 refine za h ?_ ?_ <;> intro _ h
 refine za h ?_ ?_ <;> intro _ h
 cases h; exact .r
 cases h; exact .r
 refine zX (by decide) ?_
 refine zj (by decide) rfl ?_
 refine zL h (fun k h => ?_) (fun k h => ?_)
 cases h; exact .r
 refine za h ?_ ?_ <;> intro _ h
 refine zX (by decide) ?_
 refine zj (by decide) rfl ?_
 refine zL h (fun l h => ?_) (fun l h => ?_)
 cases h; exact .r
 refine zX (by decide) ?_
 refine zj (by decide) rfl ?_
 refine za h ?_ ?_ <;> intro _ h
 cases h; exact .r
 cases h; exact .r
 cases h; exact .r
 refine ⟨fun e => absurd (e.symm.trans a) (by decide), fun _ => ?_⟩
 refine za h ?_ ?_ <;> intro _ h
 cases h; exact .r
 refine ze h (fun _ => zv5) fun w h => ?_
 refine zL h (fun m h => ?_) (fun m h => ?_)
 cases h; exact .r
 refine zL h (fun n h => ?_) (fun n h => ?_)
 cases h; exact .r
 refine za h ?_ ?_ <;> intro _ h
 cases h; exact .r
 refine za h ?_ ?_ <;> intro _ h
 cases h; exact .r
 refine za h ?_ ?_ <;> intro _ h
 refine za h ?_ ?_ <;> intro _ h
 cases h; exact .r
 cases h; exact .r
 refine zX (by decide) ?_
 refine zj (by decide) rfl ?_
 refine zL h (fun o h => ?_) (fun o h => ?_)
 cases h; exact .r
 refine za h ?_ ?_ <;> intro _ h
 refine zX (by decide) ?_
 refine zj (by decide) rfl ?_
 refine zL h (fun p h => ?_) (fun p h => ?_)
 cases h; exact .r
 refine zX (by decide) ?_
 refine zj (by decide) rfl ?_
 refine za h ?_ ?_ <;> intro _ h
 cases h; exact .r
 cases h; exact .r
 cases h; exact .r
end Go.Sx.Tz
