/-
  An own text of this claim.
-/
import Derived.Test.YtfonolbnhhidmaaGreatDoorQ3
namespace Go.Sx.Tz
open Go.Proofs Go.Sx.O
set_option maxRecDepth 100000
set_option maxHeartbeats 4000000
set_option linter.unusedSimpArgs false
theorem rg {α : Type} {f : Nat} {fn : Func} {vs : List SV} {r : SV} {x : Option α} {y : α} (cuts : List Nat) (hf : E.P.funcs[f]? = some fn) (h : x = some y) (hx : x.bind some = some y -> fnG E cuts fn vs fun v => Wk v r) (hB : fnB fn = true := by kernel_rfl) (hl : Nat.ble vs.length fn.ntmps = true := by exact rfl) : Ret E f vs r := xr ok hf hB hl (hx (zAn h))
theorem Rz0 {b : List (List UInt8)} {r : Bool} (h : Fz0 b = some r) : Ret E 33 [zo 1 SV.str b] (SV.bool r) := by
 refine rg [0] Tryz.func33 h fun h => ?_
 refine zq (fun (f : Unit) => [(2, .fls), (0, (zo 1 SV.str) b)]) (fun _ => []) 1 h (fun f h => ?_) (fun j a d h => ?_)
 cases h; exact .r
 refine zm (fun (c : Int) => [(3, .int .i64 c), (2, .fls), (0, (zo 1 SV.str) b)]) (fun _ => []) 2 h zd (fun c i k e h => ?_)
 iterate 2 refine za h ?_ ?_ <;> intro _ h
 refine zn SV.str h rfl fun _ h => za h (fun _ h => ?_) fun _ h => ?_
 refine d ?_
 cases h; exact .r
 refine ze h fun g h => ?_
 exact e g h zd
 exact a (()) h zd
 exact a (()) h zd
theorem Rz1 {a : TL} {r : Bool} (h : Fz1 a = some r) : Ret E 12 [zJ a] (SV.bool r) := by
 refine rg [] Tryz.func12 h fun h => ?_
 refine zb h (fun _ => Rz0) fun _ h => ?_
 refine zA h (fun b h => ?_) (fun b h => ?_)
 cases h; exact .r
 cases h; exact .r
theorem Rz2 {a : TP} {r : Bool} (h : Fz2 a = some r) : Ret E 4 [zI a] (SV.bool r) := by
 refine rg [0, 2] Tryz.func4 h fun h => ?_
 refine zq (fun (i : Unit) => [(2, .fls), (1, .ptr 0 [])]) (fun i => [(0, .var true (zI a))]) 1 h (fun i h => ?_) (fun v d j h => ?_)
 refine zq (fun (e : Unit) => [(2, .fls), (1, .ptr 0 [])]) (fun e => [(0, .var true (zI a))]) 1 h (fun e h => ?_) (fun s b f h => ?_)
 refine zb h (fun _ => Rz1) fun _ h => ?_
 refine zA h (fun k h => ?_) (fun k h => ?_)
 cases h; exact .r
 refine zA h (fun l h => ?_) (fun l h => ?_)
 cases h; exact .r
 refine zA h (fun m h => ?_) (fun m h => ?_)
 cases h; exact .r
 cases h; exact .r
 refine zm (fun (c : Int) => [(4, .int .i64 c), (2, .fls), (1, .ptr 0 [])]) (fun c => [(0, .var true (zI a))]) 2 h zd (fun c q t g h => ?_)
 iterate 2 refine za h ?_ ?_ <;> intro _ h
 refine zn wL h rfl fun _ h => za h (fun _ h => ?_) fun _ h => ?_
 refine f ?_
 cases h; exact .r
 refine ze h fun n h => ?_
 exact g n h zd
 exact b (()) h zd
 exact b (()) h zd
 refine zm (fun (s3 : Int) => [(3, .int .i64 s3), (2, .fls), (1, .ptr 0 [])]) (fun s3 => [(0, .var true (zI a))]) 3 h zd (fun s3 u w o h => ?_)
 iterate 2 refine za h ?_ ?_ <;> intro _ h
 refine zn zW h rfl fun _ h => za h (fun _ h => ?_) fun _ h => ?_
 refine j ?_
 cases h; exact .r
 refine ze h fun p h => ?_
 exact o p h zd
 exact d (()) h zd
 exact d (()) h zd
theorem Rz3 {a : List TE} {r : Bool} (h : Fz3 a = some r) : Ret E 5 [zo 7 zx a] (SV.bool r) := by
 refine rg [] Tryz.func5 h fun h => ?_
 refine za h ?_ ?_ <;> intro _ h
 refine zA h (fun b h => ?_) (fun b h => ?_)
 cases h; exact .r
 cases h; exact .r
 cases h; exact .r
theorem Rz4 {f : List UInt8} {d : Int} {r : List UInt8} (h : Fz4 f d = some r) : Ret E 156 [SV.str f, SV.int .u8 d] (SV.str r) := by
 refine rg [0] Tryz.func156 h fun h => ?_
 refine zq (fun (c : List UInt8) => [(4, .str ((ByteArray.mk #[]).data.toList)), (0, .str c)]) (fun _ => []) 1 h (fun c h => ?_) (fun k b i h => ?_)
 cases h; exact .r
 refine zm (fun (a : List UInt8) => [(4, .str ((ByteArray.mk #[]).data.toList)), (1, .int .u8 d), (0, .str a)]) (fun _ => []) 1 h zd (fun a j l e h => ?_)
 refine za h ?_ ?_ <;> intro _ h
 refine ze h fun m h => zr h fun n h => za h (fun _ h => ?_) fun _ h => ?_
 refine ze h fun g h => zj h fun _ h => ?_
 exact e (List.drop (Int.toNat (0 : Int)) (List.take (Int.toNat g) a)) h zd
 exact b a h zd
 exact b a h zd
theorem Rz5 {f : List UInt8} {d : Int} {r : List UInt8} (h : Fz5 f d = some r) : Ret E 155 [SV.str f, SV.int .u8 d] (SV.str r) := by
 refine rg [0] Tryz.func155 h fun h => ?_
 refine zq (fun (c : List UInt8) => [(4, .str ((ByteArray.mk #[]).data.toList)), (0, .str c)]) (fun _ => []) 1 h (fun c h => ?_) (fun j b g h => ?_)
 cases h; exact .r
 refine zm (fun (a : List UInt8) => [(4, .str ((ByteArray.mk #[]).data.toList)), (1, .int .u8 d), (0, .str a)]) (fun _ => []) 1 h zd (fun a i k e h => ?_)
 refine za h ?_ ?_ <;> intro _ h
 refine zr h fun l h => za h (fun _ h => ?_) fun _ h => ?_
 refine zj h fun _ h => ?_
 exact e (List.drop (Int.toNat (1 : Int)) (List.take (Int.toNat (↑(List.length a) : Int)) a)) h zd
 exact b a h zd
 exact b a h zd
theorem Rz6 {c : List UInt8} {r : List Bool × Bool} (h : Fz6 c = some r) : Ret E 157 [SV.str c] (SV.tup [ql 256 1 SV.bool r.fst, .bool r.snd]) := by
 refine rg [0] Tryz.func157 h fun h => ?_
 refine zq (fun (b : List Bool) => [(3, .fls), (2, .ptr 0 [])]) (fun b => [(0, .var true ((ql 256 1 SV.bool) b))]) 1 h (fun b h => ?_) (fun k d e h => ?_)
 cases h; exact .r
 refine zm (fun (a : Int × List Bool) => [(4, .int .i64 (a.fst)), (3, .fls), (2, .ptr 0 []), (0, .str c)]) (fun a => [(0, .var true ((ql 256 1 SV.bool) (a.snd)))]) 3 h (qT ⟨.refl _, .refl _, .refl _, .refl _, trivial⟩ ⟨(.var (.arr (zhs (by kernel_rfl)))), trivial⟩ rfl rfl rfl) (fun a j l f h => ?_)
 refine za h ?_ ?_ <;> intro _ h
 refine zr h fun g h => za h (fun _ h => ?_) fun _ h => ?_
 refine e ?_
 cases h; exact .r
 refine zj h fun _ h => zn SV.bool h rfl fun _ h => ze h fun i h => ?_
 exact f ((i, List.set a.snd (Int.toNat (↑(UInt8.toNat g) : Int)) true)) h (qT ⟨.refl _, .refl _, .refl _, .refl _, trivial⟩ ⟨(.var (.arr (.setm .refl .tru))), trivial⟩ rfl rfl rfl)
 exact d (a.snd) h zd
theorem Rz7 {a : List Bool} {b : Int} {r : Bool} (h : Fz7 a b = some r) : Ret E 186 [wz (ql 256 1 SV.bool) a, SV.int .u8 b] (SV.bool r) := by
 refine rg [] Tryz.func186 h fun h => ?_
 refine zj h fun _ h => zn SV.bool h rfl fun _ h => ?_
 cases h; exact .r
theorem Rz8 {g : List UInt8} {e : List Bool} {r : List UInt8} (h : Fz8 g e = some r) : Ret E 159 [SV.str g, wz (ql 256 1 SV.bool) e] (SV.str r) := by
 refine rg [0] Tryz.func159 h fun h => ?_
 refine zq (fun (c : List UInt8) => [(4, .str ((ByteArray.mk #[]).data.toList)), (0, .str c)]) (fun _ => []) 1 h (fun c h => ?_) (fun k b i h => ?_)
 cases h; exact .r
 refine zm (fun (a : List UInt8) => [(4, .str ((ByteArray.mk #[]).data.toList)), (1, (wz (ql 256 1 SV.bool)) e), (0, .str a)]) (fun _ => []) 1 h zd (fun a j l d h => ?_)
 refine za h ?_ ?_ <;> intro _ h
 refine ze h fun _ h => zr h fun m h => zb h (fun _ => Rz7) fun _ h => za h (fun _ h => ?_) fun _ h => ?_
 exact b a h zd
 refine ze h fun f h => zj h fun _ h => ?_
 exact d (List.drop (Int.toNat (0 : Int)) (List.take (Int.toNat f) a)) h zd
 exact b a h zd
theorem Rz9 {f : List UInt8} {e : List Bool} {r : List UInt8} (h : Fz9 f e = some r) : Ret E 158 [SV.str f, wz (ql 256 1 SV.bool) e] (SV.str r) := by
 refine rg [0] Tryz.func158 h fun h => ?_
 refine zq (fun (c : List UInt8) => [(4, .str ((ByteArray.mk #[]).data.toList)), (0, .str c)]) (fun _ => []) 1 h (fun c h => ?_) (fun j b g h => ?_)
 cases h; exact .r
 refine zm (fun (a : List UInt8) => [(4, .str ((ByteArray.mk #[]).data.toList)), (1, (wz (ql 256 1 SV.bool)) e), (0, .str a)]) (fun _ => []) 1 h zd (fun a i k d h => ?_)
 refine za h ?_ ?_ <;> intro _ h
 refine zr h fun l h => zb h (fun _ => Rz7) fun m h => za h (fun _ h => ?_) fun _ h => ?_
 exact b a h zd
 refine zj h fun _ h => ?_
 exact d (List.drop (Int.toNat (1 : Int)) (List.take (Int.toNat (↑(List.length a) : Int)) a)) h zd
 exact b a h zd
theorem zGe {a : Int} {r : Bool} (h : zzd a = some r) : Ret E 223 [SV.int .u8 a] (SV.bool r) := by
 refine rg [] Tryz.func223 h fun h => ?_
 unfold zzd at h
 cases h; exact .r
theorem zCm {a : List UInt8} {r : Int × Int} (h : zyg a = some r) : Ret E 153 [SV.str a] (SV.tup [SV.int .i32 r.fst, SV.int .i64 r.snd]) := by
 refine rg [] Tryz.func153 h fun h => ?_
 refine za h ?_ ?_ <;> intro _ h
 cases h; exact .r
 refine zr h fun _ h => ?_
 exact zao h
theorem zyz {a : List UInt8} {r : Int × Int} (h : zsu a = some r) : Ret E 125 [SV.str a] (SV.tup [SV.int .i32 r.fst, SV.int .i64 r.snd]) := by
 refine rg [] Tryz.func125 h fun h => ?_
 refine za h ?_ ?_ <;> intro _ h
 refine zr h fun b h => za h (fun _ h => ?_) fun _ h => ?_
 refine zr h fun _ h => ze h fun _ h => ?_
 cases h; exact .r
 refine zb h (fun _ => zCm) fun c h => ?_
 cases h; exact .r
 refine zb h (fun _ => zCm) fun d h => ?_
 cases h; exact .r
theorem zE4 {c : List UInt8} {r : Int × Int} (h : zCn c = some r) : Ret E 188 [SV.str c] (SV.tup [SV.int .i32 r.fst, SV.int .i64 r.snd]) := by
 refine rg [0] Tryz.func188 h fun h => ?_
 refine za h ?_ ?_ <;> intro _ h
 cases h; exact .r
 refine ze h fun m h => zr h fun n h => ze h fun d h => za h (fun _ h => ?_) fun _ h => ?_
 cases h; exact .r
 refine ze h fun g h => ze h fun _ h => ?_
 refine zq (fun (e : Int) => [(5, .int .i64 e), (2, .int .i32 d), (4, .int .i64 ((↑(List.length c) : Int))), (3, .int .i64 0), (0, .str c)]) (fun _ => []) 1 h (fun e h => ?_) (fun o b k h => ?_)
 refine za h ?_ ?_ <;> intro _ h
 refine zj h fun _ h => zb h (fun _ => zyz) fun p h => ze h fun q h => za h (fun _ h => ?_) fun _ h => ?_
 cases h; exact .r
 cases h; exact .r
 refine zj h fun _ h => zb h (fun _ => zyz) fun s h => ze h fun t h => za h (fun i h => ?_) (fun i h => ?_)
 cases h; exact .r
 cases h; exact .r
 refine zm (fun (a : Int) => [(5, .int .i64 a), (6, .int .i64 (max g 0)), (2, .int .i32 d), (4, .int .i64 ((↑(List.length c) : Int))), (3, .int .i64 0), (0, .str c)]) (fun _ => []) 24 h zd (fun a l u f h => ?_)
 refine za h ?_ ?_ <;> intro _ h
 refine zr h fun v h => zb h (fun _ => zGe) fun w h => za h (fun _ h => ?_) fun _ h => ?_
 exact b a h zd
 refine ze h fun j h => ?_
 exact f j h zd
 exact b a h zd
theorem zy8 {a : List UInt8} {b : Int} {r : Int} (h : zd2 a b = some r) : Ret E 256 [SV.str a, SV.int .u8 b] (SV.int .i64 r) := by
 refine rg [] Tryz.func256 h fun h => ?_
 refine zb h (fun _ => xa) fun c h => ?_
 cases h; exact .r
theorem zxj {a : Int} {r : Bool} (h : zev a = some r) : Ret E 257 [SV.int .i32 a] (SV.bool r) := by
 refine rg [] Tryz.func257 h fun h => ?_
 iterate 2 refine za h ?_ ?_ <;> intro _ h
 cases h; exact .r
 iterate 2 refine za h ?_ ?_ <;> intro _ h
 cases h; exact .r
 cases h; exact .r
 cases h; exact .r
 iterate 2 refine za h ?_ ?_ <;> intro _ h
 cases h; exact .r
 cases h; exact .r
 cases h; exact .r
theorem zGp {d : List UInt8} {a : Int} {r : Int} (h : zjw d a = some r) : Ret E 222 [SV.str d, SV.int .i32 a] (SV.int .i64 r) := by
 refine rg [9, 1, 3, 5, 7] Tryz.func222 h fun h => ?_
 iterate 2 refine za h ?_ ?_ <;> intro _ h
 refine ze h fun a3 h => zb h (fun _ => zy8) fun a4 h => ?_
 cases h; exact .r
 refine za h ?_ ?_ <;> intro _ h
 exact zao h
 refine zb h (fun _ => zxj) fun a5 h => za h (fun _ h => ?_) fun _ h => ?_
 cases h; exact .r
 refine ze h fun b h => ?_
 refine zq (fun (y : Unit) => [(9, .int .i64 b), (8, .int .i64 b), (7, .str ((Utf8.encode a).data.toList)), (4, .int .i64 0), (1, .int .i32 a), (0, .str d)]) (fun _ => []) 1 h (fun y h => ?_) (fun a6 n e h => ?_)
 cases h; exact .r
 refine zm (fun (z : Unit) => [(10, .int .i64 0), (9, .int .i64 b), (8, .int .i64 b), (7, .str ((Utf8.encode a).data.toList)), (4, .int .i64 0), (1, .int .i32 a), (0, .str d)]) (fun _ => []) 25 h zd (fun z P a7 Q h => ?_)
 refine za h ?_ ?_ <;> intro _ h
 refine zr h fun a8 h => zr h fun a9 h => za h (fun _ h => ?_) fun _ h => ?_
 refine ze h fun _ h => zj h fun _ h => zr h fun b0 h => zb h (fun _ => zy8) fun b1 h => za h (fun _ h => ?_) fun _ h => ?_
 refine e ?_
 cases h; exact .r
 refine ze h fun _ h => ze h fun g h => ?_
 refine zq (fun (A : Unit) => [(9, .int .i64 g), (10, .int .i64 0), (8, .int .i64 b), (7, .str ((Utf8.encode a).data.toList)), (4, .int .i64 0), (1, .int .i32 a), (0, .str d)]) (fun _ => []) 1 h (fun A h => ?_) (fun b2 o R h => ?_)
 refine ze h fun _ h => ?_
 refine e ?_
 cases h; exact .r
 refine zm (fun (i : Int) => [(12, .int .i64 i), (9, .int .i64 g), (10, .int .i64 0), (8, .int .i64 b), (7, .str ((Utf8.encode a).data.toList)), (4, .int .i64 0), (1, .int .i32 a), (0, .str d)]) (fun _ => []) 53 h zd (fun i S b3 p h => ?_)
 refine za h (fun C h => ?_) (fun C h => ?_)
 refine ze h fun b4 h => zr h fun _ h => ze h fun b5 h => zr h fun b6 h => za h (fun _ h => ?_) fun _ h => ?_
 exact zao h
 refine ze h fun D h => ?_
 exact p D h zd
 exact o (()) h zd
 refine zq (fun (F : Unit) => [(10, .int .i64 0), (9, .int .i64 b), (8, .int .i64 b), (7, .str ((Utf8.encode a).data.toList)), (4, .int .i64 0), (1, .int .i32 a), (0, .str d)]) (fun _ => []) 1 h (fun F h => ?_) (fun b7 q T h => ?_)
 refine ze h fun b8 h => ?_
 refine e ?_
 cases h; exact .r
 refine zm (fun (j : Int) => [(12, .int .i64 j), (10, .int .i64 0), (9, .int .i64 b), (8, .int .i64 b), (7, .str ((Utf8.encode a).data.toList)), (4, .int .i64 0), (1, .int .i32 a), (0, .str d)]) (fun _ => []) 37 h zd (fun j U b9 s h => ?_)
 refine za h ?_ ?_ <;> intro _ h
 refine ze h fun _ h => zr h fun _ h => ze h fun c0 h => zr h fun _ h => za h (fun _ h => ?_) fun _ h => ?_
 exact zao h
 refine ze h fun G h => ?_
 exact s G h zd
 exact q (()) h zd
 exact n (()) h zd
 refine za h (fun H h => ?_) (fun H h => ?_)
 exact zao h
 refine zb h (fun _ => zxj) fun c1 h => za h (fun _ h => ?_) fun _ h => ?_
 cases h; exact .r
 refine ze h fun c h => ?_
 refine zq (fun (I : Unit) => [(9, .int .i64 c), (8, .int .i64 c), (7, .str ((Utf8.encode a).data.toList)), (4, .int .i64 0), (1, .int .i32 a), (0, .str d)]) (fun _ => []) 1 h (fun I h => ?_) (fun c2 t f h => ?_)
 cases h; exact .r
 refine zm (fun (J : Unit) => [(10, .int .i64 0), (9, .int .i64 c), (8, .int .i64 c), (7, .str ((Utf8.encode a).data.toList)), (4, .int .i64 0), (1, .int .i32 a), (0, .str d)]) (fun _ => []) 23 h zd (fun J V c3 W h => ?_)
 refine za h ?_ ?_ <;> intro _ h
 refine zr h fun c4 h => zr h fun c5 h => za h (fun _ h => ?_) fun _ h => ?_
 refine ze h fun c6 h => zj h fun _ h => zr h fun _ h => zb h (fun _ => zy8) fun c7 h => za h (fun _ h => ?_) fun _ h => ?_
 refine f ?_
 cases h; exact .r
 refine ze h fun _ h => ze h fun k h => ?_
 refine zq (fun (K : Unit) => [(9, .int .i64 k), (10, .int .i64 0), (8, .int .i64 c), (7, .str ((Utf8.encode a).data.toList)), (4, .int .i64 0), (1, .int .i32 a), (0, .str d)]) (fun _ => []) 1 h (fun K h => ?_) (fun c8 u X h => ?_)
 refine ze h fun c9 h => ?_
 refine f ?_
 cases h; exact .r
 refine zm (fun (l : Int) => [(12, .int .i64 l), (9, .int .i64 k), (10, .int .i64 0), (8, .int .i64 c), (7, .str ((Utf8.encode a).data.toList)), (4, .int .i64 0), (1, .int .i32 a), (0, .str d)]) (fun _ => []) 51 h zd (fun l Y d0 v h => ?_)
 refine za h ?_ ?_ <;> intro _ h
 refine ze h fun d1 h => zr h fun d2 h => ze h fun d3 h => zr h fun d4 h => za h (fun _ h => ?_) fun _ h => ?_
 exact zao h
 refine ze h fun L h => ?_
 exact v L h zd
 exact u (()) h zd
 refine zq (fun (M : Unit) => [(10, .int .i64 0), (9, .int .i64 c), (8, .int .i64 c), (7, .str ((Utf8.encode a).data.toList)), (4, .int .i64 0), (1, .int .i32 a), (0, .str d)]) (fun _ => []) 1 h (fun M h => ?_) (fun d5 w Z h => ?_)
 refine ze h fun d6 h => ?_
 refine f ?_
 cases h; exact .r
 refine zm (fun (m : Int) => [(12, .int .i64 m), (10, .int .i64 0), (9, .int .i64 c), (8, .int .i64 c), (7, .str ((Utf8.encode a).data.toList)), (4, .int .i64 0), (1, .int .i32 a), (0, .str d)]) (fun _ => []) 35 h zd (fun m a2 d7 x h => ?_)
 refine za h ?_ ?_ <;> intro _ h
 refine ze h fun d8 h => zr h fun d9 h => ze h fun _ h => zr h fun e0 h => za h (fun N h => ?_) (fun N h => ?_)
 exact zao h
 refine ze h fun O h => ?_
 exact x O h zd
 exact w (()) h zd
 exact t (()) h zd
theorem zg5 {a : List UInt8} {b : Int} {r : Bool} (h : xO a b = some r) : Ret E 187 [SV.str a, SV.int .i32 b] (SV.bool r) := by
 refine rg [] Tryz.func187 h fun h => ?_
 refine zb h (fun _ => zGp) fun c h => ?_
 cases h; exact .r
theorem zCv {i : List UInt8} {e : List UInt8} {r : List UInt8} (h : zz2 i e = some r) : Ret E 161 [SV.str i, .str e] (SV.str r) := by
 refine rg [0] Tryz.func161 h fun h => ?_
 refine zq (fun (d : List UInt8) => [(4, .str ((ByteArray.mk #[]).data.toList)), (0, .str d)]) (fun _ => []) 1 h (fun d h => ?_) (fun l b j h => ?_)
 cases h; exact .r
 refine zm (fun (a : List UInt8) => [(4, .str ((ByteArray.mk #[]).data.toList)), (1, .str e), (0, .str a)]) (fun _ => []) 1 h zd (fun a k m c h => ?_)
 refine za h ?_ ?_ <;> intro _ h
 refine ze h fun _ h => zr h fun _ h => ze h fun _ h => za h (fun _ h => ?_) fun _ h => ?_
 refine zb h (fun _ => zE4) fun _ h => zb h (fun _ => zg5) fun _ h => za h (fun _ h => ?_) fun _ h => ?_
 exact b a h zd
 refine ze h fun f h => zj h fun _ h => ?_
 exact c (List.drop (Int.toNat (0 : Int)) (List.take (Int.toNat f) a)) h zd
 refine zb h (fun _ => zg5) fun n h => za h (fun _ h => ?_) fun _ h => ?_
 exact b a h zd
 refine ze h fun g h => zj h fun _ h => ?_
 exact c (List.drop (Int.toNat (0 : Int)) (List.take (Int.toNat g) a)) h zd
 exact b a h zd
theorem zC3 {g : List UInt8} {e : List UInt8} {r : List UInt8} (h : zwz g e = some r) : Ret E 160 [SV.str g, .str e] (SV.str r) := by
 refine rg [0] Tryz.func160 h fun h => ?_
 refine zq (fun (c : List UInt8) => [(4, .str ((ByteArray.mk #[]).data.toList)), (0, .str c)]) (fun _ => []) 1 h (fun c h => ?_) (fun k b i h => ?_)
 cases h; exact .r
 refine zm (fun (a : List UInt8) => [(4, .str ((ByteArray.mk #[]).data.toList)), (1, .str e), (0, .str a)]) (fun _ => []) 1 h zd (fun a j l d h => ?_)
 refine za h ?_ ?_ <;> intro _ h
 refine zb h (fun _ => zyz) fun f h => zb h (fun _ => zg5) fun m h => za h (fun _ h => ?_) fun _ h => ?_
 exact b a h zd
 refine zj h fun _ h => ?_
 exact d (List.drop (Int.toNat f.snd) (List.take (Int.toNat (↑(List.length a) : Int)) a)) h zd
 exact b a h zd
theorem zE1 {a : List UInt8} {b : List UInt8} {r : List UInt8} (h : zsr a b = some r) : Ret E 127 [SV.str a, .str b] (SV.str r) := by
 refine rg [] Tryz.func127 h fun h => ?_
 refine zA h (fun c h => ?_) (fun c h => ?_)
 cases h; exact .r
 refine za h ?_ ?_ <;> intro _ h
 cases h; exact .r
 refine za h ?_ ?_ <;> intro _ h
 refine zr h fun m h => za h (fun _ h => ?_) fun _ h => ?_
 refine zr h fun n h => zb h (fun _ => Rz4) fun o h => zr h fun p h => zb h (fun _ => Rz5) fun _ h => ?_
 cases h; exact .r
 refine zb h (fun _ => Rz6) fun d h => za h (fun _ h => ?_) fun _ h => ?_
 refine zb h (fun _ => Rz8) fun e h => zb h (fun _ => Rz9) fun f h => ?_
 cases h; exact .r
 refine zb h (fun _ => zCv) fun _ h => zb h (fun _ => zC3) fun g h => ?_
 cases h; exact .r
 refine zb h (fun _ => Rz6) fun i h => za h (fun _ h => ?_) fun _ h => ?_
 refine zb h (fun _ => Rz8) fun j h => zb h (fun _ => Rz9) fun k h => ?_
 cases h; exact .r
 refine zb h (fun _ => zCv) fun l h => zb h (fun _ => zC3) fun _ h => ?_
 cases h; exact .r
theorem zGm {a : List UInt8} {r : Bool} (h : zsi a = some r) : Ret E 146 [SV.str a] (SV.bool r) := by
 refine rg [] Tryz.func146 h fun h => ?_
 refine zA h (fun b h => ?_) (fun b h => ?_)
 cases h; exact .r
 refine zA h (fun c h => ?_) (fun c h => ?_)
 cases h; exact .r
 refine zr h fun _ h => ?_
 refine zA h (fun d h => ?_) (fun d h => ?_)
 cases h; exact .r
 refine zr h fun _ h => za h (fun _ h => ?_) fun _ h => ?_
 cases h; exact .r
 refine zb h (fun _ => zE1) fun e h => ?_
 cases h; exact .r
theorem zDa {b : List (List UInt8)} {f : List UInt8} {r : Int} (h : zo6 b f = some r) : Ret E 84 [zo 1 SV.str b, .str f] (SV.int .i64 r) := by
 refine rg [0] Tryz.func84 h fun h => ?_
 refine zq (fun (g : Unit) => [(4, .int .i64 0)]) (fun _ => []) 1 h (fun g h => ?_) (fun k c d h => ?_)
 cases h; exact .r
 refine zm (fun (a : Int) => [(8, .int .i64 a), (7, .int .i64 ((↑(List.length (List.map SV.str b)) : Int))), (4, .int .i64 0), (1, .str f), (0, (zo 1 SV.str) b)]) (fun _ => []) 4 h zd (fun a j l e h => ?_)
 refine za h ?_ ?_ <;> intro _ h
 refine zn SV.str h rfl fun m h => za h (fun _ h => ?_) fun _ h => ?_
 refine d ?_
 cases h; exact .r
 refine ze h fun i h => ?_
 exact e i h zd
 exact c (()) h zd
theorem zFb {a : List (List UInt8)} {b : List UInt8} {r : Bool} (h : zt0 a b = some r) : Ret E 147 [zo 1 SV.str a, .str b] (SV.bool r) := by
 refine rg [] Tryz.func147 h fun h => ?_
 refine zb h (fun _ => zDa) fun c h => ?_
 cases h; exact .r
theorem zFf {a : List (List UInt8)} {r : Int × Int} (h : zkt a = some r) : Ret E 114 [zo 1 SV.str a] (SV.tup [SV.int .i64 r.fst, SV.int .i64 r.snd]) := by
 refine rg [0] Tryz.func114 h fun h => ?_
 refine zA h (fun f h => ?_) (fun f h => ?_)
 cases h; exact .r
 refine za h ?_ ?_ <;> intro _ h
 cases h; exact .r
 refine zq (fun (g : Unit) => [(3, .int .i64 0), (2, .int .i64 0)]) (fun _ => []) 1 h (fun g h => ?_) (fun k d b h => ?_)
 cases h; exact .r
 refine zm (fun (c : Int) => [(16, .int .i64 c), (15, .int .i64 ((↑(List.length (List.map SV.str a)) : Int))), (14, (zo 1 SV.str) a), (3, .int .i64 0), (2, .int .i64 0), (0, (zo 1 SV.str) a)]) (fun _ => []) 13 h zd (fun c j l e h => ?_)
 refine za h ?_ ?_ <;> intro _ h
 refine zn SV.str h rfl fun _ h => zb h (fun _ => zGm) fun _ h => za h (fun _ h => ?_) fun _ h => ?_
 refine b ?_
 cases h; exact .r
 refine zj h fun _ h => zb h (fun _ hx => zay (zFb hx) (WkT.wk (.sl (.of (by first | (simp only [zo, ql, List.map_append, List.map_take, List.map_drop, List.map_set, List.map_replicate]; done) | (simp [zo, ql, List.map_append, List.map_take, List.map_drop, List.map_set, List.map_replicate]; done) | rfl))) rfl rfl rfl (WkT.same WkT.nil))) fun m h => ?_
 refine za h ?_ ?_ <;> intro _ h
 refine b ?_
 cases h; exact .r
 refine ze h fun i h => ?_
 exact e i h zd
 exact d (()) h zd
theorem zG3 {a : Int} {r : Int} (h : zje a = some r) : Ret E 115 [SV.int .u8 a] (SV.int .i64 r) := by
 refine rg [] Tryz.func115 h fun h => ?_
 refine zr h fun b h => ze h fun c h => ?_
 cases h; exact .r
theorem zDm {c : TL} {r : Tlattice_order} (h : zhk c = some r) : Ret E 116 [wz zJ c] (qz r) := by
 refine rg [0, 2] Tryz.func116 h fun h => ?_
 refine zq (fun (d : List Int × List Int) => [(3, .ptr (7) []), (2, .ptr 0 [])]) (fun d => [(7, .var true (qz (Tlattice_order.mk (↑(List.length (List.map SV.str c.Names)) : Int) d.fst d.snd))), (0, .var true (qz (Tlattice_order.mk 0 [0, 0, 0, 0, 0, 0, 0, 0] [0, 0, 0, 0, 0, 0, 0, 0])))]) 8 h (fun d h => ?_) (fun u g p h => ?_)
 cases h; exact .r
 refine zm (fun (a : Int × List Int × List Int) => [(18, .int .i64 (a.fst)), (17, .int .i64 ((↑(List.length (List.map (SV.int .u8) c.Up)) : Int))), (16, (zo 1 (SV.int .u8)) (c.Up)), (3, .ptr (7) []), (2, .ptr 0 [])]) (fun a => [(7, .var true (qz (Tlattice_order.mk (↑(List.length (List.map SV.str c.Names)) : Int) a.snd.fst a.snd.snd))), (0, .var true (qz (Tlattice_order.mk 0 [0, 0, 0, 0, 0, 0, 0, 0] [0, 0, 0, 0, 0, 0, 0, 0])))]) 15 h zd (fun a q v i h => ?_)
 refine za h ?_ ?_ <;> intro _ h
 refine zn (SV.int .u8) h rfl fun e h => zj h fun _ h => zn (SV.int .u8) h rfl fun _ h => ?_
 refine zq (fun (f : List Int) => [(18, .int .i64 (a.fst)), (17, .int .i64 ((↑(List.length (List.map (SV.int .u8) c.Up)) : Int))), (16, (zo 1 (SV.int .u8)) (c.Up)), (3, .ptr (7) []), (2, .ptr 0 [])]) (fun f => [(7, .var true (SV.agg [SV.int .i64 (↑(List.length (List.map SV.str c.Names)) : Int), SV.arr 8 1 (List.set (List.map (SV.int .u8) a.snd.fst) (Int.toNat a.fst) (SV.int .u8 e)), ql 8 1 (SV.int .u8) f])), (0, .var true (qz (Tlattice_order.mk 0 [0, 0, 0, 0, 0, 0, 0, 0] [0, 0, 0, 0, 0, 0, 0, 0])))]) 8 h (fun f h => ?_) (fun w j s h => ?_)
 refine ze h fun l h => ?_
 exact i ((l, List.set a.snd.fst (Int.toNat a.fst) e, f)) h (qT ⟨.refl _, .refl _, .refl _, .refl _, .refl _, trivial⟩ ⟨(.var (.agg (.cons .refl (.cons (.arr (.setm .refl .refl)) (.cons .refl .nil))))), .refl, trivial⟩ rfl rfl rfl)
 refine zm (fun (b : Int × List Int) => [(29, .int .i64 (b.fst)), (28, .int .i64 ((↑(List.length (List.map SV.str c.Names)) : Int))), (5, .int .u8 e), (4, .int .i64 (a.fst)), (18, .int .i64 (a.fst)), (17, .int .i64 ((↑(List.length (List.map (SV.int .u8) c.Up)) : Int))), (16, (zo 1 (SV.int .u8)) (c.Up)), (3, .ptr (7) []), (2, .ptr 0 [])]) (fun b => [(7, .var true (SV.agg [SV.int .i64 (↑(List.length (List.map SV.str c.Names)) : Int), SV.arr 8 1 (List.set (List.map (SV.int .u8) a.snd.fst) (Int.toNat a.fst) (SV.int .u8 e)), ql 8 1 (SV.int .u8) b.snd])), (0, .var true (qz (Tlattice_order.mk 0 [0, 0, 0, 0, 0, 0, 0, 0] [0, 0, 0, 0, 0, 0, 0, 0])))]) 29 h zd (fun b t x k h => ?_)
 refine za h ?_ ?_ <;> intro _ h
 refine zj h fun _ h => zn (SV.int .u8) h rfl fun m h => zj h fun _ h => zj h fun _ h => ze h fun n h => zj h fun _ h => zn (SV.int .u8) h rfl fun y h => ze h fun o h => ?_
 exact k ((o, List.set b.snd (Int.toNat b.fst) (bits BinOp.or IntKind.u8 m n))) h (qT ⟨.refl _, .refl _, .refl _, .refl _, .refl _, .refl _, .refl _, .refl _, .refl _, trivial⟩ ⟨(.var (.agg (.cons .refl (.cons .refl (.cons (.arr (.setm .refl .refl)) .nil))))), .refl, trivial⟩ rfl rfl rfl)
 exact j (b.snd) h zd
 exact g (a.snd) h zd
theorem zF4 {e : List Int} {f : Int} {m : Int} {n : Int} {r : Int} (h : zjx e f m n = some r) : Ret E 117 [ql 8 1 (SV.int .u8) e, SV.int .i64 f, SV.int .i64 m, SV.int .i64 n] (SV.int .i64 r) := by
 refine rg [0] Tryz.func117 h fun h => ?_
 refine zj h fun _ h => zn (SV.int .u8) h rfl fun g h => zj h fun _ h => zn (SV.int .u8) h rfl fun i h => ?_
 refine zq (fun (j : Unit) => [(8, .int .i64 0)]) (fun _ => []) 1 h (fun j h => ?_) (fun p c d h => ?_)
 cases h; exact .r
 refine zm (fun (a : Int) => [(19, .int .i64 a), (18, .int .i64 f), (9, .int .u8 (bits BinOp.and IntKind.u8 g i)), (8, .int .i64 0), (4, .ptr 0 [])]) (fun a => [(0, .var true ((ql 8 1 (SV.int .u8)) e))]) 12 h zd (fun a o q b h => ?_)
 refine za h ?_ ?_ <;> intro _ h
 refine zj h fun _ h => za h (fun _ h => ?_) fun _ h => ?_
 refine zj h fun _ h => zn (SV.int .u8) h rfl fun _ h => za h (fun _ h => ?_) fun _ h => ?_
 refine d ?_
 cases h; exact .r
 refine ze h fun k h => ?_
 exact b k h zd
 refine ze h fun l h => ?_
 exact b l h zd
 exact c (()) h zd
theorem zGu {e : List Int} {f : Int} {m : Int} {n : Int} {r : Int} (h : zr6 e f m n = some r) : Ret E 118 [ql 8 1 (SV.int .u8) e, SV.int .i64 f, SV.int .i64 m, SV.int .i64 n] (SV.int .i64 r) := by
 refine rg [0] Tryz.func118 h fun h => ?_
 refine zj h fun _ h => zn (SV.int .u8) h rfl fun g h => zj h fun _ h => zn (SV.int .u8) h rfl fun i h => ?_
 refine zq (fun (j : Unit) => [(8, .int .i64 0)]) (fun _ => []) 1 h (fun j h => ?_) (fun p c d h => ?_)
 cases h; exact .r
 refine zm (fun (a : Int) => [(19, .int .i64 a), (18, .int .i64 f), (9, .int .u8 (bits BinOp.and IntKind.u8 g i)), (8, .int .i64 0), (4, .ptr 0 [])]) (fun a => [(0, .var true ((ql 8 1 (SV.int .u8)) e))]) 12 h zd (fun a o q b h => ?_)
 refine za h ?_ ?_ <;> intro _ h
 refine zj h fun _ h => za h (fun _ h => ?_) fun _ h => ?_
 refine zj h fun _ h => zn (SV.int .u8) h rfl fun s h => za h (fun _ h => ?_) fun _ h => ?_
 refine d ?_
 cases h; exact .r
 refine ze h fun k h => ?_
 exact b k h zd
 refine ze h fun l h => ?_
 exact b l h zd
 exact c (()) h zd
theorem zza {a : TL} {r : Int × Int} (h : zbz a = some r) : Ret E 75 [zJ a] (SV.tup [SV.int .i64 r.fst, SV.int .i64 r.snd]) := by
 refine rg [0, 2, 5, 7] Tryz.func75 h fun h => ?_
 refine zb h (fun _ => zFf) fun _ h => za h (fun _ h => ?_) fun _ h => ?_
 cases h; exact .r
 refine za h ?_ ?_ <;> intro _ h
 cases h; exact .r
 refine zj h fun _ h => ze h fun a4 h => ze h fun o h => ?_
 refine zq (fun (y : Unit) => [(6, .int .i64 ((↑(List.length (List.map SV.str a.Names)) : Int))), (3, .int .i64 0), (2, .int .i64 0), (1, .ptr 0 [])]) (fun y => [(0, .var true (zJ a))]) 1 h (fun y h => ?_) (fun a5 z d h => ?_)
 refine zb h (fun _ => zDm) fun j h => ?_
 refine zq (fun (A : Unit) => [(3, .int .i64 0), (2, .int .i64 0)]) (fun _ => []) 1 h (fun A h => ?_) (fun T t m h => ?_)
 cases h; exact .r
 refine zm (fun (c : Int) => [(96, .int .i64 c), (95, .int .i64 ((↑(List.length (List.map SV.str a.Names)) : Int))), (12, .ptr 2 []), (6, .int .i64 ((↑(List.length (List.map SV.str a.Names)) : Int))), (3, .int .i64 0), (2, .int .i64 0)]) (fun c => [(2, .var true (qz j))]) 6 h zd (fun c Q U u h => ?_)
 refine za h ?_ ?_ <;> intro _ h
 refine zq (fun (p : Unit) => [(96, .int .i64 c), (95, .int .i64 ((↑(List.length (List.map SV.str a.Names)) : Int))), (12, .ptr 2 []), (6, .int .i64 ((↑(List.length (List.map SV.str a.Names)) : Int))), (3, .int .i64 0), (2, .int .i64 0)]) (fun p => [(2, .var true (qz j))]) 3 h (fun p h => ?_) (fun V v n h => ?_)
 refine ze h fun C h => ?_
 exact u C h zd
 refine zm (fun (k : Int) => [(100, .int .i64 k), (99, .int .i64 ((↑(List.length (List.map SV.str a.Names)) : Int))), (13, .int .i64 c), (96, .int .i64 c), (95, .int .i64 ((↑(List.length (List.map SV.str a.Names)) : Int))), (12, .ptr 2 []), (6, .int .i64 ((↑(List.length (List.map SV.str a.Names)) : Int))), (3, .int .i64 0), (2, .int .i64 0)]) (fun k => [(2, .var true (qz j))]) 11 h zd (fun k R W w h => ?_)
 refine za h ?_ ?_ <;> intro _ h
 refine zb h (fun _ => zF4) fun _ h => ?_
 refine zA h (fun D h => ?_) (fun D h => ?_)
 refine n ?_
 refine m ?_
 cases h; exact .r
 refine zb h (fun _ => zGu) fun _ h => za h (fun _ h => ?_) fun _ h => ?_
 refine n ?_
 refine m ?_
 cases h; exact .r
 refine ze h fun F h => ?_
 exact w F h zd
 exact v (()) h zd
 exact t (()) h zd
 refine zm (fun (f : Int) => [(39, .int .i64 f), (38, .int .i64 ((↑(List.length (List.map (SV.int .u8) a.Up)) : Int))), (37, (zo 1 (SV.int .u8)) (a.Up)), (7, .int .u8 o), (6, .int .i64 ((↑(List.length (List.map SV.str a.Names)) : Int))), (3, .int .i64 0), (2, .int .i64 0), (1, .ptr 0 [])]) (fun f => [(0, .var true (zJ a))]) 30 h zd (fun f X a6 g h => ?_)
 refine za h ?_ ?_ <;> intro _ h
 refine zn (SV.int .u8) h rfl fun G h => zb h (fun _ => zG3) fun Y h => ?_
 refine zA h (fun H h => ?_) (fun H h => ?_)
 refine d ?_
 cases h; exact .r
 refine zj h fun _ h => za h (fun I h => ?_) (fun I h => ?_)
 refine d ?_
 cases h; exact .r
 refine zq (fun (q : Unit) => [(39, .int .i64 f), (38, .int .i64 ((↑(List.length (List.map (SV.int .u8) a.Up)) : Int))), (37, (zo 1 (SV.int .u8)) (a.Up)), (7, .int .u8 o), (6, .int .i64 ((↑(List.length (List.map SV.str a.Names)) : Int))), (3, .int .i64 0), (2, .int .i64 0), (1, .ptr 0 [])]) (fun q => [(0, .var true (zJ a))]) 1 h (fun q h => ?_) (fun Z x b h => ?_)
 refine ze h fun J h => ?_
 exact g J h zd
 refine zm (fun (l : Int) => [(59, .int .i64 l), (58, .int .i64 ((↑(List.length (List.map (SV.int .u8) a.Up)) : Int))), (57, (zo 1 (SV.int .u8)) (a.Up)), (9, .int .u8 G), (8, .int .i64 f), (39, .int .i64 f), (38, .int .i64 ((↑(List.length (List.map (SV.int .u8) a.Up)) : Int))), (37, (zo 1 (SV.int .u8)) (a.Up)), (7, .int .u8 o), (6, .int .i64 ((↑(List.length (List.map SV.str a.Names)) : Int))), (3, .int .i64 0), (2, .int .i64 0), (1, .ptr 0 [])]) (fun l => [(0, .var true (zJ a))]) 51 h zd (fun l S a1 i h => ?_)
 refine za h ?_ ?_ <;> intro _ h
 refine zn (SV.int .u8) h rfl fun _ h => zj h fun _ h => za h (fun _ h => ?_) fun _ h => ?_
 refine ze h fun a2 h => za h (fun _ h => ?_) fun _ h => ?_
 refine b ?_
 refine ze h fun K h => ?_
 exact g K h zd
 refine ze h fun L h => ?_
 exact i L h zd
 refine za h ?_ ?_ <;> intro _ h
 refine zj h fun _ h => za h (fun s h => ?_) (fun s h => ?_)
 refine ⟨fun _ => ?_, fun e => absurd (e.symm.trans s) (by decide)⟩
 refine b ?_
 refine d ?_
 cases h; exact .r
 refine za h ?_ ?_ <;> intro _ h
 refine b ?_
 refine d ?_
 cases h; exact .r
 refine ze h fun _ h => za h (fun _ h => ?_) fun _ h => ?_
 refine b ?_
 refine ze h fun M h => ?_
 exact g M h zd
 refine ze h fun N h => ?_
 exact i N h zd
 refine za h ?_ ?_ <;> intro _ h
 refine b ?_
 refine d ?_
 cases h; exact .r
 refine ze h fun a3 h => za h (fun _ h => ?_) fun _ h => ?_
 refine b ?_
 refine ze h fun O h => ?_
 exact g O h zd
 refine ze h fun P h => ?_
 exact i P h zd
 exact x (()) h zd
 exact z (()) h zd
theorem zG2 {a : TP} {r : Int × Int} (h : zxt a = some r) : Ret E 74 [wz zI a] (SV.tup [SV.int .i64 r.fst, SV.int .i64 r.snd]) := by
 refine rg [] Tryz.func74 h fun h => ?_
 refine zb h (fun _ => zza) fun b h => ?_
 cases h; exact .r
theorem zFq {q : List UInt8} {r : Int × Int} (h : zpg q = some r) : Ret E 178 [SV.str q] (SV.tup [SV.int .i64 r.fst, SV.int .i64 r.snd]) := by
 refine rg [0] Tryz.func178 h fun h => ?_
 refine call L_prims_table ?_
 refine zq (fun (d : Unit) => [(3, .int .i64 0), (2, .int .i64 0)]) (fun _ => []) 1 h (fun d h => ?_) (fun s c b h => ?_)
 cases h; exact .r
 refine zex fun t a => ?_
 refine pT ?_
 refine zl (by decide) rfl ?_
 refine pF ?_
 refine zu (r := (1 : Int)) (by decide) ?_
 refine a _ _ _ ?_
 refine pT ?_
 refine zl (by decide) rfl ?_
 refine pT ?_
 refine za h (fun e h => ?_) (fun e h => ?_)
 refine b ?_
 cases h; exact .r
 refine zu (r := (2 : Int)) (by decide) ?_
 refine a _ _ _ ?_
 refine pT ?_
 refine zl (by decide) rfl ?_
 refine pT ?_
 refine za h ?_ ?_ <;> intro _ h
 refine b ?_
 cases h; exact .r
 refine zu (r := (3 : Int)) (by decide) ?_
 refine a _ _ _ ?_
 refine pT ?_
 refine zl (by decide) rfl ?_
 refine pT ?_
 refine za h ?_ ?_ <;> intro _ h
 refine b ?_
 cases h; exact .r
 refine zu (r := (4 : Int)) (by decide) ?_
 refine a _ _ _ ?_
 refine pT ?_
 refine zl (by decide) rfl ?_
 refine pT ?_
 refine za h ?_ ?_ <;> intro _ h
 refine b ?_
 cases h; exact .r
 refine zu (r := (5 : Int)) (by decide) ?_
 refine a _ _ _ ?_
 refine pT ?_
 refine zl (by decide) rfl ?_
 refine pT ?_
 refine za h ?_ ?_ <;> intro _ h
 refine b ?_
 cases h; exact .r
 refine zu (r := (6 : Int)) (by decide) ?_
 refine a _ _ _ ?_
 refine pT ?_
 refine zl (by decide) rfl ?_
 refine pT ?_
 refine za h ?_ ?_ <;> intro _ h
 refine b ?_
 cases h; exact .r
 refine zu (r := (7 : Int)) (by decide) ?_
 refine a _ _ _ ?_
 refine pT ?_
 refine zl (by decide) rfl ?_
 refine pT ?_
 refine za h (fun f h => ?_) (fun f h => ?_)
 refine b ?_
 cases h; exact .r
 refine zu (r := (8 : Int)) (by decide) ?_
 refine a _ _ _ ?_
 refine pT ?_
 refine zl (by decide) rfl ?_
 refine pT ?_
 refine za h (fun g h => ?_) (fun g h => ?_)
 refine b ?_
 cases h; exact .r
 refine zu (r := (9 : Int)) (by decide) ?_
 refine a _ _ _ ?_
 refine pT ?_
 refine zl (by decide) rfl ?_
 refine pT ?_
 refine za h ?_ ?_ <;> intro _ h
 refine b ?_
 cases h; exact .r
 refine zu (r := (10 : Int)) (by decide) ?_
 refine a _ _ _ ?_
 refine pT ?_
 refine zl (by decide) rfl ?_
 refine pT ?_
 refine za h (fun i h => ?_) (fun i h => ?_)
 refine b ?_
 cases h; exact .r
 refine zu (r := (11 : Int)) (by decide) ?_
 refine a _ _ _ ?_
 refine pT ?_
 refine zl (by decide) rfl ?_
 refine pT ?_
 refine za h ?_ ?_ <;> intro _ h
 refine b ?_
 cases h; exact .r
 refine zu (r := (12 : Int)) (by decide) ?_
 refine a _ _ _ ?_
 refine pT ?_
 refine zl (by decide) rfl ?_
 refine pT ?_
 refine za h ?_ ?_ <;> intro _ h
 refine b ?_
 cases h; exact .r
 refine zu (r := (13 : Int)) (by decide) ?_
 refine a _ _ _ ?_
 refine pT ?_
 refine zl (by decide) rfl ?_
 refine pT ?_
 refine za h ?_ ?_ <;> intro _ h
 refine b ?_
 cases h; exact .r
 refine zu (r := (14 : Int)) (by decide) ?_
 refine a _ _ _ ?_
 refine pT ?_
 refine zl (by decide) rfl ?_
 refine pT ?_
 refine za h ?_ ?_ <;> intro _ h
 refine b ?_
 cases h; exact .r
 refine zu (r := (15 : Int)) (by decide) ?_
 refine a _ _ _ ?_
 refine pT ?_
 refine zl (by decide) rfl ?_
 refine pT ?_
 refine za h (fun j h => ?_) (fun j h => ?_)
 refine b ?_
 cases h; exact .r
 refine zu (r := (16 : Int)) (by decide) ?_
 refine a _ _ _ ?_
 refine pT ?_
 refine zl (by decide) rfl ?_
 refine pT ?_
 refine za h ?_ ?_ <;> intro _ h
 refine b ?_
 cases h; exact .r
 refine zu (r := (17 : Int)) (by decide) ?_
 refine a _ _ _ ?_
 refine pT ?_
 refine zl (by decide) rfl ?_
 refine pT ?_
 refine za h ?_ ?_ <;> intro _ h
 refine b ?_
 cases h; exact .r
 refine zu (r := (18 : Int)) (by decide) ?_
 refine a _ _ _ ?_
 refine pT ?_
 refine zl (by decide) rfl ?_
 refine pT ?_
 refine za h ?_ ?_ <;> intro _ h
 refine b ?_
 cases h; exact .r
 refine zu (r := (19 : Int)) (by decide) ?_
 refine a _ _ _ ?_
 refine pT ?_
 refine zl (by decide) rfl ?_
 refine pT ?_
 refine za h ?_ ?_ <;> intro _ h
 refine b ?_
 cases h; exact .r
 refine zu (r := (20 : Int)) (by decide) ?_
 refine a _ _ _ ?_
 refine pT ?_
 refine zl (by decide) rfl ?_
 refine pT ?_
 refine za h ?_ ?_ <;> intro _ h
 refine b ?_
 cases h; exact .r
 refine zu (r := (21 : Int)) (by decide) ?_
 refine a _ _ _ ?_
 refine pT ?_
 refine zl (by decide) rfl ?_
 refine pT ?_
 refine za h ?_ ?_ <;> intro _ h
 refine b ?_
 cases h; exact .r
 refine zu (r := (22 : Int)) (by decide) ?_
 refine a _ _ _ ?_
 refine pT ?_
 refine zl (by decide) rfl ?_
 refine pT ?_
 refine za h ?_ ?_ <;> intro _ h
 refine b ?_
 cases h; exact .r
 refine zu (r := (23 : Int)) (by decide) ?_
 refine a _ _ _ ?_
 refine pT ?_
 refine zl (by decide) rfl ?_
 refine pT ?_
 refine za h ?_ ?_ <;> intro _ h
 refine b ?_
 cases h; exact .r
 refine zu (r := (24 : Int)) (by decide) ?_
 refine a _ _ _ ?_
 refine pT ?_
 refine zl (by decide) rfl ?_
 refine pT ?_
 refine za h ?_ ?_ <;> intro _ h
 refine b ?_
 cases h; exact .r
 refine zu (r := (25 : Int)) (by decide) ?_
 refine a _ _ _ ?_
 refine pT ?_
 refine zl (by decide) rfl ?_
 refine pT ?_
 refine za h ?_ ?_ <;> intro _ h
 refine b ?_
 cases h; exact .r
 refine zu (r := (26 : Int)) (by decide) ?_
 refine a _ _ _ ?_
 refine pT ?_
 refine zl (by decide) rfl ?_
 refine pT ?_
 refine za h ?_ ?_ <;> intro _ h
 refine b ?_
 cases h; exact .r
 refine zu (r := (27 : Int)) (by decide) ?_
 refine a _ _ _ ?_
 refine pT ?_
 refine zl (by decide) rfl ?_
 refine pT ?_
 refine za h ?_ ?_ <;> intro _ h
 refine b ?_
 cases h; exact .r
 refine zu (r := (28 : Int)) (by decide) ?_
 refine a _ _ _ ?_
 refine pT ?_
 refine zl (by decide) rfl ?_
 refine pT ?_
 refine za h (fun k h => ?_) (fun k h => ?_)
 refine b ?_
 cases h; exact .r
 refine zu (r := (29 : Int)) (by decide) ?_
 refine a _ _ _ ?_
 refine pT ?_
 refine zl (by decide) rfl ?_
 refine pT ?_
 refine za h ?_ ?_ <;> intro _ h
 refine b ?_
 cases h; exact .r
 refine zu (r := (30 : Int)) (by decide) ?_
 refine a _ _ _ ?_
 refine pT ?_
 refine zl (by decide) rfl ?_
 refine pT ?_
 refine za h (fun l h => ?_) (fun l h => ?_)
 refine b ?_
 cases h; exact .r
 refine zu (r := (31 : Int)) (by decide) ?_
 refine a _ _ _ ?_
 refine pT ?_
 refine zl (by decide) rfl ?_
 refine pT ?_
 refine za h (fun m h => ?_) (fun m h => ?_)
 refine b ?_
 cases h; exact .r
 refine zu (r := (32 : Int)) (by decide) ?_
 refine a _ _ _ ?_
 refine pT ?_
 refine zl (by decide) rfl ?_
 refine pT ?_
 refine za h (fun n h => ?_) (fun n h => ?_)
 refine b ?_
 cases h; exact .r
 refine zu (r := (33 : Int)) (by decide) ?_
 refine a _ _ _ ?_
 refine pT ?_
 refine zl (by decide) rfl ?_
 refine pT ?_
 refine za h ?_ ?_ <;> intro _ h
 refine b ?_
 cases h; exact .r
 refine zu (r := (34 : Int)) (by decide) ?_
 refine a _ _ _ ?_
 refine pT ?_
 refine zl (by decide) rfl ?_
 refine pT ?_
 refine za h (fun o h => ?_) (fun o h => ?_)
 refine b ?_
 cases h; exact .r
 refine zu (r := (35 : Int)) (by decide) ?_
 refine a _ _ _ ?_
 refine pT ?_
 refine zl (by decide) rfl ?_
 refine pT ?_
 refine za h ?_ ?_ <;> intro _ h
 refine b ?_
 cases h; exact .r
 refine zu (r := (36 : Int)) (by decide) ?_
 refine a _ _ _ ?_
 refine pT ?_
 refine zl (by decide) rfl ?_
 refine pT ?_
 refine za h (fun p h => ?_) (fun p h => ?_)
 refine b ?_
 cases h; exact .r
 refine zu (r := (37 : Int)) (by decide) ?_
 refine a _ _ _ ?_
 refine pT ?_
 refine zl (by decide) rfl ?_
 refine pT ?_
 refine za h ?_ ?_ <;> intro _ h
 refine b ?_
 cases h; exact .r
 refine zu (r := (38 : Int)) (by decide) ?_
 refine a _ _ _ ?_
 refine pT ?_
 refine zl (by decide) rfl ?_
 refine pT ?_
 refine za h ?_ ?_ <;> intro _ h
 refine b ?_
 cases h; exact .r
 refine zu (r := (39 : Int)) (by decide) ?_
 refine a _ _ _ ?_
 refine pT ?_
 refine zl (by decide) rfl ?_
 refine pT ?_
 refine za h ?_ ?_ <;> intro _ h
 refine b ?_
 cases h; exact .r
 refine zu (r := (40 : Int)) (by decide) ?_
 refine a _ _ _ ?_
 refine pT ?_
 refine zl (by decide) rfl ?_
 refine pT ?_
 refine za h ?_ ?_ <;> intro _ h
 refine b ?_
 cases h; exact .r
 refine zu (r := (41 : Int)) (by decide) ?_
 refine a _ _ _ ?_
 refine pF ?_
 exact c (()) h zd
theorem zF0 {b : Int} {r : Bool} (h : zst b = some r) : Ret E 284 [SV.int .i64 b] (SV.bool r) := by
 refine rg [] Tryz.func284 h fun h => ?_
 refine ze h fun c h => ze h fun d h => za h (fun a h => ?_) (fun a h => ?_)
 refine ze h fun e h => zb h (fun _ => zxj) fun f h => ?_
 cases h; exact .r
 cases h; exact .r
theorem zs4 {r : List (List UInt8)} (h : zg4 = some r) : Ret E 285 [] (ql 10 1 SV.str r) := by
 refine rg [] Tryz.func285 h fun h => ?_
 unfold zg4 at h
 cases h; exact .r
theorem yY {a : Int} {r : Int × Int} (h : zer a = some r) : Ret E 254 [SV.int .i64 a] (SV.tup [SV.int .i64 r.fst, SV.int .i64 r.snd]) := by
 refine rg [1] Tryz.func254 h fun h => ?_
 refine zb h (fun _ => zF0) fun P h => za h (fun t h => ?_) (fun t h => ?_)
 cases h; exact .r
 iterate 2 refine za h ?_ ?_ <;> intro _ h
 cases h; exact .r
 refine za h (fun u h => ?_) (fun u h => ?_)
 refine za h ?_ ?_ <;> intro _ h
 cases h; exact .r
 refine zb h (fun _ => zs4) fun v h => ?_
 refine zq (fun (w : Unit) => [(3, .int .i64 0), (2, .int .i64 0)]) (fun _ => []) 1 h (fun w h => ?_) (fun Q f g h => ?_)
 cases h; exact .r
 refine zm (fun (b : Int) => [(25, .int .i64 b), (24, (ql 10 1 SV.str) v), (3, .int .i64 0), (2, .int .i64 0), (0, .int .i64 a)]) (fun _ => []) 22 h zd (fun b L R i h => ?_)
 refine za h ?_ ?_ <;> intro _ h
 refine zn SV.str h rfl fun _ h => ze h fun S h => zb h (fun _ => zg5) fun _ h => za h (fun x h => ?_) (fun x h => ?_)
 refine g ?_
 cases h; exact .r
 refine ze h fun y h => ?_
 exact i y h zd
 exact f (()) h zd
 refine zb h (fun _ => zs4) fun z h => ?_
 refine zq (fun (A : Unit) => [(3, .int .i64 0), (2, .int .i64 0)]) (fun _ => []) 1 h (fun A h => ?_) (fun T j k h => ?_)
 cases h; exact .r
 refine zm (fun (c : Int) => [(25, .int .i64 c), (24, (ql 10 1 SV.str) z), (3, .int .i64 0), (2, .int .i64 0), (0, .int .i64 a)]) (fun _ => []) 20 h zd (fun c M U l h => ?_)
 refine za h ?_ ?_ <;> intro _ h
 refine zn SV.str h rfl fun V h => ze h fun W h => zb h (fun _ => zg5) fun X h => za h (fun _ h => ?_) fun _ h => ?_
 refine k ?_
 cases h; exact .r
 refine ze h fun C h => ?_
 exact l C h zd
 exact j (()) h zd
 iterate 2 refine za h ?_ ?_ <;> intro _ h
 cases h; exact .r
 refine zb h (fun _ => zs4) fun D h => ?_
 refine zq (fun (F : Unit) => [(3, .int .i64 0), (2, .int .i64 0)]) (fun _ => []) 1 h (fun F h => ?_) (fun Y m n h => ?_)
 cases h; exact .r
 refine zm (fun (d : Int) => [(25, .int .i64 d), (24, (ql 10 1 SV.str) D), (3, .int .i64 0), (2, .int .i64 0), (0, .int .i64 a)]) (fun _ => []) 20 h zd (fun d N Z o h => ?_)
 refine za h ?_ ?_ <;> intro _ h
 refine zn SV.str h rfl fun a1 h => ze h fun a2 h => zb h (fun _ => zg5) fun a3 h => za h (fun G h => ?_) (fun G h => ?_)
 refine n ?_
 cases h; exact .r
 refine ze h fun H h => ?_
 exact o H h zd
 exact m (()) h zd
 refine zb h (fun _ => zs4) fun I h => ?_
 refine zq (fun (J : Unit) => [(3, .int .i64 0), (2, .int .i64 0)]) (fun _ => []) 1 h (fun J h => ?_) (fun a4 p q h => ?_)
 cases h; exact .r
 refine zm (fun (e : Int) => [(25, .int .i64 e), (24, (ql 10 1 SV.str) I), (3, .int .i64 0), (2, .int .i64 0), (0, .int .i64 a)]) (fun _ => []) 18 h zd (fun e O a5 s h => ?_)
 refine za h ?_ ?_ <;> intro _ h
 refine zn SV.str h rfl fun _ h => ze h fun _ h => zb h (fun _ => zg5) fun _ h => za h (fun _ h => ?_) fun _ h => ?_
 refine q ?_
 cases h; exact .r
 refine ze h fun K h => ?_
 exact s K h zd
 exact p (()) h zd
theorem zgr {a : List UInt8} {r : Int} (h : ze2 a = some r) : Ret E 255 [SV.str a] (SV.int .u64 r) := by
 refine rg [] Tryz.func255 h fun h => ?_
 refine zr h fun _ h => ze h fun _ h => zr h fun _ h => ze h fun _ h => ?_
 refine qb (by decide) ?_
 refine ze h fun _ h => zr h fun _ h => ze h fun _ h => ?_
 refine qb (by decide) ?_
 refine ze h fun _ h => zr h fun _ h => ze h fun b h => ?_
 iterate 4 (refine qb (by decide) ?_; refine ze h fun _ h => zr h fun _ h => ze h fun _ h => ?_)
 refine qb (by decide) ?_
 refine ze h fun _ h => ?_
 cases h; exact .r
theorem zFk {k : List UInt8} {r : Bool} (h : zC9 k = some r) : Ret E 220 [SV.str k] (SV.bool r) := by
 refine rg [0, 2] Tryz.func220 h fun h => ?_
 refine zq (fun (j : Unit) => [(2, .fls)]) (fun _ => []) 1 h (fun j h => ?_) (fun p g l h => ?_)
 cases h; exact .r
 refine zm (fun (a : List UInt8) => [(2, .fls), (0, .str a)]) (fun _ => []) 1 h zd (fun a m q b h => ?_)
 refine za h ?_ ?_ <;> intro _ h
 refine zr h fun f h => za h (fun _ h => ?_) fun _ h => ?_
 refine zj h fun _ h => za h (fun _ h => ?_) fun _ h => ?_
 refine zb h (fun _ => zgr) fun _ h => za h (fun _ h => ?_) fun _ h => ?_
 refine zj h fun _ h => za h (fun _ h => ?_) fun _ h => ?_
 refine zb h (fun _ => zgr) fun _ h => zj h fun _ h => zb h (fun _ => zgr) fun _ h => za h (fun _ h => ?_) fun _ h => ?_
 refine zj h fun _ h => ?_
 refine zq (fun (d : List UInt8) => [(0, .str d), (3, .int .u8 ((↑(UInt8.toNat f) : Int))), (2, .fls)]) (fun _ => []) 1 h (fun d h => ?_) (fun s e n h => ?_)
 exact b d h zd
 refine zm (fun (c : List UInt8) => [(0, .str c), (3, .int .u8 ((↑(UInt8.toNat f) : Int))), (2, .fls)]) (fun _ => []) 40 h zd (fun c o t i h => ?_)
 refine za h ?_ ?_ <;> intro _ h
 refine zb h (fun _ => zgr) fun _ h => zj h fun _ h => zb h (fun _ => zgr) fun _ h => zj h fun _ h => zb h (fun _ => zgr) fun _ h => zj h fun _ h => zb h (fun _ => zgr) fun _ h => ?_
 refine za h ?_ ?_ <;> intro _ h
 refine zj h fun _ h => ?_
 exact i (List.drop (Int.toNat (32 : Int)) (List.take (Int.toNat (↑(List.length c) : Int)) c)) h zd
 exact e c h zd
 exact e c h zd
 exact b (List.drop (Int.toNat (8 : Int)) (List.take (Int.toNat (↑(List.length (List.drop (Int.toNat (1 : Int)) (List.take (Int.toNat (↑(List.length a) : Int)) a))) : Int)) (List.drop (Int.toNat (1 : Int)) (List.take (Int.toNat (↑(List.length a) : Int)) a)))) h zd
 exact b (List.drop (Int.toNat (8 : Int)) (List.take (Int.toNat (↑(List.length (List.drop (Int.toNat (1 : Int)) (List.take (Int.toNat (↑(List.length a) : Int)) a))) : Int)) (List.drop (Int.toNat (1 : Int)) (List.take (Int.toNat (↑(List.length a) : Int)) a)))) h zd
 exact b (List.drop (Int.toNat (1 : Int)) (List.take (Int.toNat (↑(List.length a) : Int)) a)) h zd
 exact b (List.drop (Int.toNat (1 : Int)) (List.take (Int.toNat (↑(List.length a) : Int)) a)) h zd
 exact zao h
 exact g (()) h zd
theorem zGk {a : TK} {r : Int} (h : ztz a = some r) : Ret E 179 [zZ a] (SV.int .i64 r) := by
 refine rg [0, 1] Tryz.func179 h fun h => ?_
 refine zq (fun (f : Int × List UInt8) => [(3, .ptr (9) []), (2, .int .i64 0), (1, .ptr 0 [])]) (fun f => [(9, .var true (zZ (TK.mk a.Kind a.From a.To f.fst f.snd))), (0, .var true (zZ a))]) 10 h (fun f h => ?_) (fun M u L h => ?_)
 refine zA h (fun J h => ?_) (fun J h => ?_)
 cases h; exact .r
 refine zA h (fun K h => ?_) (fun K h => ?_)
 cases h; exact .r
 refine za h ?_ ?_ <;> intro _ h
 cases h; exact .r
 refine zq (fun (G : Int) => [(4, .int .i64 G), (2, .int .i64 0), (1, .ptr 0 [])]) (fun G => [(0, .var true (zZ a))]) 1 h (fun G h => ?_) (fun O p g h => ?_)
 refine za h ?_ ?_ <;> intro _ h
 cases h; exact .r
 cases h; exact .r
 refine za h ?_ ?_ <;> intro _ h
 iterate 2 refine ⟨?_, trivial⟩
 refine zL (fn := Tryz.f218) (cuts := []) ok Tryz.func218 (by kernel_rfl) rfl ?_
 refine za h (fun q h => ?_) (fun q h => ?_)
 iterate 2 refine ⟨?_, trivial⟩
 refine ⟨?_, ?_⟩
 refine ⟨fun e => absurd e (by decide), fun _ => ?_⟩
 refine ⟨?_, ?_⟩
 iterate 4 refine ⟨?_, trivial⟩
 refine g ?_
 cases h; exact .r
 refine ⟨?_, trivial⟩
 refine ⟨?_, ?_⟩
 iterate 3 refine ⟨?_, trivial⟩
 refine g ?_
 cases h; exact .r
 iterate 4 refine ⟨?_, trivial⟩
 refine g ?_
 cases h; exact .r
 refine ⟨?_, trivial⟩
 refine ⟨fun e => absurd e (by decide), fun _ => ?_⟩
 iterate 2 refine ⟨?_, ?_⟩
 iterate 3 refine ⟨?_, trivial⟩
 refine g ?_
 cases h; exact .r
 iterate 4 refine ⟨?_, trivial⟩
 refine g ?_
 cases h; exact .r
 iterate 5 refine ⟨?_, trivial⟩
 refine g ?_
 cases h; exact .r
 refine zr h fun P h => ze h fun Q h => zb h (fun _ => yY) fun i h => ?_
 iterate 2 refine ⟨?_, trivial⟩
 refine ⟨?_, ?_⟩
 refine zA h (fun H h => ?_) (fun H h => ?_)
 refine ⟨?_, ?_⟩
 iterate 4 refine ⟨?_, trivial⟩
 refine g ?_
 cases h; exact .r
 refine ⟨?_, trivial⟩
 refine ⟨?_, ?_⟩
 iterate 3 refine ⟨?_, trivial⟩
 refine g ?_
 cases h; exact .r
 iterate 4 refine ⟨?_, trivial⟩
 refine g ?_
 cases h; exact .r
 refine ⟨?_, ?_⟩
 refine zL (fn := Tryz.f219) (cuts := [0]) ok Tryz.func219 (by kernel_rfl) rfl ?_
 refine zL (fn := Tryz.f218) (cuts := []) ok Tryz.func218 (by kernel_rfl) rfl ?_
 refine ⟨fun e => absurd (e.symm.trans q) (by decide), fun _ => ?_⟩
 refine zr h fun v h => ze h fun w h => zb h (fun _ => yY) fun x h => ?_
 refine zq (fun (d : Bool × Int × Int) => [(26, .bool (d.fst)), (8, .int .i64 (d.snd.fst)), (7, .int .i64 0), (6, .str ((ByteArray.mk #[]).data.toList)), (2, .int .i64 6), (1, .int .i64 8), (0, .ptr 31 []), (1000051, .ptr 31 []), (1000050, .fls), (1000049, .bool (!decide (i.fst = 8))), (1000048, .int .i64 (i.fst)), (1000047, .ptr 31 []), (1000005, .ptr 31 []), (1000046, .ptr 31 []), (1000045, zW (TR.mk a.S 0)), (1000044, .str (a.S)), (1000043, .ptr 0 ([] ++ [Step.fld 4 4])), (1000041, .bool (decide (a.Kind = 1))), (1000042, .bool (decide (a.Kind = 1))), (1000040, .int .i64 (a.Kind)), (1000039, .ptr 0 ([] ++ [Step.fld 0 0])), (1000004, .int .i64 0), (1000035, zZ a), (1000034, .fls), (1000033, .bool (decide (9 < a.Kind))), (1000032, .bool (decide (9 < a.Kind))), (1000031, .int .i64 (a.Kind)), (1000030, .ptr 0 ([] ++ [Step.fld 0 0])), (1000029, .fls), (1000028, .bool (decide (a.Kind < 1))), (1000027, .int .i64 (a.Kind)), (1000026, .ptr 0 ([] ++ [Step.fld 0 0])), (1000003, .ptr (9) []), (1000002, .int .i64 0), (1000001, .ptr 0 [])]) (fun d => [(31, .var true (zW (TR.mk a.S d.snd.snd))), (9, .var true (zZ (TK.mk a.Kind a.From a.To f.fst f.snd))), (0, .var true (zZ a))]) 32 h (fun d h => ?_) (fun y l s h => ?_)
 refine zj h fun _ h => ?_
 iterate 4 refine ⟨?_, trivial⟩
 refine za h ?_ ?_ <;> intro _ h
 refine g ?_
 cases h; exact .r
 exact p ((16 : Int)) h zd
 refine zm (fun (b : Int × Int) => [(8, .int .i64 (b.fst)), (7, .int .i64 0), (6, .str ((ByteArray.mk #[]).data.toList)), (2, .int .i64 6), (1, .int .i64 8), (0, .ptr 31 []), (1000051, .ptr 31 []), (1000050, .fls), (1000049, .bool (!decide (i.fst = 8))), (1000048, .int .i64 (i.fst)), (1000047, .ptr 31 []), (1000005, .ptr 31 []), (1000046, .ptr 31 []), (1000045, zW (TR.mk a.S 0)), (1000044, .str (a.S)), (1000043, .ptr 0 ([] ++ [Step.fld 4 4])), (1000041, .bool (decide (a.Kind = 1))), (1000042, .bool (decide (a.Kind = 1))), (1000040, .int .i64 (a.Kind)), (1000039, .ptr 0 ([] ++ [Step.fld 0 0])), (1000004, .int .i64 0), (1000035, zZ a), (1000034, .fls), (1000033, .bool (decide (9 < a.Kind))), (1000032, .bool (decide (9 < a.Kind))), (1000031, .int .i64 (a.Kind)), (1000030, .ptr 0 ([] ++ [Step.fld 0 0])), (1000029, .fls), (1000028, .bool (decide (a.Kind < 1))), (1000027, .int .i64 (a.Kind)), (1000026, .ptr 0 ([] ++ [Step.fld 0 0])), (1000003, .ptr (9) []), (1000002, .int .i64 0), (1000001, .ptr 0 [])]) (fun b => [(31, .var true (zW (TR.mk a.S b.snd))), (9, .var true (zZ (TK.mk a.Kind a.From a.To f.fst f.snd))), (0, .var true (zZ a))]) 95 h zd (fun b t z c h => ?_)
 refine zA h (fun m h => ?_) (fun m h => ?_)
 refine ze h fun j h => ?_
 refine zL (fn := Tryz.f218) (cuts := []) ok Tryz.func218 (by kernel_rfl) rfl ?_
 refine za h ?_ ?_ <;> intro _ h
 exact c (((10 : Int), j)) h zd
 refine zr h fun A h => ze h fun C h => zb h (fun _ => yY) fun n h => ?_
 exact c ((n.fst, j)) h zd
 refine za h ?_ ?_ <;> intro _ h
 refine ze h fun k h => ?_
 refine zL (fn := Tryz.f218) (cuts := []) ok Tryz.func218 (by kernel_rfl) rfl ?_
 refine za h ?_ ?_ <;> intro _ h
 exact c (((10 : Int), k)) h zd
 refine zr h fun D h => ze h fun F h => zb h (fun _ => yY) fun o h => ?_
 exact c ((o.fst, k)) h zd
 exact l ((decide (b.fst = (6 : Int)), b)) h zd
 refine ⟨?_, trivial⟩
 refine ⟨?_, ?_⟩
 refine zL (fn := Tryz.f219) (cuts := [0]) ok Tryz.func219 (by kernel_rfl) rfl ?_
 refine zL (fn := Tryz.f218) (cuts := []) ok Tryz.func218 (by kernel_rfl) rfl ?_
 refine ⟨fun e => absurd (e.symm.trans q) (by decide), fun _ => ?_⟩
 refine zr h fun v h => ze h fun w h => zb h (fun _ => yY) fun x h => ?_
 refine zq (fun (d : Bool × Int × Int) => [(26, .bool (d.fst)), (8, .int .i64 (d.snd.fst)), (7, .int .i64 0), (6, .str ((ByteArray.mk #[]).data.toList)), (2, .int .i64 6), (1, .int .i64 8), (0, .ptr 31 []), (1000053, .ptr 0 ([] ++ [Step.fld 4 4])), (1000051, .ptr 31 []), (1000050, .fls), (1000049, .bool (!decide (i.fst = 8))), (1000048, .int .i64 (i.fst)), (1000047, .ptr 31 []), (1000005, .ptr 31 []), (1000046, .ptr 31 []), (1000045, zW (TR.mk a.S 0)), (1000044, .str (a.S)), (1000043, .ptr 0 ([] ++ [Step.fld 4 4])), (1000041, .bool (decide (a.Kind = 1))), (1000042, .bool (decide (a.Kind = 1))), (1000040, .int .i64 (a.Kind)), (1000039, .ptr 0 ([] ++ [Step.fld 0 0])), (1000004, .int .i64 0), (1000035, zZ a), (1000034, .fls), (1000033, .bool (decide (9 < a.Kind))), (1000032, .bool (decide (9 < a.Kind))), (1000031, .int .i64 (a.Kind)), (1000030, .ptr 0 ([] ++ [Step.fld 0 0])), (1000029, .fls), (1000028, .bool (decide (a.Kind < 1))), (1000027, .int .i64 (a.Kind)), (1000026, .ptr 0 ([] ++ [Step.fld 0 0])), (1000003, .ptr (9) []), (1000002, .int .i64 0), (1000001, .ptr 0 [])]) (fun d => [(31, .var true (zW (TR.mk a.S d.snd.snd))), (9, .var true (zZ (TK.mk a.Kind a.From a.To f.fst f.snd))), (0, .var true (zZ a))]) 32 h (fun d h => ?_) (fun y l s h => ?_)
 refine zj h fun _ h => ?_
 iterate 3 refine ⟨?_, trivial⟩
 refine za h ?_ ?_ <;> intro _ h
 refine g ?_
 cases h; exact .r
 exact p ((16 : Int)) h zd
 refine zm (fun (b : Int × Int) => [(8, .int .i64 (b.fst)), (7, .int .i64 0), (6, .str ((ByteArray.mk #[]).data.toList)), (2, .int .i64 6), (1, .int .i64 8), (0, .ptr 31 []), (1000053, .ptr 0 ([] ++ [Step.fld 4 4])), (1000051, .ptr 31 []), (1000050, .fls), (1000049, .bool (!decide (i.fst = 8))), (1000048, .int .i64 (i.fst)), (1000047, .ptr 31 []), (1000005, .ptr 31 []), (1000046, .ptr 31 []), (1000045, zW (TR.mk a.S 0)), (1000044, .str (a.S)), (1000043, .ptr 0 ([] ++ [Step.fld 4 4])), (1000041, .bool (decide (a.Kind = 1))), (1000042, .bool (decide (a.Kind = 1))), (1000040, .int .i64 (a.Kind)), (1000039, .ptr 0 ([] ++ [Step.fld 0 0])), (1000004, .int .i64 0), (1000035, zZ a), (1000034, .fls), (1000033, .bool (decide (9 < a.Kind))), (1000032, .bool (decide (9 < a.Kind))), (1000031, .int .i64 (a.Kind)), (1000030, .ptr 0 ([] ++ [Step.fld 0 0])), (1000029, .fls), (1000028, .bool (decide (a.Kind < 1))), (1000027, .int .i64 (a.Kind)), (1000026, .ptr 0 ([] ++ [Step.fld 0 0])), (1000003, .ptr (9) []), (1000002, .int .i64 0), (1000001, .ptr 0 [])]) (fun b => [(31, .var true (zW (TR.mk a.S b.snd))), (9, .var true (zZ (TK.mk a.Kind a.From a.To f.fst f.snd))), (0, .var true (zZ a))]) 96 h zd (fun b t z c h => ?_)
 refine zA h (fun m h => ?_) (fun m h => ?_)
 refine ze h fun j h => ?_
 refine zL (fn := Tryz.f218) (cuts := []) ok Tryz.func218 (by kernel_rfl) rfl ?_
 refine za h ?_ ?_ <;> intro _ h
 exact c (((10 : Int), j)) h zd
 refine zr h fun A h => ze h fun C h => zb h (fun _ => yY) fun n h => ?_
 exact c ((n.fst, j)) h zd
 refine za h ?_ ?_ <;> intro _ h
 refine ze h fun k h => ?_
 refine zL (fn := Tryz.f218) (cuts := []) ok Tryz.func218 (by kernel_rfl) rfl ?_
 refine za h ?_ ?_ <;> intro _ h
 exact c (((10 : Int), k)) h zd
 refine zr h fun D h => ze h fun F h => zb h (fun _ => yY) fun o h => ?_
 exact c ((o.fst, k)) h zd
 exact l ((decide (b.fst = (6 : Int)), b)) h zd
 iterate 2 refine ⟨?_, trivial⟩
 refine zL (fn := Tryz.f219) (cuts := [0]) ok Tryz.func219 (by kernel_rfl) rfl ?_
 refine zL (fn := Tryz.f218) (cuts := []) ok Tryz.func218 (by kernel_rfl) rfl ?_
 refine ⟨fun e => absurd (e.symm.trans q) (by decide), fun _ => ?_⟩
 refine zr h fun v h => ze h fun w h => zb h (fun _ => yY) fun x h => ?_
 refine zq (fun (d : Bool × Int × Int) => [(26, .bool (d.fst)), (8, .int .i64 (d.snd.fst)), (7, .int .i64 0), (6, .str ((ByteArray.mk #[]).data.toList)), (2, .int .i64 6), (1, .int .i64 8), (0, .ptr 31 []), (1000054, .str (a.S)), (1000053, .ptr 0 ([] ++ [Step.fld 4 4])), (1000051, .ptr 31 []), (1000050, .fls), (1000049, .bool (!decide (i.fst = 8))), (1000048, .int .i64 (i.fst)), (1000047, .ptr 31 []), (1000005, .ptr 31 []), (1000046, .ptr 31 []), (1000045, zW (TR.mk a.S 0)), (1000044, .str (a.S)), (1000043, .ptr 0 ([] ++ [Step.fld 4 4])), (1000041, .bool (decide (a.Kind = 1))), (1000042, .bool (decide (a.Kind = 1))), (1000040, .int .i64 (a.Kind)), (1000039, .ptr 0 ([] ++ [Step.fld 0 0])), (1000004, .int .i64 0), (1000035, zZ a), (1000034, .fls), (1000033, .bool (decide (9 < a.Kind))), (1000032, .bool (decide (9 < a.Kind))), (1000031, .int .i64 (a.Kind)), (1000030, .ptr 0 ([] ++ [Step.fld 0 0])), (1000029, .fls), (1000028, .bool (decide (a.Kind < 1))), (1000027, .int .i64 (a.Kind)), (1000026, .ptr 0 ([] ++ [Step.fld 0 0])), (1000003, .ptr (9) []), (1000002, .int .i64 0), (1000001, .ptr 0 [])]) (fun d => [(31, .var true (zW (TR.mk a.S d.snd.snd))), (9, .var true (zZ (TK.mk a.Kind a.From a.To f.fst f.snd))), (0, .var true (zZ a))]) 32 h (fun d h => ?_) (fun y l s h => ?_)
 refine zj h fun _ h => ?_
 iterate 2 refine ⟨?_, trivial⟩
 refine za h ?_ ?_ <;> intro _ h
 refine g ?_
 cases h; exact .r
 exact p ((16 : Int)) h zd
 refine zm (fun (b : Int × Int) => [(8, .int .i64 (b.fst)), (7, .int .i64 0), (6, .str ((ByteArray.mk #[]).data.toList)), (2, .int .i64 6), (1, .int .i64 8), (0, .ptr 31 []), (1000054, .str (a.S)), (1000053, .ptr 0 ([] ++ [Step.fld 4 4])), (1000051, .ptr 31 []), (1000050, .fls), (1000049, .bool (!decide (i.fst = 8))), (1000048, .int .i64 (i.fst)), (1000047, .ptr 31 []), (1000005, .ptr 31 []), (1000046, .ptr 31 []), (1000045, zW (TR.mk a.S 0)), (1000044, .str (a.S)), (1000043, .ptr 0 ([] ++ [Step.fld 4 4])), (1000041, .bool (decide (a.Kind = 1))), (1000042, .bool (decide (a.Kind = 1))), (1000040, .int .i64 (a.Kind)), (1000039, .ptr 0 ([] ++ [Step.fld 0 0])), (1000004, .int .i64 0), (1000035, zZ a), (1000034, .fls), (1000033, .bool (decide (9 < a.Kind))), (1000032, .bool (decide (9 < a.Kind))), (1000031, .int .i64 (a.Kind)), (1000030, .ptr 0 ([] ++ [Step.fld 0 0])), (1000029, .fls), (1000028, .bool (decide (a.Kind < 1))), (1000027, .int .i64 (a.Kind)), (1000026, .ptr 0 ([] ++ [Step.fld 0 0])), (1000003, .ptr (9) []), (1000002, .int .i64 0), (1000001, .ptr 0 [])]) (fun b => [(31, .var true (zW (TR.mk a.S b.snd))), (9, .var true (zZ (TK.mk a.Kind a.From a.To f.fst f.snd))), (0, .var true (zZ a))]) 97 h zd (fun b t z c h => ?_)
 refine zA h (fun m h => ?_) (fun m h => ?_)
 refine ze h fun j h => ?_
 refine zL (fn := Tryz.f218) (cuts := []) ok Tryz.func218 (by kernel_rfl) rfl ?_
 refine za h ?_ ?_ <;> intro _ h
 exact c (((10 : Int), j)) h zd
 refine zr h fun A h => ze h fun C h => zb h (fun _ => yY) fun n h => ?_
 exact c ((n.fst, j)) h zd
 refine za h ?_ ?_ <;> intro _ h
 refine ze h fun k h => ?_
 refine zL (fn := Tryz.f218) (cuts := []) ok Tryz.func218 (by kernel_rfl) rfl ?_
 refine za h ?_ ?_ <;> intro _ h
 exact c (((10 : Int), k)) h zd
 refine zr h fun D h => ze h fun F h => zb h (fun _ => yY) fun o h => ?_
 exact c ((o.fst, k)) h zd
 exact l ((decide (b.fst = (6 : Int)), b)) h zd
 refine ⟨?_, trivial⟩
 refine zA h (fun H h => ?_) (fun H h => ?_)
 iterate 2 refine ⟨?_, ?_⟩
 iterate 3 refine ⟨?_, trivial⟩
 refine g ?_
 cases h; exact .r
 iterate 4 refine ⟨?_, trivial⟩
 refine g ?_
 cases h; exact .r
 iterate 5 refine ⟨?_, trivial⟩
 refine g ?_
 cases h; exact .r
 iterate 2 refine ⟨?_, ?_⟩
 refine zL (fn := Tryz.f219) (cuts := [0]) ok Tryz.func219 (by kernel_rfl) rfl ?_
 refine zL (fn := Tryz.f218) (cuts := []) ok Tryz.func218 (by kernel_rfl) rfl ?_
 refine ⟨fun e => absurd (e.symm.trans q) (by decide), fun _ => ?_⟩
 refine zr h fun v h => ze h fun w h => zb h (fun _ => yY) fun x h => ?_
 refine zq (fun (d : Bool × Int × Int) => [(26, .bool (d.fst)), (8, .int .i64 (d.snd.fst)), (7, .int .i64 0), (6, .str ((ByteArray.mk #[]).data.toList)), (2, .int .i64 6), (1, .int .i64 8), (0, .ptr 31 []), (1000051, .ptr 31 []), (1000053, .ptr 0 ([] ++ [Step.fld 4 4])), (1000050, .fls), (1000049, .bool (!decide (i.fst = 8))), (1000048, .int .i64 (i.fst)), (1000047, .ptr 31 []), (1000005, .ptr 31 []), (1000046, .ptr 31 []), (1000045, zW (TR.mk a.S 0)), (1000044, .str (a.S)), (1000043, .ptr 0 ([] ++ [Step.fld 4 4])), (1000041, .bool (decide (a.Kind = 1))), (1000042, .bool (decide (a.Kind = 1))), (1000040, .int .i64 (a.Kind)), (1000039, .ptr 0 ([] ++ [Step.fld 0 0])), (1000004, .int .i64 0), (1000035, zZ a), (1000034, .fls), (1000033, .bool (decide (9 < a.Kind))), (1000032, .bool (decide (9 < a.Kind))), (1000031, .int .i64 (a.Kind)), (1000030, .ptr 0 ([] ++ [Step.fld 0 0])), (1000029, .fls), (1000028, .bool (decide (a.Kind < 1))), (1000027, .int .i64 (a.Kind)), (1000026, .ptr 0 ([] ++ [Step.fld 0 0])), (1000003, .ptr (9) []), (1000002, .int .i64 0), (1000001, .ptr 0 [])]) (fun d => [(31, .var true (zW (TR.mk a.S d.snd.snd))), (9, .var true (zZ (TK.mk a.Kind a.From a.To f.fst f.snd))), (0, .var true (zZ a))]) 32 h (fun d h => ?_) (fun y l s h => ?_)
 refine zj h fun _ h => ?_
 iterate 3 refine ⟨?_, trivial⟩
 refine za h ?_ ?_ <;> intro _ h
 refine g ?_
 cases h; exact .r
 exact p ((16 : Int)) h zd
 refine zm (fun (b : Int × Int) => [(8, .int .i64 (b.fst)), (7, .int .i64 0), (6, .str ((ByteArray.mk #[]).data.toList)), (2, .int .i64 6), (1, .int .i64 8), (0, .ptr 31 []), (1000051, .ptr 31 []), (1000053, .ptr 0 ([] ++ [Step.fld 4 4])), (1000050, .fls), (1000049, .bool (!decide (i.fst = 8))), (1000048, .int .i64 (i.fst)), (1000047, .ptr 31 []), (1000005, .ptr 31 []), (1000046, .ptr 31 []), (1000045, zW (TR.mk a.S 0)), (1000044, .str (a.S)), (1000043, .ptr 0 ([] ++ [Step.fld 4 4])), (1000041, .bool (decide (a.Kind = 1))), (1000042, .bool (decide (a.Kind = 1))), (1000040, .int .i64 (a.Kind)), (1000039, .ptr 0 ([] ++ [Step.fld 0 0])), (1000004, .int .i64 0), (1000035, zZ a), (1000034, .fls), (1000033, .bool (decide (9 < a.Kind))), (1000032, .bool (decide (9 < a.Kind))), (1000031, .int .i64 (a.Kind)), (1000030, .ptr 0 ([] ++ [Step.fld 0 0])), (1000029, .fls), (1000028, .bool (decide (a.Kind < 1))), (1000027, .int .i64 (a.Kind)), (1000026, .ptr 0 ([] ++ [Step.fld 0 0])), (1000003, .ptr (9) []), (1000002, .int .i64 0), (1000001, .ptr 0 [])]) (fun b => [(31, .var true (zW (TR.mk a.S b.snd))), (9, .var true (zZ (TK.mk a.Kind a.From a.To f.fst f.snd))), (0, .var true (zZ a))]) 96 h zd (fun b t z c h => ?_)
 refine zA h (fun m h => ?_) (fun m h => ?_)
 refine ze h fun j h => ?_
 refine zL (fn := Tryz.f218) (cuts := []) ok Tryz.func218 (by kernel_rfl) rfl ?_
 refine za h ?_ ?_ <;> intro _ h
 exact c (((10 : Int), j)) h zd
 refine zr h fun A h => ze h fun C h => zb h (fun _ => yY) fun n h => ?_
 exact c ((n.fst, j)) h zd
 refine za h ?_ ?_ <;> intro _ h
 refine ze h fun k h => ?_
 refine zL (fn := Tryz.f218) (cuts := []) ok Tryz.func218 (by kernel_rfl) rfl ?_
 refine za h ?_ ?_ <;> intro _ h
 exact c (((10 : Int), k)) h zd
 refine zr h fun D h => ze h fun F h => zb h (fun _ => yY) fun o h => ?_
 exact c ((o.fst, k)) h zd
 exact l ((decide (b.fst = (6 : Int)), b)) h zd
 iterate 2 refine ⟨?_, trivial⟩
 refine zL (fn := Tryz.f219) (cuts := [0]) ok Tryz.func219 (by kernel_rfl) rfl ?_
 refine zL (fn := Tryz.f218) (cuts := []) ok Tryz.func218 (by kernel_rfl) rfl ?_
 refine ⟨fun e => absurd (e.symm.trans q) (by decide), fun _ => ?_⟩
 refine zr h fun v h => ze h fun w h => zb h (fun _ => yY) fun x h => ?_
 refine zq (fun (d : Bool × Int × Int) => [(26, .bool (d.fst)), (8, .int .i64 (d.snd.fst)), (7, .int .i64 0), (6, .str ((ByteArray.mk #[]).data.toList)), (2, .int .i64 6), (1, .int .i64 8), (0, .ptr 31 []), (1000054, .str (a.S)), (1000051, .ptr 31 []), (1000053, .ptr 0 ([] ++ [Step.fld 4 4])), (1000050, .fls), (1000049, .bool (!decide (i.fst = 8))), (1000048, .int .i64 (i.fst)), (1000047, .ptr 31 []), (1000005, .ptr 31 []), (1000046, .ptr 31 []), (1000045, zW (TR.mk a.S 0)), (1000044, .str (a.S)), (1000043, .ptr 0 ([] ++ [Step.fld 4 4])), (1000041, .bool (decide (a.Kind = 1))), (1000042, .bool (decide (a.Kind = 1))), (1000040, .int .i64 (a.Kind)), (1000039, .ptr 0 ([] ++ [Step.fld 0 0])), (1000004, .int .i64 0), (1000035, zZ a), (1000034, .fls), (1000033, .bool (decide (9 < a.Kind))), (1000032, .bool (decide (9 < a.Kind))), (1000031, .int .i64 (a.Kind)), (1000030, .ptr 0 ([] ++ [Step.fld 0 0])), (1000029, .fls), (1000028, .bool (decide (a.Kind < 1))), (1000027, .int .i64 (a.Kind)), (1000026, .ptr 0 ([] ++ [Step.fld 0 0])), (1000003, .ptr (9) []), (1000002, .int .i64 0), (1000001, .ptr 0 [])]) (fun d => [(31, .var true (zW (TR.mk a.S d.snd.snd))), (9, .var true (zZ (TK.mk a.Kind a.From a.To f.fst f.snd))), (0, .var true (zZ a))]) 32 h (fun d h => ?_) (fun y l s h => ?_)
 refine zj h fun _ h => ?_
 iterate 2 refine ⟨?_, trivial⟩
 refine za h ?_ ?_ <;> intro _ h
 refine g ?_
 cases h; exact .r
 exact p ((16 : Int)) h zd
 refine zm (fun (b : Int × Int) => [(8, .int .i64 (b.fst)), (7, .int .i64 0), (6, .str ((ByteArray.mk #[]).data.toList)), (2, .int .i64 6), (1, .int .i64 8), (0, .ptr 31 []), (1000054, .str (a.S)), (1000051, .ptr 31 []), (1000053, .ptr 0 ([] ++ [Step.fld 4 4])), (1000050, .fls), (1000049, .bool (!decide (i.fst = 8))), (1000048, .int .i64 (i.fst)), (1000047, .ptr 31 []), (1000005, .ptr 31 []), (1000046, .ptr 31 []), (1000045, zW (TR.mk a.S 0)), (1000044, .str (a.S)), (1000043, .ptr 0 ([] ++ [Step.fld 4 4])), (1000041, .bool (decide (a.Kind = 1))), (1000042, .bool (decide (a.Kind = 1))), (1000040, .int .i64 (a.Kind)), (1000039, .ptr 0 ([] ++ [Step.fld 0 0])), (1000004, .int .i64 0), (1000035, zZ a), (1000034, .fls), (1000033, .bool (decide (9 < a.Kind))), (1000032, .bool (decide (9 < a.Kind))), (1000031, .int .i64 (a.Kind)), (1000030, .ptr 0 ([] ++ [Step.fld 0 0])), (1000029, .fls), (1000028, .bool (decide (a.Kind < 1))), (1000027, .int .i64 (a.Kind)), (1000026, .ptr 0 ([] ++ [Step.fld 0 0])), (1000003, .ptr (9) []), (1000002, .int .i64 0), (1000001, .ptr 0 [])]) (fun b => [(31, .var true (zW (TR.mk a.S b.snd))), (9, .var true (zZ (TK.mk a.Kind a.From a.To f.fst f.snd))), (0, .var true (zZ a))]) 97 h zd (fun b t z c h => ?_)
 refine zA h (fun m h => ?_) (fun m h => ?_)
 refine ze h fun j h => ?_
 refine zL (fn := Tryz.f218) (cuts := []) ok Tryz.func218 (by kernel_rfl) rfl ?_
 refine za h ?_ ?_ <;> intro _ h
 exact c (((10 : Int), j)) h zd
 refine zr h fun A h => ze h fun C h => zb h (fun _ => yY) fun n h => ?_
 exact c ((n.fst, j)) h zd
 refine za h ?_ ?_ <;> intro _ h
 refine ze h fun k h => ?_
 refine zL (fn := Tryz.f218) (cuts := []) ok Tryz.func218 (by kernel_rfl) rfl ?_
 refine za h ?_ ?_ <;> intro _ h
 exact c (((10 : Int), k)) h zd
 refine zr h fun D h => ze h fun F h => zb h (fun _ => yY) fun o h => ?_
 exact c ((o.fst, k)) h zd
 exact l ((decide (b.fst = (6 : Int)), b)) h zd
 iterate 3 refine ⟨?_, trivial⟩
 refine zL (fn := Tryz.f219) (cuts := [0]) ok Tryz.func219 (by kernel_rfl) rfl ?_
 refine zL (fn := Tryz.f218) (cuts := []) ok Tryz.func218 (by kernel_rfl) rfl ?_
 refine ⟨fun e => absurd (e.symm.trans q) (by decide), fun _ => ?_⟩
 refine zr h fun v h => ze h fun w h => zb h (fun _ => yY) fun x h => ?_
 refine zq (fun (d : Bool × Int × Int) => [(26, .bool (d.fst)), (8, .int .i64 (d.snd.fst)), (7, .int .i64 0), (6, .str ((ByteArray.mk #[]).data.toList)), (2, .int .i64 6), (1, .int .i64 8), (0, .ptr 31 []), (1000051, .ptr 31 []), (1000054, .str (a.S)), (1000053, .ptr 0 ([] ++ [Step.fld 4 4])), (1000050, .fls), (1000049, .bool (!decide (i.fst = 8))), (1000048, .int .i64 (i.fst)), (1000047, .ptr 31 []), (1000005, .ptr 31 []), (1000046, .ptr 31 []), (1000045, zW (TR.mk a.S 0)), (1000044, .str (a.S)), (1000043, .ptr 0 ([] ++ [Step.fld 4 4])), (1000041, .bool (decide (a.Kind = 1))), (1000042, .bool (decide (a.Kind = 1))), (1000040, .int .i64 (a.Kind)), (1000039, .ptr 0 ([] ++ [Step.fld 0 0])), (1000004, .int .i64 0), (1000035, zZ a), (1000034, .fls), (1000033, .bool (decide (9 < a.Kind))), (1000032, .bool (decide (9 < a.Kind))), (1000031, .int .i64 (a.Kind)), (1000030, .ptr 0 ([] ++ [Step.fld 0 0])), (1000029, .fls), (1000028, .bool (decide (a.Kind < 1))), (1000027, .int .i64 (a.Kind)), (1000026, .ptr 0 ([] ++ [Step.fld 0 0])), (1000003, .ptr (9) []), (1000002, .int .i64 0), (1000001, .ptr 0 [])]) (fun d => [(31, .var true (zW (TR.mk a.S d.snd.snd))), (9, .var true (zZ (TK.mk a.Kind a.From a.To f.fst f.snd))), (0, .var true (zZ a))]) 32 h (fun d h => ?_) (fun y l s h => ?_)
 refine zj h fun _ h => ?_
 iterate 2 refine ⟨?_, trivial⟩
 refine za h ?_ ?_ <;> intro _ h
 refine g ?_
 cases h; exact .r
 exact p ((16 : Int)) h zd
 refine zm (fun (b : Int × Int) => [(8, .int .i64 (b.fst)), (7, .int .i64 0), (6, .str ((ByteArray.mk #[]).data.toList)), (2, .int .i64 6), (1, .int .i64 8), (0, .ptr 31 []), (1000051, .ptr 31 []), (1000054, .str (a.S)), (1000053, .ptr 0 ([] ++ [Step.fld 4 4])), (1000050, .fls), (1000049, .bool (!decide (i.fst = 8))), (1000048, .int .i64 (i.fst)), (1000047, .ptr 31 []), (1000005, .ptr 31 []), (1000046, .ptr 31 []), (1000045, zW (TR.mk a.S 0)), (1000044, .str (a.S)), (1000043, .ptr 0 ([] ++ [Step.fld 4 4])), (1000041, .bool (decide (a.Kind = 1))), (1000042, .bool (decide (a.Kind = 1))), (1000040, .int .i64 (a.Kind)), (1000039, .ptr 0 ([] ++ [Step.fld 0 0])), (1000004, .int .i64 0), (1000035, zZ a), (1000034, .fls), (1000033, .bool (decide (9 < a.Kind))), (1000032, .bool (decide (9 < a.Kind))), (1000031, .int .i64 (a.Kind)), (1000030, .ptr 0 ([] ++ [Step.fld 0 0])), (1000029, .fls), (1000028, .bool (decide (a.Kind < 1))), (1000027, .int .i64 (a.Kind)), (1000026, .ptr 0 ([] ++ [Step.fld 0 0])), (1000003, .ptr (9) []), (1000002, .int .i64 0), (1000001, .ptr 0 [])]) (fun b => [(31, .var true (zW (TR.mk a.S b.snd))), (9, .var true (zZ (TK.mk a.Kind a.From a.To f.fst f.snd))), (0, .var true (zZ a))]) 97 h zd (fun b t z c h => ?_)
 refine zA h (fun m h => ?_) (fun m h => ?_)
 refine ze h fun j h => ?_
 refine zL (fn := Tryz.f218) (cuts := []) ok Tryz.func218 (by kernel_rfl) rfl ?_
 refine za h ?_ ?_ <;> intro _ h
 exact c (((10 : Int), j)) h zd
 refine zr h fun A h => ze h fun C h => zb h (fun _ => yY) fun n h => ?_
 exact c ((n.fst, j)) h zd
 refine za h ?_ ?_ <;> intro _ h
 refine ze h fun k h => ?_
 refine zL (fn := Tryz.f218) (cuts := []) ok Tryz.func218 (by kernel_rfl) rfl ?_
 refine za h ?_ ?_ <;> intro _ h
 exact c (((10 : Int), k)) h zd
 refine zr h fun D h => ze h fun F h => zb h (fun _ => yY) fun o h => ?_
 exact c ((o.fst, k)) h zd
 exact l ((decide (b.fst = (6 : Int)), b)) h zd
 refine za h ?_ ?_ <;> intro _ h
 refine zb h (fun _ => zFk) fun R h => za h (fun _ h => ?_) fun _ h => ?_
 refine g ?_
 cases h; exact .r
 exact p ((2000 : Int)) h zd
 exact p ((0 : Int)) h zd
 refine za h (fun I h => ?_) (fun I h => ?_)
 refine ⟨fun _ => ?_, fun e => absurd (e.symm.trans I) (by decide)⟩
 exact u (((0 : Int), a.S)) h zd
 refine za h ?_ ?_ <;> intro _ h
 exact u (((0 : Int), a.S)) h zd
 refine za h ?_ ?_ <;> intro _ h
 exact u ((a.N, [])) h zd
 exact u (((0 : Int), [])) h zd
theorem zDz {m : List UInt8} {r : Bool} (h : zjm m = some r) : Ret E 148 [SV.str m] (SV.bool r) := by
 refine rg [] Tryz.func148 h fun h => ?_
 refine za h (fun a h => ?_) (fun a h => ?_)
 refine ⟨fun _ => ?_, fun e => absurd (e.symm.trans a) (by decide)⟩
 cases h; exact .r
 refine za h (fun b h => ?_) (fun b h => ?_)
 refine ⟨fun _ => ?_, fun e => absurd (e.symm.trans b) (by decide)⟩
 cases h; exact .r
 refine za h (fun c h => ?_) (fun c h => ?_)
 refine ⟨fun _ => ?_, fun e => absurd (e.symm.trans c) (by decide)⟩
 cases h; exact .r
 refine za h (fun d h => ?_) (fun d h => ?_)
 refine ⟨fun _ => ?_, fun e => absurd (e.symm.trans d) (by decide)⟩
 cases h; exact .r
 refine za h (fun f h => ?_) (fun f h => ?_)
 refine ⟨fun _ => ?_, fun e => absurd (e.symm.trans f) (by decide)⟩
 cases h; exact .r
 refine za h (fun g h => ?_) (fun g h => ?_)
 refine ⟨fun _ => ?_, fun e => absurd (e.symm.trans g) (by decide)⟩
 cases h; exact .r
 refine za h (fun i h => ?_) (fun i h => ?_)
 refine ⟨fun _ => ?_, fun e => absurd (e.symm.trans i) (by decide)⟩
 cases h; exact .r
 refine za h (fun j h => ?_) (fun j h => ?_)
 refine ⟨fun _ => ?_, fun e => absurd (e.symm.trans j) (by decide)⟩
 cases h; exact .r
 refine za h (fun k h => ?_) (fun k h => ?_)
 refine ⟨fun _ => ?_, fun e => absurd (e.symm.trans k) (by decide)⟩
 cases h; exact .r
 refine za h ?_ ?_ <;> intro _ h
 cases h; exact .r
 refine zb h (fun _ => zFq) fun n h => za h (fun l h => ?_) (fun l h => ?_)
 cases h; exact .r
 refine zb h (fun _ => zGk) fun _ h => ?_
 cases h; exact .r
theorem uT {a : TL} {b : Int} {r : Bool} (h : xc a b = some r) : Ret E 105 [wz zJ a, SV.int .i64 b] (SV.bool r) := by
 refine rg [] Tryz.func105 h fun h => ?_
 refine za h ?_ ?_ <;> intro _ h
 cases h; exact .r
 cases h; exact .r
theorem zE2 {f : TP} {r : Int × Int} (h : zs5 f = some r) : Ret E 76 [wz zI f] (SV.tup [SV.int .i64 r.fst, SV.int .i64 r.snd]) := by
 refine rg [0] Tryz.func76 h fun h => ?_
 refine za h (fun i h => ?_) (fun i h => ?_)
 cases h; exact .r
 refine zq (fun (j : Unit) => [(3, .int .i64 0), (2, .int .i64 0)]) (fun _ => []) 1 h (fun j h => ?_) (fun u g b h => ?_)
 cases h; exact .r
 refine zm (fun (a : Int × List (List UInt8)) => [(20, .int .i64 (a.fst)), (19, .int .i64 ((↑(List.length (List.map zW f.Channels)) : Int))), (18, (zo 2 zW) (f.Channels)), (4, .mpr (8)), (3, .int .i64 0), (2, .int .i64 0), (0, (wz zI) f)]) (fun a => [(8, .mp (List.map (zde SV.str) a.snd))]) 16 h zd (fun a t v d h => ?_)
 refine za h (fun m h => ?_) (fun m h => ?_)
 refine zn zW h rfl fun c h => ?_
 refine zL (fn := Tryz.f119) (cuts := []) ok Tryz.func119 (by kernel_rfl) rfl ?_
 refine zb h (fun _ => zDz) fun _ h => za h (fun _ h => ?_) fun _ h => ?_
 refine pT ?_
 refine b ?_
 cases h; exact .r
 refine zjn (enc := SV.str) (k := c.s_) (l := a.snd) h rfl (fun _ => zcy (by kernel_rfl) _ _) (fun n h w => ?_) (fun n h => ?_)
 refine pT ?_
 refine b ?_
 cases h; exact .r
 refine zjn (enc := SV.str) (k := c.s_) (l := a.snd) h rfl (fun _ => zcy (by kernel_rfl) _ _) (fun o h y => ?_) (fun o h => ?_)
 refine pF ?_
 refine zb h (fun _ => uT) fun z h => za h (fun _ h => ?_) fun _ h => ?_
 refine b ?_
 cases h; exact .r
 refine ze h fun p h => ?_
 exact d ((p, a.snd)) h zd
 refine pF ?_
 refine zb h (fun _ => uT) fun _ h => za h (fun q h => ?_) (fun q h => ?_)
 refine b ?_
 cases h; exact .r
 refine ze h fun s h => ?_
 exact d ((s, a.snd ++ [c.s_])) h (qT ⟨.refl _, .refl _, .refl _, .refl _, .refl _, .refl _, .refl _, trivial⟩ ⟨(.eq (congrArg Blk.mp (zg8 (e := SV.str) (x := c.s_) (l := a.snd)))), trivial⟩ rfl rfl rfl)
 exact g (()) h zd
theorem zDx {f : TL} {c : List Int} {r : Int} (h : zo5 f c = some r) : Ret E 83 [wz zJ f, zo 1 (SV.int .i64) c] (SV.int .i64 r) := by
 refine rg [0] Tryz.func83 h fun h => ?_
 refine zb h (fun _ => zza) fun m h => za h (fun _ h => ?_) fun _ h => ?_
 cases h; exact .r
 refine zq (fun (g : Unit) => [(4, .int .i64 0)]) (fun _ => []) 1 h (fun g h => ?_) (fun n d a h => ?_)
 cases h; exact .r
 refine zm (fun (b : Int) => [(21, .int .i64 b), (20, .int .i64 ((↑(List.length (List.map (SV.int .i64) c)) : Int))), (19, (zo 1 (SV.int .i64)) c), (4, .int .i64 0), (0, (wz zJ) f)]) (fun _ => []) 15 h zd (fun b l o e h => ?_)
 refine za h ?_ ?_ <;> intro _ h
 refine zn (SV.int .i64) h rfl fun _ h => ?_
 refine zA h (fun i h => ?_) (fun i h => ?_)
 refine a ?_
 cases h; exact .r
 refine za h (fun j h => ?_) (fun j h => ?_)
 refine a ?_
 cases h; exact .r
 refine ze h fun k h => ?_
 exact e k h zd
 exact d (()) h zd
theorem zGg {a : Int} {r : Int} (h : zo1 a = some r) : Ret E 221 [SV.int .u8 a] (SV.int .i64 r) := by
 refine rg [] Tryz.func221 h fun h => ?_
 refine zr h fun _ h => ze h fun b h => ?_
 cases h; exact .r
theorem zFx {e : List Int} {f : Int} {r : Int} (h : zuc e f = some r) : Ret E 180 [ql 8 1 (SV.int .u8) e, SV.int .i64 f] (SV.int .i64 r) := by
 refine rg [0] Tryz.func180 h fun h => ?_
 refine zq (fun (c : Int) => [(5, .int .i64 c), (4, .int .i64 0)]) (fun _ => []) 1 h (fun c h => ?_) (fun l b j h => ?_)
 cases h; exact .r
 refine zm (fun (a : Int) => [(5, .int .i64 a), (4, .int .i64 0), (2, .ptr 0 []), (1, .int .i64 f)]) (fun a => [(0, .var true ((ql 8 1 (SV.int .u8)) e))]) 3 h zd (fun a k m d h => ?_)
 refine ze h fun n h => za h (fun _ h => ?_) fun _ h => ?_
 refine zj h fun _ h => zn (SV.int .u8) h rfl fun o h => zb h (fun _ => zGg) fun _ h => za h (fun g h => ?_) (fun g h => ?_)
 refine ze h fun i h => ?_
 exact d i h zd
 exact b a h zd
 exact b a h zd
theorem zEy {a : TL} {r : Int × Int} (h : zsb a = some r) : Ret E 149 [zJ a] (SV.tup [SV.int .i64 r.fst, SV.int .i64 r.snd]) := by
 refine rg [] Tryz.func149 h fun h => ?_
 refine zb h (fun _ hx => zay (zDx hx) (WkT.same (WkT.wk .nils rfl rfl rfl WkT.nil))) fun b h => za h (fun _ h => ?_) fun _ h => ?_
 cases h; exact .r
 refine zb h (fun _ => zDm) fun c h => zb h (fun _ => zFx) fun d h => ?_
 cases h; exact .r
theorem zFh {f : TL} {c : List Int} {r : Int × Int} (h : zul f c = some r) : Ret E 181 [zJ f, zo 1 (SV.int .i64) c] (SV.tup [SV.int .i64 r.fst, SV.int .i64 r.snd]) := by
 refine rg [0] Tryz.func181 h fun h => ?_
 refine zb h (fun _ => zza) fun m h => za h (fun _ h => ?_) fun _ h => ?_
 cases h; exact .r
 refine za h ?_ ?_ <;> intro _ h
 cases h; exact .r
 refine zq (fun (g : Unit) => [(5, .int .i64 0), (4, .int .i64 0)]) (fun _ => []) 1 h (fun g h => ?_) (fun n d b h => ?_)
 cases h; exact .r
 refine zm (fun (a : Int) => [(23, .int .i64 a), (22, .int .i64 ((↑(List.length (List.map (SV.int .i64) c)) : Int))), (21, (zo 1 (SV.int .i64)) c), (5, .int .i64 0), (4, .int .i64 0), (2, .ptr 0 [])]) (fun a => [(0, .var true (zJ f))]) 18 h zd (fun a l o e h => ?_)
 refine za h (fun i h => ?_) (fun i h => ?_)
 refine zn (SV.int .i64) h rfl fun p h => ?_
 refine zA h (fun j h => ?_) (fun j h => ?_)
 refine b ?_
 cases h; exact .r
 refine za h ?_ ?_ <;> intro _ h
 refine b ?_
 cases h; exact .r
 refine ze h fun k h => ?_
 exact e k h zd
 exact d (()) h zd
theorem zFl {a : TL} {b : Int} {c : Int} {r : Bool} (h : zp2 a b c = some r) : Ret E 184 [wz zJ a, SV.int .i64 b, SV.int .i64 c] (SV.bool r) := by
 refine rg [] Tryz.func184 h fun h => ?_
 refine zn (SV.int .u8) h rfl fun _ h => zj h fun _ h => ?_
 cases h; exact .r
theorem zFc {a : Int} {b : TL} {c : Int} {r : Bool} (h : zw2 a b c = some r) : Ret E 183 [SV.int .i64 a, wz zJ b, wz (SV.int .i64) c] (SV.bool r) := by
 refine rg [] Tryz.func183 h fun h => ?_
 refine zb h (fun _ => zFl) fun d h => ?_
 cases h; exact .r
theorem zF2 {c : List Int} {a : TL × Int} {r : Int} (h : zug c a = some r) : Ret E 182 [zo 1 (SV.int .i64) c, SV.fn 183 [wz zJ a.fst, wz (SV.int .i64) a.snd]] (SV.int .i64 r) := by
 refine rg [0] Tryz.func182 h fun h => ?_
 refine zq (fun (g : Unit) => [(4, .int .i64 0)]) (fun _ => []) 1 h (fun g h => ?_) (fun l d e h => ?_)
 cases h; exact .r
 refine zm (fun (b : Int) => [(8, .int .i64 b), (7, .int .i64 ((↑(List.length (List.map (SV.int .i64) c)) : Int))), (4, .int .i64 0), (1, .fn 183 [wz zJ a.fst, wz (SV.int .i64) a.snd]), (0, (zo 1 (SV.int .i64)) c)]) (fun _ => []) 4 h zd (fun b k m f h => ?_)
 refine za h ?_ ?_ <;> intro _ h
 refine zn (SV.int .i64) h rfl fun n h => zb h (fun _ => zFc) fun o h => za h (fun i h => ?_) (fun i h => ?_)
 refine e ?_
 cases h; exact .r
 refine ze h fun j h => ?_
 exact f j h zd
 exact d (()) h zd
theorem zCk {b : TL} {c : List Int} {d : Int} {r : Int × Int} (h : zkp b c d = some r) : Ret E 150 [zJ b, zo 1 (SV.int .i64) c, SV.int .i64 d] (SV.tup [SV.int .i64 r.fst, SV.int .i64 r.snd]) := by
 refine rg [] Tryz.func150 h fun h => ?_
 refine zb h (fun _ => zFh) fun _ h => za h (fun _ h => ?_) fun _ h => ?_
 cases h; exact .r
 refine zA h (fun a h => ?_) (fun a h => ?_)
 cases h; exact .r
 refine za h ?_ ?_ <;> intro _ h
 cases h; exact .r
 refine zb h (fun _ => zF2) fun e h => za h (fun _ h => ?_) fun _ h => ?_
 cases h; exact .r
 cases h; exact .r
theorem zDp {d : TL} {a : TY} {r : Int} (h : zkg d a = some r) : Ret E 120 [zJ d, yz a] (SV.int .i64 r) := by
 refine rg [1] Tryz.func120 h fun h => ?_
 refine zb h (fun _ => zEy) fun f h => za h (fun _ h => ?_) fun _ h => ?_
 cases h; exact .r
 refine za h ?_ ?_ <;> intro _ h
 refine za h (fun g h => ?_) (fun g h => ?_)
 refine ⟨fun _ => ?_, fun e => absurd (e.symm.trans g) (by decide)⟩
 cases h; exact .r
 refine za h (fun i h => ?_) (fun i h => ?_)
 refine ⟨fun _ => ?_, fun e => absurd (e.symm.trans i) (by decide)⟩
 cases h; exact .r
 refine za h ?_ ?_ <;> intro _ h
 cases h; exact .r
 refine qb (by decide) ?_
 refine zl (by decide) rfl ?_
 refine zb h (fun _ => uT) fun G h => za h (fun j h => ?_) (fun j h => ?_)
 refine ⟨fun _ => ?_, fun e => absurd (e.symm.trans j) (by decide)⟩
 cases h; exact .r
 refine qb (by decide) ?_
 refine zl (by decide) rfl ?_
 refine zb h (fun _ => uT) fun H h => za h (fun k h => ?_) (fun k h => ?_)
 refine ⟨fun _ => ?_, fun e => absurd (e.symm.trans k) (by decide)⟩
 cases h; exact .r
 refine zb h (fun _ => uT) fun I h => za h (fun x h => ?_) (fun x h => ?_)
 cases h; exact .r
 refine zj h fun _ h => ?_
 refine zq (fun (l : Unit) => [(4, .int .i64 0), (3, .ptr (1) []), (2, .ptr 0 [])]) (fun l => [(1, .var false (yz a)), (0, .var true (zJ d))]) 2 h (fun l h => ?_) (fun J q s h => ?_)
 refine zj h fun _ h => zb h (fun _ hx => zay (zCk hx) (WkT.same (WkT.wk (.sl (.of (by first | (simp only [zo, ql, List.map_append, List.map_take, List.map_drop, List.map_set, List.map_replicate]; done) | (simp [zo, ql, List.map_append, List.map_take, List.map_drop, List.map_set, List.map_replicate]; done) | rfl))) rfl rfl rfl (WkT.same WkT.nil)))) fun K h => ?_
 refine za h ?_ ?_ <;> intro _ h
 cases h; exact .r
 cases h; exact .r
 refine zm (fun (b : Int) => [(55, .int .i64 b), (54, .int .i64 ((↑(List.length (List.drop (Int.toNat a.Rank) (List.take (Int.toNat (↑(2 : Nat) : Int)) [SV.int .i64 a.Axes.fst, SV.int .i64 a.Axes.snd]))) : Int))), (53, .sl 1 (List.drop (Int.toNat a.Rank) (List.take (Int.toNat (↑(2 : Nat) : Int)) [SV.int .i64 a.Axes.fst, SV.int .i64 a.Axes.snd]))), (5, .int .i64 (f.fst)), (4, .int .i64 0), (3, .ptr (1) []), (2, .ptr 0 [])]) (fun b => [(1, .var false (yz a)), (0, .var true (zJ d))]) 53 h zd (fun b D L t h => ?_)
 refine za h ?_ ?_ <;> intro _ h
 refine zn (SV.int .i64) h (by first | (simp only [zo, ql, List.map_append, List.map_take, List.map_drop, List.map_set, List.map_replicate]; done) | (simp [zo, ql, List.map_append, List.map_take, List.map_drop, List.map_set, List.map_replicate]; done) | rfl) fun _ h => za h (fun _ h => ?_) fun _ h => ?_
 refine s ?_
 cases h; exact .r
 refine ze h fun y h => ?_
 exact t y h zd
 exact q (()) h zd
 refine za h (fun m h => ?_) (fun m h => ?_)
 refine ⟨fun _ => ?_, fun e => absurd (e.symm.trans m) (by decide)⟩
 cases h; exact .r
 refine za h (fun z h => ?_) (fun z h => ?_)
 cases h; exact .r
 refine qb (by decide) ?_
 refine zl (by decide) rfl ?_
 refine zb h (fun _ => uT) fun M h => za h (fun n h => ?_) (fun n h => ?_)
 refine ⟨fun _ => ?_, fun e => absurd (e.symm.trans n) (by decide)⟩
 cases h; exact .r
 refine qb (by decide) ?_
 refine zl (by decide) rfl ?_
 refine zb h (fun _ => uT) fun N h => za h (fun o h => ?_) (fun o h => ?_)
 refine ⟨fun _ => ?_, fun e => absurd (e.symm.trans o) (by decide)⟩
 cases h; exact .r
 refine zb h (fun _ => uT) fun O h => za h (fun A h => ?_) (fun A h => ?_)
 cases h; exact .r
 refine zj h fun _ h => ?_
 refine zq (fun (p : Unit) => [(4, .int .i64 0), (3, .ptr (1) []), (2, .ptr 0 [])]) (fun p => [(1, .var false (yz a)), (0, .var true (zJ d))]) 2 h (fun p h => ?_) (fun P u v h => ?_)
 refine zj h fun _ h => zb h (fun _ hx => zay (zCk hx) (WkT.same (WkT.wk (.sl (.of (by first | (simp only [zo, ql, List.map_append, List.map_take, List.map_drop, List.map_set, List.map_replicate]; done) | (simp [zo, ql, List.map_append, List.map_take, List.map_drop, List.map_set, List.map_replicate]; done) | rfl))) rfl rfl rfl (WkT.same WkT.nil)))) fun _ h => ?_
 refine za h ?_ ?_ <;> intro _ h
 cases h; exact .r
 cases h; exact .r
 refine zm (fun (c : Int) => [(55, .int .i64 c), (54, .int .i64 ((↑(List.length (List.drop (Int.toNat a.Rank) (List.take (Int.toNat (↑(2 : Nat) : Int)) [SV.int .i64 a.Axes.fst, SV.int .i64 a.Axes.snd]))) : Int))), (53, .sl 1 (List.drop (Int.toNat a.Rank) (List.take (Int.toNat (↑(2 : Nat) : Int)) [SV.int .i64 a.Axes.fst, SV.int .i64 a.Axes.snd]))), (5, .int .i64 (f.fst)), (4, .int .i64 0), (3, .ptr (1) []), (2, .ptr 0 [])]) (fun c => [(1, .var false (yz a)), (0, .var true (zJ d))]) 50 h zd (fun c F Q w h => ?_)
 refine za h ?_ ?_ <;> intro _ h
 refine zn (SV.int .i64) h (by first | (simp only [zo, ql, List.map_append, List.map_take, List.map_drop, List.map_set, List.map_replicate]; done) | (simp [zo, ql, List.map_append, List.map_take, List.map_drop, List.map_set, List.map_replicate]; done) | rfl) fun _ h => za h (fun _ h => ?_) fun _ h => ?_
 refine v ?_
 cases h; exact .r
 refine ze h fun C h => ?_
 exact w C h zd
 exact u (()) h zd
theorem zE0 {f : TP} {r : Int × Int} (h : ztm f = some r) : Ret E 77 [wz zI f] (SV.tup [SV.int .i64 r.fst, SV.int .i64 r.snd]) := by
 refine rg [0] Tryz.func77 h fun h => ?_
 refine za h ?_ ?_ <;> intro _ h
 cases h; exact .r
 refine zq (fun (i : Unit) => [(3, .int .i64 0), (2, .int .i64 0)]) (fun _ => []) 1 h (fun i h => ?_) (fun q g b h => ?_)
 cases h; exact .r
 refine zm (fun (a : Int × List (List UInt8)) => [(21, .int .i64 (a.fst)), (20, .int .i64 ((↑(List.length (List.map wL f.Vars)) : Int))), (19, (zo 6 wL) (f.Vars)), (4, .mpr (8)), (3, .int .i64 0), (2, .int .i64 0), (0, (wz zI) f)]) (fun a => [(8, .mp (List.map (zde SV.str) a.snd))]) 16 h zd (fun a p s d h => ?_)
 refine za h ?_ ?_ <;> intro _ h
 refine zn wL h rfl fun c h => ?_
 refine zL (fn := Tryz.f119) (cuts := []) ok Tryz.func119 (by kernel_rfl) rfl ?_
 refine zb h (fun _ => zDz) fun _ h => za h (fun _ h => ?_) fun _ h => ?_
 refine pT ?_
 refine b ?_
 cases h; exact .r
 refine zjn (enc := SV.str) (k := c.Name) (l := a.snd) h rfl (fun _ => zcy (by kernel_rfl) _ _) (fun j h t => ?_) (fun j h => ?_)
 refine pT ?_
 refine b ?_
 cases h; exact .r
 refine zjn (enc := SV.str) (k := c.Name) (l := a.snd) h rfl (fun _ => zcy (by kernel_rfl) _ _) (fun m h u => ?_) (fun m h => ?_)
 refine pF ?_
 refine zb h (fun _ => zDp) fun v h => za h (fun _ h => ?_) fun _ h => ?_
 refine b ?_
 cases h; exact .r
 refine ze h fun n h => ?_
 exact d ((n, a.snd)) h zd
 refine pF ?_
 refine zb h (fun _ => zDp) fun w h => za h (fun _ h => ?_) fun _ h => ?_
 refine b ?_
 cases h; exact .r
 refine ze h fun o h => ?_
 exact d ((o, a.snd ++ [c.Name])) h (qT ⟨.refl _, .refl _, .refl _, .refl _, .refl _, .refl _, .refl _, trivial⟩ ⟨(.eq (congrArg Blk.mp (zg8 (e := SV.str) (x := c.Name) (l := a.snd)))), trivial⟩ rfl rfl rfl)
 exact g (()) h zd
theorem zFm {f : TP} {r : Int × Int} (h : ztc f = some r) : Ret E 78 [wz zI f] (SV.tup [SV.int .i64 r.fst, SV.int .i64 r.snd]) := by
 refine rg [0] Tryz.func78 h fun h => ?_
 refine za h (fun m h => ?_) (fun m h => ?_)
 cases h; exact .r
 refine zq (fun (n : Unit) => [(3, .int .i64 0), (2, .int .i64 0)]) (fun _ => []) 1 h (fun n h => ?_) (fun w j a h => ?_)
 cases h; exact .r
 refine zm (fun (b : Int × List (Int × Int)) => [(20, .int .i64 (b.fst)), (19, .int .i64 ((↑(List.length (List.map qE f.Rules)) : Int))), (18, (zo 3 qE) (f.Rules)), (4, .mpr (8)), (3, .int .i64 0), (2, .int .i64 0), (0, (wz zI) f)]) (fun b => [(8, .mp (List.map (zde (jQ 1 (SV.int .i64))) b.snd))]) 16 h zd (fun b v y d h => ?_)
 refine za h ?_ ?_ <;> intro _ h
 refine zn qE h rfl fun c h => zb h (fun _ => uT) fun z h => za h (fun g h => ?_) (fun g h => ?_)
 refine ⟨fun _ => ?_, fun e => absurd (e.symm.trans g) (by decide)⟩
 refine a ?_
 cases h; exact .r
 refine zb h (fun _ => uT) fun A h => za h (fun _ h => ?_) fun _ h => ?_
 refine a ?_
 cases h; exact .r
 refine za h (fun i h => ?_) (fun i h => ?_)
 refine ⟨fun _ => ?_, fun e => absurd (e.symm.trans i) (by decide)⟩
 refine a ?_
 cases h; exact .r
 refine zn (SV.int .u8) h rfl fun C h => zj h fun _ h => za h (fun _ h => ?_) fun _ h => ?_
 refine a ?_
 cases h; exact .r
 refine zjn (enc := (jQ 1 (SV.int .i64))) (k := (c.From, c.Goal)) (l := b.snd) h rfl (fun _ => zrg (e := 3) (q := .i64) (by kernel_rfl) (by kernel_rfl) (by kernel_rfl) (by kernel_rfl) _ _) (fun o h D => ?_) (fun o h => ?_)
 refine a ?_
 cases h; exact .r
 refine zA h (fun p h => ?_) (fun p h => ?_)
 refine a ?_
 cases h; exact .r
 refine za h ?_ ?_ <;> intro _ h
 refine a ?_
 cases h; exact .r
 refine zjn (enc := (jQ 1 (SV.int .i64))) (k := (c.From, c.Goal)) (l := b.snd) h rfl (fun _ => zrg (e := 3) (q := .i64) (by kernel_rfl) (by kernel_rfl) (by kernel_rfl) (by kernel_rfl) _ _) (fun s h F => ?_) (fun s h => ?_)
 refine ze h fun t h => ?_
 exact d ((t, b.snd)) h zd
 refine ze h fun u h => ?_
 exact d ((u, b.snd ++ [(c.From, c.Goal)])) h (qT ⟨.refl _, .refl _, .refl _, .refl _, .refl _, .refl _, .refl _, trivial⟩ ⟨(.eq (congrArg Blk.mp (zg8 (e := (jQ 1 (SV.int .i64))) (x := (c.From, c.Goal)) (l := b.snd)))), trivial⟩ rfl rfl rfl)
 exact j (()) h zd
theorem zsh {i : TP} {r : Int × Int × Int} (h : zh1 i = some r) : Ret E 25 [zI i] (SV.tup [SV.int .i64 r.fst, SV.int .i64 r.snd.fst, SV.int .i64 r.snd.snd]) := by
 refine rg [0] Tryz.func25 h fun h => ?_
 refine call L_policy_parts ?_
 refine zq (fun (c : Int × Int × Int) => [(2, .int .i64 (c.fst)), (4, .int .i64 (c.snd.fst)), (3, .int .i64 (c.snd.snd))]) (fun _ => []) 1 h (fun c h => ?_) (fun l a k h => ?_)
 cases h; exact .r
 refine zex fun m b => ?_
 refine pT ?_
 refine zl (by decide) rfl ?_
 refine zb h (fun _ => zG2) fun e h => za h (fun _ h => ?_) fun _ h => ?_
 refine zu (r := (1 : Int)) (by decide) ?_
 exact a (((1 : Int), e.snd, e.fst)) h zd
 refine zu (r := (1 : Int)) (by decide) ?_
 refine b _ _ _ ?_
 refine pT ?_
 refine zl (by decide) rfl ?_
 refine zb h (fun _ => zE2) fun f h => za h (fun _ h => ?_) fun _ h => ?_
 refine zu (r := (2 : Int)) (by decide) ?_
 exact a (((2 : Int), f.snd, f.fst)) h zd
 refine zu (r := (2 : Int)) (by decide) ?_
 refine b _ _ _ ?_
 refine pT ?_
 refine zl (by decide) rfl ?_
 refine zb h (fun _ => zE0) fun g h => za h (fun j h => ?_) (fun j h => ?_)
 refine zu (r := (3 : Int)) (by decide) ?_
 exact a (((3 : Int), g.snd, g.fst)) h zd
 refine zu (r := (3 : Int)) (by decide) ?_
 refine b _ _ _ ?_
 refine pT ?_
 refine zl (by decide) rfl ?_
 refine zb h (fun _ => zFm) fun d h => za h (fun _ h => ?_) fun _ h => ?_
 refine zu (r := (4 : Int)) (by decide) ?_
 exact a (((4 : Int), d.snd, d.fst)) h zd
 refine zu (r := (4 : Int)) (by decide) ?_
 refine b _ _ _ ?_
 refine pF ?_
 exact a (((0 : Int), d.snd, d.fst)) h zd
theorem zCp {a : Int} {r : List UInt8 × Int} (h : zob a = some r) : Ret E 44 [SV.int .i64 a] (SV.tup [SV.str r.fst, SV.int .i64 r.snd]) := by
 refine rg [] Tryz.func44 h fun h => ?_
 refine zA h (fun b h => ?_) (fun b h => ?_)
 cases h; exact .r
 refine za h ?_ ?_ <;> intro _ h
 cases h; exact .r
 refine call L_release_folds ?_
 refine zCs h (za6 (fun _ h => ?_) (za6 (fun _ h => ?_) (za6 (fun _ h => ?_) (za6 (fun _ h => ?_) (za6 (fun _ h => ?_) zA8)))))
 cases h; exact .r
 cases h; exact .r
 cases h; exact .r
 cases h; exact .r
 cases h; exact .r
theorem zFn {b : TP} {d : Int} {e : Int} {r : Int × Int} (h : ztn b d e = some r) : Ret E 67 [zI b, SV.int .i64 d, SV.int .i64 e] (SV.tup [SV.int .i64 r.fst, SV.int .i64 r.snd]) := by
 refine rg [0] Tryz.func67 h fun h => ?_
 refine zb h (fun _ => zsh) fun n h => za h (fun _ h => ?_) fun _ h => ?_
 cases h; exact .r
 refine zb h (fun _ => uT) fun _ h => ?_
 refine zA h (fun i h => ?_) (fun i h => ?_)
 cases h; exact .r
 refine zb h (fun _ => uT) fun o h => za h (fun _ h => ?_) fun _ h => ?_
 cases h; exact .r
 refine zq (fun (j : Unit) => [(7, .int .i64 0), (6, .int .i64 0)]) (fun _ => []) 1 h (fun j h => ?_) (fun p f g h => ?_)
 cases h; exact .r
 refine zm (fun (c : Int) => [(35, .int .i64 c), (34, .int .i64 ((↑(List.length (List.map qE b.Rules)) : Int))), (33, (zo 3 qE) (b.Rules)), (7, .int .i64 0), (6, .int .i64 0), (2, .int .i64 e), (1, .int .i64 d)]) (fun _ => []) 28 h zd (fun c m q a h => ?_)
 refine za h ?_ ?_ <;> intro _ h
 refine zn qE h rfl fun s h => za h (fun _ h => ?_) fun _ h => ?_
 refine za h ?_ ?_ <;> intro _ h
 refine g ?_
 cases h; exact .r
 refine ze h fun k h => ?_
 exact a k h zd
 refine ze h fun l h => ?_
 exact a l h zd
 exact f (()) h zd
theorem zE3 {b : TE} {c : Int} {r : Bool} (h : zss b c = some r) : Ret E 68 [wz zx b, SV.int .i64 c] (SV.bool r) := by
 refine rg [] Tryz.func68 h fun h => ?_
 refine za h ?_ ?_ <;> intro _ h
 cases h; exact .r
 refine qb (by decide) ?_
 refine zl (by decide) rfl ?_
 refine za h ?_ ?_ <;> intro _ h
 cases h; exact .r
 refine zA h (fun a h => ?_) (fun a h => ?_)
 cases h; exact .r
 refine qb (by decide) ?_
 refine zl (by decide) rfl ?_
 refine za h ?_ ?_ <;> intro _ h
 refine qb (by decide) ?_
 refine zl (by decide) rfl ?_
 cases h; exact .r
 cases h; exact .r
theorem zFd {a : TP} {b : TE} {r : Int} (h : zt5 a b = some r) : Ret E 39 [zI a, zx b] (SV.int .i64 r) := by
 refine rg [] Tryz.func39 h fun h => ?_
 refine zb h (fun _ => zsh) fun _ h => za h (fun _ h => ?_) fun _ h => ?_
 cases h; exact .r
 refine zb h (fun _ => zCp) fun _ h => za h (fun _ h => ?_) fun _ h => ?_
 cases h; exact .r
 refine zb h (fun _ => zFn) fun _ h => ?_
 refine zA h (fun c h => ?_) (fun c h => ?_)
 cases h; exact .r
 refine zA h (fun d h => ?_) (fun d h => ?_)
 cases h; exact .r
 refine zA h (fun e h => ?_) (fun e h => ?_)
 cases h; exact .r
 refine za h ?_ ?_ <;> intro _ h
 cases h; exact .r
 refine za h ?_ ?_ <;> intro _ h
 cases h; exact .r
 refine zb h (fun _ => zE3) fun f h => za h (fun _ h => ?_) fun _ h => ?_
 cases h; exact .r
 cases h; exact .r
theorem zDo {d : TP} {c : List TE} {r : Int × Int} (h : zpz d c = some r) : Ret E 18 [zI d, zo 7 zx c] (SV.tup [SV.int .i64 r.fst, SV.int .i64 r.snd]) := by
 refine rg [0] Tryz.func18 h fun h => ?_
 refine zb h (fun _ => zsh) fun _ h => za h (fun _ h => ?_) fun _ h => ?_
 cases h; exact .r
 refine za h ?_ ?_ <;> intro _ h
 cases h; exact .r
 refine zq (fun (g : Unit) => [(5, .int .i64 0), (4, .int .i64 0)]) (fun _ => []) 1 h (fun g h => ?_) (fun k e a h => ?_)
 cases h; exact .r
 refine zm (fun (b : Int) => [(26, .int .i64 b), (25, .int .i64 ((↑(List.length (List.map zx c)) : Int))), (24, (zo 7 zx) c), (5, .int .i64 0), (4, .int .i64 0), (2, .ptr 0 [])]) (fun b => [(0, .var true (zI d))]) 20 h zd (fun b j l f h => ?_)
 refine za h ?_ ?_ <;> intro _ h
 refine zn zx h rfl fun m h => zb h (fun _ => zFd) fun n h => za h (fun _ h => ?_) fun _ h => ?_
 refine a ?_
 cases h; exact .r
 refine za h ?_ ?_ <;> intro _ h
 refine a ?_
 cases h; exact .r
 refine ze h fun i h => ?_
 exact f i h zd
 exact e (()) h zd
theorem zxs {a : Int} {r : List UInt8} (h : zj8 a = some r) : Ret E 41 [SV.int .i64 a] (SV.str r) := by
 refine rg [] Tryz.func41 h fun h => ?_
 refine zb h (fun _ => zdr) fun b h => ?_
 cases h; exact .r
theorem zDd {d : TP} {b : TE} {r : List UInt8} (h : zkd d b = some r) : Ret E 20 [wz zI d, zx b] (SV.str r) := by
 replace h := zAn h
 unfold zkd at h
 refine zlx (fn := Tryz.f20) (fg := Tryz.f42) (cuts := [0]) (cutsg := []) (caps := [.ptr 6 [], .ptr 1 []]) ok Tryz.func20 Tryz.func42 (by kernel_rfl) rfl rfl ?_
 refine zb h (fun _ => zxs) fun m h => ?_
 refine ⟨rfl, ?_⟩
 refine zb h (fun _ => zCp) fun _ h => za h (fun _ h => ?_) fun _ h => ?_
 refine ⟨rfl, ?_⟩
 refine zb h (fun _ => zcg) fun _ h => zj h fun _ h => ?_
 cases h; exact .r
 refine zn SV.str h rfl fun n h => zn SV.str h rfl fun _ h => zb h (fun _ => zxs) fun _ h => zj h fun _ h => ?_
 refine zq (fun (c : List (List UInt8)) => [(1000000, .fn 42 [SV.kill (5) (SV.ptr 6 []), SV.kill (5) (SV.ptr 1 [])]), (4, .ptr (1) []), (3, .ptr 0 []), (1, zx b), (0, (wz zI) d)]) (fun c => [(6, .var true (SV.osl (5) 1)), (5, .row true 1 (List.map SV.str c)), (1, .var true (SV.str ([]))), (0, .var true (zx b))]) 7 h (fun c h => ?_) (fun o e k h => ?_)
 refine ⟨rfl, ?_⟩
 refine zb h (fun _ => zcg) fun _ h => zj h fun _ h => ?_
 cases h; exact .r
 refine zm (fun (a : Int × List (List UInt8)) => [(51, .int .i64 (a.fst)), (50, (jQ 1 (SV.int .i64)) (b.Value)), (1000000, .fn 42 [SV.kill (5) (SV.ptr 6 []), SV.kill (5) (SV.ptr 1 [])]), (5, .ptr (6) []), (4, .ptr (1) []), (3, .ptr 0 []), (1, zx b), (0, (wz zI) d)]) (fun a => [(6, .var true (SV.osl (5) 1)), (5, .row true 1 (List.map SV.str a.snd)), (1, .var true (SV.str ([]))), (0, .var true (zx b))]) 48 h zd (fun a l p f h => ?_)
 refine za h (fun g h => ?_) (fun g h => ?_)
 refine zn (SV.int .i64) h (by first | (simp only [zo, ql, List.map_append, List.map_take, List.map_drop, List.map_set, List.map_replicate]; done) | (simp [zo, ql, List.map_append, List.map_take, List.map_drop, List.map_set, List.map_replicate]; done) | rfl) fun _ h => zb h (fun _ => zxs) fun i h => ?_
 refine zj h fun _ h => ze h fun j h => ?_
 exact f ((j, a.snd ++ [i])) h (qT ⟨.refl _, .refl _, .refl _, .refl _, .refl _, .refl _, .refl _, .refl _, trivial⟩ ⟨.refl, (.row (.appm .refl (.cons .refl .refl))), .refl, .refl, trivial⟩ rfl rfl rfl)
 exact e (a.snd) h zd
theorem zkf {d : TP} {b : List TE} {r : List UInt8 × Int} (h : xY d b = some r) : Ret E 7 [zI d, zo 7 zx b] (SV.tup [SV.str r.fst, SV.int .i64 r.snd]) := by
 refine rg [] Tryz.func7 h fun h => ?_
 refine zb h (fun _ => zDo) fun m h => za h (fun _ h => ?_) fun _ h => ?_
 cases h; exact .r
 refine zzq fun n e => ?_
 refine za h ?_ ?_ <;> intro _ h
 refine zn zx h rfl fun i h => zb h (fun _ => zDd) fun _ h => ?_
 refine jC (hK := ?_)
 refine zj h fun _ h => zu (r := (1 : Int)) (by decide) ?_
 refine zCt e (fun (a : Int × Bool × List UInt8) => [(22, .int .i64 (a.fst)), (23, .bool (a.snd.fst)), (21, .int .i64 ((↑(List.length (List.map zx b)) : Int))), (20, (zo 7 zx) b), (8, .ptr ((0 : Nat) + (1 : Nat) + (1 : Nat) + (1 : Nat) + (1 : Nat) + (1 : Nat) + (1 : Nat) + (1 : Nat) + (1 : Nat) + (1 : Nat) + (1 : Nat) + (1 : Nat) + (1 : Nat) + (1 : Nat)) []), (5, .int .i64 0), (4, .str ((ByteArray.mk #[]).data.toList)), (2, .ptr (0 : Nat) [])]) (fun (a : Int × Bool × List UInt8) => [(24, .tr (5 : Nat) a.snd.snd), (20, .var true (zx i)), (13, .tv (65 : Nat) (SV.agg [SV.ptr ((0 : Nat) + (1 : Nat) + (1 : Nat) + (1 : Nat) + (1 : Nat) + (1 : Nat) + (1 : Nat) + (1 : Nat) + (1 : Nat) + (1 : Nat) + (1 : Nat) + (1 : Nat) + (1 : Nat) + (1 : Nat)) [], SV.osl ((0 : Nat) + (1 : Nat) + (1 : Nat) + (1 : Nat) + (1 : Nat) + (1 : Nat) + (1 : Nat) + (1 : Nat) + (1 : Nat) + (1 : Nat) + (1 : Nat) + (1 : Nat) + (1 : Nat) + (1 : Nat) + (1 : Nat) + (1 : Nat) + (1 : Nat) + (1 : Nat) + (1 : Nat) + (1 : Nat) + (1 : Nat) + (1 : Nat) + (1 : Nat) + (1 : Nat) + (1 : Nat)) (1 : Nat)])), (0, .var true (zI d))]) 27 h zd (fun a j k c h => ?_)
 refine za h ?_ ?_ <;> intro _ h
 refine zn zx h rfl fun l h => zb h (fun _ => zDd) fun f h => ?_
 refine jZ (hK := ?_)
 refine zj h fun _ h => ze h fun g h => ?_
 exact c ((g, decide (a.fst < (↑(List.length (List.map zx b)) : Int)), a.snd.snd ++ f)) h zd
 refine uy (hK := ?_)
 refine zj h fun _ h => ?_
 cases h; exact .r
 refine xN (hK := ?_)
 cases h; exact .r
theorem zB5 {a : Int} {r : Bool} (h : zpq a = some r) : Ret E 167 [SV.int .u8 a] (SV.bool r) := by
 refine rg [] Tryz.func167 h fun h => ?_
 refine za h ?_ ?_ <;> intro _ h
 cases h; exact .r
 cases h; exact .r
theorem zj1 {a : Int} {r : Bool} (h : ug a = some r) : Ret E 133 [SV.int .u8 a] (SV.bool r) := by
 refine rg [] Tryz.func133 h fun h => ?_
 refine za h ?_ ?_ <;> intro _ h
 cases h; exact .r
 cases h; exact .r
theorem zFs {e : List UInt8} {r : Bool} (h : zuh e = some r) : Ret E 130 [SV.str e] (SV.bool r) := by
 refine rg [0] Tryz.func130 h fun h => ?_
 refine zA h (fun f h => ?_) (fun f h => ?_)
 cases h; exact .r
 refine zA h (fun g h => ?_) (fun g h => ?_)
 cases h; exact .r
 refine zr h fun _ h => zb h (fun _ => zB5) fun n h => za h (fun _ h => ?_) fun _ h => ?_
 cases h; exact .r
 refine zq (fun (i : Unit) => [(2, .fls)]) (fun _ => []) 1 h (fun i h => ?_) (fun o c d h => ?_)
 cases h; exact .r
 refine zm (fun (b : Int) => [(3, .int .i64 b), (2, .fls), (0, .str e)]) (fun _ => []) 16 h zd (fun b m p a h => ?_)
 refine za h ?_ ?_ <;> intro _ h
 refine zr h fun q h => zb h (fun _ => zB5) fun s h => za h (fun _ h => ?_) fun _ h => ?_
 refine zr h fun t h => zb h (fun _ => zj1) fun u h => za h (fun _ h => ?_) fun _ h => ?_
 refine zr h fun _ h => za h (fun _ h => ?_) fun _ h => ?_
 refine d ?_
 cases h; exact .r
 refine ze h fun j h => ?_
 exact a j h zd
 refine ze h fun k h => ?_
 exact a k h zd
 refine ze h fun l h => ?_
 exact a l h zd
 exact c (()) h zd
theorem zE5 {c : List (List UInt8)} {r : Int × Int} (h : zt9 c = some r) : Ret E 85 [zo 1 SV.str c] (SV.tup [SV.int .i64 r.fst, SV.int .i64 r.snd]) := by
 refine rg [0, 2] Tryz.func85 h fun h => ?_
 refine zA h (fun k h => ?_) (fun k h => ?_)
 cases h; exact .r
 refine za h ?_ ?_ <;> intro _ h
 cases h; exact .r
 refine zq (fun (l : Unit) => [(3, .int .i64 0), (2, .int .i64 0)]) (fun _ => []) 1 h (fun l h => ?_) (fun s e b h => ?_)
 cases h; exact .r
 refine zm (fun (a : Int) => [(4, .int .i64 a), (3, .int .i64 0), (2, .int .i64 0), (0, (zo 1 SV.str) c)]) (fun _ => []) 11 h zd (fun a p t f h => ?_)
 refine za h ?_ ?_ <;> intro _ h
 refine zn SV.str h rfl fun u h => zb h (fun _ => zFs) fun v h => za h (fun _ h => ?_) fun _ h => ?_
 refine b ?_
 cases h; exact .r
 refine zq (fun (m : Unit) => [(4, .int .i64 a), (3, .int .i64 0), (2, .int .i64 0), (0, (zo 1 SV.str) c)]) (fun _ => []) 1 h (fun m h => ?_) (fun w g i h => ?_)
 refine ze h fun n h => ?_
 exact f n h zd
 refine zm (fun (d : Int) => [(5, .int .i64 d), (4, .int .i64 a), (3, .int .i64 0), (2, .int .i64 0), (0, (zo 1 SV.str) c)]) (fun _ => []) 22 h zd (fun d q x j h => ?_)
 refine za h ?_ ?_ <;> intro _ h
 refine zn SV.str h rfl fun y h => zn SV.str h rfl fun z h => za h (fun _ h => ?_) fun _ h => ?_
 refine i ?_
 refine b ?_
 cases h; exact .r
 refine ze h fun o h => ?_
 exact j o h zd
 exact g (()) h zd
 exact e (()) h zd
theorem zgj {a : TL} {b : Int} {c : Int} {r : Bool} (h : uV a b c = some r) : Ret E 92 [zJ a, SV.int .i64 b, SV.int .i64 c] (SV.bool r) := by
 refine rg [] Tryz.func92 h fun h => ?_
 iterate 3 refine za h ?_ ?_ <;> intro _ h
 refine zn (SV.int .u8) h rfl fun d h => zj h fun _ h => ?_
 refine qb (by decide) ?_
 cases h; exact .r
 cases h; exact .r
 cases h; exact .r
 cases h; exact .r
theorem zF5 {d : TL} {f : Int} {r : Bool} (h : zsj d f = some r) : Ret E 86 [zJ d, SV.int .i64 f] (SV.bool r) := by
 refine rg [0] Tryz.func86 h fun h => ?_
 refine zn (SV.int .u8) h rfl fun p h => ze h fun g h => zj h fun _ h => ?_
 refine zA h (fun i h => ?_) (fun i h => ?_)
 cases h; exact .r
 refine zb h (fun _ => zgj) fun _ h => za h (fun _ h => ?_) fun _ h => ?_
 cases h; exact .r
 refine zq (fun (j : Unit) => [(4, .fls)]) (fun _ => []) 1 h (fun j h => ?_) (fun q e a h => ?_)
 cases h; exact .r
 refine zm (fun (c : Int) => [(7, .int .i64 c), (6, .int .i64 g), (5, .int .i64 ((↑(List.length (List.map SV.str d.Names)) : Int))), (4, .fls), (2, .ptr 0 []), (1, .int .i64 f)]) (fun c => [(0, .var true (zJ d))]) 25 h zd (fun c o s b h => ?_)
 refine za h ?_ ?_ <;> intro _ h
 refine zb h (fun _ => zgj) fun _ h => za h (fun _ h => ?_) fun _ h => ?_
 refine ze h fun k h => ?_
 exact b k h zd
 refine zn (SV.int .u8) h rfl fun t h => ze h fun u h => zj h fun _ h => ze h fun v h => ze h fun w h => za h (fun _ h => ?_) fun _ h => ?_
 refine zb h (fun _ => zgj) fun x h => ?_
 refine zA h (fun l h => ?_) (fun l h => ?_)
 refine a ?_
 cases h; exact .r
 refine za h ?_ ?_ <;> intro _ h
 refine a ?_
 cases h; exact .r
 refine ze h fun m h => ?_
 exact b m h zd
 refine za h ?_ ?_ <;> intro _ h
 refine a ?_
 cases h; exact .r
 refine ze h fun n h => ?_
 exact b n h zd
 exact e (()) h zd
theorem zC8 {f : TL} {r : List Int} (h : zpw f = some r) : Ret E 87 [zJ f] (zo 1 (SV.int .u8) r) := by
 refine rg [0, 2] Tryz.func87 h fun h => ?_
 refine zj h fun _ h => ?_
 refine zq (fun (d : List Int) => [(3, .osl (5) 1), (2, .osl (1) 1)]) (fun d => [(5, .row true 1 (List.map (SV.int .u8) d)), (1, .row true 1 [])]) 6 h (fun d h => ?_) (fun u g p h => ?_)
 cases h; exact .r
 refine zm (fun (b : Int × List Int) => [(4, .int .i64 (b.fst)), (3, .osl (5) 1), (2, .osl (1) 1), (1, .ptr 0 [])]) (fun b => [(5, .row true 1 (List.map (SV.int .u8) b.snd)), (1, .row true 1 []), (0, .var true (zJ f))]) 8 h (qT ⟨.refl _, .refl _, .refl _, .refl _, trivial⟩ ⟨(.row (.of (by first | (simp only [zo, ql, List.map_append, List.map_take, List.map_drop, List.map_set, List.map_replicate]; done) | (simp [zo, ql, List.map_append, List.map_take, List.map_drop, List.map_set, List.map_replicate]; done) | rfl))), .refl, .refl, trivial⟩ rfl rfl rfl) (fun b q v i h => ?_)
 refine za h ?_ ?_ <;> intro _ h
 refine zq (fun (c : List Int) => [(4, .int .i64 (b.fst)), (3, .osl (5) 1), (2, .osl (1) 1), (1, .ptr 0 [])]) (fun c => [(5, .row true 1 (List.map (SV.int .u8) c)), (1, .row true 1 []), (0, .var true (zJ f))]) 6 h (fun c h => ?_) (fun w j s h => ?_)
 refine ze h fun k h => ?_
 exact i ((k, c)) h zd
 refine zm (fun (a : Int × List Int) => [(5, .int .i64 (a.fst)), (4, .int .i64 (b.fst)), (3, .osl (5) 1), (2, .osl (1) 1), (1, .ptr 0 [])]) (fun a => [(5, .row true 1 (List.map (SV.int .u8) a.snd)), (1, .row true 1 []), (0, .var true (zJ f))]) 14 h zd (fun a t x e h => ?_)
 refine za h ?_ ?_ <;> intro _ h
 refine zb h (fun _ => zgj) fun y h => za h (fun _ h => ?_) fun _ h => ?_
 refine zj h fun _ h => zn (SV.int .u8) h rfl fun l h => zj h fun _ h => ze h fun m h => zj h fun _ h => zn (SV.int .u8) h rfl fun z h => ze h fun n h => ?_
 exact e ((n, List.set a.snd (Int.toNat a.fst) (bits BinOp.or IntKind.u8 l m))) h (qT ⟨.refl _, .refl _, .refl _, .refl _, .refl _, trivial⟩ ⟨(.row (.setm .refl .refl)), .refl, .refl, trivial⟩ rfl rfl rfl)
 refine ze h fun o h => ?_
 exact e ((o, a.snd)) h zd
 exact j (a.snd) h zd
 exact g (b.snd) h zd
theorem zzc {e : List Int} {k : Int} {l : Int} {r : Int} (h : zkj e k l = some r) : Ret E 88 [zo 1 (SV.int .u8) e, SV.int .i64 k, SV.int .i64 l] (SV.int .i64 r) := by
 refine rg [0] Tryz.func88 h fun h => ?_
 refine zn (SV.int .u8) h rfl fun f h => zn (SV.int .u8) h rfl fun g h => ?_
 refine zq (fun (i : Unit) => [(6, .int .i64 0)]) (fun _ => []) 1 h (fun i h => ?_) (fun n b c h => ?_)
 cases h; exact .r
 refine zm (fun (a : Int) => [(8, .int .i64 a), (7, .int .u8 (bits BinOp.and IntKind.u8 f g)), (6, .int .i64 0), (0, (zo 1 (SV.int .u8)) e)]) (fun _ => []) 12 h zd (fun a m o d h => ?_)
 refine za h ?_ ?_ <;> intro _ h
 refine zn (SV.int .u8) h rfl fun p h => za h (fun _ h => ?_) fun _ h => ?_
 refine c ?_
 cases h; exact .r
 refine ze h fun j h => ?_
 exact d j h zd
 exact b (()) h zd
theorem ztk {a : TL} {r : Int × Int} (h : zd6 a = some r) : Ret E 57 [zJ a] (SV.tup [SV.int .i64 r.fst, SV.int .i64 r.snd]) := by
 refine rg [0, 2, 4] Tryz.func57 h fun h => ?_
 refine zb h (fun _ => zE5) fun A h => za h (fun _ h => ?_) fun _ h => ?_
 cases h; exact .r
 refine za h ?_ ?_ <;> intro _ h
 cases h; exact .r
 refine zq (fun (i : Unit) => [(6, .int .i64 ((↑(List.length (List.map SV.str a.Names)) : Int))), (3, .int .i64 0), (2, .int .i64 0), (1, .ptr 0 [])]) (fun i => [(0, .var true (zJ a))]) 1 h (fun i h => ?_) (fun C k l h => ?_)
 refine zb h (fun _ => zC8) fun c h => ?_
 refine zq (fun (s : Unit) => [(3, .int .i64 0), (2, .int .i64 0)]) (fun _ => []) 1 h (fun s h => ?_) (fun D m f h => ?_)
 cases h; exact .r
 refine zm (fun (b : Int) => [(9, .int .i64 b), (8, (zo 1 (SV.int .u8)) c), (6, .int .i64 ((↑(List.length (List.map SV.str a.Names)) : Int))), (3, .int .i64 0), (2, .int .i64 0), (1, .ptr 0 [])]) (fun b => [(0, .var true (zJ a))]) 5 h zd (fun b x F n h => ?_)
 refine za h ?_ ?_ <;> intro _ h
 refine zq (fun (j : Unit) => [(9, .int .i64 b), (8, (zo 1 (SV.int .u8)) c), (6, .int .i64 ((↑(List.length (List.map SV.str a.Names)) : Int))), (3, .int .i64 0), (2, .int .i64 0), (1, .ptr 0 [])]) (fun j => [(0, .var true (zJ a))]) 1 h (fun j h => ?_) (fun G o g h => ?_)
 refine ze h fun t h => ?_
 exact n t h zd
 refine zm (fun (d : Int) => [(10, .int .i64 d), (9, .int .i64 b), (8, (zo 1 (SV.int .u8)) c), (6, .int .i64 ((↑(List.length (List.map SV.str a.Names)) : Int))), (3, .int .i64 0), (2, .int .i64 0), (1, .ptr 0 [])]) (fun d => [(0, .var true (zJ a))]) 9 h zd (fun d y H p h => ?_)
 refine za h ?_ ?_ <;> intro _ h
 refine zb h (fun _ => zzc) fun I h => ?_
 refine zA h (fun u h => ?_) (fun u h => ?_)
 refine g ?_
 refine f ?_
 cases h; exact .r
 refine zb h (fun _ => zzc) fun J h => za h (fun _ h => ?_) fun _ h => ?_
 refine g ?_
 refine f ?_
 cases h; exact .r
 refine ze h fun v h => ?_
 exact p v h zd
 exact o (()) h zd
 exact m (()) h zd
 refine zm (fun (e : Int) => [(7, .int .i64 e), (6, .int .i64 ((↑(List.length (List.map SV.str a.Names)) : Int))), (3, .int .i64 0), (2, .int .i64 0), (1, .ptr 0 [])]) (fun e => [(0, .var true (zJ a))]) 23 h zd (fun e z K q h => ?_)
 refine za h ?_ ?_ <;> intro _ h
 refine zb h (fun _ => zF5) fun L h => za h (fun _ h => ?_) fun _ h => ?_
 refine l ?_
 cases h; exact .r
 refine ze h fun w h => ?_
 exact q w h zd
 exact k (()) h zd
theorem zFt {r : List (List UInt8)} (h : zr4 = some r) : Ret E 194 [] (zo 1 SV.str r) := by
 refine rg [] Tryz.func194 h fun h => ?_
 unfold zr4 at h
 cases h; exact .r
theorem zGs {e : List UInt8} {r : Int × Int} (h : zsm e = some r) : Ret E 168 [SV.str e] (SV.tup [SV.int .i64 r.fst, SV.int .i64 r.snd]) := by
 refine rg [0] Tryz.func168 h fun h => ?_
 refine zb h (fun _ => zFt) fun f h => ?_
 refine zq (fun (g : Unit) => [(3, .int .i64 0), (2, .int .i64 0)]) (fun _ => []) 1 h (fun g h => ?_) (fun l b c h => ?_)
 cases h; exact .r
 refine zm (fun (a : Int) => [(5, .int .i64 a), (4, (zo 1 SV.str) f), (3, .int .i64 0), (2, .int .i64 0), (0, .str e)]) (fun _ => []) 5 h zd (fun a k m d h => ?_)
 refine za h (fun i h => ?_) (fun i h => ?_)
 refine zn SV.str h rfl fun n h => za h (fun _ h => ?_) fun _ h => ?_
 refine ze h fun o h => ?_
 refine c ?_
 cases h; exact .r
 refine ze h fun j h => ?_
 exact d j h zd
 exact b (()) h zd
theorem zDl {a : Int} {r : Bool} (h : zpr a = some r) : Ret E 225 [SV.int .u8 a] (SV.bool r) := by
 refine rg [] Tryz.func225 h fun h => ?_
 refine za h ?_ ?_ <;> intro _ h
 cases h; exact .r
 cases h; exact .r
theorem zGl {a : Int} {r : Bool} (h : zta a = some r) : Ret E 226 [SV.int .u8 a] (SV.bool r) := by
 refine rg [] Tryz.func226 h fun h => ?_
 refine za h ?_ ?_ <;> intro _ h
 cases h; exact .r
 cases h; exact .r
theorem zkk {e : List UInt8} {r : Bool} (h : zcm e = some r) : Ret E 195 [SV.str e] (SV.bool r) := by
 refine rg [0] Tryz.func195 h fun h => ?_
 refine zA h (fun f h => ?_) (fun f h => ?_)
 cases h; exact .r
 refine zr h fun n h => zb h (fun _ => zDl) fun o h => za h (fun _ h => ?_) fun _ h => ?_
 cases h; exact .r
 refine zq (fun (g : Unit) => [(2, .fls)]) (fun _ => []) 1 h (fun g h => ?_) (fun p c d h => ?_)
 cases h; exact .r
 refine zm (fun (b : Int) => [(3, .int .i64 b), (2, .fls), (0, .str e)]) (fun _ => []) 10 h zd (fun b m q a h => ?_)
 refine za h (fun i h => ?_) (fun i h => ?_)
 refine zr h fun _ h => zb h (fun _ => zDl) fun _ h => za h (fun _ h => ?_) fun _ h => ?_
 refine zr h fun s h => zb h (fun _ => zGl) fun t h => za h (fun j h => ?_) (fun j h => ?_)
 refine d ?_
 cases h; exact .r
 refine ze h fun k h => ?_
 exact a k h zd
 refine ze h fun l h => ?_
 exact a l h zd
 exact c (()) h zd
theorem zkn {d : List UInt8} {r : List Int × Bool} (h : zgm d = some r) : Ret E 196 [SV.str d] (SV.tup [zo 1 (SV.int .i64) r.fst, .bool r.snd]) := by
 refine rg [0] Tryz.func196 h fun h => ?_
 refine zq (fun (a : Unit) => [(4, .osl (2) 1), (3, .fls), (2, .osl 0 1)]) (fun a => [(2, .row true 1 []), (0, .row true 1 [])]) 3 h (fun a h => ?_) (fun i c e h => ?_)
 cases h; exact .r
 refine zm (fun (b : Unit) => [(5, .int .i64 0), (4, .osl (2) 1), (3, .fls), (2, .osl 0 1), (0, .str d)]) (fun b => [(2, .row true 1 []), (0, .row true 1 [])]) 4 h zd (fun b f j g h => ?_)
 refine za h ?_ ?_ <;> intro _ h
 exact zao h
 exact c (()) h zd
theorem zGj {v : TK} {r : Int} (h : zuj v = some r) : Ret E 169 [zZ v] (SV.int .i64 r) := by
 refine rg [] Tryz.func169 h fun h => ?_
 refine zA h (fun a h => ?_) (fun a h => ?_)
 cases h; exact .r
 refine zA h (fun b h => ?_) (fun b h => ?_)
 cases h; exact .r
 refine za h ?_ ?_ <;> intro _ h
 refine zA h (fun c h => ?_) (fun c h => ?_)
 cases h; exact .r
 iterate 3 refine za h ?_ ?_ <;> intro _ h
 cases h; exact .r
 refine za h ?_ ?_ <;> intro _ h
 refine zb h (fun _ => zkk) fun w h => za h (fun _ h => ?_) fun _ h => ?_
 cases h; exact .r
 refine za h (fun d h => ?_) (fun d h => ?_)
 cases h; exact .r
 cases h; exact .r
 refine za h (fun e h => ?_) (fun e h => ?_)
 refine zb h (fun _ => zkn) fun x h => za h (fun f h => ?_) (fun f h => ?_)
 cases h; exact .r
 refine za h (fun g h => ?_) (fun g h => ?_)
 cases h; exact .r
 cases h; exact .r
 cases h; exact .r
 refine za h ?_ ?_ <;> intro _ h
 refine zb h (fun _ => zkk) fun y h => za h (fun _ h => ?_) fun _ h => ?_
 cases h; exact .r
 refine za h ?_ ?_ <;> intro _ h
 cases h; exact .r
 cases h; exact .r
 refine za h ?_ ?_ <;> intro _ h
 refine zb h (fun _ => zkn) fun z h => za h (fun i h => ?_) (fun i h => ?_)
 cases h; exact .r
 refine za h ?_ ?_ <;> intro _ h
 cases h; exact .r
 cases h; exact .r
 cases h; exact .r
 refine za h ?_ ?_ <;> intro _ h
 refine zb h (fun _ => zkk) fun A h => za h (fun j h => ?_) (fun j h => ?_)
 cases h; exact .r
 refine za h (fun k h => ?_) (fun k h => ?_)
 cases h; exact .r
 cases h; exact .r
 refine za h ?_ ?_ <;> intro _ h
 refine zb h (fun _ => zkn) fun C h => za h (fun _ h => ?_) fun _ h => ?_
 cases h; exact .r
 refine za h ?_ ?_ <;> intro _ h
 cases h; exact .r
 cases h; exact .r
 cases h; exact .r
 refine za h (fun l h => ?_) (fun l h => ?_)
 refine za h ?_ ?_ <;> intro _ h
 refine za h (fun m h => ?_) (fun m h => ?_)
 cases h; exact .r
 refine za h (fun n h => ?_) (fun n h => ?_)
 refine zb h (fun _ => zkk) fun _ h => za h (fun o h => ?_) (fun o h => ?_)
 cases h; exact .r
 refine za h ?_ ?_ <;> intro _ h
 cases h; exact .r
 cases h; exact .r
 refine za h ?_ ?_ <;> intro _ h
 refine zb h (fun _ => zkn) fun D h => za h (fun _ h => ?_) fun _ h => ?_
 cases h; exact .r
 refine za h ?_ ?_ <;> intro _ h
 cases h; exact .r
 cases h; exact .r
 cases h; exact .r
 refine za h ?_ ?_ <;> intro _ h
 refine zb h (fun _ => zkk) fun F h => za h (fun p h => ?_) (fun p h => ?_)
 cases h; exact .r
 refine za h (fun q h => ?_) (fun q h => ?_)
 cases h; exact .r
 cases h; exact .r
 refine za h ?_ ?_ <;> intro _ h
 refine zb h (fun _ => zkn) fun G h => za h (fun _ h => ?_) fun _ h => ?_
 cases h; exact .r
 refine za h (fun s h => ?_) (fun s h => ?_)
 cases h; exact .r
 cases h; exact .r
 cases h; exact .r
 refine za h ?_ ?_ <;> intro _ h
 refine zb h (fun _ => zkk) fun H h => za h (fun _ h => ?_) fun _ h => ?_
 cases h; exact .r
 refine za h ?_ ?_ <;> intro _ h
 cases h; exact .r
 cases h; exact .r
 refine za h (fun t h => ?_) (fun t h => ?_)
 refine zb h (fun _ => zkn) fun _ h => za h (fun u h => ?_) (fun u h => ?_)
 cases h; exact .r
 refine za h ?_ ?_ <;> intro _ h
 cases h; exact .r
 cases h; exact .r
 cases h; exact .r
theorem zFw {e : List UInt8} {r : Bool} (h : zte e = some r) : Ret E 170 [SV.str e] (SV.bool r) := by
 refine rg [0] Tryz.func170 h fun h => ?_
 refine zq (fun (f : Unit) => [(2, .fls)]) (fun _ => []) 1 h (fun f h => ?_) (fun j b c h => ?_)
 cases h; exact .r
 refine zm (fun (a : Int) => [(4, .int .i64 a), (3, .osl (1) 1), (2, .fls), (0, .str e)]) (fun a => [(1, .row true 1 [SV.str (ByteArray.mk #[118, 97, 114]).data.toList, .str (ByteArray.mk #[100, 101, 102]).data.toList, .str (ByteArray.mk #[111, 117, 116]).data.toList, .str (ByteArray.mk #[105, 102]).data.toList, .str (ByteArray.mk #[101, 108, 115, 101]).data.toList, .str (ByteArray.mk #[119, 104, 105, 108, 101]).data.toList, .str (ByteArray.mk #[101, 110, 100]).data.toList, .str (ByteArray.mk #[114, 101, 108, 101, 97, 115, 101]).data.toList, .str (ByteArray.mk #[105, 110, 116]).data.toList, .str (ByteArray.mk #[99, 104, 97, 114]).data.toList])]) 4 h zd (fun a i k d h => ?_)
 refine za h ?_ ?_ <;> intro _ h
 refine zj h fun _ h => zn SV.str h (by first | (simp only [zo, ql, List.map_append, List.map_take, List.map_drop, List.map_set, List.map_replicate]; done) | (simp [zo, ql, List.map_append, List.map_take, List.map_drop, List.map_set, List.map_replicate]; done) | rfl) fun l h => ?_
 refine za h ?_ ?_ <;> intro _ h
 refine c ?_
 cases h; exact .r
 refine ze h fun g h => ?_
 exact d g h zd
 exact b (()) h zd
theorem zEz {a : List UInt8} {r : Bool} (h : zsw a = some r) : Ret E 131 [SV.str a] (SV.bool r) := by
 refine rg [] Tryz.func131 h fun h => ?_
 refine zb h (fun _ => zGs) fun b h => zb h (fun _ => zGj) fun c h => za h (fun _ h => ?_) fun _ h => ?_
 refine za h ?_ ?_ <;> intro _ h
 refine zb h (fun _ => zFw) fun d h => ?_
 cases h; exact .r
 cases h; exact .r
 cases h; exact .r
theorem zB7 {e : List UInt8} {f : List (List UInt8)} {r : Int} (h : zpx e f = some r) : Ret E 89 [SV.str e, zo 1 SV.str f] (SV.int .i64 r) := by
 refine rg [0] Tryz.func89 h fun h => ?_
 refine zb h (fun _ => zEz) fun k h => za h (fun _ h => ?_) fun _ h => ?_
 cases h; exact .r
 refine zq (fun (g : Unit) => [(4, .int .i64 0)]) (fun _ => []) 1 h (fun g h => ?_) (fun l b c h => ?_)
 cases h; exact .r
 refine zm (fun (a : Int) => [(5, .int .i64 a), (4, .int .i64 0), (1, (zo 1 SV.str) f), (0, .str e)]) (fun _ => []) 5 h zd (fun a j m d h => ?_)
 refine za h ?_ ?_ <;> intro _ h
 refine zn SV.str h rfl fun _ h => za h (fun _ h => ?_) fun _ h => ?_
 refine c ?_
 cases h; exact .r
 refine ze h fun i h => ?_
 exact d i h zd
 exact b (()) h zd
theorem zbj {a : TL} {b : Int} {r : Bool} (h : xL a b = some r) : Ret E 90 [zJ a, SV.int .i64 b] (SV.bool r) := by
 refine rg [] Tryz.func90 h fun h => ?_
 refine za h ?_ ?_ <;> intro _ h
 cases h; exact .r
 cases h; exact .r
theorem zF9 {e : TP} {r : Int × Int} (h : zui e = some r) : Ret E 58 [zI e] (SV.tup [SV.int .i64 r.fst, SV.int .i64 r.snd]) := by
 refine rg [0] Tryz.func58 h fun h => ?_
 refine za h (fun f h => ?_) (fun f h => ?_)
 cases h; exact .r
 refine zq (fun (g : Unit) => [(3, .int .i64 0), (2, .int .i64 0)]) (fun _ => []) 1 h (fun g h => ?_) (fun p d b h => ?_)
 cases h; exact .r
 refine zm (fun (a : Int × List (List UInt8)) => [(5, .int .i64 (a.fst)), (4, .osl (7) 1), (3, .int .i64 0), (2, .int .i64 0), (1, .ptr 0 [])]) (fun a => [(7, .row true 1 (List.map SV.str a.snd)), (0, .var true (zI e))]) 9 h zd (fun a o q c h => ?_)
 refine za h ?_ ?_ <;> intro _ h
 refine zn zW h rfl fun s h => zb h (fun _ => zB7) fun t h => za h (fun i h => ?_) (fun i h => ?_)
 refine zn zW h rfl fun u h => zb h (fun _ => zbj) fun v h => za h (fun j h => ?_) (fun j h => ?_)
 refine pT ?_
 refine b ?_
 cases h; exact .r
 refine za h ?_ ?_ <;> intro _ h
 refine b ?_
 cases h; exact .r
 refine zn zW h rfl fun k h => zj h fun _ h => ze h fun l h => ?_
 exact c ((l, a.snd ++ [k.s_])) h (qT ⟨.refl _, .refl _, .refl _, .refl _, .refl _, trivial⟩ ⟨(.row (.appm .refl (.cons .refl .refl))), .refl, trivial⟩ rfl rfl rfl)
 refine za h ?_ ?_ <;> intro _ h
 refine b ?_
 cases h; exact .r
 refine zn zW h rfl fun m h => zj h fun _ h => ze h fun n h => ?_
 exact c ((n, a.snd ++ [m.s_])) h (qT ⟨.refl _, .refl _, .refl _, .refl _, .refl _, trivial⟩ ⟨(.row (.appm .refl (.cons .refl .refl))), .refl, trivial⟩ rfl rfl rfl)
 exact d (()) h zd
theorem zGy {d : TL} {e : Int} {f : Int} {r : Int} (h : zr7 d e f = some r) : Ret E 171 [zJ d, SV.int .i64 e, SV.int .i64 f] (SV.int .i64 r) := by
 refine rg [] Tryz.func171 h fun h => ?_
 refine zb h (fun _ => ztk) fun g h => za h (fun _ h => ?_) fun _ h => ?_
 refine zA h (fun a h => ?_) (fun a h => ?_)
 cases h; exact .r
 refine zA h (fun b h => ?_) (fun b h => ?_)
 cases h; exact .r
 refine zA h (fun c h => ?_) (fun c h => ?_)
 cases h; exact .r
 refine za h ?_ ?_ <;> intro _ h
 cases h; exact .r
 cases h; exact .r
 cases h; exact .r
theorem zC1 {e : TL} {r : Int × Int} (h : zm5 e = some r) : Ret E 132 [zJ e] (SV.tup [SV.int .i64 r.fst, SV.int .i64 r.snd]) := by
 refine rg [0] Tryz.func132 h fun h => ?_
 refine zb h (fun _ => zGy) fun l h => za h (fun _ h => ?_) fun _ h => ?_
 cases h; exact .r
 refine zb h (fun _ => zC8) fun f h => ?_
 refine zq (fun (b : Int) => [(6, .int .i64 b), (3, .int .i64 0), (2, .int .i64 0)]) (fun _ => []) 1 h (fun b h => ?_) (fun m c j h => ?_)
 cases h; exact .r
 refine zm (fun (a : Int × Int) => [(7, .int .i64 (a.fst)), (6, .int .i64 (a.snd)), (5, (zo 1 (SV.int .u8)) f), (3, .int .i64 0), (2, .int .i64 0), (1, .ptr 0 [])]) (fun a => [(0, .var true (zJ e))]) 13 h zd (fun a k n d h => ?_)
 refine za h ?_ ?_ <;> intro _ h
 refine zb h (fun _ => zzc) fun g h => ze h fun i h => ?_
 exact d ((i, g)) h zd
 exact c (a.snd) h zd
theorem zFg {a : TL} {b : TY} {r : Int} (h : zn1 a b = some r) : Ret E 91 [zJ a, yz b] (SV.int .i64 r) := by
 refine rg [0, 2] Tryz.func91 h fun h => ?_
 refine zb h (fun _ => ztk) fun _ h => za h (fun w h => ?_) (fun w h => ?_)
 cases h; exact .r
 refine za h ?_ ?_ <;> intro _ h
 refine zA h (fun x h => ?_) (fun x h => ?_)
 cases h; exact .r
 refine zA h (fun y h => ?_) (fun y h => ?_)
 cases h; exact .r
 refine zA h (fun z h => ?_) (fun z h => ?_)
 cases h; exact .r
 refine qb (by decide) ?_
 refine zl (by decide) rfl ?_
 refine zb h (fun _ => zbj) fun W h => ?_
 refine zA h (fun A h => ?_) (fun A h => ?_)
 cases h; exact .r
 refine qb (by decide) ?_
 refine zl (by decide) rfl ?_
 refine zb h (fun _ => zbj) fun X h => ?_
 refine zA h (fun C h => ?_) (fun C h => ?_)
 cases h; exact .r
 refine zb h (fun _ => zbj) fun Y h => za h (fun _ h => ?_) fun _ h => ?_
 cases h; exact .r
 refine zb h (fun _ => zC1) fun D h => ?_
 refine zq (fun (g : Unit) => [(4, .int .i64 0), (3, .ptr (1) []), (2, .ptr 0 [])]) (fun g => [(1, .var true (yz b)), (0, .var true (zJ a))]) 2 h (fun g h => ?_) (fun Z j k h => ?_)
 refine zq (fun (F : Unit) => [(4, .int .i64 0)]) (fun _ => []) 1 h (fun F h => ?_) (fun a2 l m h => ?_)
 cases h; exact .r
 refine zm (fun (c : Int) => [(10, .int .i64 c), (4, .int .i64 0), (3, .ptr (1) []), (2, .ptr 0 [])]) (fun c => [(1, .var true (yz b)), (0, .var true (zJ a))]) 3 h zd (fun c S a3 n h => ?_)
 refine za h ?_ ?_ <;> intro _ h
 refine zj h fun _ h => zn (SV.int .i64) h (by first | (simp only [zo, ql, List.map_append, List.map_take, List.map_drop, List.map_set, List.map_replicate]; done) | (simp [zo, ql, List.map_append, List.map_take, List.map_drop, List.map_set, List.map_replicate]; done) | rfl) fun a4 h => ?_
 refine zb h (fun _ => zgj) fun _ h => za h (fun _ h => ?_) fun _ h => ?_
 refine m ?_
 cases h; exact .r
 refine ze h fun G h => ?_
 exact n G h zd
 exact l (()) h zd
 refine zm (fun (d : Int) => [(9, .int .i64 d), (7, .int .i64 (D.fst)), (4, .int .i64 0), (3, .ptr (1) []), (2, .ptr 0 [])]) (fun d => [(1, .var true (yz b)), (0, .var true (zJ a))]) 63 h zd (fun d T a5 o h => ?_)
 refine za h ?_ ?_ <;> intro _ h
 refine zj h fun _ h => zn (SV.int .i64) h (by first | (simp only [zo, ql, List.map_append, List.map_take, List.map_drop, List.map_set, List.map_replicate]; done) | (simp [zo, ql, List.map_append, List.map_take, List.map_drop, List.map_set, List.map_replicate]; done) | rfl) fun _ h => ?_
 refine za h (fun H h => ?_) (fun H h => ?_)
 refine k ?_
 cases h; exact .r
 refine ze h fun I h => ?_
 exact o I h zd
 exact j (()) h zd
 refine zA h (fun J h => ?_) (fun J h => ?_)
 cases h; exact .r
 refine zA h (fun K h => ?_) (fun K h => ?_)
 cases h; exact .r
 refine qb (by decide) ?_
 refine zl (by decide) rfl ?_
 refine zb h (fun _ => zbj) fun a6 h => ?_
 refine zA h (fun L h => ?_) (fun L h => ?_)
 cases h; exact .r
 refine qb (by decide) ?_
 refine zl (by decide) rfl ?_
 refine zb h (fun _ => zbj) fun a7 h => ?_
 refine zA h (fun M h => ?_) (fun M h => ?_)
 cases h; exact .r
 refine zb h (fun _ => zbj) fun a8 h => za h (fun N h => ?_) (fun N h => ?_)
 cases h; exact .r
 refine zb h (fun _ => zC1) fun O h => ?_
 refine zq (fun (i : Unit) => [(4, .int .i64 0), (3, .ptr (1) []), (2, .ptr 0 [])]) (fun i => [(1, .var true (yz b)), (0, .var true (zJ a))]) 2 h (fun i h => ?_) (fun a9 p q h => ?_)
 refine zq (fun (P : Unit) => [(4, .int .i64 0)]) (fun _ => []) 1 h (fun P h => ?_) (fun b0 s t h => ?_)
 cases h; exact .r
 refine zm (fun (e : Int) => [(10, .int .i64 e), (4, .int .i64 0), (3, .ptr (1) []), (2, .ptr 0 [])]) (fun e => [(1, .var true (yz b)), (0, .var true (zJ a))]) 3 h zd (fun e U b1 u h => ?_)
 refine za h ?_ ?_ <;> intro _ h
 refine zj h fun _ h => zn (SV.int .i64) h (by first | (simp only [zo, ql, List.map_append, List.map_take, List.map_drop, List.map_set, List.map_replicate]; done) | (simp [zo, ql, List.map_append, List.map_take, List.map_drop, List.map_set, List.map_replicate]; done) | rfl) fun b2 h => ?_
 refine zb h (fun _ => zgj) fun b3 h => za h (fun _ h => ?_) fun _ h => ?_
 refine t ?_
 cases h; exact .r
 refine ze h fun Q h => ?_
 exact u Q h zd
 exact s (()) h zd
 refine zm (fun (f : Int) => [(9, .int .i64 f), (7, .int .i64 (O.fst)), (4, .int .i64 0), (3, .ptr (1) []), (2, .ptr 0 [])]) (fun f => [(1, .var true (yz b)), (0, .var true (zJ a))]) 60 h zd (fun f V b4 v h => ?_)
 refine za h ?_ ?_ <;> intro _ h
 refine zj h fun _ h => zn (SV.int .i64) h (by first | (simp only [zo, ql, List.map_append, List.map_take, List.map_drop, List.map_set, List.map_replicate]; done) | (simp [zo, ql, List.map_append, List.map_take, List.map_drop, List.map_set, List.map_replicate]; done) | rfl) fun b5 h => ?_
 refine za h ?_ ?_ <;> intro _ h
 refine q ?_
 cases h; exact .r
 refine ze h fun R h => ?_
 exact v R h zd
 exact p (()) h zd
theorem zFu {e : TP} {r : Int × Int} (h : zs2 e = some r) : Ret E 59 [zI e] (SV.tup [SV.int .i64 r.fst, SV.int .i64 r.snd]) := by
 refine rg [0] Tryz.func59 h fun h => ?_
 refine za h ?_ ?_ <;> intro _ h
 cases h; exact .r
 refine zq (fun (f : Unit) => [(3, .int .i64 0), (2, .int .i64 0)]) (fun _ => []) 1 h (fun f h => ?_) (fun o d b h => ?_)
 cases h; exact .r
 refine zm (fun (a : Int × List (List UInt8)) => [(5, .int .i64 (a.fst)), (4, .osl (7) 1), (3, .int .i64 0), (2, .int .i64 0), (1, .ptr 0 [])]) (fun a => [(7, .row true 1 (List.map SV.str a.snd)), (0, .var true (zI e))]) 9 h zd (fun a n p c h => ?_)
 refine za h ?_ ?_ <;> intro _ h
 refine zn wL h rfl fun q h => zb h (fun _ => zB7) fun s h => za h (fun g h => ?_) (fun g h => ?_)
 refine zn wL h rfl fun t h => zb h (fun _ => zFg) fun u h => za h (fun _ h => ?_) fun _ h => ?_
 refine b ?_
 cases h; exact .r
 refine zn wL h rfl fun i h => zj h fun _ h => ze h fun j h => ?_
 exact c ((j, a.snd ++ [i.Name])) h (qT ⟨.refl _, .refl _, .refl _, .refl _, .refl _, trivial⟩ ⟨(.row (.appm .refl (.cons .refl .refl))), .refl, trivial⟩ rfl rfl rfl)
 refine za h (fun k h => ?_) (fun k h => ?_)
 refine b ?_
 cases h; exact .r
 refine zn wL h rfl fun l h => zj h fun _ h => ze h fun m h => ?_
 exact c ((m, a.snd ++ [l.Name])) h (qT ⟨.refl _, .refl _, .refl _, .refl _, .refl _, trivial⟩ ⟨(.row (.appm .refl (.cons .refl .refl))), .refl, trivial⟩ rfl rfl rfl)
 exact d (()) h zd
theorem zGr {e : TP} {r : Int × Int} (h : zue e = some r) : Ret E 60 [zI e] (SV.tup [SV.int .i64 r.fst, SV.int .i64 r.snd]) := by
 refine rg [0, 2] Tryz.func60 h fun h => ?_
 refine za h ?_ ?_ <;> intro _ h
 cases h; exact .r
 refine zq (fun (m : Unit) => [(3, .int .i64 0), (2, .int .i64 0)]) (fun _ => []) 1 h (fun m h => ?_) (fun z i a h => ?_)
 cases h; exact .r
 refine zm (fun (b : Int) => [(4, .int .i64 b), (3, .int .i64 0), (2, .int .i64 0), (1, .ptr 0 [])]) (fun b => [(0, .var true (zI e))]) 8 h zd (fun b x A j h => ?_)
 refine za h ?_ ?_ <;> intro _ h
 refine zn qE h rfl fun f h => zb h (fun _ => zbj) fun C h => ?_
 refine zA h (fun n h => ?_) (fun n h => ?_)
 refine a ?_
 cases h; exact .r
 refine zb h (fun _ => zbj) fun _ h => za h (fun _ h => ?_) fun _ h => ?_
 refine a ?_
 cases h; exact .r
 refine zA h (fun o h => ?_) (fun o h => ?_)
 refine a ?_
 cases h; exact .r
 refine zb h (fun _ => zgj) fun _ h => za h (fun _ h => ?_) fun _ h => ?_
 refine a ?_
 cases h; exact .r
 refine zq (fun (g : Unit) => [(5, .ptr 18 []), (4, .int .i64 b), (3, .int .i64 0), (2, .int .i64 0), (1, .ptr 0 [])]) (fun g => [(18, .var true (qE f)), (0, .var true (zI e))]) 19 h (fun g h => ?_) (fun D k l h => ?_)
 refine zA h (fun p h => ?_) (fun p h => ?_)
 refine a ?_
 cases h; exact .r
 refine za h ?_ ?_ <;> intro _ h
 refine a ?_
 cases h; exact .r
 refine ze h fun q h => ?_
 exact j q h zd
 refine zm (fun (c : Int) => [(6, .int .i64 c), (5, .ptr 18 []), (4, .int .i64 b), (3, .int .i64 0), (2, .int .i64 0), (1, .ptr 0 [])]) (fun c => [(18, .var true (qE f)), (0, .var true (zI e))]) 50 h zd (fun c y F d h => ?_)
 refine za h (fun s h => ?_) (fun s h => ?_)
 refine zn qE h rfl fun G h => za h (fun t h => ?_) (fun t h => ?_)
 refine zn qE h rfl fun H h => za h (fun u h => ?_) (fun u h => ?_)
 refine l ?_
 refine a ?_
 cases h; exact .r
 refine ze h fun v h => ?_
 exact d v h zd
 refine ze h fun w h => ?_
 exact d w h zd
 exact k (()) h zd
 exact i (()) h zd
theorem ztb {b : TP} {r : Int × Int × Int} (h : zg1 b = some r) : Ret E 30 [zI b] (SV.tup [SV.int .i64 r.fst, SV.int .i64 r.snd.fst, SV.int .i64 r.snd.snd]) := by
 refine rg [] Tryz.func30 h fun h => ?_
 refine zb h (fun _ => ztk) fun _ h => za h (fun a h => ?_) (fun a h => ?_)
 cases h; exact .r
 refine zb h (fun _ => zF9) fun _ h => za h (fun _ h => ?_) fun _ h => ?_
 cases h; exact .r
 refine zb h (fun _ => zFu) fun c h => za h (fun _ h => ?_) fun _ h => ?_
 cases h; exact .r
 refine zb h (fun _ => zGr) fun d h => za h (fun _ h => ?_) fun _ h => ?_
 cases h; exact .r
 cases h; exact .r
theorem zC5 {r : List (List UInt8)} (h : zks = some r) : Ret E 46 [] (ql 5 1 SV.str r) := by
 refine rg [] Tryz.func46 h fun h => ?_
 unfold zks at h
 cases h; exact .r
theorem zDv {b : Int} {r : List UInt8 × Int} (h : zni b = some r) : Ret E 23 [SV.int .i64 b] (SV.tup [SV.str r.fst, SV.int .i64 r.snd]) := by
 refine rg [] Tryz.func23 h fun h => ?_
 refine zA h (fun a h => ?_) (fun a h => ?_)
 cases h; exact .r
 refine za h ?_ ?_ <;> intro _ h
 cases h; exact .r
 refine zb h (fun _ => zC5) fun c h => zn SV.str h rfl fun d h => ?_
 cases h; exact .r
theorem zys {e : TP} {f : Int} {g : Int} {r : Int × Int} (h : zj4 e f g = some r) : Ret E 73 [zI e, SV.int .i64 f, SV.int .i64 g] (SV.tup [SV.int .i64 r.fst, SV.int .i64 r.snd]) := by
 refine rg [0] Tryz.func73 h fun h => ?_
 refine zb h (fun _ => ztb) fun x h => za h (fun m h => ?_) (fun m h => ?_)
 refine zb h (fun _ => zbj) fun y h => ?_
 refine zA h (fun n h => ?_) (fun n h => ?_)
 refine pT ?_
 cases h; exact .r
 refine zb h (fun _ => zbj) fun _ h => za h (fun _ h => ?_) fun _ h => ?_
 refine pT ?_
 cases h; exact .r
 refine za h ?_ ?_ <;> intro _ h
 cases h; exact .r
 refine zq (fun (o : Unit) => [(7, .int .i64 0), (6, .int .i64 0)]) (fun _ => []) 1 h (fun o h => ?_) (fun z i j h => ?_)
 cases h; exact .r
 refine zm (fun (a : Int) => [(11, .int .i64 a), (7, .int .i64 0), (6, .int .i64 0), (3, .ptr 0 []), (2, .int .i64 g), (1, .int .i64 f)]) (fun a => [(0, .var true (zI e))]) 31 h zd (fun a v A c h => ?_)
 refine za h ?_ ?_ <;> intro _ h
 refine zn qE h rfl fun _ h => za h (fun _ h => ?_) fun _ h => ?_
 refine zn qE h rfl fun C h => za h (fun _ h => ?_) fun _ h => ?_
 refine zn qE h rfl fun _ h => ?_
 refine j ?_
 cases h; exact .r
 refine ze h fun p h => ?_
 exact c p h zd
 refine ze h fun q h => ?_
 exact c q h zd
 exact i (()) h zd
 refine za h ?_ ?_ <;> intro _ h
 cases h; exact .r
 refine zq (fun (s : Unit) => [(7, .int .i64 0), (6, .int .i64 0)]) (fun _ => []) 1 h (fun s h => ?_) (fun D k l h => ?_)
 cases h; exact .r
 refine zm (fun (b : Int) => [(11, .int .i64 b), (7, .int .i64 0), (6, .int .i64 0), (3, .ptr 0 []), (2, .int .i64 g), (1, .int .i64 f)]) (fun b => [(0, .var true (zI e))]) 19 h zd (fun b w F d h => ?_)
 refine za h ?_ ?_ <;> intro _ h
 iterate 2 refine zn qE h rfl fun _ h => za h (fun _ h => ?_) fun _ h => ?_
 refine zn qE h rfl fun _ h => ?_
 refine l ?_
 cases h; exact .r
 refine ze h fun t h => ?_
 exact d t h zd
 refine ze h fun u h => ?_
 exact d u h zd
 exact k (()) h zd
theorem zC6 {t : TP} {u : TE} {r : Int} (h : zou t u = some r) : Ret E 45 [zI t, zx u] (SV.int .i64 r) := by
 refine rg [] Tryz.func45 h fun h => ?_
 refine zb h (fun _ => ztb) fun v h => za h (fun a h => ?_) (fun a h => ?_)
 refine zb h (fun _ => zDv) fun w h => za h (fun b h => ?_) (fun b h => ?_)
 refine zA h (fun c h => ?_) (fun c h => ?_)
 refine pT ?_
 cases h; exact .r
 refine za h ?_ ?_ <;> intro _ h
 refine pT ?_
 cases h; exact .r
 refine za h (fun d h => ?_) (fun d h => ?_)
 cases h; exact .r
 refine zb h (fun _ => zys) fun _ h => ?_
 refine zA h (fun f h => ?_) (fun f h => ?_)
 cases h; exact .r
 refine zA h (fun g h => ?_) (fun g h => ?_)
 cases h; exact .r
 refine za h ?_ ?_ <;> intro _ h
 cases h; exact .r
 refine za h ?_ ?_ <;> intro _ h
 cases h; exact .r
 iterate 2 refine za h ?_ ?_ <;> intro _ h
 cases h; exact .r
 cases h; exact .r
 refine qb (by decide) ?_
 refine zl (by decide) rfl ?_
 refine zA h (fun i h => ?_) (fun i h => ?_)
 cases h; exact .r
 refine za h ?_ ?_ <;> intro _ h
 refine qb (by decide) ?_
 refine zl (by decide) rfl ?_
 refine zA h (fun j h => ?_) (fun j h => ?_)
 cases h; exact .r
 refine qb (by decide) ?_
 refine zl (by decide) rfl ?_
 refine za h ?_ ?_ <;> intro _ h
 cases h; exact .r
 cases h; exact .r
 cases h; exact .r
 refine za h ?_ ?_ <;> intro _ h
 cases h; exact .r
 refine zb h (fun _ => zys) fun _ h => ?_
 refine zA h (fun k h => ?_) (fun k h => ?_)
 cases h; exact .r
 refine zA h (fun l h => ?_) (fun l h => ?_)
 cases h; exact .r
 refine za h ?_ ?_ <;> intro _ h
 cases h; exact .r
 refine za h ?_ ?_ <;> intro _ h
 cases h; exact .r
 iterate 2 refine za h ?_ ?_ <;> intro _ h
 cases h; exact .r
 cases h; exact .r
 refine qb (by decide) ?_
 refine zl (by decide) rfl ?_
 refine zA h (fun m h => ?_) (fun m h => ?_)
 cases h; exact .r
 refine za h ?_ ?_ <;> intro _ h
 refine qb (by decide) ?_
 refine zl (by decide) rfl ?_
 refine zA h (fun n h => ?_) (fun n h => ?_)
 cases h; exact .r
 refine qb (by decide) ?_
 refine zl (by decide) rfl ?_
 refine za h ?_ ?_ <;> intro _ h
 cases h; exact .r
 cases h; exact .r
 cases h; exact .r
 refine ⟨fun e => absurd (e.symm.trans a) (by decide), fun _ => ?_⟩
 refine za h ?_ ?_ <;> intro _ h
 cases h; exact .r
 refine zb h (fun _ => zys) fun x h => ?_
 refine zA h (fun o h => ?_) (fun o h => ?_)
 cases h; exact .r
 refine zA h (fun p h => ?_) (fun p h => ?_)
 cases h; exact .r
 refine za h ?_ ?_ <;> intro _ h
 cases h; exact .r
 refine za h ?_ ?_ <;> intro _ h
 cases h; exact .r
 iterate 2 refine za h ?_ ?_ <;> intro _ h
 cases h; exact .r
 cases h; exact .r
 refine qb (by decide) ?_
 refine zl (by decide) rfl ?_
 refine zA h (fun q h => ?_) (fun q h => ?_)
 cases h; exact .r
 refine za h ?_ ?_ <;> intro _ h
 refine qb (by decide) ?_
 refine zl (by decide) rfl ?_
 refine zA h (fun s h => ?_) (fun s h => ?_)
 cases h; exact .r
 refine qb (by decide) ?_
 refine zl (by decide) rfl ?_
 refine za h ?_ ?_ <;> intro _ h
 cases h; exact .r
 cases h; exact .r
 cases h; exact .r
theorem zCq {g : TP} {i : List TE} {r : Int × Int} (h : zgs g i = some r) : Ret E 22 [zI g, zo 7 zx i] (SV.tup [SV.int .i64 r.fst, SV.int .i64 r.snd]) := by
 refine rg [0] Tryz.func22 h fun h => ?_
 refine zb h (fun _ => ztb) fun _ h => za h (fun _ h => ?_) fun _ h => ?_
 refine za h ?_ ?_ <;> intro _ h
 refine pT ?_
 cases h; exact .r
 refine za h ?_ ?_ <;> intro _ h
 cases h; exact .r
 refine zq (fun (l : Unit) => [(5, .int .i64 0), (4, .int .i64 0)]) (fun _ => []) 1 h (fun l h => ?_) (fun x j a h => ?_)
 cases h; exact .r
 refine zm (fun (c : Int) => [(9, .int .i64 c), (5, .int .i64 0), (4, .int .i64 0), (2, .ptr 0 []), (1, (zo 7 zx) i)]) (fun c => [(0, .var true (zI g))]) 22 h zd (fun c v y e h => ?_)
 refine za h (fun m h => ?_) (fun m h => ?_)
 refine zn zx h rfl fun _ h => zb h (fun _ => zC6) fun z h => za h (fun n h => ?_) (fun n h => ?_)
 refine zn zx h rfl fun A h => za h (fun o h => ?_) (fun o h => ?_)
 refine pT ?_
 refine a ?_
 cases h; exact .r
 refine za h ?_ ?_ <;> intro _ h
 refine a ?_
 cases h; exact .r
 refine ze h fun p h => ?_
 exact e p h zd
 refine za h ?_ ?_ <;> intro _ h
 refine a ?_
 cases h; exact .r
 refine ze h fun q h => ?_
 exact e q h zd
 exact j (()) h zd
 refine za h ?_ ?_ <;> intro _ h
 cases h; exact .r
 refine zq (fun (s : Unit) => [(5, .int .i64 0), (4, .int .i64 0)]) (fun _ => []) 1 h (fun s h => ?_) (fun C k b h => ?_)
 cases h; exact .r
 refine zm (fun (d : Int) => [(9, .int .i64 d), (5, .int .i64 0), (4, .int .i64 0), (2, .ptr 0 []), (1, (zo 7 zx) i)]) (fun d => [(0, .var true (zI g))]) 19 h zd (fun d w D f h => ?_)
 refine za h ?_ ?_ <;> intro _ h
 refine zn zx h rfl fun F h => zb h (fun _ => zC6) fun _ h => za h (fun _ h => ?_) fun _ h => ?_
 refine zn zx h rfl fun G h => za h (fun _ h => ?_) fun _ h => ?_
 refine pT ?_
 refine b ?_
 cases h; exact .r
 refine za h ?_ ?_ <;> intro _ h
 refine b ?_
 cases h; exact .r
 refine ze h fun t h => ?_
 exact f t h zd
 refine za h ?_ ?_ <;> intro _ h
 refine b ?_
 cases h; exact .r
 refine ze h fun u h => ?_
 exact f u h zd
 exact k (()) h zd
theorem zC0 {e : TP} {f : List TE} {r : List UInt8 × Int} (h : zkb e f = some r) : Ret E 8 [zI e, zo 7 zx f] (SV.tup [SV.str r.fst, SV.int .i64 r.snd]) := by
 refine rg [0] Tryz.func8 h fun h => ?_
 refine zb h (fun _ => zCq) fun _ h => za h (fun _ h => ?_) fun _ h => ?_
 cases h; exact .r
 refine zq (fun (b : List UInt8) => [(8, .str b), (5, .int .i64 0), (4, .str ((ByteArray.mk #[]).data.toList))]) (fun _ => []) 1 h (fun b h => ?_) (fun s c p h => ?_)
 cases h; exact .r
 refine zm (fun (a : Int × List UInt8) => [(9, .int .i64 (a.fst)), (8, .str (a.snd)), (5, .int .i64 0), (4, .str ((ByteArray.mk #[]).data.toList)), (2, .ptr 0 []), (1, (zo 7 zx) f)]) (fun a => [(0, .var true (zI e))]) 15 h zd (fun a q t d h => ?_)
 refine za h ?_ ?_ <;> intro _ h
 refine zn zx h rfl fun _ h => zb h (fun _ => zDv) fun g h => zb h (fun _ => wx) fun i h => zj h fun _ h => zj h fun _ h => zj h fun _ h => zj h fun _ h => zn SV.str h rfl fun j h => zj h fun _ h => zj h fun _ h => ?_
 refine zn SV.str h rfl fun k h => zj h fun _ h => zj h fun _ h => zb h (fun _ => wx) fun l h => zj h fun _ h => zj h fun _ h => ?_
 refine qb (by decide) ?_
 refine zl (by decide) rfl ?_
 refine zb h (fun _ => wx) fun m h => zj h fun _ h => zj h fun _ h => ?_
 refine qb (by decide) ?_
 refine zl (by decide) rfl ?_
 refine zb h (fun _ => wx) fun n h => zj h fun _ h => zj h fun _ h => ze h fun o h => ?_
 exact d ((o, a.snd ++ i ++ (ByteArray.mk #[32]).data.toList ++ g.fst ++ (ByteArray.mk #[32]).data.toList ++ j ++ (ByteArray.mk #[32]).data.toList ++ k ++ (ByteArray.mk #[32]).data.toList ++ l ++ (ByteArray.mk #[32]).data.toList ++ m ++ (ByteArray.mk #[32]).data.toList ++ n ++ (ByteArray.mk #[10]).data.toList)) h zd
 exact c (a.snd) h zd
theorem zGf {e : List UInt8} {r : Int × Int} (h : zkx e = some r) : Ret E 54 [SV.str e] (SV.tup [SV.int .i64 r.fst, SV.int .i64 r.snd]) := by
 refine rg [0] Tryz.func54 h fun h => ?_
 refine call L_release_folds ?_
 refine zq (fun (d : Unit) => [(3, .int .i64 0), (2, .int .i64 0)]) (fun _ => []) 1 h (fun d h => ?_) (fun f c b h => ?_)
 cases h; exact .r
 refine zex fun g a => ?_
 refine pT ?_
 refine zl (by decide) rfl ?_
 refine pF ?_
 refine zu (r := (1 : Int)) (by decide) ?_
 refine a _ _ _ ?_
 refine pT ?_
 refine zl (by decide) rfl ?_
 refine pT ?_
 refine za h ?_ ?_ <;> intro _ h
 refine b ?_
 cases h; exact .r
 refine zu (r := (2 : Int)) (by decide) ?_
 refine a _ _ _ ?_
 refine pT ?_
 refine zl (by decide) rfl ?_
 refine pT ?_
 refine za h ?_ ?_ <;> intro _ h
 refine b ?_
 cases h; exact .r
 refine zu (r := (3 : Int)) (by decide) ?_
 refine a _ _ _ ?_
 refine pT ?_
 refine zl (by decide) rfl ?_
 refine pT ?_
 refine za h ?_ ?_ <;> intro _ h
 refine b ?_
 cases h; exact .r
 refine zu (r := (4 : Int)) (by decide) ?_
 refine a _ _ _ ?_
 refine pT ?_
 refine zl (by decide) rfl ?_
 refine pT ?_
 refine za h ?_ ?_ <;> intro _ h
 refine b ?_
 cases h; exact .r
 refine zu (r := (5 : Int)) (by decide) ?_
 refine a _ _ _ ?_
 refine pF ?_
 exact c (()) h zd
theorem zDf {a : TL} {b : List UInt8} {r : Int × Int} (h : zpv a b = some r) : Ret E 55 [zJ a, .str b] (SV.tup [SV.int .i64 r.fst, SV.int .i64 r.snd]) := by
 refine rg [] Tryz.func55 h fun h => ?_
 refine zb h (fun _ hx => zay (zDx hx) (WkT.same (WkT.wk .nils rfl rfl rfl WkT.nil))) fun _ h => za h (fun _ h => ?_) fun _ h => ?_
 cases h; exact .r
 refine zb h (fun _ => zDa) fun _ h => za h (fun _ h => ?_) fun _ h => ?_
 cases h; exact .r
 cases h; exact .r
theorem zFz {b : List Int} {r : Int} (h : zs9 b = some r) : Ret E 56 [zo 1 (SV.int .i64) b] (SV.int .i64 r) := by
 refine rg [0] Tryz.func56 h fun h => ?_
 refine zq (fun (f : Unit) => [(3, .int .i64 0), (2, .int .i64 0)]) (fun _ => []) 1 h (fun f h => ?_) (fun j c d h => ?_)
 cases h; exact .r
 refine zm (fun (a : Int) => [(8, .int .i64 a), (7, .int .i64 ((↑(List.length (List.map (SV.int .i64) b)) : Int))), (6, (zo 1 (SV.int .i64)) b), (3, .int .i64 0), (2, .int .i64 0)]) (fun _ => []) 5 h zd (fun a i k e h => ?_)
 refine za h ?_ ?_ <;> intro _ h
 refine zn (SV.int .i64) h rfl fun _ h => za h (fun _ h => ?_) fun _ h => ?_
 refine d ?_
 cases h; exact .r
 refine ze h fun g h => ?_
 exact e g h zd
 exact c (()) h zd
end Go.Sx.Tz
