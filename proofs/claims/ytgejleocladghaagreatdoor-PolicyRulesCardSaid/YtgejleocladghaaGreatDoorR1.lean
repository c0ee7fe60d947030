/-
  An own text of this claim.
-/
import Derived.Test.YtgejleocladghaaGreatDoorQ2
namespace Go.Sx.Tz
open Go.Proofs Go.Sx.O
set_option maxRecDepth 100000
set_option maxHeartbeats 4000000
set_option linter.unusedSimpArgs false
theorem rg {α : Type} {f : Nat} {fn : Func} {vs : List SV} {r : SV} {x : Option α} {y : α} (cuts : List Nat) (hf : E.P.funcs[f]? = some fn) (h : x = some y) (hx : x.bind some = some y -> fnG E cuts fn vs fun v => Wk v r) (hB : fnB fn = true := by kernel_rfl) (hl : Nat.ble vs.length fn.ntmps = true := by exact rfl) : Ret E f vs r := zpk ok hf hB hl (hx (zzp h))
theorem Rz0 {b : List (List UInt8)} {r : Bool} (h : Fz0 b = some r) : Ret E 18 [zm 1 SV.str b] (SV.bool r) := by
 refine rg [0] Tryz.func18 h fun h => ?_
 refine zx (fun (f : Unit) => [(2, .fls), (0, (zm 1 SV.str) b)]) (fun _ => []) 1 h (fun f h => ?_) (fun j a d h => ?_)
 cases h; exact .r
 refine zr (fun (c : Int) => [(3, .int .i64 c), (2, .fls), (0, (zm 1 SV.str) b)]) (fun _ => []) 2 h ze (fun c i k e h => ?_)
 refine za h ?_ ?_ <;> intro _ h
 refine za h ?_ ?_ <;> intro _ h
 refine zw SV.str h rfl fun _ h => za h (fun _ h => ?_) fun _ h => ?_
 refine d ?_
 cases h; exact .r
 refine zd h fun g h => ?_
 exact e g h ze
 exact a (()) h ze
 exact a (()) h ze
theorem Rz1 {a : TL} {r : Bool} (h : Fz1 a = some r) : Ret E 10 [qk a] (SV.bool r) := by
 refine rg [] Tryz.func10 h fun h => ?_
 refine zf h (fun _ => Rz0) fun _ h => ?_
 refine qV h (fun b h => ?_) (fun b h => ?_)
 cases h; exact .r
 cases h; exact .r
theorem Rz2 {a : TP} {r : Bool} (h : Fz2 a = some r) : Ret E 4 [qn a] (SV.bool r) := by
 refine rg [0, 2] Tryz.func4 h fun h => ?_
 refine zx (fun (i : Unit) => [(2, .fls), (1, .ptr 0 [])]) (fun i => [(0, .var true (qn a))]) 1 h (fun i h => ?_) (fun v d j h => ?_)
 refine zx (fun (e : Unit) => [(2, .fls), (1, .ptr 0 [])]) (fun e => [(0, .var true (qn a))]) 1 h (fun e h => ?_) (fun s b f h => ?_)
 refine zf h (fun _ => Rz1) fun _ h => ?_
 refine qV h (fun k h => ?_) (fun k h => ?_)
 cases h; exact .r
 refine qV h (fun l h => ?_) (fun l h => ?_)
 cases h; exact .r
 refine qV h (fun m h => ?_) (fun m h => ?_)
 cases h; exact .r
 cases h; exact .r
 refine zr (fun (c : Int) => [(4, .int .i64 c), (2, .fls), (1, .ptr 0 [])]) (fun c => [(0, .var true (qn a))]) 2 h ze (fun c q t g h => ?_)
 refine za h ?_ ?_ <;> intro _ h
 refine za h ?_ ?_ <;> intro _ h
 refine zw yp h rfl fun _ h => za h (fun _ h => ?_) fun _ h => ?_
 refine f ?_
 cases h; exact .r
 refine zd h fun n h => ?_
 exact g n h ze
 exact b (()) h ze
 exact b (()) h ze
 refine zr (fun (s3 : Int) => [(3, .int .i64 s3), (2, .fls), (1, .ptr 0 [])]) (fun s3 => [(0, .var true (qn a))]) 3 h ze (fun s3 u w o h => ?_)
 refine za h ?_ ?_ <;> intro _ h
 refine za h ?_ ?_ <;> intro _ h
 refine zw qa h rfl fun _ h => za h (fun _ h => ?_) fun _ h => ?_
 refine j ?_
 cases h; exact .r
 refine zd h fun p h => ?_
 exact o p h ze
 exact d (()) h ze
 exact d (()) h ze
theorem Rz3 {f : List UInt8} {d : Int} {r : List UInt8} (h : Fz3 f d = some r) : Ret E 105 [SV.str f, SV.int .u8 d] (SV.str r) := by
 refine rg [0] Tryz.func105 h fun h => ?_
 refine zx (fun (c : List UInt8) => [(4, .str ((ByteArray.mk #[]).data.toList)), (0, .str c)]) (fun _ => []) 1 h (fun c h => ?_) (fun k b i h => ?_)
 cases h; exact .r
 refine zr (fun (a : List UInt8) => [(4, .str ((ByteArray.mk #[]).data.toList)), (1, .int .u8 d), (0, .str a)]) (fun _ => []) 1 h ze (fun a j l e h => ?_)
 refine za h ?_ ?_ <;> intro _ h
 refine zd h fun m h => zt h fun n h => za h (fun _ h => ?_) fun _ h => ?_
 refine zd h fun g h => zl h fun _ h => ?_
 exact e (List.drop (Int.toNat (0 : Int)) (List.take (Int.toNat g) a)) h ze
 exact b a h ze
 exact b a h ze
theorem Rz4 {f : List UInt8} {d : Int} {r : List UInt8} (h : Fz4 f d = some r) : Ret E 104 [SV.str f, SV.int .u8 d] (SV.str r) := by
 refine rg [0] Tryz.func104 h fun h => ?_
 refine zx (fun (c : List UInt8) => [(4, .str ((ByteArray.mk #[]).data.toList)), (0, .str c)]) (fun _ => []) 1 h (fun c h => ?_) (fun j b g h => ?_)
 cases h; exact .r
 refine zr (fun (a : List UInt8) => [(4, .str ((ByteArray.mk #[]).data.toList)), (1, .int .u8 d), (0, .str a)]) (fun _ => []) 1 h ze (fun a i k e h => ?_)
 refine za h ?_ ?_ <;> intro _ h
 refine zt h fun _ h => za h (fun _ h => ?_) fun _ h => ?_
 refine zl h fun _ h => ?_
 exact e (List.drop (Int.toNat (1 : Int)) (List.take (Int.toNat (↑(List.length a) : Int)) a)) h ze
 exact b a h ze
 exact b a h ze
theorem Rz5 {c : List UInt8} {r : List Bool × Bool} (h : Fz5 c = some r) : Ret E 106 [SV.str c] (SV.tup [zK 256 1 SV.bool r.fst, .bool r.snd]) := by
 refine rg [0] Tryz.func106 h fun h => ?_
 refine zx (fun (b : List Bool) => [(3, .fls), (2, .ptr 0 [])]) (fun b => [(0, .var true ((zK 256 1 SV.bool) b))]) 1 h (fun b h => ?_) (fun k d e h => ?_)
 cases h; exact .r
 refine zr (fun (a : Int × List Bool) => [(4, .int .i64 (a.fst)), (3, .fls), (2, .ptr 0 []), (0, .str c)]) (fun a => [(0, .var true ((zK 256 1 SV.bool) (a.snd)))]) 3 h (ww ⟨.refl _, .refl _, .refl _, .refl _, trivial⟩ ⟨(.var (.arr (zew (by kernel_rfl)))), trivial⟩ rfl rfl rfl) (fun a j l f h => ?_)
 refine za h ?_ ?_ <;> intro _ h
 refine zt h fun g h => za h (fun _ h => ?_) fun _ h => ?_
 refine e ?_
 cases h; exact .r
 refine zl h fun _ h => zw SV.bool h rfl fun _ h => zd h fun i h => ?_
 exact f ((i, List.set a.snd (Int.toNat (↑(UInt8.toNat g) : Int)) true)) h (ww ⟨.refl _, .refl _, .refl _, .refl _, trivial⟩ ⟨(.var (.arr (.setm .refl .tru))), trivial⟩ rfl rfl rfl)
 exact d (a.snd) h ze
theorem Rz6 {a : List Bool} {b : Int} {r : Bool} (h : Fz6 a b = some r) : Ret E 125 [wt (zK 256 1 SV.bool) a, SV.int .u8 b] (SV.bool r) := by
 refine rg [] Tryz.func125 h fun h => ?_
 refine zl h fun _ h => zw SV.bool h rfl fun c h => ?_
 cases h; exact .r
theorem Rz7 {g : List UInt8} {e : List Bool} {r : List UInt8} (h : Fz7 g e = some r) : Ret E 108 [SV.str g, wt (zK 256 1 SV.bool) e] (SV.str r) := by
 refine rg [0] Tryz.func108 h fun h => ?_
 refine zx (fun (c : List UInt8) => [(4, .str ((ByteArray.mk #[]).data.toList)), (0, .str c)]) (fun _ => []) 1 h (fun c h => ?_) (fun k b i h => ?_)
 cases h; exact .r
 refine zr (fun (a : List UInt8) => [(4, .str ((ByteArray.mk #[]).data.toList)), (1, (wt (zK 256 1 SV.bool)) e), (0, .str a)]) (fun _ => []) 1 h ze (fun a j l d h => ?_)
 refine za h ?_ ?_ <;> intro _ h
 refine zd h fun m h => zt h fun n h => zf h (fun _ => Rz6) fun o h => za h (fun _ h => ?_) fun _ h => ?_
 exact b a h ze
 refine zd h fun f h => zl h fun _ h => ?_
 exact d (List.drop (Int.toNat (0 : Int)) (List.take (Int.toNat f) a)) h ze
 exact b a h ze
theorem Rz8 {f : List UInt8} {e : List Bool} {r : List UInt8} (h : Fz8 f e = some r) : Ret E 107 [SV.str f, wt (zK 256 1 SV.bool) e] (SV.str r) := by
 refine rg [0] Tryz.func107 h fun h => ?_
 refine zx (fun (c : List UInt8) => [(4, .str ((ByteArray.mk #[]).data.toList)), (0, .str c)]) (fun _ => []) 1 h (fun c h => ?_) (fun j b g h => ?_)
 cases h; exact .r
 refine zr (fun (a : List UInt8) => [(4, .str ((ByteArray.mk #[]).data.toList)), (1, (wt (zK 256 1 SV.bool)) e), (0, .str a)]) (fun _ => []) 1 h ze (fun a i k d h => ?_)
 refine za h ?_ ?_ <;> intro _ h
 refine zt h fun l h => zf h (fun _ => Rz6) fun _ h => za h (fun _ h => ?_) fun _ h => ?_
 exact b a h ze
 refine zl h fun _ h => ?_
 exact d (List.drop (Int.toNat (1 : Int)) (List.take (Int.toNat (↑(List.length a) : Int)) a)) h ze
 exact b a h ze
theorem Rz9 {a : Int} {r : Bool} (h : Fz9 a = some r) : Ret E 153 [SV.int .u8 a] (SV.bool r) := by
 refine rg [] Tryz.func153 h fun h => ?_
 unfold Fz9 at h
 cases h; exact .r
theorem zxp {a : List UInt8} {r : Int × Int} (h : zt3 a = some r) : Ret E 95 [SV.str a] (SV.tup [SV.int .i32 r.fst, SV.int .i64 r.snd]) := by
 refine rg [] Tryz.func95 h fun h => ?_
 refine za h ?_ ?_ <;> intro _ h
 cases h; exact .r
 refine zt h fun b h => ?_
 exact jb h
theorem ztz {a : List UInt8} {r : Int × Int} (h : zp2 a = some r) : Ret E 71 [SV.str a] (SV.tup [SV.int .i32 r.fst, SV.int .i64 r.snd]) := by
 refine rg [] Tryz.func71 h fun h => ?_
 refine za h ?_ ?_ <;> intro _ h
 refine zt h fun b h => za h (fun _ h => ?_) fun _ h => ?_
 refine zt h fun c h => zd h fun _ h => ?_
 cases h; exact .r
 refine zf h (fun _ => zxp) fun d h => ?_
 cases h; exact .r
 refine zf h (fun _ => zxp) fun e h => ?_
 cases h; exact .r
theorem zA6 {c : List UInt8} {r : Int × Int} (h : zyt c = some r) : Ret E 127 [SV.str c] (SV.tup [SV.int .i32 r.fst, SV.int .i64 r.snd]) := by
 refine rg [0] Tryz.func127 h fun h => ?_
 refine za h ?_ ?_ <;> intro _ h
 cases h; exact .r
 refine zd h fun n h => zt h fun o h => zd h fun d h => za h (fun _ h => ?_) fun _ h => ?_
 cases h; exact .r
 refine zd h fun g h => zd h fun _ h => ?_
 refine zx (fun (e : Int) => [(5, .int .i64 e), (2, .int .i32 d), (4, .int .i64 ((↑(List.length c) : Int))), (3, .int .i64 0), (0, .str c)]) (fun _ => []) 1 h (fun e h => ?_) (fun p b l h => ?_)
 refine za h (fun i h => ?_) (fun i h => ?_)
 refine zl h fun _ h => zf h (fun _ => ztz) fun q h => zd h fun s h => za h (fun _ h => ?_) fun _ h => ?_
 cases h; exact .r
 cases h; exact .r
 refine zl h fun _ h => zf h (fun _ => ztz) fun t h => zd h fun u h => za h (fun _ h => ?_) fun _ h => ?_
 cases h; exact .r
 cases h; exact .r
 refine zr (fun (a : Int) => [(5, .int .i64 a), (6, .int .i64 (max g 0)), (2, .int .i32 d), (4, .int .i64 ((↑(List.length c) : Int))), (3, .int .i64 0), (0, .str c)]) (fun _ => []) 24 h ze (fun a m v f h => ?_)
 refine za h ?_ ?_ <;> intro _ h
 refine zt h fun w h => zf h (fun _ => Rz9) fun x h => za h (fun j h => ?_) (fun j h => ?_)
 exact b a h ze
 refine zd h fun k h => ?_
 exact f k h ze
 exact b a h ze
theorem zt8 {a : List UInt8} {b : Int} {r : Int} (h : zc2 a b = some r) : Ret E 182 [SV.str a, SV.int .u8 b] (SV.int .i64 r) := by
 refine rg [] Tryz.func182 h fun h => ?_
 refine zf h (fun _ => jH) fun c h => ?_
 cases h; exact .r
theorem zuz {a : Int} {r : Bool} (h : zcx a = some r) : Ret E 183 [SV.int .i32 a] (SV.bool r) := by
 refine rg [] Tryz.func183 h fun h => ?_
 refine za h ?_ ?_ <;> intro _ h
 refine za h ?_ ?_ <;> intro _ h
 cases h; exact .r
 refine za h ?_ ?_ <;> intro _ h
 refine za h ?_ ?_ <;> intro _ h
 cases h; exact .r
 cases h; exact .r
 cases h; exact .r
 refine za h ?_ ?_ <;> intro _ h
 refine za h ?_ ?_ <;> intro _ h
 cases h; exact .r
 cases h; exact .r
 cases h; exact .r
theorem zBg {d : List UInt8} {a : Int} {r : Int} (h : zg9 d a = some r) : Ret E 152 [SV.str d, SV.int .i32 a] (SV.int .i64 r) := by
 refine rg [9, 1, 3, 5, 7] Tryz.func152 h fun h => ?_
 refine za h ?_ ?_ <;> intro _ h
 refine za h ?_ ?_ <;> intro _ h
 refine zd h fun Z h => zf h (fun _ => zt8) fun a2 h => ?_
 cases h; exact .r
 refine za h ?_ ?_ <;> intro _ h
 exact jb h
 refine zf h (fun _ => zuz) fun a3 h => za h (fun _ h => ?_) fun _ h => ?_
 cases h; exact .r
 refine zd h fun b h => ?_
 refine zx (fun (y : Unit) => [(9, .int .i64 b), (8, .int .i64 b), (7, .str ((Utf8.encode a).data.toList)), (4, .int .i64 0), (1, .int .i32 a), (0, .str d)]) (fun _ => []) 1 h (fun y h => ?_) (fun a4 n e h => ?_)
 cases h; exact .r
 refine zr (fun (z : Unit) => [(10, .int .i64 0), (9, .int .i64 b), (8, .int .i64 b), (7, .str ((Utf8.encode a).data.toList)), (4, .int .i64 0), (1, .int .i32 a), (0, .str d)]) (fun _ => []) 25 h ze (fun z N a5 O h => ?_)
 refine za h ?_ ?_ <;> intro _ h
 refine ⟨by trivial, ?_⟩
 refine zt h fun a6 h => zt h fun a7 h => za h (fun _ h => ?_) fun _ h => ?_
 refine ⟨by trivial, ?_⟩
 refine zd h fun _ h => zl h fun _ h => zt h fun a8 h => zf h (fun _ => zt8) fun a9 h => za h (fun _ h => ?_) fun _ h => ?_
 refine e ?_
 cases h; exact .r
 refine zd h fun _ h => zd h fun g h => ?_
 refine zx (fun (A : Unit) => [(9, .int .i64 g), (10, .int .i64 0), (8, .int .i64 b), (7, .str ((Utf8.encode a).data.toList)), (4, .int .i64 0), (1, .int .i32 a), (0, .str d)]) (fun _ => []) 1 h (fun A h => ?_) (fun b0 o P h => ?_)
 refine zd h fun _ h => ?_
 refine e ?_
 cases h; exact .r
 refine zr (fun (i : Int) => [(12, .int .i64 i), (9, .int .i64 g), (10, .int .i64 0), (8, .int .i64 b), (7, .str ((Utf8.encode a).data.toList)), (4, .int .i64 0), (1, .int .i32 a), (0, .str d)]) (fun _ => []) 53 h ze (fun i Q b1 p h => ?_)
 refine za h ?_ ?_ <;> intro _ h
 refine ⟨by trivial, ?_⟩
 refine zd h fun _ h => zt h fun _ h => zd h fun _ h => zt h fun _ h => za h (fun _ h => ?_) fun _ h => ?_
 exact jb h
 refine zd h fun C h => ?_
 exact p C h ze
 exact o (()) h ze
 refine zx (fun (D : Unit) => [(10, .int .i64 0), (9, .int .i64 b), (8, .int .i64 b), (7, .str ((Utf8.encode a).data.toList)), (4, .int .i64 0), (1, .int .i32 a), (0, .str d)]) (fun _ => []) 1 h (fun D h => ?_) (fun b2 q R h => ?_)
 refine zd h fun b3 h => ?_
 refine e ?_
 cases h; exact .r
 refine zr (fun (j : Int) => [(12, .int .i64 j), (10, .int .i64 0), (9, .int .i64 b), (8, .int .i64 b), (7, .str ((Utf8.encode a).data.toList)), (4, .int .i64 0), (1, .int .i32 a), (0, .str d)]) (fun _ => []) 37 h ze (fun j S b4 s h => ?_)
 refine za h ?_ ?_ <;> intro _ h
 refine ⟨by trivial, ?_⟩
 refine zd h fun _ h => zt h fun b5 h => zd h fun b6 h => zt h fun _ h => za h (fun _ h => ?_) fun _ h => ?_
 exact jb h
 refine zd h fun F h => ?_
 exact s F h ze
 exact q (()) h ze
 exact n (()) h ze
 refine za h ?_ ?_ <;> intro _ h
 exact jb h
 refine zf h (fun _ => zuz) fun _ h => za h (fun _ h => ?_) fun _ h => ?_
 cases h; exact .r
 refine zd h fun c h => ?_
 refine zx (fun (G : Unit) => [(9, .int .i64 c), (8, .int .i64 c), (7, .str ((Utf8.encode a).data.toList)), (4, .int .i64 0), (1, .int .i32 a), (0, .str d)]) (fun _ => []) 1 h (fun G h => ?_) (fun b7 t f h => ?_)
 cases h; exact .r
 refine zr (fun (H : Unit) => [(10, .int .i64 0), (9, .int .i64 c), (8, .int .i64 c), (7, .str ((Utf8.encode a).data.toList)), (4, .int .i64 0), (1, .int .i32 a), (0, .str d)]) (fun _ => []) 23 h ze (fun H T b8 U h => ?_)
 refine za h ?_ ?_ <;> intro _ h
 refine ⟨by trivial, ?_⟩
 refine zt h fun _ h => zt h fun _ h => za h (fun _ h => ?_) fun _ h => ?_
 refine ⟨by trivial, ?_⟩
 refine zd h fun b9 h => zl h fun _ h => zt h fun _ h => zf h (fun _ => zt8) fun c0 h => za h (fun _ h => ?_) fun _ h => ?_
 refine f ?_
 cases h; exact .r
 refine zd h fun _ h => zd h fun k h => ?_
 refine zx (fun (I : Unit) => [(9, .int .i64 k), (10, .int .i64 0), (8, .int .i64 c), (7, .str ((Utf8.encode a).data.toList)), (4, .int .i64 0), (1, .int .i32 a), (0, .str d)]) (fun _ => []) 1 h (fun I h => ?_) (fun c1 u V h => ?_)
 refine zd h fun _ h => ?_
 refine f ?_
 cases h; exact .r
 refine zr (fun (l : Int) => [(12, .int .i64 l), (9, .int .i64 k), (10, .int .i64 0), (8, .int .i64 c), (7, .str ((Utf8.encode a).data.toList)), (4, .int .i64 0), (1, .int .i32 a), (0, .str d)]) (fun _ => []) 51 h ze (fun l W c2 v h => ?_)
 refine za h ?_ ?_ <;> intro _ h
 refine ⟨by trivial, ?_⟩
 refine zd h fun c3 h => zt h fun _ h => zd h fun c4 h => zt h fun c5 h => za h (fun _ h => ?_) fun _ h => ?_
 exact jb h
 refine zd h fun J h => ?_
 exact v J h ze
 exact u (()) h ze
 refine zx (fun (K : Unit) => [(10, .int .i64 0), (9, .int .i64 c), (8, .int .i64 c), (7, .str ((Utf8.encode a).data.toList)), (4, .int .i64 0), (1, .int .i32 a), (0, .str d)]) (fun _ => []) 1 h (fun K h => ?_) (fun c6 w X h => ?_)
 refine zd h fun c7 h => ?_
 refine f ?_
 cases h; exact .r
 refine zr (fun (m : Int) => [(12, .int .i64 m), (10, .int .i64 0), (9, .int .i64 c), (8, .int .i64 c), (7, .str ((Utf8.encode a).data.toList)), (4, .int .i64 0), (1, .int .i32 a), (0, .str d)]) (fun _ => []) 35 h ze (fun m Y c8 x h => ?_)
 refine za h ?_ ?_ <;> intro _ h
 refine ⟨by trivial, ?_⟩
 refine zd h fun c9 h => zt h fun d0 h => zd h fun _ h => zt h fun _ h => za h (fun L h => ?_) (fun L h => ?_)
 exact jb h
 refine zd h fun M h => ?_
 exact x M h ze
 exact w (()) h ze
 exact t (()) h ze
theorem zfb {a : List UInt8} {b : Int} {r : Bool} (h : xz a b = some r) : Ret E 126 [SV.str a, SV.int .i32 b] (SV.bool r) := by
 refine rg [] Tryz.func126 h fun h => ?_
 refine zf h (fun _ => zBg) fun c h => ?_
 cases h; exact .r
theorem zyl {j : List UInt8} {e : List UInt8} {r : List UInt8} (h : zvc j e = some r) : Ret E 110 [SV.str j, .str e] (SV.str r) := by
 refine rg [0] Tryz.func110 h fun h => ?_
 refine zx (fun (d : List UInt8) => [(4, .str ((ByteArray.mk #[]).data.toList)), (0, .str d)]) (fun _ => []) 1 h (fun d h => ?_) (fun m b k h => ?_)
 cases h; exact .r
 refine zr (fun (a : List UInt8) => [(4, .str ((ByteArray.mk #[]).data.toList)), (1, .str e), (0, .str a)]) (fun _ => []) 1 h ze (fun a l n c h => ?_)
 refine za h ?_ ?_ <;> intro _ h
 refine zd h fun _ h => zt h fun _ h => zd h fun _ h => za h (fun _ h => ?_) fun _ h => ?_
 refine zf h (fun _ => zA6) fun _ h => zf h (fun _ => zfb) fun _ h => za h (fun _ h => ?_) fun _ h => ?_
 exact b a h ze
 refine zd h fun f h => zl h fun _ h => ?_
 exact c (List.drop (Int.toNat (0 : Int)) (List.take (Int.toNat f) a)) h ze
 refine zf h (fun _ => zfb) fun o h => za h (fun g h => ?_) (fun g h => ?_)
 exact b a h ze
 refine zd h fun i h => zl h fun _ h => ?_
 exact c (List.drop (Int.toNat (0 : Int)) (List.take (Int.toNat i) a)) h ze
 exact b a h ze
theorem zyy {g : List UInt8} {e : List UInt8} {r : List UInt8} (h : zs0 g e = some r) : Ret E 109 [SV.str g, .str e] (SV.str r) := by
 refine rg [0] Tryz.func109 h fun h => ?_
 refine zx (fun (c : List UInt8) => [(4, .str ((ByteArray.mk #[]).data.toList)), (0, .str c)]) (fun _ => []) 1 h (fun c h => ?_) (fun k b i h => ?_)
 cases h; exact .r
 refine zr (fun (a : List UInt8) => [(4, .str ((ByteArray.mk #[]).data.toList)), (1, .str e), (0, .str a)]) (fun _ => []) 1 h ze (fun a j l d h => ?_)
 refine za h ?_ ?_ <;> intro _ h
 refine zf h (fun _ => ztz) fun f h => zf h (fun _ => zfb) fun m h => za h (fun _ h => ?_) fun _ h => ?_
 exact b a h ze
 refine zl h fun _ h => ?_
 exact d (List.drop (Int.toNat f.snd) (List.take (Int.toNat (↑(List.length a) : Int)) a)) h ze
 exact b a h ze
theorem zAv {a : List UInt8} {b : List UInt8} {r : List UInt8} (h : zpe a b = some r) : Ret E 78 [SV.str a, .str b] (SV.str r) := by
 refine rg [] Tryz.func78 h fun h => ?_
 refine qV h (fun c h => ?_) (fun c h => ?_)
 cases h; exact .r
 refine za h ?_ ?_ <;> intro _ h
 cases h; exact .r
 refine za h ?_ ?_ <;> intro _ h
 refine zt h fun l h => za h (fun _ h => ?_) fun _ h => ?_
 refine ⟨by trivial, ?_⟩
 refine zt h fun m h => zf h (fun _ => Rz3) fun _ h => zt h fun _ h => zf h (fun _ => Rz4) fun _ h => ?_
 cases h; exact .r
 refine zf h (fun _ => Rz5) fun n h => za h (fun _ h => ?_) fun _ h => ?_
 refine zf h (fun _ => Rz7) fun d h => zf h (fun _ => Rz8) fun e h => ?_
 cases h; exact .r
 refine zf h (fun _ => zyl) fun _ h => zf h (fun _ => zyy) fun f h => ?_
 cases h; exact .r
 refine zf h (fun _ => Rz5) fun g h => za h (fun _ h => ?_) fun _ h => ?_
 refine zf h (fun _ => Rz7) fun i h => zf h (fun _ => Rz8) fun j h => ?_
 cases h; exact .r
 refine zf h (fun _ => zyl) fun k h => zf h (fun _ => zyy) fun _ h => ?_
 cases h; exact .r
theorem zAj {a : List UInt8} {r : Bool} (h : zqd a = some r) : Ret E 62 [SV.str a] (SV.bool r) := by
 refine rg [] Tryz.func62 h fun h => ?_
 refine qV h (fun b h => ?_) (fun b h => ?_)
 cases h; exact .r
 refine qV h (fun c h => ?_) (fun c h => ?_)
 cases h; exact .r
 refine zt h fun _ h => ?_
 refine qV h (fun d h => ?_) (fun d h => ?_)
 cases h; exact .r
 refine zt h fun _ h => za h (fun _ h => ?_) fun _ h => ?_
 cases h; exact .r
 refine zf h (fun _ => zAv) fun e h => ?_
 cases h; exact .r
theorem zBa {b : List (List UInt8)} {f : List UInt8} {r : Int} (h : zqp b f = some r) : Ret E 79 [zm 1 SV.str b, .str f] (SV.int .i64 r) := by
 refine rg [0] Tryz.func79 h fun h => ?_
 refine zx (fun (g : Unit) => [(4, .int .i64 0)]) (fun _ => []) 1 h (fun g h => ?_) (fun k c d h => ?_)
 cases h; exact .r
 refine zr (fun (a : Int) => [(8, .int .i64 a), (7, .int .i64 ((↑(List.length (List.map SV.str b)) : Int))), (4, .int .i64 0), (1, .str f), (0, (zm 1 SV.str) b)]) (fun _ => []) 4 h ze (fun a j l e h => ?_)
 refine za h ?_ ?_ <;> intro _ h
 refine zw SV.str h rfl fun m h => za h (fun _ h => ?_) fun _ h => ?_
 refine d ?_
 cases h; exact .r
 refine zd h fun i h => ?_
 exact e i h ze
 exact c (()) h ze
theorem zz3 {a : List (List UInt8)} {b : List UInt8} {r : Bool} (h : zqn a b = some r) : Ret E 63 [zm 1 SV.str a, .str b] (SV.bool r) := by
 refine rg [] Tryz.func63 h fun h => ?_
 refine zf h (fun _ => zBa) fun c h => ?_
 cases h; exact .r
theorem zAg {a : List (List UInt8)} {r : Int × Int} (h : zha a = some r) : Ret E 42 [zm 1 SV.str a] (SV.tup [SV.int .i64 r.fst, SV.int .i64 r.snd]) := by
 refine rg [0] Tryz.func42 h fun h => ?_
 refine qV h (fun f h => ?_) (fun f h => ?_)
 cases h; exact .r
 refine za h ?_ ?_ <;> intro _ h
 cases h; exact .r
 refine zx (fun (g : Unit) => [(3, .int .i64 0), (2, .int .i64 0)]) (fun _ => []) 1 h (fun g h => ?_) (fun k d b h => ?_)
 cases h; exact .r
 refine zr (fun (c : Int) => [(16, .int .i64 c), (15, .int .i64 ((↑(List.length (List.map SV.str a)) : Int))), (14, (zm 1 SV.str) a), (3, .int .i64 0), (2, .int .i64 0), (0, (zm 1 SV.str) a)]) (fun _ => []) 13 h ze (fun c j l e h => ?_)
 refine za h ?_ ?_ <;> intro _ h
 refine zw SV.str h rfl fun _ h => zf h (fun _ => zAj) fun _ h => za h (fun _ h => ?_) fun _ h => ?_
 refine b ?_
 cases h; exact .r
 refine zl h fun _ h => zf h (fun _ hx => zbe (zz3 hx) (WkT.wk (.sl (.of (by first | (simp only [zm, zK, List.map_append, List.map_take, List.map_drop, List.map_set, List.map_replicate]; done) | (simp [zm, zK, List.map_append, List.map_take, List.map_drop, List.map_set, List.map_replicate]; done) | rfl))) rfl rfl rfl (WkT.same WkT.nil))) fun m h => ?_
 refine za h ?_ ?_ <;> intro _ h
 refine b ?_
 cases h; exact .r
 refine zd h fun i h => ?_
 exact e i h ze
 exact d (()) h ze
theorem zz7 {a : Int} {r : Int} (h : zhu a = some r) : Ret E 43 [SV.int .u8 a] (SV.int .i64 r) := by
 refine rg [] Tryz.func43 h fun h => ?_
 refine zt h fun b h => zd h fun c h => ?_
 cases h; exact .r
theorem zyp {c : TL} {r : Tlattice_order} (h : zeq c = some r) : Ret E 44 [wt qk c] (qg r) := by
 refine rg [0, 2] Tryz.func44 h fun h => ?_
 refine zx (fun (d : List Int × List Int) => [(3, .ptr (7) []), (2, .ptr 0 [])]) (fun d => [(7, .var true (qg (Tlattice_order.mk (↑(List.length (List.map SV.str c.Names)) : Int) d.fst d.snd))), (0, .var true (qg (Tlattice_order.mk 0 [0, 0, 0, 0, 0, 0, 0, 0] [0, 0, 0, 0, 0, 0, 0, 0])))]) 8 h (fun d h => ?_) (fun u g p h => ?_)
 cases h; exact .r
 refine zr (fun (a : Int × List Int × List Int) => [(18, .int .i64 (a.fst)), (17, .int .i64 ((↑(List.length (List.map (SV.int .u8) c.Up)) : Int))), (16, (zm 1 (SV.int .u8)) (c.Up)), (3, .ptr (7) []), (2, .ptr 0 [])]) (fun a => [(7, .var true (qg (Tlattice_order.mk (↑(List.length (List.map SV.str c.Names)) : Int) a.snd.fst a.snd.snd))), (0, .var true (qg (Tlattice_order.mk 0 [0, 0, 0, 0, 0, 0, 0, 0] [0, 0, 0, 0, 0, 0, 0, 0])))]) 15 h ze (fun a q v i h => ?_)
 refine za h ?_ ?_ <;> intro _ h
 refine zw (SV.int .u8) h rfl fun e h => zl h fun _ h => zw (SV.int .u8) h rfl fun w h => ?_
 refine zx (fun (f : List Int) => [(18, .int .i64 (a.fst)), (17, .int .i64 ((↑(List.length (List.map (SV.int .u8) c.Up)) : Int))), (16, (zm 1 (SV.int .u8)) (c.Up)), (3, .ptr (7) []), (2, .ptr 0 [])]) (fun f => [(7, .var true (SV.agg [SV.int .i64 (↑(List.length (List.map SV.str c.Names)) : Int), SV.arr 8 1 (List.set (List.map (SV.int .u8) a.snd.fst) (Int.toNat a.fst) (SV.int .u8 e)), zK 8 1 (SV.int .u8) f])), (0, .var true (qg (Tlattice_order.mk 0 [0, 0, 0, 0, 0, 0, 0, 0] [0, 0, 0, 0, 0, 0, 0, 0])))]) 8 h (fun f h => ?_) (fun x j s h => ?_)
 refine zd h fun l h => ?_
 exact i ((l, List.set a.snd.fst (Int.toNat a.fst) e, f)) h (ww ⟨.refl _, .refl _, .refl _, .refl _, .refl _, trivial⟩ ⟨(.var (.agg (.cons .refl (.cons (.arr (.setm .refl .refl)) (.cons .refl .nil))))), .refl, trivial⟩ rfl rfl rfl)
 refine zr (fun (b : Int × List Int) => [(29, .int .i64 (b.fst)), (28, .int .i64 ((↑(List.length (List.map SV.str c.Names)) : Int))), (5, .int .u8 e), (4, .int .i64 (a.fst)), (18, .int .i64 (a.fst)), (17, .int .i64 ((↑(List.length (List.map (SV.int .u8) c.Up)) : Int))), (16, (zm 1 (SV.int .u8)) (c.Up)), (3, .ptr (7) []), (2, .ptr 0 [])]) (fun b => [(7, .var true (SV.agg [SV.int .i64 (↑(List.length (List.map SV.str c.Names)) : Int), SV.arr 8 1 (List.set (List.map (SV.int .u8) a.snd.fst) (Int.toNat a.fst) (SV.int .u8 e)), zK 8 1 (SV.int .u8) b.snd])), (0, .var true (qg (Tlattice_order.mk 0 [0, 0, 0, 0, 0, 0, 0, 0] [0, 0, 0, 0, 0, 0, 0, 0])))]) 29 h ze (fun b t y k h => ?_)
 refine za h ?_ ?_ <;> intro _ h
 refine ⟨by trivial, ?_⟩
 refine zl h fun _ h => zw (SV.int .u8) h rfl fun m h => zl h fun _ h => zl h fun _ h => zd h fun n h => zl h fun _ h => zw (SV.int .u8) h rfl fun z h => zd h fun o h => ?_
 exact k ((o, List.set b.snd (Int.toNat b.fst) (bits BinOp.or IntKind.u8 m n))) h (ww ⟨.refl _, .refl _, .refl _, .refl _, .refl _, .refl _, .refl _, .refl _, .refl _, trivial⟩ ⟨(.var (.agg (.cons .refl (.cons .refl (.cons (.arr (.setm .refl .refl)) .nil))))), .refl, trivial⟩ rfl rfl rfl)
 exact j (b.snd) h ze
 exact g (a.snd) h ze
theorem zA0 {e : List Int} {f : Int} {m : Int} {n : Int} {r : Int} (h : zh6 e f m n = some r) : Ret E 45 [zK 8 1 (SV.int .u8) e, SV.int .i64 f, SV.int .i64 m, SV.int .i64 n] (SV.int .i64 r) := by
 refine rg [0] Tryz.func45 h fun h => ?_
 refine ⟨by trivial, ?_⟩
 refine zl h fun _ h => zw (SV.int .u8) h rfl fun g h => zl h fun _ h => zw (SV.int .u8) h rfl fun i h => ?_
 refine zx (fun (j : Unit) => [(8, .int .i64 0)]) (fun _ => []) 1 h (fun j h => ?_) (fun p c d h => ?_)
 cases h; exact .r
 refine zr (fun (a : Int) => [(19, .int .i64 a), (18, .int .i64 f), (9, .int .u8 (bits BinOp.and IntKind.u8 g i)), (8, .int .i64 0), (4, .ptr 0 [])]) (fun a => [(0, .var true ((zK 8 1 (SV.int .u8)) e))]) 12 h ze (fun a o q b h => ?_)
 refine za h ?_ ?_ <;> intro _ h
 refine zl h fun _ h => za h (fun _ h => ?_) fun _ h => ?_
 refine zl h fun _ h => zw (SV.int .u8) h rfl fun _ h => za h (fun _ h => ?_) fun _ h => ?_
 refine d ?_
 cases h; exact .r
 refine zd h fun k h => ?_
 exact b k h ze
 refine zd h fun l h => ?_
 exact b l h ze
 exact c (()) h ze
theorem zAz {e : List Int} {f : Int} {m : Int} {n : Int} {r : Int} (h : zp4 e f m n = some r) : Ret E 46 [zK 8 1 (SV.int .u8) e, SV.int .i64 f, SV.int .i64 m, SV.int .i64 n] (SV.int .i64 r) := by
 refine rg [0] Tryz.func46 h fun h => ?_
 refine ⟨by trivial, ?_⟩
 refine zl h fun _ h => zw (SV.int .u8) h rfl fun g h => zl h fun _ h => zw (SV.int .u8) h rfl fun i h => ?_
 refine zx (fun (j : Unit) => [(8, .int .i64 0)]) (fun _ => []) 1 h (fun j h => ?_) (fun p c d h => ?_)
 cases h; exact .r
 refine zr (fun (a : Int) => [(19, .int .i64 a), (18, .int .i64 f), (9, .int .u8 (bits BinOp.and IntKind.u8 g i)), (8, .int .i64 0), (4, .ptr 0 [])]) (fun a => [(0, .var true ((zK 8 1 (SV.int .u8)) e))]) 12 h ze (fun a o q b h => ?_)
 refine za h ?_ ?_ <;> intro _ h
 refine zl h fun _ h => za h (fun _ h => ?_) fun _ h => ?_
 refine zl h fun _ h => zw (SV.int .u8) h rfl fun s h => za h (fun _ h => ?_) fun _ h => ?_
 refine d ?_
 cases h; exact .r
 refine zd h fun k h => ?_
 exact b k h ze
 refine zd h fun l h => ?_
 exact b l h ze
 exact c (()) h ze
theorem zt7 {a : TL} {r : Int × Int} (h : zax a = some r) : Ret E 29 [qk a] (SV.tup [SV.int .i64 r.fst, SV.int .i64 r.snd]) := by
 refine rg [0, 2, 5, 7] Tryz.func29 h fun h => ?_
 refine zf h (fun _ => zAg) fun _ h => za h (fun _ h => ?_) fun _ h => ?_
 cases h; exact .r
 refine za h ?_ ?_ <;> intro _ h
 cases h; exact .r
 refine zl h fun _ h => zd h fun _ h => zd h fun o h => ?_
 refine zx (fun (y : Unit) => [(6, .int .i64 ((↑(List.length (List.map SV.str a.Names)) : Int))), (3, .int .i64 0), (2, .int .i64 0), (1, .ptr 0 [])]) (fun y => [(0, .var true (qk a))]) 1 h (fun y h => ?_) (fun a4 z d h => ?_)
 refine zf h (fun _ => zyp) fun j h => ?_
 refine zx (fun (A : Unit) => [(3, .int .i64 0), (2, .int .i64 0)]) (fun _ => []) 1 h (fun A h => ?_) (fun S t m h => ?_)
 cases h; exact .r
 refine zr (fun (c : Int) => [(96, .int .i64 c), (95, .int .i64 ((↑(List.length (List.map SV.str a.Names)) : Int))), (12, .ptr 2 []), (6, .int .i64 ((↑(List.length (List.map SV.str a.Names)) : Int))), (3, .int .i64 0), (2, .int .i64 0)]) (fun c => [(2, .var true (qg j))]) 6 h ze (fun c P T u h => ?_)
 refine za h ?_ ?_ <;> intro _ h
 refine zx (fun (p : Unit) => [(96, .int .i64 c), (95, .int .i64 ((↑(List.length (List.map SV.str a.Names)) : Int))), (12, .ptr 2 []), (6, .int .i64 ((↑(List.length (List.map SV.str a.Names)) : Int))), (3, .int .i64 0), (2, .int .i64 0)]) (fun p => [(2, .var true (qg j))]) 3 h (fun p h => ?_) (fun U v n h => ?_)
 refine zd h fun C h => ?_
 exact u C h ze
 refine zr (fun (k : Int) => [(100, .int .i64 k), (99, .int .i64 ((↑(List.length (List.map SV.str a.Names)) : Int))), (13, .int .i64 c), (96, .int .i64 c), (95, .int .i64 ((↑(List.length (List.map SV.str a.Names)) : Int))), (12, .ptr 2 []), (6, .int .i64 ((↑(List.length (List.map SV.str a.Names)) : Int))), (3, .int .i64 0), (2, .int .i64 0)]) (fun k => [(2, .var true (qg j))]) 11 h ze (fun k Q V w h => ?_)
 refine za h ?_ ?_ <;> intro _ h
 refine zf h (fun _ => zA0) fun W h => ?_
 refine qV h (fun D h => ?_) (fun D h => ?_)
 refine n ?_
 refine m ?_
 cases h; exact .r
 refine zf h (fun _ => zAz) fun _ h => za h (fun _ h => ?_) fun _ h => ?_
 refine n ?_
 refine m ?_
 cases h; exact .r
 refine zd h fun F h => ?_
 exact w F h ze
 exact v (()) h ze
 exact t (()) h ze
 refine zr (fun (f : Int) => [(39, .int .i64 f), (38, .int .i64 ((↑(List.length (List.map (SV.int .u8) a.Up)) : Int))), (37, (zm 1 (SV.int .u8)) (a.Up)), (7, .int .u8 o), (6, .int .i64 ((↑(List.length (List.map SV.str a.Names)) : Int))), (3, .int .i64 0), (2, .int .i64 0), (1, .ptr 0 [])]) (fun f => [(0, .var true (qk a))]) 30 h ze (fun f X a5 g h => ?_)
 refine za h ?_ ?_ <;> intro _ h
 refine zw (SV.int .u8) h rfl fun O h => zf h (fun _ => zz7) fun _ h => ?_
 refine qV h (fun G h => ?_) (fun G h => ?_)
 refine d ?_
 cases h; exact .r
 refine zl h fun _ h => za h (fun _ h => ?_) fun _ h => ?_
 refine d ?_
 cases h; exact .r
 refine zx (fun (q : Unit) => [(39, .int .i64 f), (38, .int .i64 ((↑(List.length (List.map (SV.int .u8) a.Up)) : Int))), (37, (zm 1 (SV.int .u8)) (a.Up)), (7, .int .u8 o), (6, .int .i64 ((↑(List.length (List.map SV.str a.Names)) : Int))), (3, .int .i64 0), (2, .int .i64 0), (1, .ptr 0 [])]) (fun q => [(0, .var true (qk a))]) 1 h (fun q h => ?_) (fun Y x b h => ?_)
 refine zd h fun H h => ?_
 exact g H h ze
 refine zr (fun (l : Int) => [(59, .int .i64 l), (58, .int .i64 ((↑(List.length (List.map (SV.int .u8) a.Up)) : Int))), (57, (zm 1 (SV.int .u8)) (a.Up)), (9, .int .u8 O), (8, .int .i64 f), (39, .int .i64 f), (38, .int .i64 ((↑(List.length (List.map (SV.int .u8) a.Up)) : Int))), (37, (zm 1 (SV.int .u8)) (a.Up)), (7, .int .u8 o), (6, .int .i64 ((↑(List.length (List.map SV.str a.Names)) : Int))), (3, .int .i64 0), (2, .int .i64 0), (1, .ptr 0 [])]) (fun l => [(0, .var true (qk a))]) 51 h ze (fun l R Z i h => ?_)
 refine za h ?_ ?_ <;> intro _ h
 refine zw (SV.int .u8) h rfl fun _ h => zl h fun _ h => za h (fun _ h => ?_) fun _ h => ?_
 refine zd h fun a1 h => za h (fun _ h => ?_) fun _ h => ?_
 refine b ?_
 refine zd h fun I h => ?_
 exact g I h ze
 refine zd h fun J h => ?_
 exact i J h ze
 refine za h ?_ ?_ <;> intro _ h
 refine zl h fun _ h => za h (fun s h => ?_) (fun s h => ?_)
 refine ⟨fun _ => ?_, fun e => absurd (e.symm.trans s) (by decide)⟩
 refine b ?_
 refine d ?_
 cases h; exact .r
 refine za h ?_ ?_ <;> intro _ h
 refine b ?_
 refine d ?_
 cases h; exact .r
 refine zd h fun a2 h => za h (fun _ h => ?_) fun _ h => ?_
 refine b ?_
 refine zd h fun K h => ?_
 exact g K h ze
 refine zd h fun L h => ?_
 exact i L h ze
 refine za h ?_ ?_ <;> intro _ h
 refine b ?_
 refine d ?_
 cases h; exact .r
 refine zd h fun a3 h => za h (fun _ h => ?_) fun _ h => ?_
 refine b ?_
 refine zd h fun M h => ?_
 exact g M h ze
 refine zd h fun N h => ?_
 exact i N h ze
 exact x (()) h ze
 exact z (()) h ze
theorem zBh {a : TP} {r : Int × Int} (h : ztl a = some r) : Ret E 28 [wt qn a] (SV.tup [SV.int .i64 r.fst, SV.int .i64 r.snd]) := by
 refine rg [] Tryz.func28 h fun h => ?_
 refine zf h (fun _ => zt7) fun b h => ?_
 cases h; exact .r
theorem zAe {i : List UInt8} {r : Int × Int} (h : zll i = some r) : Ret E 80 [SV.str i] (SV.tup [SV.int .i64 r.fst, SV.int .i64 r.snd]) := by
 refine rg [0] Tryz.func80 h fun h => ?_
 refine call L_prims_table ?_
 refine zx (fun (d : Unit) => [(3, .int .i64 0), (2, .int .i64 0)]) (fun _ => []) 1 h (fun d h => ?_) (fun j c b h => ?_)
 cases h; exact .r
 refine zi5 fun k a => ?_
 refine pT ?_
 refine zp (by decide) rfl ?_
 refine pF ?_
 refine zo (r := (1 : Int)) (by decide) ?_
 refine a _ _ _ ?_
 refine pT ?_
 refine zp (by decide) rfl ?_
 refine pT ?_
 refine za h (fun e h => ?_) (fun e h => ?_)
 refine b ?_
 cases h; exact .r
 refine zo (r := (2 : Int)) (by decide) ?_
 refine a _ _ _ ?_
 refine pT ?_
 refine zp (by decide) rfl ?_
 refine pT ?_
 refine za h ?_ ?_ <;> intro _ h
 refine b ?_
 cases h; exact .r
 refine zo (r := (3 : Int)) (by decide) ?_
 refine a _ _ _ ?_
 refine pT ?_
 refine zp (by decide) rfl ?_
 refine pT ?_
 refine za h ?_ ?_ <;> intro _ h
 refine b ?_
 cases h; exact .r
 refine zo (r := (4 : Int)) (by decide) ?_
 refine a _ _ _ ?_
 refine pT ?_
 refine zp (by decide) rfl ?_
 refine pT ?_
 refine za h ?_ ?_ <;> intro _ h
 refine b ?_
 cases h; exact .r
 refine zo (r := (5 : Int)) (by decide) ?_
 refine a _ _ _ ?_
 refine pT ?_
 refine zp (by decide) rfl ?_
 refine pT ?_
 refine za h ?_ ?_ <;> intro _ h
 refine b ?_
 cases h; exact .r
 refine zo (r := (6 : Int)) (by decide) ?_
 refine a _ _ _ ?_
 refine pT ?_
 refine zp (by decide) rfl ?_
 refine pT ?_
 refine za h ?_ ?_ <;> intro _ h
 refine b ?_
 cases h; exact .r
 refine zo (r := (7 : Int)) (by decide) ?_
 refine a _ _ _ ?_
 refine pT ?_
 refine zp (by decide) rfl ?_
 refine pT ?_
 refine za h ?_ ?_ <;> intro _ h
 refine b ?_
 cases h; exact .r
 refine zo (r := (8 : Int)) (by decide) ?_
 refine a _ _ _ ?_
 refine pT ?_
 refine zp (by decide) rfl ?_
 refine pT ?_
 refine za h ?_ ?_ <;> intro _ h
 refine b ?_
 cases h; exact .r
 refine zo (r := (9 : Int)) (by decide) ?_
 refine a _ _ _ ?_
 refine pT ?_
 refine zp (by decide) rfl ?_
 refine pT ?_
 refine za h ?_ ?_ <;> intro _ h
 refine b ?_
 cases h; exact .r
 refine zo (r := (10 : Int)) (by decide) ?_
 refine a _ _ _ ?_
 refine pT ?_
 refine zp (by decide) rfl ?_
 refine pT ?_
 refine za h ?_ ?_ <;> intro _ h
 refine b ?_
 cases h; exact .r
 refine zo (r := (11 : Int)) (by decide) ?_
 refine a _ _ _ ?_
 refine pT ?_
 refine zp (by decide) rfl ?_
 refine pT ?_
 refine za h ?_ ?_ <;> intro _ h
 refine b ?_
 cases h; exact .r
 refine zo (r := (12 : Int)) (by decide) ?_
 refine a _ _ _ ?_
 refine pT ?_
 refine zp (by decide) rfl ?_
 refine pT ?_
 refine za h ?_ ?_ <;> intro _ h
 refine b ?_
 cases h; exact .r
 refine zo (r := (13 : Int)) (by decide) ?_
 refine a _ _ _ ?_
 refine pT ?_
 refine zp (by decide) rfl ?_
 refine pT ?_
 refine za h ?_ ?_ <;> intro _ h
 refine b ?_
 cases h; exact .r
 refine zo (r := (14 : Int)) (by decide) ?_
 refine a _ _ _ ?_
 refine pT ?_
 refine zp (by decide) rfl ?_
 refine pT ?_
 refine za h ?_ ?_ <;> intro _ h
 refine b ?_
 cases h; exact .r
 refine zo (r := (15 : Int)) (by decide) ?_
 refine a _ _ _ ?_
 refine pT ?_
 refine zp (by decide) rfl ?_
 refine pT ?_
 refine za h ?_ ?_ <;> intro _ h
 refine b ?_
 cases h; exact .r
 refine zo (r := (16 : Int)) (by decide) ?_
 refine a _ _ _ ?_
 refine pT ?_
 refine zp (by decide) rfl ?_
 refine pT ?_
 refine za h ?_ ?_ <;> intro _ h
 refine b ?_
 cases h; exact .r
 refine zo (r := (17 : Int)) (by decide) ?_
 refine a _ _ _ ?_
 refine pT ?_
 refine zp (by decide) rfl ?_
 refine pT ?_
 refine za h ?_ ?_ <;> intro _ h
 refine b ?_
 cases h; exact .r
 refine zo (r := (18 : Int)) (by decide) ?_
 refine a _ _ _ ?_
 refine pT ?_
 refine zp (by decide) rfl ?_
 refine pT ?_
 refine za h ?_ ?_ <;> intro _ h
 refine b ?_
 cases h; exact .r
 refine zo (r := (19 : Int)) (by decide) ?_
 refine a _ _ _ ?_
 refine pT ?_
 refine zp (by decide) rfl ?_
 refine pT ?_
 refine za h ?_ ?_ <;> intro _ h
 refine b ?_
 cases h; exact .r
 refine zo (r := (20 : Int)) (by decide) ?_
 refine a _ _ _ ?_
 refine pT ?_
 refine zp (by decide) rfl ?_
 refine pT ?_
 refine za h ?_ ?_ <;> intro _ h
 refine b ?_
 cases h; exact .r
 refine zo (r := (21 : Int)) (by decide) ?_
 refine a _ _ _ ?_
 refine pT ?_
 refine zp (by decide) rfl ?_
 refine pT ?_
 refine za h ?_ ?_ <;> intro _ h
 refine b ?_
 cases h; exact .r
 refine zo (r := (22 : Int)) (by decide) ?_
 refine a _ _ _ ?_
 refine pT ?_
 refine zp (by decide) rfl ?_
 refine pT ?_
 refine za h ?_ ?_ <;> intro _ h
 refine b ?_
 cases h; exact .r
 refine zo (r := (23 : Int)) (by decide) ?_
 refine a _ _ _ ?_
 refine pT ?_
 refine zp (by decide) rfl ?_
 refine pT ?_
 refine za h ?_ ?_ <;> intro _ h
 refine b ?_
 cases h; exact .r
 refine zo (r := (24 : Int)) (by decide) ?_
 refine a _ _ _ ?_
 refine pT ?_
 refine zp (by decide) rfl ?_
 refine pT ?_
 refine za h ?_ ?_ <;> intro _ h
 refine b ?_
 cases h; exact .r
 refine zo (r := (25 : Int)) (by decide) ?_
 refine a _ _ _ ?_
 refine pT ?_
 refine zp (by decide) rfl ?_
 refine pT ?_
 refine za h ?_ ?_ <;> intro _ h
 refine b ?_
 cases h; exact .r
 refine zo (r := (26 : Int)) (by decide) ?_
 refine a _ _ _ ?_
 refine pT ?_
 refine zp (by decide) rfl ?_
 refine pT ?_
 refine za h ?_ ?_ <;> intro _ h
 refine b ?_
 cases h; exact .r
 refine zo (r := (27 : Int)) (by decide) ?_
 refine a _ _ _ ?_
 refine pT ?_
 refine zp (by decide) rfl ?_
 refine pT ?_
 refine za h ?_ ?_ <;> intro _ h
 refine b ?_
 cases h; exact .r
 refine zo (r := (28 : Int)) (by decide) ?_
 refine a _ _ _ ?_
 refine pT ?_
 refine zp (by decide) rfl ?_
 refine pT ?_
 refine za h (fun f h => ?_) (fun f h => ?_)
 refine b ?_
 cases h; exact .r
 refine zo (r := (29 : Int)) (by decide) ?_
 refine a _ _ _ ?_
 refine pT ?_
 refine zp (by decide) rfl ?_
 refine pT ?_
 refine za h ?_ ?_ <;> intro _ h
 refine b ?_
 cases h; exact .r
 refine zo (r := (30 : Int)) (by decide) ?_
 refine a _ _ _ ?_
 refine pT ?_
 refine zp (by decide) rfl ?_
 refine pT ?_
 refine za h ?_ ?_ <;> intro _ h
 refine b ?_
 cases h; exact .r
 refine zo (r := (31 : Int)) (by decide) ?_
 refine a _ _ _ ?_
 refine pT ?_
 refine zp (by decide) rfl ?_
 refine pT ?_
 refine za h (fun g h => ?_) (fun g h => ?_)
 refine b ?_
 cases h; exact .r
 refine zo (r := (32 : Int)) (by decide) ?_
 refine a _ _ _ ?_
 refine pT ?_
 refine zp (by decide) rfl ?_
 refine pT ?_
 refine za h ?_ ?_ <;> intro _ h
 refine b ?_
 cases h; exact .r
 refine zo (r := (33 : Int)) (by decide) ?_
 refine a _ _ _ ?_
 refine pT ?_
 refine zp (by decide) rfl ?_
 refine pT ?_
 refine za h ?_ ?_ <;> intro _ h
 refine b ?_
 cases h; exact .r
 refine zo (r := (34 : Int)) (by decide) ?_
 refine a _ _ _ ?_
 refine pT ?_
 refine zp (by decide) rfl ?_
 refine pT ?_
 refine za h ?_ ?_ <;> intro _ h
 refine b ?_
 cases h; exact .r
 refine zo (r := (35 : Int)) (by decide) ?_
 refine a _ _ _ ?_
 refine pT ?_
 refine zp (by decide) rfl ?_
 refine pT ?_
 refine za h ?_ ?_ <;> intro _ h
 refine b ?_
 cases h; exact .r
 refine zo (r := (36 : Int)) (by decide) ?_
 refine a _ _ _ ?_
 refine pT ?_
 refine zp (by decide) rfl ?_
 refine pT ?_
 refine za h ?_ ?_ <;> intro _ h
 refine b ?_
 cases h; exact .r
 refine zo (r := (37 : Int)) (by decide) ?_
 refine a _ _ _ ?_
 refine pT ?_
 refine zp (by decide) rfl ?_
 refine pT ?_
 refine za h ?_ ?_ <;> intro _ h
 refine b ?_
 cases h; exact .r
 refine zo (r := (38 : Int)) (by decide) ?_
 refine a _ _ _ ?_
 refine pT ?_
 refine zp (by decide) rfl ?_
 refine pT ?_
 refine za h ?_ ?_ <;> intro _ h
 refine b ?_
 cases h; exact .r
 refine zo (r := (39 : Int)) (by decide) ?_
 refine a _ _ _ ?_
 refine pT ?_
 refine zp (by decide) rfl ?_
 refine pT ?_
 refine za h ?_ ?_ <;> intro _ h
 refine b ?_
 cases h; exact .r
 refine zo (r := (40 : Int)) (by decide) ?_
 refine a _ _ _ ?_
 refine pT ?_
 refine zp (by decide) rfl ?_
 refine pT ?_
 refine za h ?_ ?_ <;> intro _ h
 refine b ?_
 cases h; exact .r
 refine zo (r := (41 : Int)) (by decide) ?_
 refine a _ _ _ ?_
 refine pF ?_
 exact c (()) h ze
theorem zBl {b : Int} {r : Bool} (h : zqi b = some r) : Ret E 180 [SV.int .i64 b] (SV.bool r) := by
 refine rg [] Tryz.func180 h fun h => ?_
 refine zd h fun c h => zd h fun d h => za h (fun a h => ?_) (fun a h => ?_)
 refine zd h fun e h => zf h (fun _ => zuz) fun f h => ?_
 cases h; exact .r
 cases h; exact .r
theorem zoq {r : List (List UInt8)} (h : zeu = some r) : Ret E 181 [] (zK 10 1 SV.str r) := by
 refine rg [] Tryz.func181 h fun h => ?_
 unfold zeu at h
 cases h; exact .r
theorem yB {a : Int} {r : Int × Int} (h : zcv a = some r) : Ret E 149 [SV.int .i64 a] (SV.tup [SV.int .i64 r.fst, SV.int .i64 r.snd]) := by
 refine rg [1] Tryz.func149 h fun h => ?_
 refine zf h (fun _ => zBl) fun O h => za h (fun t h => ?_) (fun t h => ?_)
 cases h; exact .r
 refine za h ?_ ?_ <;> intro _ h
 refine za h ?_ ?_ <;> intro _ h
 cases h; exact .r
 refine za h (fun u h => ?_) (fun u h => ?_)
 refine za h ?_ ?_ <;> intro _ h
 cases h; exact .r
 refine zf h (fun _ => zoq) fun v h => ?_
 refine zx (fun (w : Unit) => [(3, .int .i64 0), (2, .int .i64 0)]) (fun _ => []) 1 h (fun w h => ?_) (fun P f g h => ?_)
 cases h; exact .r
 refine zr (fun (b : Int) => [(25, .int .i64 b), (24, (zK 10 1 SV.str) v), (3, .int .i64 0), (2, .int .i64 0), (0, .int .i64 a)]) (fun _ => []) 22 h ze (fun b K Q i h => ?_)
 refine za h ?_ ?_ <;> intro _ h
 refine zw SV.str h rfl fun R h => zd h fun _ h => zf h (fun _ => zfb) fun _ h => za h (fun x h => ?_) (fun x h => ?_)
 refine g ?_
 cases h; exact .r
 refine zd h fun y h => ?_
 exact i y h ze
 exact f (()) h ze
 refine zf h (fun _ => zoq) fun z h => ?_
 refine zx (fun (A : Unit) => [(3, .int .i64 0), (2, .int .i64 0)]) (fun _ => []) 1 h (fun A h => ?_) (fun S j k h => ?_)
 cases h; exact .r
 refine zr (fun (c : Int) => [(25, .int .i64 c), (24, (zK 10 1 SV.str) z), (3, .int .i64 0), (2, .int .i64 0), (0, .int .i64 a)]) (fun _ => []) 20 h ze (fun c L T l h => ?_)
 refine za h ?_ ?_ <;> intro _ h
 refine zw SV.str h rfl fun U h => zd h fun V h => zf h (fun _ => zfb) fun W h => za h (fun _ h => ?_) fun _ h => ?_
 refine k ?_
 cases h; exact .r
 refine zd h fun C h => ?_
 exact l C h ze
 exact j (()) h ze
 refine za h ?_ ?_ <;> intro _ h
 refine za h ?_ ?_ <;> intro _ h
 cases h; exact .r
 refine zf h (fun _ => zoq) fun D h => ?_
 refine zx (fun (F : Unit) => [(3, .int .i64 0), (2, .int .i64 0)]) (fun _ => []) 1 h (fun F h => ?_) (fun X m n h => ?_)
 cases h; exact .r
 refine zr (fun (d : Int) => [(25, .int .i64 d), (24, (zK 10 1 SV.str) D), (3, .int .i64 0), (2, .int .i64 0), (0, .int .i64 a)]) (fun _ => []) 20 h ze (fun d M Y o h => ?_)
 refine za h ?_ ?_ <;> intro _ h
 refine zw SV.str h rfl fun Z h => zd h fun _ h => zf h (fun _ => zfb) fun _ h => za h (fun _ h => ?_) fun _ h => ?_
 refine n ?_
 cases h; exact .r
 refine zd h fun G h => ?_
 exact o G h ze
 exact m (()) h ze
 refine zf h (fun _ => zoq) fun H h => ?_
 refine zx (fun (I : Unit) => [(3, .int .i64 0), (2, .int .i64 0)]) (fun _ => []) 1 h (fun I h => ?_) (fun a1 p q h => ?_)
 cases h; exact .r
 refine zr (fun (e : Int) => [(25, .int .i64 e), (24, (zK 10 1 SV.str) H), (3, .int .i64 0), (2, .int .i64 0), (0, .int .i64 a)]) (fun _ => []) 18 h ze (fun e N a2 s h => ?_)
 refine za h ?_ ?_ <;> intro _ h
 refine zw SV.str h rfl fun _ h => zd h fun _ h => zf h (fun _ => zfb) fun _ h => za h (fun _ h => ?_) fun _ h => ?_
 refine q ?_
 cases h; exact .r
 refine zd h fun J h => ?_
 exact s J h ze
 exact p (()) h ze
theorem zfn {a : List UInt8} {r : Int} (h : zc1 a = some r) : Ret E 150 [SV.str a] (SV.int .u64 r) := by
 refine rg [] Tryz.func150 h fun h => ?_
 refine ⟨by trivial, ?_⟩
 refine zt h fun _ h => zd h fun _ h => zt h fun _ h => zd h fun _ h => ?_
 refine qr (by decide) ?_
 refine zd h fun _ h => zt h fun _ h => zd h fun _ h => ?_
 refine qr (by decide) ?_
 refine zd h fun _ h => zt h fun _ h => zd h fun _ h => ?_
 refine qr (by decide) ?_
 refine zd h fun _ h => zt h fun _ h => zd h fun _ h => ?_
 refine qr (by decide) ?_
 refine zd h fun _ h => zt h fun _ h => zd h fun _ h => ?_
 refine qr (by decide) ?_
 refine zd h fun _ h => zt h fun _ h => zd h fun _ h => ?_
 refine qr (by decide) ?_
 refine zd h fun _ h => zt h fun _ h => zd h fun _ h => ?_
 refine qr (by decide) ?_
 refine zd h fun _ h => ?_
 cases h; exact .r
theorem zz4 {k : List UInt8} {r : Bool} (h : zx0 k = some r) : Ret E 114 [SV.str k] (SV.bool r) := by
 refine rg [0, 2] Tryz.func114 h fun h => ?_
 refine zx (fun (j : Unit) => [(2, .fls)]) (fun _ => []) 1 h (fun j h => ?_) (fun p g l h => ?_)
 cases h; exact .r
 refine zr (fun (a : List UInt8) => [(2, .fls), (0, .str a)]) (fun _ => []) 1 h ze (fun a m q b h => ?_)
 refine za h ?_ ?_ <;> intro _ h
 refine zt h fun f h => za h (fun _ h => ?_) fun _ h => ?_
 refine zl h fun _ h => za h (fun _ h => ?_) fun _ h => ?_
 refine zf h (fun _ => zfn) fun _ h => za h (fun _ h => ?_) fun _ h => ?_
 refine zl h fun _ h => ?_
 refine ⟨by trivial, ?_⟩
 refine za h ?_ ?_ <;> intro _ h
 refine zf h (fun _ => zfn) fun _ h => zl h fun _ h => zf h (fun _ => zfn) fun _ h => za h (fun _ h => ?_) fun _ h => ?_
 refine zl h fun _ h => ?_
 refine zx (fun (d : List UInt8) => [(0, .str d), (3, .int .u8 ((↑(UInt8.toNat f) : Int))), (2, .fls)]) (fun _ => []) 1 h (fun d h => ?_) (fun s e n h => ?_)
 exact b d h ze
 refine zr (fun (c : List UInt8) => [(0, .str c), (3, .int .u8 ((↑(UInt8.toNat f) : Int))), (2, .fls)]) (fun _ => []) 40 h ze (fun c o t i h => ?_)
 refine ⟨by trivial, ?_⟩
 refine za h ?_ ?_ <;> intro _ h
 refine zf h (fun _ => zfn) fun _ h => zl h fun _ h => zf h (fun _ => zfn) fun _ h => zl h fun _ h => zf h (fun _ => zfn) fun _ h => zl h fun _ h => zf h (fun _ => zfn) fun _ h => ?_
 refine za h ?_ ?_ <;> intro _ h
 refine zl h fun _ h => ?_
 exact i (List.drop (Int.toNat (32 : Int)) (List.take (Int.toNat (↑(List.length c) : Int)) c)) h ze
 exact e c h ze
 exact e c h ze
 exact b (List.drop (Int.toNat (8 : Int)) (List.take (Int.toNat (↑(List.length (List.drop (Int.toNat (1 : Int)) (List.take (Int.toNat (↑(List.length a) : Int)) a))) : Int)) (List.drop (Int.toNat (1 : Int)) (List.take (Int.toNat (↑(List.length a) : Int)) a)))) h ze
 exact b (List.drop (Int.toNat (8 : Int)) (List.take (Int.toNat (↑(List.length (List.drop (Int.toNat (1 : Int)) (List.take (Int.toNat (↑(List.length a) : Int)) a))) : Int)) (List.drop (Int.toNat (1 : Int)) (List.take (Int.toNat (↑(List.length a) : Int)) a)))) h ze
 exact b (List.drop (Int.toNat (1 : Int)) (List.take (Int.toNat (↑(List.length a) : Int)) a)) h ze
 exact b (List.drop (Int.toNat (1 : Int)) (List.take (Int.toNat (↑(List.length a) : Int)) a)) h ze
 exact jb h
 exact g (()) h ze
theorem zAw {a : TK} {r : Int} (h : zo0 a = some r) : Ret E 81 [zQ a] (SV.int .i64 r) := by
 refine rg [0, 1] Tryz.func81 h fun h => ?_
 refine zx (fun (f : Int × List UInt8) => [(3, .ptr (9) []), (2, .int .i64 0), (1, .ptr 0 [])]) (fun f => [(9, .var true (zQ (TK.mk a.Kind a.From a.To f.fst f.snd))), (0, .var true (zQ a))]) 10 h (fun f h => ?_) (fun O u M h => ?_)
 refine qV h (fun J h => ?_) (fun J h => ?_)
 cases h; exact .r
 refine qV h (fun K h => ?_) (fun K h => ?_)
 cases h; exact .r
 refine za h ?_ ?_ <;> intro _ h
 cases h; exact .r
 refine zx (fun (G : Int) => [(4, .int .i64 G), (2, .int .i64 0), (1, .ptr 0 [])]) (fun G => [(0, .var true (zQ a))]) 1 h (fun G h => ?_) (fun P p g h => ?_)
 refine za h ?_ ?_ <;> intro _ h
 cases h; exact .r
 cases h; exact .r
 refine za h ?_ ?_ <;> intro _ h
 refine ⟨?_, trivial⟩
 refine ⟨?_, trivial⟩
 refine zu (fn := Tryz.f112) (cuts := []) ok Tryz.func112 (by kernel_rfl) rfl ?_
 refine za h (fun q h => ?_) (fun q h => ?_)
 refine ⟨?_, trivial⟩
 refine ⟨?_, trivial⟩
 refine ⟨?_, ?_⟩
 refine ⟨fun e => absurd e (by decide), fun _ => ?_⟩
 refine ⟨?_, ?_⟩
 refine ⟨?_, trivial⟩
 refine ⟨?_, trivial⟩
 refine ⟨?_, trivial⟩
 refine ⟨?_, trivial⟩
 refine g ?_
 cases h; exact .r
 refine ⟨?_, trivial⟩
 refine ⟨?_, ?_⟩
 refine ⟨?_, trivial⟩
 refine ⟨?_, trivial⟩
 refine ⟨?_, trivial⟩
 refine g ?_
 cases h; exact .r
 refine ⟨?_, trivial⟩
 refine ⟨?_, trivial⟩
 refine ⟨?_, trivial⟩
 refine ⟨?_, trivial⟩
 refine g ?_
 cases h; exact .r
 refine ⟨?_, trivial⟩
 refine ⟨fun e => absurd e (by decide), fun _ => ?_⟩
 refine ⟨?_, ?_⟩
 refine ⟨?_, ?_⟩
 refine ⟨?_, trivial⟩
 refine ⟨?_, trivial⟩
 refine ⟨?_, trivial⟩
 refine g ?_
 cases h; exact .r
 refine ⟨?_, trivial⟩
 refine ⟨?_, trivial⟩
 refine ⟨?_, trivial⟩
 refine ⟨?_, trivial⟩
 refine g ?_
 cases h; exact .r
 refine ⟨?_, trivial⟩
 refine ⟨?_, trivial⟩
 refine ⟨?_, trivial⟩
 refine ⟨?_, trivial⟩
 refine ⟨?_, trivial⟩
 refine g ?_
 cases h; exact .r
 refine zt h fun Q h => zd h fun R h => zf h (fun _ => yB) fun i h => ?_
 refine ⟨?_, trivial⟩
 refine ⟨?_, trivial⟩
 refine ⟨?_, ?_⟩
 refine qV h (fun H h => ?_) (fun H h => ?_)
 refine ⟨?_, ?_⟩
 refine ⟨?_, trivial⟩
 refine ⟨?_, trivial⟩
 refine ⟨?_, trivial⟩
 refine ⟨?_, trivial⟩
 refine g ?_
 cases h; exact .r
 refine ⟨?_, trivial⟩
 refine ⟨?_, ?_⟩
 refine ⟨?_, trivial⟩
 refine ⟨?_, trivial⟩
 refine ⟨?_, trivial⟩
 refine g ?_
 cases h; exact .r
 refine ⟨?_, trivial⟩
 refine ⟨?_, trivial⟩
 refine ⟨?_, trivial⟩
 refine ⟨?_, trivial⟩
 refine g ?_
 cases h; exact .r
 refine ⟨?_, ?_⟩
 refine zu (fn := Tryz.f113) (cuts := [0]) ok Tryz.func113 (by kernel_rfl) rfl ?_
 refine zu (fn := Tryz.f112) (cuts := []) ok Tryz.func112 (by kernel_rfl) rfl ?_
 refine ⟨fun e => absurd (e.symm.trans q) (by decide), fun _ => ?_⟩
 refine zt h fun v h => zd h fun w h => zf h (fun _ => yB) fun x h => ?_
 refine zx (fun (d : Bool × Int × Int) => [(26, .bool (d.fst)), (8, .int .i64 (d.snd.fst)), (7, .int .i64 0), (6, .str ((ByteArray.mk #[]).data.toList)), (2, .int .i64 6), (1, .int .i64 8), (0, .ptr 31 []), (1000051, .ptr 31 []), (1000050, .fls), (1000049, .bool (!decide (i.fst = 8))), (1000048, .int .i64 (i.fst)), (1000047, .ptr 31 []), (1000005, .ptr 31 []), (1000046, .ptr 31 []), (1000045, qa (TR.mk a.S 0)), (1000044, .str (a.S)), (1000043, .ptr 0 ([] ++ [Step.fld 4 4])), (1000041, .bool (decide (a.Kind = 1))), (1000042, .bool (decide (a.Kind = 1))), (1000040, .int .i64 (a.Kind)), (1000039, .ptr 0 ([] ++ [Step.fld 0 0])), (1000004, .int .i64 0), (1000035, zQ a), (1000034, .fls), (1000033, .bool (decide (9 < a.Kind))), (1000032, .bool (decide (9 < a.Kind))), (1000031, .int .i64 (a.Kind)), (1000030, .ptr 0 ([] ++ [Step.fld 0 0])), (1000029, .fls), (1000028, .bool (decide (a.Kind < 1))), (1000027, .int .i64 (a.Kind)), (1000026, .ptr 0 ([] ++ [Step.fld 0 0])), (1000003, .ptr (9) []), (1000002, .int .i64 0), (1000001, .ptr 0 [])]) (fun d => [(31, .var true (qa (TR.mk a.S d.snd.snd))), (9, .var true (zQ (TK.mk a.Kind a.From a.To f.fst f.snd))), (0, .var true (zQ a))]) 32 h (fun d h => ?_) (fun y l s h => ?_)
 refine ⟨by trivial, ?_⟩
 refine zl h fun _ h => ?_
 refine ⟨?_, trivial⟩
 refine ⟨?_, trivial⟩
 refine ⟨?_, trivial⟩
 refine ⟨?_, trivial⟩
 refine za h ?_ ?_ <;> intro _ h
 refine g ?_
 cases h; exact .r
 exact p ((16 : Int)) h ze
 refine zr (fun (b : Int × Int) => [(8, .int .i64 (b.fst)), (7, .int .i64 0), (6, .str ((ByteArray.mk #[]).data.toList)), (2, .int .i64 6), (1, .int .i64 8), (0, .ptr 31 []), (1000051, .ptr 31 []), (1000050, .fls), (1000049, .bool (!decide (i.fst = 8))), (1000048, .int .i64 (i.fst)), (1000047, .ptr 31 []), (1000005, .ptr 31 []), (1000046, .ptr 31 []), (1000045, qa (TR.mk a.S 0)), (1000044, .str (a.S)), (1000043, .ptr 0 ([] ++ [Step.fld 4 4])), (1000041, .bool (decide (a.Kind = 1))), (1000042, .bool (decide (a.Kind = 1))), (1000040, .int .i64 (a.Kind)), (1000039, .ptr 0 ([] ++ [Step.fld 0 0])), (1000004, .int .i64 0), (1000035, zQ a), (1000034, .fls), (1000033, .bool (decide (9 < a.Kind))), (1000032, .bool (decide (9 < a.Kind))), (1000031, .int .i64 (a.Kind)), (1000030, .ptr 0 ([] ++ [Step.fld 0 0])), (1000029, .fls), (1000028, .bool (decide (a.Kind < 1))), (1000027, .int .i64 (a.Kind)), (1000026, .ptr 0 ([] ++ [Step.fld 0 0])), (1000003, .ptr (9) []), (1000002, .int .i64 0), (1000001, .ptr 0 [])]) (fun b => [(31, .var true (qa (TR.mk a.S b.snd))), (9, .var true (zQ (TK.mk a.Kind a.From a.To f.fst f.snd))), (0, .var true (zQ a))]) 95 h ze (fun b t z c h => ?_)
 refine qV h (fun m h => ?_) (fun m h => ?_)
 refine zd h fun j h => ?_
 refine zu (fn := Tryz.f112) (cuts := []) ok Tryz.func112 (by kernel_rfl) rfl ?_
 refine za h ?_ ?_ <;> intro _ h
 exact c (((10 : Int), j)) h ze
 refine zt h fun A h => zd h fun C h => zf h (fun _ => yB) fun n h => ?_
 exact c ((n.fst, j)) h ze
 refine za h ?_ ?_ <;> intro _ h
 refine zd h fun k h => ?_
 refine zu (fn := Tryz.f112) (cuts := []) ok Tryz.func112 (by kernel_rfl) rfl ?_
 refine za h ?_ ?_ <;> intro _ h
 exact c (((10 : Int), k)) h ze
 refine zt h fun D h => zd h fun F h => zf h (fun _ => yB) fun o h => ?_
 exact c ((o.fst, k)) h ze
 exact l ((decide (b.fst = (6 : Int)), b)) h ze
 refine ⟨?_, trivial⟩
 refine ⟨?_, ?_⟩
 refine zu (fn := Tryz.f113) (cuts := [0]) ok Tryz.func113 (by kernel_rfl) rfl ?_
 refine zu (fn := Tryz.f112) (cuts := []) ok Tryz.func112 (by kernel_rfl) rfl ?_
 refine ⟨fun e => absurd (e.symm.trans q) (by decide), fun _ => ?_⟩
 refine zt h fun v h => zd h fun w h => zf h (fun _ => yB) fun x h => ?_
 refine zx (fun (d : Bool × Int × Int) => [(26, .bool (d.fst)), (8, .int .i64 (d.snd.fst)), (7, .int .i64 0), (6, .str ((ByteArray.mk #[]).data.toList)), (2, .int .i64 6), (1, .int .i64 8), (0, .ptr 31 []), (1000053, .ptr 0 ([] ++ [Step.fld 4 4])), (1000051, .ptr 31 []), (1000050, .fls), (1000049, .bool (!decide (i.fst = 8))), (1000048, .int .i64 (i.fst)), (1000047, .ptr 31 []), (1000005, .ptr 31 []), (1000046, .ptr 31 []), (1000045, qa (TR.mk a.S 0)), (1000044, .str (a.S)), (1000043, .ptr 0 ([] ++ [Step.fld 4 4])), (1000041, .bool (decide (a.Kind = 1))), (1000042, .bool (decide (a.Kind = 1))), (1000040, .int .i64 (a.Kind)), (1000039, .ptr 0 ([] ++ [Step.fld 0 0])), (1000004, .int .i64 0), (1000035, zQ a), (1000034, .fls), (1000033, .bool (decide (9 < a.Kind))), (1000032, .bool (decide (9 < a.Kind))), (1000031, .int .i64 (a.Kind)), (1000030, .ptr 0 ([] ++ [Step.fld 0 0])), (1000029, .fls), (1000028, .bool (decide (a.Kind < 1))), (1000027, .int .i64 (a.Kind)), (1000026, .ptr 0 ([] ++ [Step.fld 0 0])), (1000003, .ptr (9) []), (1000002, .int .i64 0), (1000001, .ptr 0 [])]) (fun d => [(31, .var true (qa (TR.mk a.S d.snd.snd))), (9, .var true (zQ (TK.mk a.Kind a.From a.To f.fst f.snd))), (0, .var true (zQ a))]) 32 h (fun d h => ?_) (fun y l s h => ?_)
 refine ⟨by trivial, ?_⟩
 refine zl h fun _ h => ?_
 refine ⟨?_, trivial⟩
 refine ⟨?_, trivial⟩
 refine ⟨?_, trivial⟩
 refine za h ?_ ?_ <;> intro _ h
 refine g ?_
 cases h; exact .r
 exact p ((16 : Int)) h ze
 refine zr (fun (b : Int × Int) => [(8, .int .i64 (b.fst)), (7, .int .i64 0), (6, .str ((ByteArray.mk #[]).data.toList)), (2, .int .i64 6), (1, .int .i64 8), (0, .ptr 31 []), (1000053, .ptr 0 ([] ++ [Step.fld 4 4])), (1000051, .ptr 31 []), (1000050, .fls), (1000049, .bool (!decide (i.fst = 8))), (1000048, .int .i64 (i.fst)), (1000047, .ptr 31 []), (1000005, .ptr 31 []), (1000046, .ptr 31 []), (1000045, qa (TR.mk a.S 0)), (1000044, .str (a.S)), (1000043, .ptr 0 ([] ++ [Step.fld 4 4])), (1000041, .bool (decide (a.Kind = 1))), (1000042, .bool (decide (a.Kind = 1))), (1000040, .int .i64 (a.Kind)), (1000039, .ptr 0 ([] ++ [Step.fld 0 0])), (1000004, .int .i64 0), (1000035, zQ a), (1000034, .fls), (1000033, .bool (decide (9 < a.Kind))), (1000032, .bool (decide (9 < a.Kind))), (1000031, .int .i64 (a.Kind)), (1000030, .ptr 0 ([] ++ [Step.fld 0 0])), (1000029, .fls), (1000028, .bool (decide (a.Kind < 1))), (1000027, .int .i64 (a.Kind)), (1000026, .ptr 0 ([] ++ [Step.fld 0 0])), (1000003, .ptr (9) []), (1000002, .int .i64 0), (1000001, .ptr 0 [])]) (fun b => [(31, .var true (qa (TR.mk a.S b.snd))), (9, .var true (zQ (TK.mk a.Kind a.From a.To f.fst f.snd))), (0, .var true (zQ a))]) 96 h ze (fun b t z c h => ?_)
 refine qV h (fun m h => ?_) (fun m h => ?_)
 refine zd h fun j h => ?_
 refine zu (fn := Tryz.f112) (cuts := []) ok Tryz.func112 (by kernel_rfl) rfl ?_
 refine za h ?_ ?_ <;> intro _ h
 exact c (((10 : Int), j)) h ze
 refine zt h fun A h => zd h fun C h => zf h (fun _ => yB) fun n h => ?_
 exact c ((n.fst, j)) h ze
 refine za h ?_ ?_ <;> intro _ h
 refine zd h fun k h => ?_
 refine zu (fn := Tryz.f112) (cuts := []) ok Tryz.func112 (by kernel_rfl) rfl ?_
 refine za h ?_ ?_ <;> intro _ h
 exact c (((10 : Int), k)) h ze
 refine zt h fun D h => zd h fun F h => zf h (fun _ => yB) fun o h => ?_
 exact c ((o.fst, k)) h ze
 exact l ((decide (b.fst = (6 : Int)), b)) h ze
 refine ⟨?_, trivial⟩
 refine ⟨?_, trivial⟩
 refine zu (fn := Tryz.f113) (cuts := [0]) ok Tryz.func113 (by kernel_rfl) rfl ?_
 refine zu (fn := Tryz.f112) (cuts := []) ok Tryz.func112 (by kernel_rfl) rfl ?_
 refine ⟨fun e => absurd (e.symm.trans q) (by decide), fun _ => ?_⟩
 refine zt h fun v h => zd h fun w h => zf h (fun _ => yB) fun x h => ?_
 refine zx (fun (d : Bool × Int × Int) => [(26, .bool (d.fst)), (8, .int .i64 (d.snd.fst)), (7, .int .i64 0), (6, .str ((ByteArray.mk #[]).data.toList)), (2, .int .i64 6), (1, .int .i64 8), (0, .ptr 31 []), (1000054, .str (a.S)), (1000053, .ptr 0 ([] ++ [Step.fld 4 4])), (1000051, .ptr 31 []), (1000050, .fls), (1000049, .bool (!decide (i.fst = 8))), (1000048, .int .i64 (i.fst)), (1000047, .ptr 31 []), (1000005, .ptr 31 []), (1000046, .ptr 31 []), (1000045, qa (TR.mk a.S 0)), (1000044, .str (a.S)), (1000043, .ptr 0 ([] ++ [Step.fld 4 4])), (1000041, .bool (decide (a.Kind = 1))), (1000042, .bool (decide (a.Kind = 1))), (1000040, .int .i64 (a.Kind)), (1000039, .ptr 0 ([] ++ [Step.fld 0 0])), (1000004, .int .i64 0), (1000035, zQ a), (1000034, .fls), (1000033, .bool (decide (9 < a.Kind))), (1000032, .bool (decide (9 < a.Kind))), (1000031, .int .i64 (a.Kind)), (1000030, .ptr 0 ([] ++ [Step.fld 0 0])), (1000029, .fls), (1000028, .bool (decide (a.Kind < 1))), (1000027, .int .i64 (a.Kind)), (1000026, .ptr 0 ([] ++ [Step.fld 0 0])), (1000003, .ptr (9) []), (1000002, .int .i64 0), (1000001, .ptr 0 [])]) (fun d => [(31, .var true (qa (TR.mk a.S d.snd.snd))), (9, .var true (zQ (TK.mk a.Kind a.From a.To f.fst f.snd))), (0, .var true (zQ a))]) 32 h (fun d h => ?_) (fun y l s h => ?_)
 refine ⟨by trivial, ?_⟩
 refine zl h fun _ h => ?_
 refine ⟨?_, trivial⟩
 refine ⟨?_, trivial⟩
 refine za h ?_ ?_ <;> intro _ h
 refine g ?_
 cases h; exact .r
 exact p ((16 : Int)) h ze
 refine zr (fun (b : Int × Int) => [(8, .int .i64 (b.fst)), (7, .int .i64 0), (6, .str ((ByteArray.mk #[]).data.toList)), (2, .int .i64 6), (1, .int .i64 8), (0, .ptr 31 []), (1000054, .str (a.S)), (1000053, .ptr 0 ([] ++ [Step.fld 4 4])), (1000051, .ptr 31 []), (1000050, .fls), (1000049, .bool (!decide (i.fst = 8))), (1000048, .int .i64 (i.fst)), (1000047, .ptr 31 []), (1000005, .ptr 31 []), (1000046, .ptr 31 []), (1000045, qa (TR.mk a.S 0)), (1000044, .str (a.S)), (1000043, .ptr 0 ([] ++ [Step.fld 4 4])), (1000041, .bool (decide (a.Kind = 1))), (1000042, .bool (decide (a.Kind = 1))), (1000040, .int .i64 (a.Kind)), (1000039, .ptr 0 ([] ++ [Step.fld 0 0])), (1000004, .int .i64 0), (1000035, zQ a), (1000034, .fls), (1000033, .bool (decide (9 < a.Kind))), (1000032, .bool (decide (9 < a.Kind))), (1000031, .int .i64 (a.Kind)), (1000030, .ptr 0 ([] ++ [Step.fld 0 0])), (1000029, .fls), (1000028, .bool (decide (a.Kind < 1))), (1000027, .int .i64 (a.Kind)), (1000026, .ptr 0 ([] ++ [Step.fld 0 0])), (1000003, .ptr (9) []), (1000002, .int .i64 0), (1000001, .ptr 0 [])]) (fun b => [(31, .var true (qa (TR.mk a.S b.snd))), (9, .var true (zQ (TK.mk a.Kind a.From a.To f.fst f.snd))), (0, .var true (zQ a))]) 97 h ze (fun b t z c h => ?_)
 refine qV h (fun m h => ?_) (fun m h => ?_)
 refine zd h fun j h => ?_
 refine zu (fn := Tryz.f112) (cuts := []) ok Tryz.func112 (by kernel_rfl) rfl ?_
 refine za h ?_ ?_ <;> intro _ h
 exact c (((10 : Int), j)) h ze
 refine zt h fun A h => zd h fun C h => zf h (fun _ => yB) fun n h => ?_
 exact c ((n.fst, j)) h ze
 refine za h ?_ ?_ <;> intro _ h
 refine zd h fun k h => ?_
 refine zu (fn := Tryz.f112) (cuts := []) ok Tryz.func112 (by kernel_rfl) rfl ?_
 refine za h ?_ ?_ <;> intro _ h
 exact c (((10 : Int), k)) h ze
 refine zt h fun D h => zd h fun F h => zf h (fun _ => yB) fun o h => ?_
 exact c ((o.fst, k)) h ze
 exact l ((decide (b.fst = (6 : Int)), b)) h ze
 refine ⟨?_, trivial⟩
 refine qV h (fun H h => ?_) (fun H h => ?_)
 refine ⟨?_, ?_⟩
 refine ⟨?_, ?_⟩
 refine ⟨?_, trivial⟩
 refine ⟨?_, trivial⟩
 refine ⟨?_, trivial⟩
 refine g ?_
 cases h; exact .r
 refine ⟨?_, trivial⟩
 refine ⟨?_, trivial⟩
 refine ⟨?_, trivial⟩
 refine ⟨?_, trivial⟩
 refine g ?_
 cases h; exact .r
 refine ⟨?_, trivial⟩
 refine ⟨?_, trivial⟩
 refine ⟨?_, trivial⟩
 refine ⟨?_, trivial⟩
 refine ⟨?_, trivial⟩
 refine g ?_
 cases h; exact .r
 refine ⟨?_, ?_⟩
 refine ⟨?_, ?_⟩
 refine zu (fn := Tryz.f113) (cuts := [0]) ok Tryz.func113 (by kernel_rfl) rfl ?_
 refine zu (fn := Tryz.f112) (cuts := []) ok Tryz.func112 (by kernel_rfl) rfl ?_
 refine ⟨fun e => absurd (e.symm.trans q) (by decide), fun _ => ?_⟩
 refine zt h fun v h => zd h fun w h => zf h (fun _ => yB) fun x h => ?_
 refine zx (fun (d : Bool × Int × Int) => [(26, .bool (d.fst)), (8, .int .i64 (d.snd.fst)), (7, .int .i64 0), (6, .str ((ByteArray.mk #[]).data.toList)), (2, .int .i64 6), (1, .int .i64 8), (0, .ptr 31 []), (1000051, .ptr 31 []), (1000053, .ptr 0 ([] ++ [Step.fld 4 4])), (1000050, .fls), (1000049, .bool (!decide (i.fst = 8))), (1000048, .int .i64 (i.fst)), (1000047, .ptr 31 []), (1000005, .ptr 31 []), (1000046, .ptr 31 []), (1000045, qa (TR.mk a.S 0)), (1000044, .str (a.S)), (1000043, .ptr 0 ([] ++ [Step.fld 4 4])), (1000041, .bool (decide (a.Kind = 1))), (1000042, .bool (decide (a.Kind = 1))), (1000040, .int .i64 (a.Kind)), (1000039, .ptr 0 ([] ++ [Step.fld 0 0])), (1000004, .int .i64 0), (1000035, zQ a), (1000034, .fls), (1000033, .bool (decide (9 < a.Kind))), (1000032, .bool (decide (9 < a.Kind))), (1000031, .int .i64 (a.Kind)), (1000030, .ptr 0 ([] ++ [Step.fld 0 0])), (1000029, .fls), (1000028, .bool (decide (a.Kind < 1))), (1000027, .int .i64 (a.Kind)), (1000026, .ptr 0 ([] ++ [Step.fld 0 0])), (1000003, .ptr (9) []), (1000002, .int .i64 0), (1000001, .ptr 0 [])]) (fun d => [(31, .var true (qa (TR.mk a.S d.snd.snd))), (9, .var true (zQ (TK.mk a.Kind a.From a.To f.fst f.snd))), (0, .var true (zQ a))]) 32 h (fun d h => ?_) (fun y l s h => ?_)
 refine ⟨by trivial, ?_⟩
 refine zl h fun _ h => ?_
 refine ⟨?_, trivial⟩
 refine ⟨?_, trivial⟩
 refine ⟨?_, trivial⟩
 refine za h ?_ ?_ <;> intro _ h
 refine g ?_
 cases h; exact .r
 exact p ((16 : Int)) h ze
 refine zr (fun (b : Int × Int) => [(8, .int .i64 (b.fst)), (7, .int .i64 0), (6, .str ((ByteArray.mk #[]).data.toList)), (2, .int .i64 6), (1, .int .i64 8), (0, .ptr 31 []), (1000051, .ptr 31 []), (1000053, .ptr 0 ([] ++ [Step.fld 4 4])), (1000050, .fls), (1000049, .bool (!decide (i.fst = 8))), (1000048, .int .i64 (i.fst)), (1000047, .ptr 31 []), (1000005, .ptr 31 []), (1000046, .ptr 31 []), (1000045, qa (TR.mk a.S 0)), (1000044, .str (a.S)), (1000043, .ptr 0 ([] ++ [Step.fld 4 4])), (1000041, .bool (decide (a.Kind = 1))), (1000042, .bool (decide (a.Kind = 1))), (1000040, .int .i64 (a.Kind)), (1000039, .ptr 0 ([] ++ [Step.fld 0 0])), (1000004, .int .i64 0), (1000035, zQ a), (1000034, .fls), (1000033, .bool (decide (9 < a.Kind))), (1000032, .bool (decide (9 < a.Kind))), (1000031, .int .i64 (a.Kind)), (1000030, .ptr 0 ([] ++ [Step.fld 0 0])), (1000029, .fls), (1000028, .bool (decide (a.Kind < 1))), (1000027, .int .i64 (a.Kind)), (1000026, .ptr 0 ([] ++ [Step.fld 0 0])), (1000003, .ptr (9) []), (1000002, .int .i64 0), (1000001, .ptr 0 [])]) (fun b => [(31, .var true (qa (TR.mk a.S b.snd))), (9, .var true (zQ (TK.mk a.Kind a.From a.To f.fst f.snd))), (0, .var true (zQ a))]) 96 h ze (fun b t z c h => ?_)
 refine qV h (fun m h => ?_) (fun m h => ?_)
 refine zd h fun j h => ?_
 refine zu (fn := Tryz.f112) (cuts := []) ok Tryz.func112 (by kernel_rfl) rfl ?_
 refine za h ?_ ?_ <;> intro _ h
 exact c (((10 : Int), j)) h ze
 refine zt h fun A h => zd h fun C h => zf h (fun _ => yB) fun n h => ?_
 exact c ((n.fst, j)) h ze
 refine za h ?_ ?_ <;> intro _ h
 refine zd h fun k h => ?_
 refine zu (fn := Tryz.f112) (cuts := []) ok Tryz.func112 (by kernel_rfl) rfl ?_
 refine za h ?_ ?_ <;> intro _ h
 exact c (((10 : Int), k)) h ze
 refine zt h fun D h => zd h fun F h => zf h (fun _ => yB) fun o h => ?_
 exact c ((o.fst, k)) h ze
 exact l ((decide (b.fst = (6 : Int)), b)) h ze
 refine ⟨?_, trivial⟩
 refine ⟨?_, trivial⟩
 refine zu (fn := Tryz.f113) (cuts := [0]) ok Tryz.func113 (by kernel_rfl) rfl ?_
 refine zu (fn := Tryz.f112) (cuts := []) ok Tryz.func112 (by kernel_rfl) rfl ?_
 refine ⟨fun e => absurd (e.symm.trans q) (by decide), fun _ => ?_⟩
 refine zt h fun v h => zd h fun w h => zf h (fun _ => yB) fun x h => ?_
 refine zx (fun (d : Bool × Int × Int) => [(26, .bool (d.fst)), (8, .int .i64 (d.snd.fst)), (7, .int .i64 0), (6, .str ((ByteArray.mk #[]).data.toList)), (2, .int .i64 6), (1, .int .i64 8), (0, .ptr 31 []), (1000054, .str (a.S)), (1000051, .ptr 31 []), (1000053, .ptr 0 ([] ++ [Step.fld 4 4])), (1000050, .fls), (1000049, .bool (!decide (i.fst = 8))), (1000048, .int .i64 (i.fst)), (1000047, .ptr 31 []), (1000005, .ptr 31 []), (1000046, .ptr 31 []), (1000045, qa (TR.mk a.S 0)), (1000044, .str (a.S)), (1000043, .ptr 0 ([] ++ [Step.fld 4 4])), (1000041, .bool (decide (a.Kind = 1))), (1000042, .bool (decide (a.Kind = 1))), (1000040, .int .i64 (a.Kind)), (1000039, .ptr 0 ([] ++ [Step.fld 0 0])), (1000004, .int .i64 0), (1000035, zQ a), (1000034, .fls), (1000033, .bool (decide (9 < a.Kind))), (1000032, .bool (decide (9 < a.Kind))), (1000031, .int .i64 (a.Kind)), (1000030, .ptr 0 ([] ++ [Step.fld 0 0])), (1000029, .fls), (1000028, .bool (decide (a.Kind < 1))), (1000027, .int .i64 (a.Kind)), (1000026, .ptr 0 ([] ++ [Step.fld 0 0])), (1000003, .ptr (9) []), (1000002, .int .i64 0), (1000001, .ptr 0 [])]) (fun d => [(31, .var true (qa (TR.mk a.S d.snd.snd))), (9, .var true (zQ (TK.mk a.Kind a.From a.To f.fst f.snd))), (0, .var true (zQ a))]) 32 h (fun d h => ?_) (fun y l s h => ?_)
 refine ⟨by trivial, ?_⟩
 refine zl h fun _ h => ?_
 refine ⟨?_, trivial⟩
 refine ⟨?_, trivial⟩
 refine za h ?_ ?_ <;> intro _ h
 refine g ?_
 cases h; exact .r
 exact p ((16 : Int)) h ze
 refine zr (fun (b : Int × Int) => [(8, .int .i64 (b.fst)), (7, .int .i64 0), (6, .str ((ByteArray.mk #[]).data.toList)), (2, .int .i64 6), (1, .int .i64 8), (0, .ptr 31 []), (1000054, .str (a.S)), (1000051, .ptr 31 []), (1000053, .ptr 0 ([] ++ [Step.fld 4 4])), (1000050, .fls), (1000049, .bool (!decide (i.fst = 8))), (1000048, .int .i64 (i.fst)), (1000047, .ptr 31 []), (1000005, .ptr 31 []), (1000046, .ptr 31 []), (1000045, qa (TR.mk a.S 0)), (1000044, .str (a.S)), (1000043, .ptr 0 ([] ++ [Step.fld 4 4])), (1000041, .bool (decide (a.Kind = 1))), (1000042, .bool (decide (a.Kind = 1))), (1000040, .int .i64 (a.Kind)), (1000039, .ptr 0 ([] ++ [Step.fld 0 0])), (1000004, .int .i64 0), (1000035, zQ a), (1000034, .fls), (1000033, .bool (decide (9 < a.Kind))), (1000032, .bool (decide (9 < a.Kind))), (1000031, .int .i64 (a.Kind)), (1000030, .ptr 0 ([] ++ [Step.fld 0 0])), (1000029, .fls), (1000028, .bool (decide (a.Kind < 1))), (1000027, .int .i64 (a.Kind)), (1000026, .ptr 0 ([] ++ [Step.fld 0 0])), (1000003, .ptr (9) []), (1000002, .int .i64 0), (1000001, .ptr 0 [])]) (fun b => [(31, .var true (qa (TR.mk a.S b.snd))), (9, .var true (zQ (TK.mk a.Kind a.From a.To f.fst f.snd))), (0, .var true (zQ a))]) 97 h ze (fun b t z c h => ?_)
 refine qV h (fun m h => ?_) (fun m h => ?_)
 refine zd h fun j h => ?_
 refine zu (fn := Tryz.f112) (cuts := []) ok Tryz.func112 (by kernel_rfl) rfl ?_
 refine za h ?_ ?_ <;> intro _ h
 exact c (((10 : Int), j)) h ze
 refine zt h fun A h => zd h fun C h => zf h (fun _ => yB) fun n h => ?_
 exact c ((n.fst, j)) h ze
 refine za h ?_ ?_ <;> intro _ h
 refine zd h fun k h => ?_
 refine zu (fn := Tryz.f112) (cuts := []) ok Tryz.func112 (by kernel_rfl) rfl ?_
 refine za h ?_ ?_ <;> intro _ h
 exact c (((10 : Int), k)) h ze
 refine zt h fun D h => zd h fun F h => zf h (fun _ => yB) fun o h => ?_
 exact c ((o.fst, k)) h ze
 exact l ((decide (b.fst = (6 : Int)), b)) h ze
 refine ⟨?_, trivial⟩
 refine ⟨?_, trivial⟩
 refine ⟨?_, trivial⟩
 refine zu (fn := Tryz.f113) (cuts := [0]) ok Tryz.func113 (by kernel_rfl) rfl ?_
 refine zu (fn := Tryz.f112) (cuts := []) ok Tryz.func112 (by kernel_rfl) rfl ?_
 refine ⟨fun e => absurd (e.symm.trans q) (by decide), fun _ => ?_⟩
 refine zt h fun v h => zd h fun w h => zf h (fun _ => yB) fun x h => ?_
 refine zx (fun (d : Bool × Int × Int) => [(26, .bool (d.fst)), (8, .int .i64 (d.snd.fst)), (7, .int .i64 0), (6, .str ((ByteArray.mk #[]).data.toList)), (2, .int .i64 6), (1, .int .i64 8), (0, .ptr 31 []), (1000051, .ptr 31 []), (1000054, .str (a.S)), (1000053, .ptr 0 ([] ++ [Step.fld 4 4])), (1000050, .fls), (1000049, .bool (!decide (i.fst = 8))), (1000048, .int .i64 (i.fst)), (1000047, .ptr 31 []), (1000005, .ptr 31 []), (1000046, .ptr 31 []), (1000045, qa (TR.mk a.S 0)), (1000044, .str (a.S)), (1000043, .ptr 0 ([] ++ [Step.fld 4 4])), (1000041, .bool (decide (a.Kind = 1))), (1000042, .bool (decide (a.Kind = 1))), (1000040, .int .i64 (a.Kind)), (1000039, .ptr 0 ([] ++ [Step.fld 0 0])), (1000004, .int .i64 0), (1000035, zQ a), (1000034, .fls), (1000033, .bool (decide (9 < a.Kind))), (1000032, .bool (decide (9 < a.Kind))), (1000031, .int .i64 (a.Kind)), (1000030, .ptr 0 ([] ++ [Step.fld 0 0])), (1000029, .fls), (1000028, .bool (decide (a.Kind < 1))), (1000027, .int .i64 (a.Kind)), (1000026, .ptr 0 ([] ++ [Step.fld 0 0])), (1000003, .ptr (9) []), (1000002, .int .i64 0), (1000001, .ptr 0 [])]) (fun d => [(31, .var true (qa (TR.mk a.S d.snd.snd))), (9, .var true (zQ (TK.mk a.Kind a.From a.To f.fst f.snd))), (0, .var true (zQ a))]) 32 h (fun d h => ?_) (fun y l s h => ?_)
 refine ⟨by trivial, ?_⟩
 refine zl h fun _ h => ?_
 refine ⟨?_, trivial⟩
 refine ⟨?_, trivial⟩
 refine za h ?_ ?_ <;> intro _ h
 refine g ?_
 cases h; exact .r
 exact p ((16 : Int)) h ze
 refine zr (fun (b : Int × Int) => [(8, .int .i64 (b.fst)), (7, .int .i64 0), (6, .str ((ByteArray.mk #[]).data.toList)), (2, .int .i64 6), (1, .int .i64 8), (0, .ptr 31 []), (1000051, .ptr 31 []), (1000054, .str (a.S)), (1000053, .ptr 0 ([] ++ [Step.fld 4 4])), (1000050, .fls), (1000049, .bool (!decide (i.fst = 8))), (1000048, .int .i64 (i.fst)), (1000047, .ptr 31 []), (1000005, .ptr 31 []), (1000046, .ptr 31 []), (1000045, qa (TR.mk a.S 0)), (1000044, .str (a.S)), (1000043, .ptr 0 ([] ++ [Step.fld 4 4])), (1000041, .bool (decide (a.Kind = 1))), (1000042, .bool (decide (a.Kind = 1))), (1000040, .int .i64 (a.Kind)), (1000039, .ptr 0 ([] ++ [Step.fld 0 0])), (1000004, .int .i64 0), (1000035, zQ a), (1000034, .fls), (1000033, .bool (decide (9 < a.Kind))), (1000032, .bool (decide (9 < a.Kind))), (1000031, .int .i64 (a.Kind)), (1000030, .ptr 0 ([] ++ [Step.fld 0 0])), (1000029, .fls), (1000028, .bool (decide (a.Kind < 1))), (1000027, .int .i64 (a.Kind)), (1000026, .ptr 0 ([] ++ [Step.fld 0 0])), (1000003, .ptr (9) []), (1000002, .int .i64 0), (1000001, .ptr 0 [])]) (fun b => [(31, .var true (qa (TR.mk a.S b.snd))), (9, .var true (zQ (TK.mk a.Kind a.From a.To f.fst f.snd))), (0, .var true (zQ a))]) 97 h ze (fun b t z c h => ?_)
 refine qV h (fun m h => ?_) (fun m h => ?_)
 refine zd h fun j h => ?_
 refine zu (fn := Tryz.f112) (cuts := []) ok Tryz.func112 (by kernel_rfl) rfl ?_
 refine za h ?_ ?_ <;> intro _ h
 exact c (((10 : Int), j)) h ze
 refine zt h fun A h => zd h fun C h => zf h (fun _ => yB) fun n h => ?_
 exact c ((n.fst, j)) h ze
 refine za h ?_ ?_ <;> intro _ h
 refine zd h fun k h => ?_
 refine zu (fn := Tryz.f112) (cuts := []) ok Tryz.func112 (by kernel_rfl) rfl ?_
 refine za h ?_ ?_ <;> intro _ h
 exact c (((10 : Int), k)) h ze
 refine zt h fun D h => zd h fun F h => zf h (fun _ => yB) fun o h => ?_
 exact c ((o.fst, k)) h ze
 exact l ((decide (b.fst = (6 : Int)), b)) h ze
 refine za h ?_ ?_ <;> intro _ h
 refine zf h (fun _ => zz4) fun _ h => za h (fun _ h => ?_) fun _ h => ?_
 refine g ?_
 cases h; exact .r
 exact p ((2000 : Int)) h ze
 exact p ((0 : Int)) h ze
 refine za h (fun I h => ?_) (fun I h => ?_)
 refine ⟨fun _ => ?_, fun e => absurd (e.symm.trans I) (by decide)⟩
 exact u (((0 : Int), a.S)) h ze
 refine za h ?_ ?_ <;> intro _ h
 exact u (((0 : Int), a.S)) h ze
 refine za h (fun L h => ?_) (fun L h => ?_)
 exact u ((a.N, [])) h ze
 exact u (((0 : Int), [])) h ze
theorem zyg {l : List UInt8} {r : Bool} (h : zg8 l = some r) : Ret E 64 [SV.str l] (SV.bool r) := by
 refine rg [] Tryz.func64 h fun h => ?_
 refine za h (fun a h => ?_) (fun a h => ?_)
 refine ⟨fun _ => ?_, fun e => absurd (e.symm.trans a) (by decide)⟩
 cases h; exact .r
 refine za h (fun b h => ?_) (fun b h => ?_)
 refine ⟨fun _ => ?_, fun e => absurd (e.symm.trans b) (by decide)⟩
 cases h; exact .r
 refine za h (fun c h => ?_) (fun c h => ?_)
 refine ⟨fun _ => ?_, fun e => absurd (e.symm.trans c) (by decide)⟩
 cases h; exact .r
 refine za h (fun d h => ?_) (fun d h => ?_)
 refine ⟨fun _ => ?_, fun e => absurd (e.symm.trans d) (by decide)⟩
 cases h; exact .r
 refine za h (fun f h => ?_) (fun f h => ?_)
 refine ⟨fun _ => ?_, fun e => absurd (e.symm.trans f) (by decide)⟩
 cases h; exact .r
 refine za h (fun g h => ?_) (fun g h => ?_)
 refine ⟨fun _ => ?_, fun e => absurd (e.symm.trans g) (by decide)⟩
 cases h; exact .r
 refine za h (fun i h => ?_) (fun i h => ?_)
 refine ⟨fun _ => ?_, fun e => absurd (e.symm.trans i) (by decide)⟩
 cases h; exact .r
 refine za h (fun j h => ?_) (fun j h => ?_)
 refine ⟨fun _ => ?_, fun e => absurd (e.symm.trans j) (by decide)⟩
 cases h; exact .r
 refine za h (fun k h => ?_) (fun k h => ?_)
 refine ⟨fun _ => ?_, fun e => absurd (e.symm.trans k) (by decide)⟩
 cases h; exact .r
 refine za h ?_ ?_ <;> intro _ h
 cases h; exact .r
 refine zf h (fun _ => zAe) fun _ h => za h (fun _ h => ?_) fun _ h => ?_
 cases h; exact .r
 refine zf h (fun _ => zAw) fun _ h => ?_
 cases h; exact .r
theorem xB {a : TL} {b : Int} {r : Bool} (h : jg a b = some r) : Ret E 16 [wt qk a, SV.int .i64 b] (SV.bool r) := by
 refine rg [] Tryz.func16 h fun h => ?_
 refine za h ?_ ?_ <;> intro _ h
 cases h; exact .r
 cases h; exact .r
theorem zAy {f : TP} {r : Int × Int} (h : zp6 f = some r) : Ret E 30 [wt qn f] (SV.tup [SV.int .i64 r.fst, SV.int .i64 r.snd]) := by
 refine rg [0] Tryz.func30 h fun h => ?_
 refine za h ?_ ?_ <;> intro _ h
 cases h; exact .r
 refine zx (fun (i : Unit) => [(3, .int .i64 0), (2, .int .i64 0)]) (fun _ => []) 1 h (fun i h => ?_) (fun s g b h => ?_)
 cases h; exact .r
 refine zr (fun (a : Int × List (List UInt8)) => [(20, .int .i64 (a.fst)), (19, .int .i64 ((↑(List.length (List.map qa f.Channels)) : Int))), (18, (zm 2 qa) (f.Channels)), (4, .mpr (8)), (3, .int .i64 0), (2, .int .i64 0), (0, (wt qn) f)]) (fun a => [(8, .mp (List.map (za8 SV.str) a.snd))]) 16 h ze (fun a q t d h => ?_)
 refine za h (fun j h => ?_) (fun j h => ?_)
 refine zw qa h rfl fun c h => ?_
 refine zu (fn := Tryz.f47) (cuts := []) ok Tryz.func47 (by kernel_rfl) rfl ?_
 refine zf h (fun _ => zyg) fun _ h => za h (fun _ h => ?_) fun _ h => ?_
 refine pT ?_
 refine b ?_
 cases h; exact .r
 refine zg6 (enc := SV.str) (k := c.s_) (l := a.snd) h rfl (fun _ => zbx (by kernel_rfl) _ _) (fun m h u => ?_) (fun m h => ?_)
 refine pT ?_
 refine b ?_
 cases h; exact .r
 refine zg6 (enc := SV.str) (k := c.s_) (l := a.snd) h rfl (fun _ => zbx (by kernel_rfl) _ _) (fun n h v => ?_) (fun n h => ?_)
 refine pF ?_
 refine ⟨by trivial, ?_⟩
 refine zf h (fun _ => xB) fun _ h => za h (fun _ h => ?_) fun _ h => ?_
 refine b ?_
 cases h; exact .r
 refine zd h fun o h => ?_
 exact d ((o, a.snd)) h ze
 refine pF ?_
 refine ⟨by trivial, ?_⟩
 refine zf h (fun _ => xB) fun _ h => za h (fun _ h => ?_) fun _ h => ?_
 refine b ?_
 cases h; exact .r
 refine zd h fun p h => ?_
 exact d ((p, a.snd ++ [c.s_])) h (ww ⟨.refl _, .refl _, .refl _, .refl _, .refl _, .refl _, .refl _, trivial⟩ ⟨(.eq (congrArg Blk.mp (zfh (e := SV.str) (x := c.s_) (l := a.snd)))), trivial⟩ rfl rfl rfl)
 exact g (()) h ze
theorem zAp {f : TL} {c : List Int} {r : Int} (h : zp0 f c = some r) : Ret E 35 [wt qk f, zm 1 (SV.int .i64) c] (SV.int .i64 r) := by
 refine rg [0] Tryz.func35 h fun h => ?_
 refine zf h (fun _ => zt7) fun l h => za h (fun _ h => ?_) fun _ h => ?_
 cases h; exact .r
 refine zx (fun (g : Unit) => [(4, .int .i64 0)]) (fun _ => []) 1 h (fun g h => ?_) (fun m d a h => ?_)
 cases h; exact .r
 refine zr (fun (b : Int) => [(21, .int .i64 b), (20, .int .i64 ((↑(List.length (List.map (SV.int .i64) c)) : Int))), (19, (zm 1 (SV.int .i64)) c), (4, .int .i64 0), (0, (wt qk) f)]) (fun _ => []) 15 h ze (fun b k n e h => ?_)
 refine za h ?_ ?_ <;> intro _ h
 refine zw (SV.int .i64) h rfl fun _ h => ?_
 refine qV h (fun i h => ?_) (fun i h => ?_)
 refine a ?_
 cases h; exact .r
 refine za h ?_ ?_ <;> intro _ h
 refine a ?_
 cases h; exact .r
 refine zd h fun j h => ?_
 exact e j h ze
 exact d (()) h ze
theorem zA7 {a : Int} {r : Int} (h : zkn a = some r) : Ret E 115 [SV.int .u8 a] (SV.int .i64 r) := by
 refine rg [] Tryz.func115 h fun h => ?_
 refine zt h fun _ h => zd h fun _ h => ?_
 cases h; exact .r
theorem zAm {e : List Int} {f : Int} {r : Int} (h : zo9 e f = some r) : Ret E 82 [zK 8 1 (SV.int .u8) e, SV.int .i64 f] (SV.int .i64 r) := by
 refine rg [0] Tryz.func82 h fun h => ?_
 refine zx (fun (c : Int) => [(5, .int .i64 c), (4, .int .i64 0)]) (fun _ => []) 1 h (fun c h => ?_) (fun l b j h => ?_)
 cases h; exact .r
 refine zr (fun (a : Int) => [(5, .int .i64 a), (4, .int .i64 0), (2, .ptr 0 []), (1, .int .i64 f)]) (fun a => [(0, .var true ((zK 8 1 (SV.int .u8)) e))]) 3 h ze (fun a k m d h => ?_)
 refine zd h fun _ h => za h (fun _ h => ?_) fun _ h => ?_
 refine zl h fun _ h => zw (SV.int .u8) h rfl fun _ h => zf h (fun _ => zA7) fun n h => za h (fun g h => ?_) (fun g h => ?_)
 refine zd h fun i h => ?_
 exact d i h ze
 exact b a h ze
 exact b a h ze
theorem zA8 {a : TL} {r : Int × Int} (h : zqs a = some r) : Ret E 65 [qk a] (SV.tup [SV.int .i64 r.fst, SV.int .i64 r.snd]) := by
 refine rg [] Tryz.func65 h fun h => ?_
 refine zf h (fun _ hx => zbe (zAp hx) (WkT.same (WkT.wk .nils rfl rfl rfl WkT.nil))) fun b h => za h (fun _ h => ?_) fun _ h => ?_
 cases h; exact .r
 refine zf h (fun _ => zyp) fun c h => zf h (fun _ => zAm) fun d h => ?_
 cases h; exact .r
theorem zx5 {f : TL} {c : List Int} {r : Int × Int} (h : zmd f c = some r) : Ret E 33 [qk f, zm 1 (SV.int .i64) c] (SV.tup [SV.int .i64 r.fst, SV.int .i64 r.snd]) := by
 refine rg [0] Tryz.func33 h fun h => ?_
 refine zf h (fun _ => zt7) fun l h => za h (fun _ h => ?_) fun _ h => ?_
 cases h; exact .r
 refine za h ?_ ?_ <;> intro _ h
 cases h; exact .r
 refine zx (fun (g : Unit) => [(5, .int .i64 0), (4, .int .i64 0)]) (fun _ => []) 1 h (fun g h => ?_) (fun m d b h => ?_)
 cases h; exact .r
 refine zr (fun (a : Int) => [(23, .int .i64 a), (22, .int .i64 ((↑(List.length (List.map (SV.int .i64) c)) : Int))), (21, (zm 1 (SV.int .i64)) c), (5, .int .i64 0), (4, .int .i64 0), (2, .ptr 0 [])]) (fun a => [(0, .var true (qk f))]) 18 h ze (fun a k n e h => ?_)
 refine za h ?_ ?_ <;> intro _ h
 refine zw (SV.int .i64) h rfl fun o h => ?_
 refine qV h (fun i h => ?_) (fun i h => ?_)
 refine b ?_
 cases h; exact .r
 refine za h ?_ ?_ <;> intro _ h
 refine b ?_
 cases h; exact .r
 refine zd h fun j h => ?_
 exact e j h ze
 exact d (()) h ze
theorem zyq {a : TL} {b : Int} {c : Int} {r : Bool} (h : zc8 a b c = some r) : Ret E 49 [wt qk a, SV.int .i64 b, SV.int .i64 c] (SV.bool r) := by
 refine rg [] Tryz.func49 h fun h => ?_
 refine zw (SV.int .u8) h rfl fun _ h => zl h fun _ h => ?_
 cases h; exact .r
theorem zAl {a : Int} {b : TL} {c : Int} {r : Bool} (h : zuv a b c = some r) : Ret E 84 [SV.int .i64 a, wt qk b, wt (SV.int .i64) c] (SV.bool r) := by
 refine rg [] Tryz.func84 h fun h => ?_
 refine zf h (fun _ => zyq) fun d h => ?_
 cases h; exact .r
theorem zAn {c : List Int} {a : TL × Int} {r : Int} (h : zqo c a = some r) : Ret E 83 [zm 1 (SV.int .i64) c, SV.fn 84 [wt qk a.fst, wt (SV.int .i64) a.snd]] (SV.int .i64 r) := by
 refine rg [0] Tryz.func83 h fun h => ?_
 refine zx (fun (g : Unit) => [(4, .int .i64 0)]) (fun _ => []) 1 h (fun g h => ?_) (fun k d e h => ?_)
 cases h; exact .r
 refine zr (fun (b : Int) => [(8, .int .i64 b), (7, .int .i64 ((↑(List.length (List.map (SV.int .i64) c)) : Int))), (4, .int .i64 0), (1, .fn 84 [wt qk a.fst, wt (SV.int .i64) a.snd]), (0, (zm 1 (SV.int .i64)) c)]) (fun _ => []) 4 h ze (fun b j l f h => ?_)
 refine za h ?_ ?_ <;> intro _ h
 refine zw (SV.int .i64) h rfl fun _ h => zf h (fun _ => zAl) fun _ h => za h (fun _ h => ?_) fun _ h => ?_
 refine e ?_
 cases h; exact .r
 refine zd h fun i h => ?_
 exact f i h ze
 exact d (()) h ze
theorem zy5 {b : TL} {c : List Int} {d : Int} {r : Int × Int} (h : zie b c d = some r) : Ret E 66 [qk b, zm 1 (SV.int .i64) c, SV.int .i64 d] (SV.tup [SV.int .i64 r.fst, SV.int .i64 r.snd]) := by
 refine rg [] Tryz.func66 h fun h => ?_
 refine zf h (fun _ => zx5) fun _ h => za h (fun _ h => ?_) fun _ h => ?_
 cases h; exact .r
 refine qV h (fun a h => ?_) (fun a h => ?_)
 cases h; exact .r
 refine za h ?_ ?_ <;> intro _ h
 cases h; exact .r
 refine zf h (fun _ => zAn) fun _ h => za h (fun _ h => ?_) fun _ h => ?_
 cases h; exact .r
 cases h; exact .r
theorem zx8 {d : TL} {a : TY} {r : Int} (h : zh7 d a = some r) : Ret E 48 [qk d, js a] (SV.int .i64 r) := by
 refine rg [1] Tryz.func48 h fun h => ?_
 refine zf h (fun _ => zA8) fun f h => za h (fun _ h => ?_) fun _ h => ?_
 cases h; exact .r
 refine za h ?_ ?_ <;> intro _ h
 refine za h (fun g h => ?_) (fun g h => ?_)
 refine ⟨fun _ => ?_, fun e => absurd (e.symm.trans g) (by decide)⟩
 cases h; exact .r
 refine za h (fun i h => ?_) (fun i h => ?_)
 refine ⟨fun _ => ?_, fun e => absurd (e.symm.trans i) (by decide)⟩
 cases h; exact .r
 refine za h ?_ ?_ <;> intro _ h
 cases h; exact .r
 refine qr (by decide) ?_
 refine zp (by decide) rfl ?_
 refine zf h (fun _ => xB) fun D h => za h (fun j h => ?_) (fun j h => ?_)
 refine ⟨fun _ => ?_, fun e => absurd (e.symm.trans j) (by decide)⟩
 cases h; exact .r
 refine qr (by decide) ?_
 refine zp (by decide) rfl ?_
 refine zf h (fun _ => xB) fun F h => za h (fun k h => ?_) (fun k h => ?_)
 refine ⟨fun _ => ?_, fun e => absurd (e.symm.trans k) (by decide)⟩
 cases h; exact .r
 refine zf h (fun _ => xB) fun G h => za h (fun x h => ?_) (fun x h => ?_)
 cases h; exact .r
 refine zl h fun _ h => ?_
 refine zx (fun (l : Unit) => [(4, .int .i64 0), (3, .ptr (1) []), (2, .ptr 0 [])]) (fun l => [(1, .var false (js a)), (0, .var true (qk d))]) 2 h (fun l h => ?_) (fun H q s h => ?_)
 refine ⟨by trivial, ?_⟩
 refine zl h fun _ h => zf h (fun _ hx => zbe (zy5 hx) (WkT.same (WkT.wk (.sl (.of (by first | (simp only [zm, zK, List.map_append, List.map_take, List.map_drop, List.map_set, List.map_replicate]; done) | (simp [zm, zK, List.map_append, List.map_take, List.map_drop, List.map_set, List.map_replicate]; done) | rfl))) rfl rfl rfl (WkT.same WkT.nil)))) fun I h => ?_
 refine za h ?_ ?_ <;> intro _ h
 cases h; exact .r
 cases h; exact .r
 refine zr (fun (b : Int) => [(55, .int .i64 b), (54, .int .i64 ((↑(List.length (List.drop (Int.toNat a.Rank) (List.take (Int.toNat (↑(2 : Nat) : Int)) [SV.int .i64 a.Axes.fst, SV.int .i64 a.Axes.snd]))) : Int))), (53, .sl 1 (List.drop (Int.toNat a.Rank) (List.take (Int.toNat (↑(2 : Nat) : Int)) [SV.int .i64 a.Axes.fst, SV.int .i64 a.Axes.snd]))), (5, .int .i64 (f.fst)), (4, .int .i64 0), (3, .ptr (1) []), (2, .ptr 0 [])]) (fun b => [(1, .var false (js a)), (0, .var true (qk d))]) 53 h ze (fun b A J t h => ?_)
 refine za h ?_ ?_ <;> intro _ h
 refine zw (SV.int .i64) h (by first | (simp only [zm, zK, List.map_append, List.map_take, List.map_drop, List.map_set, List.map_replicate]; done) | (simp [zm, zK, List.map_append, List.map_take, List.map_drop, List.map_set, List.map_replicate]; done) | rfl) fun _ h => za h (fun _ h => ?_) fun _ h => ?_
 refine s ?_
 cases h; exact .r
 refine zd h fun y h => ?_
 exact t y h ze
 exact q (()) h ze
 refine za h (fun m h => ?_) (fun m h => ?_)
 refine ⟨fun _ => ?_, fun e => absurd (e.symm.trans m) (by decide)⟩
 cases h; exact .r
 refine za h ?_ ?_ <;> intro _ h
 cases h; exact .r
 refine qr (by decide) ?_
 refine zp (by decide) rfl ?_
 refine zf h (fun _ => xB) fun K h => za h (fun n h => ?_) (fun n h => ?_)
 refine ⟨fun _ => ?_, fun e => absurd (e.symm.trans n) (by decide)⟩
 cases h; exact .r
 refine qr (by decide) ?_
 refine zp (by decide) rfl ?_
 refine zf h (fun _ => xB) fun _ h => za h (fun o h => ?_) (fun o h => ?_)
 refine ⟨fun _ => ?_, fun e => absurd (e.symm.trans o) (by decide)⟩
 cases h; exact .r
 refine zf h (fun _ => xB) fun _ h => za h (fun _ h => ?_) fun _ h => ?_
 cases h; exact .r
 refine zl h fun _ h => ?_
 refine zx (fun (p : Unit) => [(4, .int .i64 0), (3, .ptr (1) []), (2, .ptr 0 [])]) (fun p => [(1, .var false (js a)), (0, .var true (qk d))]) 2 h (fun p h => ?_) (fun L u v h => ?_)
 refine ⟨by trivial, ?_⟩
 refine zl h fun _ h => zf h (fun _ hx => zbe (zy5 hx) (WkT.same (WkT.wk (.sl (.of (by first | (simp only [zm, zK, List.map_append, List.map_take, List.map_drop, List.map_set, List.map_replicate]; done) | (simp [zm, zK, List.map_append, List.map_take, List.map_drop, List.map_set, List.map_replicate]; done) | rfl))) rfl rfl rfl (WkT.same WkT.nil)))) fun _ h => ?_
 refine za h ?_ ?_ <;> intro _ h
 cases h; exact .r
 cases h; exact .r
 refine zr (fun (c : Int) => [(55, .int .i64 c), (54, .int .i64 ((↑(List.length (List.drop (Int.toNat a.Rank) (List.take (Int.toNat (↑(2 : Nat) : Int)) [SV.int .i64 a.Axes.fst, SV.int .i64 a.Axes.snd]))) : Int))), (53, .sl 1 (List.drop (Int.toNat a.Rank) (List.take (Int.toNat (↑(2 : Nat) : Int)) [SV.int .i64 a.Axes.fst, SV.int .i64 a.Axes.snd]))), (5, .int .i64 (f.fst)), (4, .int .i64 0), (3, .ptr (1) []), (2, .ptr 0 [])]) (fun c => [(1, .var false (js a)), (0, .var true (qk d))]) 50 h ze (fun c C M w h => ?_)
 refine za h ?_ ?_ <;> intro _ h
 refine zw (SV.int .i64) h (by first | (simp only [zm, zK, List.map_append, List.map_take, List.map_drop, List.map_set, List.map_replicate]; done) | (simp [zm, zK, List.map_append, List.map_take, List.map_drop, List.map_set, List.map_replicate]; done) | rfl) fun _ h => za h (fun _ h => ?_) fun _ h => ?_
 refine v ?_
 cases h; exact .r
 refine zd h fun z h => ?_
 exact w z h ze
 exact u (()) h ze
theorem zAa {f : TP} {r : Int × Int} (h : zqk f = some r) : Ret E 31 [wt qn f] (SV.tup [SV.int .i64 r.fst, SV.int .i64 r.snd]) := by
 refine rg [0] Tryz.func31 h fun h => ?_
 refine za h ?_ ?_ <;> intro _ h
 cases h; exact .r
 refine zx (fun (i : Unit) => [(3, .int .i64 0), (2, .int .i64 0)]) (fun _ => []) 1 h (fun i h => ?_) (fun q g b h => ?_)
 cases h; exact .r
 refine zr (fun (a : Int × List (List UInt8)) => [(21, .int .i64 (a.fst)), (20, .int .i64 ((↑(List.length (List.map yp f.Vars)) : Int))), (19, (zm 6 yp) (f.Vars)), (4, .mpr (8)), (3, .int .i64 0), (2, .int .i64 0), (0, (wt qn) f)]) (fun a => [(8, .mp (List.map (za8 SV.str) a.snd))]) 16 h ze (fun a p s d h => ?_)
 refine za h ?_ ?_ <;> intro _ h
 refine zw yp h rfl fun c h => ?_
 refine zu (fn := Tryz.f47) (cuts := []) ok Tryz.func47 (by kernel_rfl) rfl ?_
 refine zf h (fun _ => zyg) fun _ h => za h (fun _ h => ?_) fun _ h => ?_
 refine pT ?_
 refine b ?_
 cases h; exact .r
 refine zg6 (enc := SV.str) (k := c.Name) (l := a.snd) h rfl (fun _ => zbx (by kernel_rfl) _ _) (fun j h t => ?_) (fun j h => ?_)
 refine pT ?_
 refine b ?_
 cases h; exact .r
 refine zg6 (enc := SV.str) (k := c.Name) (l := a.snd) h rfl (fun _ => zbx (by kernel_rfl) _ _) (fun m h u => ?_) (fun m h => ?_)
 refine pF ?_
 refine ⟨by trivial, ?_⟩
 refine zf h (fun _ => zx8) fun v h => za h (fun _ h => ?_) fun _ h => ?_
 refine b ?_
 cases h; exact .r
 refine zd h fun n h => ?_
 exact d ((n, a.snd)) h ze
 refine pF ?_
 refine ⟨by trivial, ?_⟩
 refine zf h (fun _ => zx8) fun w h => za h (fun _ h => ?_) fun _ h => ?_
 refine b ?_
 cases h; exact .r
 refine zd h fun o h => ?_
 exact d ((o, a.snd ++ [c.Name])) h (ww ⟨.refl _, .refl _, .refl _, .refl _, .refl _, .refl _, .refl _, trivial⟩ ⟨(.eq (congrArg Blk.mp (zfh (e := SV.str) (x := c.Name) (l := a.snd)))), trivial⟩ rfl rfl rfl)
 exact g (()) h ze
theorem zBc {f : TP} {r : Int × Int} (h : zps f = some r) : Ret E 32 [wt qn f] (SV.tup [SV.int .i64 r.fst, SV.int .i64 r.snd]) := by
 refine rg [0] Tryz.func32 h fun h => ?_
 refine za h ?_ ?_ <;> intro _ h
 cases h; exact .r
 refine zx (fun (m : Unit) => [(3, .int .i64 0), (2, .int .i64 0)]) (fun _ => []) 1 h (fun m h => ?_) (fun v j a h => ?_)
 cases h; exact .r
 refine zr (fun (b : Int × List (Int × Int)) => [(20, .int .i64 (b.fst)), (19, .int .i64 ((↑(List.length (List.map wg f.Rules)) : Int))), (18, (zm 3 wg) (f.Rules)), (4, .mpr (8)), (3, .int .i64 0), (2, .int .i64 0), (0, (wt qn) f)]) (fun b => [(8, .mp (List.map (za8 (xc 1 (SV.int .i64))) b.snd))]) 16 h ze (fun b u w d h => ?_)
 refine za h ?_ ?_ <;> intro _ h
 refine zw wg h rfl fun c h => ?_
 refine ⟨by trivial, ?_⟩
 refine zf h (fun _ => xB) fun _ h => za h (fun g h => ?_) (fun g h => ?_)
 refine ⟨fun _ => ?_, fun e => absurd (e.symm.trans g) (by decide)⟩
 refine a ?_
 cases h; exact .r
 refine ⟨by trivial, ?_⟩
 refine zf h (fun _ => xB) fun y h => za h (fun _ h => ?_) fun _ h => ?_
 refine a ?_
 cases h; exact .r
 refine za h (fun i h => ?_) (fun i h => ?_)
 refine ⟨fun _ => ?_, fun e => absurd (e.symm.trans i) (by decide)⟩
 refine a ?_
 cases h; exact .r
 refine ⟨by trivial, ?_⟩
 refine zw (SV.int .u8) h rfl fun z h => zl h fun _ h => za h (fun _ h => ?_) fun _ h => ?_
 refine a ?_
 cases h; exact .r
 refine zg6 (enc := (xc 1 (SV.int .i64))) (k := (c.From, c.Goal)) (l := b.snd) h rfl (fun _ => zoe (e := 3) (q := .i64) (by kernel_rfl) (by kernel_rfl) (by kernel_rfl) (by kernel_rfl) _ _) (fun n h A => ?_) (fun n h => ?_)
 refine a ?_
 cases h; exact .r
 refine qV h (fun o h => ?_) (fun o h => ?_)
 refine a ?_
 cases h; exact .r
 refine za h ?_ ?_ <;> intro _ h
 refine a ?_
 cases h; exact .r
 refine zg6 (enc := (xc 1 (SV.int .i64))) (k := (c.From, c.Goal)) (l := b.snd) h rfl (fun _ => zoe (e := 3) (q := .i64) (by kernel_rfl) (by kernel_rfl) (by kernel_rfl) (by kernel_rfl) _ _) (fun p h C => ?_) (fun p h => ?_)
 refine zd h fun s h => ?_
 exact d ((s, b.snd)) h ze
 refine zd h fun t h => ?_
 exact d ((t, b.snd ++ [(c.From, c.Goal)])) h (ww ⟨.refl _, .refl _, .refl _, .refl _, .refl _, .refl _, .refl _, trivial⟩ ⟨(.eq (congrArg Blk.mp (zfh (e := (xc 1 (SV.int .i64))) (x := (c.From, c.Goal)) (l := b.snd)))), trivial⟩ rfl rfl rfl)
 exact j (()) h ze
theorem zuf {i : TP} {r : Int × Int × Int} (h : zh9 i = some r) : Ret E 6 [qn i] (SV.tup [SV.int .i64 r.fst, SV.int .i64 r.snd.fst, SV.int .i64 r.snd.snd]) := by
 refine rg [0] Tryz.func6 h fun h => ?_
 refine call L_policy_parts ?_
 refine zx (fun (c : Int × Int × Int) => [(2, .int .i64 (c.fst)), (4, .int .i64 (c.snd.fst)), (3, .int .i64 (c.snd.snd))]) (fun _ => []) 1 h (fun c h => ?_) (fun l a k h => ?_)
 cases h; exact .r
 refine zi5 fun m b => ?_
 refine pT ?_
 refine zp (by decide) rfl ?_
 refine zf h (fun _ => zBh) fun e h => za h (fun _ h => ?_) fun _ h => ?_
 refine zo (r := (1 : Int)) (by decide) ?_
 exact a (((1 : Int), e.snd, e.fst)) h ze
 refine zo (r := (1 : Int)) (by decide) ?_
 refine b _ _ _ ?_
 refine pT ?_
 refine zp (by decide) rfl ?_
 refine zf h (fun _ => zAy) fun f h => za h (fun _ h => ?_) fun _ h => ?_
 refine zo (r := (2 : Int)) (by decide) ?_
 exact a (((2 : Int), f.snd, f.fst)) h ze
 refine zo (r := (2 : Int)) (by decide) ?_
 refine b _ _ _ ?_
 refine pT ?_
 refine zp (by decide) rfl ?_
 refine zf h (fun _ => zAa) fun g h => za h (fun j h => ?_) (fun j h => ?_)
 refine zo (r := (3 : Int)) (by decide) ?_
 exact a (((3 : Int), g.snd, g.fst)) h ze
 refine zo (r := (3 : Int)) (by decide) ?_
 refine b _ _ _ ?_
 refine pT ?_
 refine zp (by decide) rfl ?_
 refine zf h (fun _ => zBc) fun d h => za h (fun _ h => ?_) fun _ h => ?_
 refine zo (r := (4 : Int)) (by decide) ?_
 exact a (((4 : Int), d.snd, d.fst)) h ze
 refine zo (r := (4 : Int)) (by decide) ?_
 refine b _ _ _ ?_
 refine pF ?_
 exact a (((0 : Int), d.snd, d.fst)) h ze
theorem zxs {a : List Int} {b : Int} {c : Int} {r : Bool} (h : zlv a b c = some r) : Ret E 249 [zm 1 (SV.int .i64) a, SV.int .i64 b, SV.int .i64 c] (SV.bool r) := by
 refine rg [] Tryz.func249 h fun h => ?_
 refine ⟨by trivial, ?_⟩
 refine zw (SV.int .i64) h rfl fun _ h => zw (SV.int .i64) h rfl fun d h => za h (fun _ h => ?_) fun _ h => ?_
 refine ⟨by trivial, ?_⟩
 refine zw (SV.int .i64) h rfl fun e h => zw (SV.int .i64) h rfl fun f h => ?_
 cases h; exact .r
 cases h; exact .r
theorem zA1 {a : Int} {b : Int} {c : List Int} {r : Int} (h : zpu a b c = some r) : Ret E 52 [SV.int .i64 a, SV.int .i64 b, wt (zm 1 (SV.int .i64)) c] (SV.int .i64 r) := by
 refine rg [] Tryz.func52 h fun h => ?_
 refine zu (fn := Tryz.f53) (cuts := []) ok Tryz.func53 (by kernel_rfl) rfl ?_
 refine zf h (fun _ => zxs) fun _ h => za h (fun _ h => ?_) fun _ h => ?_
 cases h; exact .r
 refine zf h (fun _ => zxs) fun d h => za h (fun _ h => ?_) fun _ h => ?_
 cases h; exact .r
 cases h; exact .r
theorem zAk {o : TL} {a : List Int} {r : List Int} (h : zkf o a = some r) : Ret E 34 [wt qk o, zm 1 (SV.int .i64) a] (zm 1 (SV.int .i64) r) := by
 refine rg [0, 2] Tryz.func34 h fun h => ?_
 refine zl h fun _ h => ?_
 refine zx (fun (g : List Int) => [(5, .ptr (7) []), (4, .osl 0 1), (1, (zm 1 (SV.int .i64)) a)]) (fun g => [(7, .var true (SV.osl (6) 1)), (6, .row true 1 (List.map (SV.int .i64) g)), (0, .row true 1 [])]) 8 h (fun g h => ?_) (fun d6 I b3 h => ?_)
 refine uo (hK := ?_)
 refine zl h fun _ h => ?_
 refine zu (fn := Tryz.f51) (cuts := []) ok Tryz.func51 (by kernel_rfl) rfl ?_
 refine zd h fun l h => zf h (fun _ => zgb) fun e h => ?_
 refine zu (fn := Tryz.f67) (cuts := [0]) ok Tryz.func67 (by kernel_rfl) rfl ?_
 refine zx (fun (J : Unit) => []) (fun _ => []) 0 h (fun J h => ?_) (fun b4 a2 y h => ?_)
 exact jb h
 refine zr (fun (u : Unit) => [(11, .tru), (10, .tru), (4, .fn 52 [SV.ptr (7) []]), (3, .int .i64 e), (2, .int .i64 ((↑(List.length (List.map (SV.int .i64) a)) : Int))), (1, .int .i64 0), (0, .osl 9 1), (1000012, .fn 52 [SV.ptr (7) []]), (1000011, .int .i64 e), (1000010, .int .u64 l), (1000009, .int .i64 ((↑(List.length (List.map (SV.int .i64) a)) : Int))), (1000008, .int .i64 ((↑(List.length (List.map (SV.int .i64) a)) : Int))), (1000007, .osl 9 1), (1000004, .int .i64 ((↑(List.length (List.map (SV.int .i64) a)) : Int))), (1000006, .int .i64 ((↑(List.length (List.map (SV.int .i64) a)) : Int))), (1000005, .osl 9 1), (1000001, .fn 52 [SV.ptr (7) []]), (1000000, .osl 9 1), (2000046, .fn 52 [SV.ptr (7) []]), (2000045, .osl 9 1), (2000008, .osl 9 1), (2000044, .osl 9 1), (2000043, (zm 1 (SV.int .i64)) a), (2000005, .ptr (7) []), (2000004, .osl 0 1), (2000001, (zm 1 (SV.int .i64)) a)]) (fun u => [(9, .row true 1 (List.map (SV.int .i64) a)), (7, .var true (SV.osl (6) 1)), (6, .row true 1 (List.map (SV.int .i64) g)), (0, .row true 1 [])]) 24 h ze (fun u a3 b5 a4 h => ?_)
 refine zd h fun c h => za h (fun _ h => ?_) fun _ h => ?_
 refine zu (fn := Tryz.f85) (cuts := [0, 2]) ok Tryz.func85 (by kernel_rfl) rfl ?_
 refine zo (r := (1 : Int)) (by decide) ?_
 refine zx (fun (b : Bool × Int × List Int) => [(14, .bool (b.fst)), (8, .int .i64 (b.snd.fst)), (3, .fn 52 [SV.ptr (7) []]), (2, .int .i64 ((↑(List.length (List.map (SV.int .i64) a)) : Int))), (1, .int .i64 0), (0, .osl 9 1), (1000029, .fn 52 [SV.ptr (7) []]), (1000027, .int .i64 0), (1000026, .osl 9 1), (1000025, .bool (decide (c <= 12))), (1000024, .int .i64 c), (1000012, .int .i64 c), (1000023, .int .i64 c), (1000022, .int .i64 0), (1000021, .int .i64 ((↑(List.length (List.map (SV.int .i64) a)) : Int))), (1000011, .tru), (1000010, .tru), (1000004, .fn 52 [SV.ptr (7) []]), (1000003, .int .i64 e), (1000002, .int .i64 ((↑(List.length (List.map (SV.int .i64) a)) : Int))), (1000001, .int .i64 0), (1000000, .osl 9 1), (2000012, .fn 52 [SV.ptr (7) []]), (2000011, .int .i64 e), (2000010, .int .u64 l), (2000007, .osl 9 1), (2000005, .osl 9 1), (2000001, .fn 52 [SV.ptr (7) []]), (2000000, .osl 9 1), (3000046, .fn 52 [SV.ptr (7) []]), (3000045, .osl 9 1), (3000008, .osl 9 1), (3000044, .osl 9 1), (3000043, (zm 1 (SV.int .i64)) a), (3000005, .ptr (7) []), (3000004, .osl 0 1), (3000001, (zm 1 (SV.int .i64)) a)]) (fun b => [(9, .row true 1 (List.map (SV.int .i64) b.snd.snd)), (7, .var true (SV.osl (6) 1)), (6, .row true 1 (List.map (SV.int .i64) g)), (0, .row true 1 [])]) 10 h (fun b h => ?_) (fun b6 z a5 h => ?_)
 refine y ?_
 refine zu (fn := Tryz.f54) (cuts := [0, 2]) ok Tryz.func54 (by kernel_rfl) rfl ?_
 refine za h ?_ ?_ <;> intro _ h
 cases h; exact .r
 refine zx (fun (p : Bool × Int) => [(13, .bool (p.fst)), (3, .int .i64 (p.snd)), (8, .bool (decide ((↑(List.length (List.map (SV.int .i64) b.snd.snd)) : Int) < 2))), (2, .osl 11 1), (0, .osl 9 1), (1000048, .osl 9 1), (1000046, .fn 52 [SV.ptr (7) []]), (1000045, .osl 9 1), (1000008, .osl 9 1), (1000044, .osl 9 1), (1000043, (zm 1 (SV.int .i64)) a), (1000005, .ptr (7) []), (1000004, .osl 0 1), (1000001, (zm 1 (SV.int .i64)) a)]) (fun p => [(11, .row true 1 []), (9, .row true 1 (List.map (SV.int .i64) b.snd.snd)), (7, .var true (SV.osl (6) 1)), (6, .row true 1 (List.map (SV.int .i64) g)), (0, .row true 1 [])]) 12 h (fun p h => ?_) (fun b7 A a6 h => ?_)
 cases h; exact .r
 refine zr (fun (d : Int) => [(3, .int .i64 d), (8, .bool (decide ((↑(List.length (List.map (SV.int .i64) b.snd.snd)) : Int) < 2))), (2, .osl 11 1), (0, .osl 9 1), (1000048, .osl 9 1), (1000046, .fn 52 [SV.ptr (7) []]), (1000045, .osl 9 1), (1000008, .osl 9 1), (1000044, .osl 9 1), (1000043, (zm 1 (SV.int .i64)) a), (1000005, .ptr (7) []), (1000004, .osl 0 1), (1000001, (zm 1 (SV.int .i64)) a)]) (fun d => [(11, .row true 1 []), (9, .row true 1 (List.map (SV.int .i64) b.snd.snd)), (7, .var true (SV.osl (6) 1)), (6, .row true 1 (List.map (SV.int .i64) g)), (0, .row true 1 [])]) 16 h ze (fun d a7 b8 C h => ?_)
 refine za h ?_ ?_ <;> intro _ h
 refine ⟨by trivial, ?_⟩
 refine zl h fun _ h => zw (SV.int .i64) h rfl fun v h => zd h fun b9 h => zl h fun _ h => zw (SV.int .i64) h rfl fun w h => za h (fun _ h => ?_) fun _ h => ?_
 refine zl h fun _ h => ?_
 refine zx (fun (q : Bool × Int) => [(32, .bool (q.fst)), (5, .int .i64 (q.snd)), (4, .sl 1 (List.drop (Int.toNat d) (List.take (Int.toNat (↑(List.length (List.map (SV.int .i64) b.snd.snd)) : Int)) (List.map (SV.int .i64) b.snd.snd)))), (25, .bool (decide (v = w))), (13, .bool (decide (d < (↑(List.length (List.map (SV.int .i64) b.snd.snd)) : Int)))), (3, .int .i64 d), (8, .bool (decide ((↑(List.length (List.map (SV.int .i64) b.snd.snd)) : Int) < 2))), (2, .osl 11 1), (0, .osl 9 1), (1000048, .osl 9 1), (1000046, .fn 52 [SV.ptr (7) []]), (1000045, .osl 9 1), (1000008, .osl 9 1), (1000044, .osl 9 1), (1000043, (zm 1 (SV.int .i64)) a), (1000005, .ptr (7) []), (1000004, .osl 0 1), (1000001, (zm 1 (SV.int .i64)) a)]) (fun q => [(11, .row true 1 []), (9, .row false 1 (List.map (SV.int .i64) b.snd.snd)), (7, .var true (SV.osl (6) 1)), (6, .row true 1 (List.map (SV.int .i64) g)), (0, .row true 1 [])]) 12 h (fun q h => ?_) (fun c0 D a8 h => ?_)
 exact jb h
 refine zr (fun (m : Int) => [(5, .int .i64 m), (4, .sl 1 (List.drop (Int.toNat d) (List.take (Int.toNat (↑(List.length (List.map (SV.int .i64) b.snd.snd)) : Int)) (List.map (SV.int .i64) b.snd.snd)))), (25, .bool (decide (v = w))), (13, .bool (decide (d < (↑(List.length (List.map (SV.int .i64) b.snd.snd)) : Int)))), (3, .int .i64 d), (8, .bool (decide ((↑(List.length (List.map (SV.int .i64) b.snd.snd)) : Int) < 2))), (2, .osl 11 1), (0, .osl 9 1), (1000048, .osl 9 1), (1000046, .fn 52 [SV.ptr (7) []]), (1000045, .osl 9 1), (1000008, .osl 9 1), (1000044, .osl 9 1), (1000043, (zm 1 (SV.int .i64)) a), (1000005, .ptr (7) []), (1000004, .osl 0 1), (1000001, (zm 1 (SV.int .i64)) a)]) (fun m => [(11, .row true 1 []), (9, .row false 1 (List.map (SV.int .i64) b.snd.snd)), (7, .var true (SV.osl (6) 1)), (6, .row true 1 (List.map (SV.int .i64) g)), (0, .row true 1 [])]) 35 h ze (fun m a9 c1 F h => ?_)
 refine za h (fun K h => ?_) (fun K h => ?_)
 refine ⟨by trivial, ?_⟩
 refine zw (SV.int .i64) h (by first | (simp only [zm, zK, List.map_append, List.map_take, List.map_drop, List.map_set, List.map_replicate]; done) | (simp [zm, zK, List.map_append, List.map_take, List.map_drop, List.map_set, List.map_replicate]; done) | rfl) fun _ h => zd h fun c2 h => ?_
 refine zw (SV.int .i64) h (by first | (simp only [zm, zK, List.map_append, List.map_take, List.map_drop, List.map_set, List.map_replicate]; done) | (simp [zm, zK, List.map_append, List.map_take, List.map_drop, List.map_set, List.map_replicate]; done) | rfl) fun _ h => za h (fun L h => ?_) (fun L h => ?_)
 refine zw (SV.int .i64) h (by first | (simp only [zm, zK, List.map_append, List.map_take, List.map_drop, List.map_set, List.map_replicate]; done) | (simp [zm, zK, List.map_append, List.map_take, List.map_drop, List.map_set, List.map_replicate]; done) | rfl) fun _ h => zl h fun _ h => ?_
 exact jb h
 refine zd h fun M h => ?_
 exact F M h ze
 exact D ((decide (m < (↑(List.length (List.drop (Int.toNat d) (List.take (Int.toNat (↑(List.length (List.map (SV.int .i64) b.snd.snd)) : Int)) (List.map (SV.int .i64) b.snd.snd)))) : Int)), m)) h ze
 refine zd h fun N h => ?_
 exact C N h ze
 exact A ((decide (d < (↑(List.length (List.map (SV.int .i64) b.snd.snd)) : Int)), d)) h ze
 refine zr (fun (f : Int × List Int) => [(8, .int .i64 (f.fst)), (3, .fn 52 [SV.ptr (7) []]), (2, .int .i64 ((↑(List.length (List.map (SV.int .i64) a)) : Int))), (1, .int .i64 0), (0, .osl 9 1), (1000029, .fn 52 [SV.ptr (7) []]), (1000027, .int .i64 0), (1000026, .osl 9 1), (1000025, .bool (decide (c <= 12))), (1000024, .int .i64 c), (1000012, .int .i64 c), (1000023, .int .i64 c), (1000022, .int .i64 0), (1000021, .int .i64 ((↑(List.length (List.map (SV.int .i64) a)) : Int))), (1000011, .tru), (1000010, .tru), (1000004, .fn 52 [SV.ptr (7) []]), (1000003, .int .i64 e), (1000002, .int .i64 ((↑(List.length (List.map (SV.int .i64) a)) : Int))), (1000001, .int .i64 0), (1000000, .osl 9 1), (2000012, .fn 52 [SV.ptr (7) []]), (2000011, .int .i64 e), (2000010, .int .u64 l), (2000007, .osl 9 1), (2000005, .osl 9 1), (2000001, .fn 52 [SV.ptr (7) []]), (2000000, .osl 9 1), (3000046, .fn 52 [SV.ptr (7) []]), (3000045, .osl 9 1), (3000008, .osl 9 1), (3000044, .osl 9 1), (3000043, (zm 1 (SV.int .i64)) a), (3000005, .ptr (7) []), (3000004, .osl 0 1), (3000001, (zm 1 (SV.int .i64)) a)]) (fun f => [(9, .row true 1 (List.map (SV.int .i64) f.snd)), (7, .var true (SV.osl (6) 1)), (6, .row true 1 (List.map (SV.int .i64) g)), (0, .row true 1 [])]) 37 h ze (fun f b0 c3 G h => ?_)
 refine za h ?_ ?_ <;> intro _ h
 refine zx (fun (k : Bool × Int × List Int) => [(34, .bool (k.fst)), (9, .int .i64 (k.snd.fst)), (14, .bool (decide (f.fst < (↑(List.length (List.map (SV.int .i64) a)) : Int)))), (8, .int .i64 (f.fst)), (3, .fn 52 [SV.ptr (7) []]), (2, .int .i64 ((↑(List.length (List.map (SV.int .i64) a)) : Int))), (1, .int .i64 0), (0, .osl 9 1), (1000029, .fn 52 [SV.ptr (7) []]), (1000027, .int .i64 0), (1000026, .osl 9 1), (1000025, .bool (decide (c <= 12))), (1000024, .int .i64 c), (1000012, .int .i64 c), (1000023, .int .i64 c), (1000022, .int .i64 0), (1000021, .int .i64 ((↑(List.length (List.map (SV.int .i64) a)) : Int))), (1000011, .tru), (1000010, .tru), (1000004, .fn 52 [SV.ptr (7) []]), (1000003, .int .i64 e), (1000002, .int .i64 ((↑(List.length (List.map (SV.int .i64) a)) : Int))), (1000001, .int .i64 0), (1000000, .osl 9 1), (2000012, .fn 52 [SV.ptr (7) []]), (2000011, .int .i64 e), (2000010, .int .u64 l), (2000007, .osl 9 1), (2000005, .osl 9 1), (2000001, .fn 52 [SV.ptr (7) []]), (2000000, .osl 9 1), (3000046, .fn 52 [SV.ptr (7) []]), (3000045, .osl 9 1), (3000008, .osl 9 1), (3000044, .osl 9 1), (3000043, (zm 1 (SV.int .i64)) a), (3000005, .ptr (7) []), (3000004, .osl 0 1), (3000001, (zm 1 (SV.int .i64)) a)]) (fun k => [(9, .row true 1 (List.map (SV.int .i64) k.snd.snd)), (7, .var true (SV.osl (6) 1)), (6, .row true 1 (List.map (SV.int .i64) g)), (0, .row true 1 [])]) 10 h (fun k h => ?_) (fun c4 s b1 h => ?_)
 refine zd h fun O h => ?_
 exact G ((O, k.snd.snd)) h ze
 refine zr (fun (i : Int × List Int) => [(9, .int .i64 (i.fst)), (14, .bool (decide (f.fst < (↑(List.length (List.map (SV.int .i64) a)) : Int)))), (8, .int .i64 (f.fst)), (3, .fn 52 [SV.ptr (7) []]), (2, .int .i64 ((↑(List.length (List.map (SV.int .i64) a)) : Int))), (1, .int .i64 0), (0, .osl 9 1), (1000029, .fn 52 [SV.ptr (7) []]), (1000027, .int .i64 0), (1000026, .osl 9 1), (1000025, .bool (decide (c <= 12))), (1000024, .int .i64 c), (1000012, .int .i64 c), (1000023, .int .i64 c), (1000022, .int .i64 0), (1000021, .int .i64 ((↑(List.length (List.map (SV.int .i64) a)) : Int))), (1000011, .tru), (1000010, .tru), (1000004, .fn 52 [SV.ptr (7) []]), (1000003, .int .i64 e), (1000002, .int .i64 ((↑(List.length (List.map (SV.int .i64) a)) : Int))), (1000001, .int .i64 0), (1000000, .osl 9 1), (2000012, .fn 52 [SV.ptr (7) []]), (2000011, .int .i64 e), (2000010, .int .u64 l), (2000007, .osl 9 1), (2000005, .osl 9 1), (2000001, .fn 52 [SV.ptr (7) []]), (2000000, .osl 9 1), (3000046, .fn 52 [SV.ptr (7) []]), (3000045, .osl 9 1), (3000008, .osl 9 1), (3000044, .osl 9 1), (3000043, (zm 1 (SV.int .i64)) a), (3000005, .ptr (7) []), (3000004, .osl 0 1), (3000001, (zm 1 (SV.int .i64)) a)]) (fun i => [(9, .row true 1 (List.map (SV.int .i64) i.snd)), (7, .var true (SV.osl (6) 1)), (6, .row true 1 (List.map (SV.int .i64) g)), (0, .row true 1 [])]) 42 h ze (fun i b2 c5 H h => ?_)
 refine ⟨by trivial, ?_⟩
 refine za h ?_ ?_ <;> intro _ h
 refine zl h fun _ h => zw (SV.int .i64) h rfl fun c6 h => zd h fun c7 h => zl h fun _ h => zw (SV.int .i64) h rfl fun c8 h => zf h (fun _ => zA1) fun P h => za h (fun _ h => ?_) fun _ h => ?_
 refine ⟨by trivial, ?_⟩
 refine zd h fun Q h => zd h fun c9 h => zl h fun _ h => zw (SV.int .i64) h rfl fun R h => zl h fun _ h => zw (SV.int .i64) h rfl fun S h => zl h fun _ h => zw (SV.int .i64) h rfl fun d0 h => zl h fun _ h => zw (SV.int .i64) h (by first | (simp only [zm, zK, List.map_append, List.map_take, List.map_drop, List.map_set, List.map_replicate]; done) | (simp [zm, zK, List.map_append, List.map_take, List.map_drop, List.map_set, List.map_replicate]; done) | rfl) fun d1 h => ?_
 refine zd h fun T h => ?_
 exact H ((T, List.set (List.set i.snd (Int.toNat i.fst) R) (Int.toNat Q) S)) h (ww ⟨.refl _, .refl _, .refl _, .refl _, .refl _, .refl _, .refl _, .refl _, .refl _, .refl _, .refl _, .refl _, .refl _, .refl _, .refl _, .refl _, .refl _, .refl _, .refl _, .refl _, .refl _, .refl _, .refl _, .refl _, .refl _, .refl _, .refl _, .refl _, .refl _, .refl _, .refl _, .refl _, .refl _, .refl _, .refl _, .refl _, .refl _, .refl _, trivial⟩ ⟨(.row (.setm (.setm .refl .refl) .refl)), .refl, .refl, .refl, trivial⟩ rfl rfl rfl)
 exact s ((decide (P < (0 : Int)), i)) h ze
 exact s ((false, i)) h (ww ⟨.fls, .refl _, .refl _, .refl _, .refl _, .refl _, .refl _, .refl _, .refl _, .refl _, .refl _, .refl _, .refl _, .refl _, .refl _, .refl _, .refl _, .refl _, .refl _, .refl _, .refl _, .refl _, .refl _, .refl _, .refl _, .refl _, .refl _, .refl _, .refl _, .refl _, .refl _, .refl _, .refl _, .refl _, .refl _, .refl _, .refl _, .refl _, .refl _, trivial⟩ ⟨.refl, .refl, .refl, .refl, trivial⟩ rfl rfl rfl)
 exact z ((decide (f.fst < (↑(List.length (List.map (SV.int .i64) a)) : Int)), f)) h ze
 refine za h ?_ ?_ <;> intro _ h
 exact jb h
 exact jb h
 refine zr (fun (j : Int × List Int) => [(20, .int .i64 (j.fst)), (19, .int .i64 ((↑(List.length (List.map SV.str o.Names)) : Int))), (5, .ptr (7) []), (4, .osl 0 1), (1, (zm 1 (SV.int .i64)) a), (0, (wt qk) o)]) (fun j => [(7, .var true (SV.osl (6) 1)), (6, .row true 1 (List.map (SV.int .i64) j.snd)), (0, .row true 1 [])]) 15 h (ww ⟨.refl _, .refl _, .refl _, .refl _, .refl _, .refl _, trivial⟩ ⟨.refl, (.row (.of (by first | (simp only [zm, zK, List.map_append, List.map_take, List.map_drop, List.map_set, List.map_replicate]; done) | (simp [zm, zK, List.map_append, List.map_take, List.map_drop, List.map_set, List.map_replicate]; done) | rfl))), .refl, trivial⟩ rfl rfl rfl) (fun j d2 d7 U h => ?_)
 refine za h ?_ ?_ <;> intro _ h
 refine zx (fun (t : List Int) => [(20, .int .i64 (j.fst)), (19, .int .i64 ((↑(List.length (List.map SV.str o.Names)) : Int))), (5, .ptr (7) []), (4, .osl 0 1), (1, (zm 1 (SV.int .i64)) a), (0, (wt qk) o)]) (fun t => [(7, .var true (SV.osl (6) 1)), (6, .row true 1 (List.map (SV.int .i64) t)), (0, .row true 1 [])]) 8 h (fun t h => ?_) (fun d8 V d3 h => ?_)
 refine zd h fun W h => ?_
 exact U ((W, t)) h ze
 refine zr (fun (n : Int × List Int) => [(28, .int .i64 (n.fst)), (27, .int .i64 ((↑(List.length (List.map SV.str o.Names)) : Int))), (6, .int .i64 (j.fst)), (20, .int .i64 (j.fst)), (19, .int .i64 ((↑(List.length (List.map SV.str o.Names)) : Int))), (5, .ptr (7) []), (4, .osl 0 1), (1, (zm 1 (SV.int .i64)) a), (0, (wt qk) o)]) (fun n => [(7, .var true (SV.osl (6) 1)), (6, .row true 1 (List.map (SV.int .i64) n.snd)), (0, .row true 1 [])]) 24 h ze (fun n d4 d9 x h => ?_)
 refine za h ?_ ?_ <;> intro _ h
 refine zf h (fun _ => zyq) fun d5 h => za h (fun _ h => ?_) fun _ h => ?_
 refine zl h fun _ h => zw (SV.int .i64) h rfl fun _ h => zd h fun X h => zl h fun _ h => zw (SV.int .i64) h rfl fun _ h => zd h fun Y h => ?_
 exact x ((Y, List.set n.snd (Int.toNat j.fst) X)) h (ww ⟨.refl _, .refl _, .refl _, .refl _, .refl _, .refl _, .refl _, .refl _, .refl _, trivial⟩ ⟨.refl, (.row (.setm .refl .refl)), .refl, trivial⟩ rfl rfl rfl)
 refine zd h fun Z h => ?_
 exact x ((Z, n.snd)) h ze
 exact V (n.snd) h ze
 exact I (j.snd) h ze
theorem zBi {a : TL} {b : List Int} {r : List Int × Int} (h : zpf a b = some r) : Ret E 17 [qk a, zm 1 (SV.int .i64) b] (SV.tup [zm 1 (SV.int .i64) r.fst, SV.int .i64 r.snd]) := by
 refine rg [] Tryz.func17 h fun h => ?_
 refine zf h (fun _ => zx5) fun _ h => za h (fun _ h => ?_) fun _ h => ?_
 cases h; exact .r
 refine zf h (fun _ => zAk) fun c h => ?_
 cases h; exact .r
theorem zz9 {b : TP} {e : Int} {r : List Int × Int} (h : zom b e = some r) : Ret E 7 [qn b, SV.int .i64 e] (SV.tup [zm 1 (SV.int .i64) r.fst, SV.int .i64 r.snd]) := by
 refine rg [0] Tryz.func7 h fun h => ?_
 refine zf h (fun _ => zuf) fun _ h => za h (fun _ h => ?_) fun _ h => ?_
 cases h; exact .r
 refine zf h (fun _ => xB) fun _ h => za h (fun _ h => ?_) fun _ h => ?_
 cases h; exact .r
 refine zx (fun (c : List Int) => [(9, .osl (18) 1), (5, .int .i64 0), (4, .osl (1) 1), (2, .ptr 0 [])]) (fun c => [(18, .row true 1 (List.map (SV.int .i64) c)), (1, .row true 1 []), (0, .var true (qn b))]) 19 h (fun c h => ?_) (fun n f k h => ?_)
 refine zf h (fun _ => zBi) fun l h => ?_
 cases h; exact .r
 refine zr (fun (a : Int × List Int) => [(28, .int .i64 (a.fst)), (27, .int .i64 ((↑(List.length (List.map wg b.Rules)) : Int))), (26, (zm 3 wg) (b.Rules)), (9, .osl (18) 1), (5, .int .i64 0), (4, .osl (1) 1), (2, .ptr 0 []), (1, .int .i64 e)]) (fun a => [(18, .row true 1 (List.map (SV.int .i64) a.snd)), (1, .row true 1 []), (0, .var true (qn b))]) 23 h ze (fun a m o d h => ?_)
 refine za h ?_ ?_ <;> intro _ h
 refine zw wg h rfl fun g h => za h (fun _ h => ?_) fun _ h => ?_
 refine zl h fun _ h => zd h fun i h => ?_
 exact d ((i, a.snd ++ [g.Goal])) h (ww ⟨.refl _, .refl _, .refl _, .refl _, .refl _, .refl _, .refl _, .refl _, trivial⟩ ⟨(.row (.appm .refl (.cons .refl .refl))), .refl, .refl, trivial⟩ rfl rfl rfl)
 refine zd h fun j h => ?_
 exact d ((j, a.snd)) h ze
 exact f (a.snd) h ze
theorem zyc {a : TL} {b : Int} {c : Int} {r : Bool} (h : zma a b c = some r) : Ret E 8 [qk a, SV.int .i64 b, SV.int .i64 c] (SV.bool r) := by
 refine rg [] Tryz.func8 h fun h => ?_
 refine za h ?_ ?_ <;> intro _ h
 refine za h ?_ ?_ <;> intro _ h
 refine za h ?_ ?_ <;> intro _ h
 refine zw (SV.int .u8) h rfl fun d h => zl h fun _ h => ?_
 refine qr (by decide) ?_
 cases h; exact .r
 cases h; exact .r
 cases h; exact .r
 cases h; exact .r
theorem zA9 {c : TP} {f : Int} {g : Int} {r : Int × Int} (h : zpm c f g = some r) : Ret E 9 [qn c, SV.int .i64 f, SV.int .i64 g] (SV.tup [SV.int .i64 r.fst, SV.int .i64 r.snd]) := by
 refine rg [0] Tryz.func9 h fun h => ?_
 refine zf h (fun _ => zuf) fun _ h => za h (fun i h => ?_) (fun i h => ?_)
 cases h; exact .r
 refine zf h (fun _ => xB) fun _ h => ?_
 refine qV h (fun j h => ?_) (fun j h => ?_)
 cases h; exact .r
 refine zf h (fun _ => xB) fun s h => za h (fun k h => ?_) (fun k h => ?_)
 cases h; exact .r
 refine zx (fun (l : Unit) => [(7, .int .i64 0), (6, .int .i64 0)]) (fun _ => []) 1 h (fun l h => ?_) (fun t d e h => ?_)
 cases h; exact .r
 refine zr (fun (b : Int) => [(35, .int .i64 b), (34, .int .i64 ((↑(List.length (List.map wg c.Rules)) : Int))), (33, (zm 3 wg) (c.Rules)), (7, .int .i64 0), (6, .int .i64 0), (2, .int .i64 g), (1, .int .i64 f)]) (fun _ => []) 28 h ze (fun b q u a h => ?_)
 refine za h ?_ ?_ <;> intro _ h
 refine zw wg h rfl fun v h => za h (fun m h => ?_) (fun m h => ?_)
 refine za h (fun n h => ?_) (fun n h => ?_)
 refine e ?_
 cases h; exact .r
 refine zd h fun o h => ?_
 exact a o h ze
 refine zd h fun p h => ?_
 exact a p h ze
 exact d (()) h ze
theorem zAx {a : TP} {r : Bool} (h : zs2 a = some r) : Ret E 3 [qn a] (SV.bool r) := by
 refine rg [0, 2, 4, 6, 8, 10] Tryz.func3 h fun h => ?_
 refine zf h (fun _ => Rz2) fun _ h => za h (fun _ h => ?_) fun _ h => ?_
 refine call L_invigilatorlaw19_awake ?_
 cases h; exact .r
 refine zf h (fun _ => zuf) fun _ h => za h (fun _ h => ?_) fun _ h => ?_
 refine call L_invigilatorlaw19_awake ?_
 cases h; exact .r
 refine zx (fun (b : Int × List (List Bool)) => [(8, .int .i64 (b.fst)), (7, .ptr (20) []), (6, .int .i64 ((↑(List.length (List.map SV.str a.Lattice.Names)) : Int))), (2, .fls), (1, .ptr 0 [])]) (fun b => [(20, .var true ((zK 8 8 (zK 8 1 SV.bool)) (b.snd))), (0, .var true (qn a))]) 21 h (fun b h => ?_) (fun d7 H c h => ?_)
 refine zx (fun (t : Unit) => [(8, .int .i64 (b.fst)), (2, .fls), (1, .ptr 0 [])]) (fun t => [(0, .var true (qn a))]) 1 h (fun t h => ?_) (fun b4 x p h => ?_)
 refine za h ?_ ?_ <;> intro _ h
 refine call L_invigilatorlaw19_awake ?_
 cases h; exact .r
 cases h; exact .r
 refine zr (fun (f : Int) => [(16, .int .i64 f), (8, .int .i64 (b.fst)), (7, .ptr (20) []), (6, .int .i64 ((↑(List.length (List.map SV.str a.Lattice.Names)) : Int))), (2, .fls), (1, .ptr 0 [])]) (fun f => [(20, .var true ((zK 8 8 (zK 8 1 SV.bool)) (b.snd))), (0, .var true (qn a))]) 22 h ze (fun f a9 b5 y h => ?_)
 refine za h (fun I h => ?_) (fun I h => ?_)
 refine zx (fun (u : Unit) => [(16, .int .i64 f), (8, .int .i64 (b.fst)), (7, .ptr (20) []), (6, .int .i64 ((↑(List.length (List.map SV.str a.Lattice.Names)) : Int))), (2, .fls), (1, .ptr 0 [])]) (fun u => [(20, .var true ((zK 8 8 (zK 8 1 SV.bool)) (b.snd))), (0, .var true (qn a))]) 21 h (fun u h => ?_) (fun b6 z q h => ?_)
 refine zd h fun J h => ?_
 exact y J h ze
 refine zr (fun (l : Int) => [(17, .int .i64 l), (16, .int .i64 f), (8, .int .i64 (b.fst)), (7, .ptr (20) []), (6, .int .i64 ((↑(List.length (List.map SV.str a.Lattice.Names)) : Int))), (2, .fls), (1, .ptr 0 [])]) (fun l => [(20, .var true ((zK 8 8 (zK 8 1 SV.bool)) (b.snd))), (0, .var true (qn a))]) 26 h ze (fun l b0 b7 A h => ?_)
 refine za h ?_ ?_ <;> intro _ h
 refine zx (fun (v : Unit) => [(17, .int .i64 l), (16, .int .i64 f), (8, .int .i64 (b.fst)), (7, .ptr (20) []), (6, .int .i64 ((↑(List.length (List.map SV.str a.Lattice.Names)) : Int))), (2, .fls), (1, .ptr 0 [])]) (fun v => [(20, .var true ((zK 8 8 (zK 8 1 SV.bool)) (b.snd))), (0, .var true (qn a))]) 21 h (fun v h => ?_) (fun b8 C s h => ?_)
 refine zd h fun K h => ?_
 exact A K h ze
 refine zr (fun (n : Int) => [(18, .int .i64 n), (17, .int .i64 l), (16, .int .i64 f), (8, .int .i64 (b.fst)), (7, .ptr (20) []), (6, .int .i64 ((↑(List.length (List.map SV.str a.Lattice.Names)) : Int))), (2, .fls), (1, .ptr 0 [])]) (fun n => [(20, .var true ((zK 8 8 (zK 8 1 SV.bool)) (b.snd))), (0, .var true (qn a))]) 30 h ze (fun n b1 b9 m h => ?_)
 refine za h ?_ ?_ <;> intro _ h
 refine zl h fun _ h => zl h fun _ h => zw (zK 8 1 SV.bool) h rfl fun c0 h => zw SV.bool h rfl fun c1 h => za h (fun _ h => ?_) fun _ h => ?_
 refine zl h fun _ h => zl h fun _ h => zw (zK 8 1 SV.bool) h rfl fun _ h => zw SV.bool h rfl fun c2 h => za h (fun _ h => ?_) fun _ h => ?_
 refine qV h (fun L h => ?_) (fun L h => ?_)
 refine s ?_
 refine q ?_
 refine p ?_
 cases h; exact .r
 refine zf h (fun _ => zyc) fun _ h => za h (fun _ h => ?_) fun _ h => ?_
 refine s ?_
 refine q ?_
 refine p ?_
 cases h; exact .r
 refine zd h fun M h => ?_
 exact m M h ze
 refine zd h fun N h => ?_
 exact m N h ze
 refine zd h fun O h => ?_
 exact m O h ze
 exact C (()) h ze
 exact z (()) h ze
 exact x (()) h ze
 refine zr (fun (e : Int × Int × List (List Bool)) => [(9, .int .i64 (e.fst)), (8, .int .i64 (e.snd.fst)), (7, .ptr (20) []), (6, .int .i64 ((↑(List.length (List.map SV.str a.Lattice.Names)) : Int))), (2, .fls), (1, .ptr 0 [])]) (fun e => [(20, .var true ((zK 8 8 (zK 8 1 SV.bool)) (e.snd.snd))), (0, .var true (qn a))]) 23 h (ww ⟨.refl _, .refl _, .refl _, .refl _, .refl _, .refl _, trivial⟩ ⟨(.var (.arr (.cons (.arr (.cons .fls (.cons .fls (.cons .fls (.cons .fls (.cons .fls (.cons .fls (.cons .fls (.cons .fls .refl))))))))) (.cons (.arr (.cons .fls (.cons .fls (.cons .fls (.cons .fls (.cons .fls (.cons .fls (.cons .fls (.cons .fls .refl))))))))) (.cons (.arr (.cons .fls (.cons .fls (.cons .fls (.cons .fls (.cons .fls (.cons .fls (.cons .fls (.cons .fls .refl))))))))) (.cons (.arr (.cons .fls (.cons .fls (.cons .fls (.cons .fls (.cons .fls (.cons .fls (.cons .fls (.cons .fls .refl))))))))) (.cons (.arr (.cons .fls (.cons .fls (.cons .fls (.cons .fls (.cons .fls (.cons .fls (.cons .fls (.cons .fls .refl))))))))) (.cons (.arr (.cons .fls (.cons .fls (.cons .fls (.cons .fls (.cons .fls (.cons .fls (.cons .fls (.cons .fls .refl))))))))) (.cons (.arr (.cons .fls (.cons .fls (.cons .fls (.cons .fls (.cons .fls (.cons .fls (.cons .fls (.cons .fls .refl))))))))) (.cons (.arr (.cons .fls (.cons .fls (.cons .fls (.cons .fls (.cons .fls (.cons .fls (.cons .fls (.cons .fls .refl))))))))) .refl)))))))))), .refl, trivial⟩ rfl rfl rfl) (fun e c3 d8 P h => ?_)
 refine za h ?_ ?_ <;> intro _ h
 refine zf h (fun _ => zz9) fun Q h => za h (fun R h => ?_) (fun R h => ?_)
 refine c ?_
 cases h; exact .r
 refine zx (fun (d : Int × List (List Bool)) => [(9, .int .i64 (e.fst)), (8, .int .i64 (d.fst)), (7, .ptr (20) []), (6, .int .i64 ((↑(List.length (List.map SV.str a.Lattice.Names)) : Int))), (2, .fls), (1, .ptr 0 [])]) (fun d => [(20, .var true ((zK 8 8 (zK 8 1 SV.bool)) (d.snd))), (0, .var true (qn a))]) 21 h (fun d h => ?_) (fun c4 D i h => ?_)
 refine zx (fun (w : Unit) => [(9, .int .i64 (e.fst)), (8, .int .i64 (d.fst)), (7, .ptr (20) []), (6, .int .i64 ((↑(List.length (List.map SV.str a.Lattice.Names)) : Int))), (2, .fls), (1, .ptr 0 [])]) (fun w => [(20, .var true ((zK 8 8 (zK 8 1 SV.bool)) (d.snd))), (0, .var true (qn a))]) 21 h (fun w h => ?_) (fun c5 F j h => ?_)
 refine zd h fun S h => ?_
 exact P ((S, d)) h ze
 refine zr (fun (o : Int) => [(13, .int .i64 o), (9, .int .i64 (e.fst)), (8, .int .i64 (d.fst)), (7, .ptr (20) []), (6, .int .i64 ((↑(List.length (List.map SV.str a.Lattice.Names)) : Int))), (2, .fls), (1, .ptr 0 [])]) (fun o => [(20, .var true ((zK 8 8 (zK 8 1 SV.bool)) (d.snd))), (0, .var true (qn a))]) 22 h ze (fun o b2 c6 k h => ?_)
 refine za h ?_ ?_ <;> intro _ h
 refine zf h (fun _ => zA9) fun c7 h => zl h fun _ h => zl h fun _ h => zw (zK 8 1 SV.bool) h rfl fun c8 h => zw SV.bool h rfl fun _ h => ?_
 refine qV h (fun T h => ?_) (fun T h => ?_)
 refine j ?_
 refine c ?_
 cases h; exact .r
 refine za h ?_ ?_ <;> intro _ h
 refine qV h (fun U h => ?_) (fun U h => ?_)
 refine j ?_
 refine c ?_
 cases h; exact .r
 refine qV h (fun V h => ?_) (fun V h => ?_)
 refine j ?_
 refine c ?_
 cases h; exact .r
 refine za h ?_ ?_ <;> intro _ h
 refine za h ?_ ?_ <;> intro _ h
 refine j ?_
 refine c ?_
 cases h; exact .r
 refine zd h fun W h => ?_
 exact k W h ze
 refine zd h fun X h => ?_
 exact k X h ze
 refine za h ?_ ?_ <;> intro _ h
 refine za h ?_ ?_ <;> intro _ h
 refine j ?_
 refine c ?_
 cases h; exact .r
 refine zd h fun Y h => ?_
 exact k Y h ze
 refine zd h fun Z h => ?_
 exact k Z h ze
 exact F (()) h ze
 refine zr (fun (g : Int × Int × List (List Bool)) => [(12, .int .i64 (g.fst)), (10, (zm 1 (SV.int .i64)) (Q.fst)), (9, .int .i64 (e.fst)), (8, .int .i64 (g.snd.fst)), (7, .ptr (20) []), (6, .int .i64 ((↑(List.length (List.map SV.str a.Lattice.Names)) : Int))), (2, .fls), (1, .ptr 0 [])]) (fun g => [(20, .var true ((zK 8 8 (zK 8 1 SV.bool)) (g.snd.snd))), (0, .var true (qn a))]) 37 h ze (fun g b3 c9 G h => ?_)
 refine za h ?_ ?_ <;> intro _ h
 refine ⟨by trivial, ?_⟩
 refine zw (SV.int .i64) h rfl fun d0 h => ?_
 refine qV h (fun a1 h => ?_) (fun a1 h => ?_)
 refine i ?_
 refine c ?_
 cases h; exact .r
 refine zw (SV.int .i64) h rfl fun d1 h => ?_
 refine qV h (fun a2 h => ?_) (fun a2 h => ?_)
 refine i ?_
 refine c ?_
 cases h; exact .r
 refine zw (SV.int .i64) h rfl fun _ h => ?_
 refine qV h (fun a3 h => ?_) (fun a3 h => ?_)
 refine i ?_
 refine c ?_
 cases h; exact .r
 refine zw (SV.int .i64) h rfl fun d2 h => zf h (fun _ => zyc) fun d3 h => ?_
 refine qV h (fun a4 h => ?_) (fun a4 h => ?_)
 refine i ?_
 refine c ?_
 cases h; exact .r
 refine zw (SV.int .i64) h rfl fun _ h => zl h fun _ h => zl h fun _ h => zw (zK 8 1 SV.bool) h rfl fun d4 h => zw SV.bool h rfl fun d5 h => za h (fun _ h => ?_) fun _ h => ?_
 refine i ?_
 refine c ?_
 cases h; exact .r
 refine ⟨by trivial, ?_⟩
 refine zw (SV.int .i64) h rfl fun a5 h => zl h fun _ h => zl h fun _ h => zw (zK 8 1 SV.bool) h rfl fun a6 h => zw SV.bool h rfl fun d6 h => zd h fun a7 h => zd h fun a8 h => ?_
 exact G ((a8, a7, List.set g.snd.snd (Int.toNat e.fst) (List.set a6 (Int.toNat a5) true))) h (ww ⟨.refl _, .refl _, .refl _, .refl _, .refl _, .refl _, .refl _, .refl _, trivial⟩ ⟨(.var (.arr (.setm .refl (.arr (.setm .refl .tru))))), .refl, trivial⟩ rfl rfl rfl)
 exact D (g.snd) h ze
 exact H (e.snd) h ze
end Go.Sx.Tz
